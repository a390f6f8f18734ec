/-
  A region that draws its order, of which the last operations come last in every order.
-/
import Derived.Test.YtmodghiokoiipaaGreatT8
import Derived.Test.YtmodghiokoiipaaGreatEx
import Derived.Deep.Quiet
namespace Go.Proofs.YtmodghiokoiipaaGreat
open Go Go.RowKit
set_option linter.unusedSimpArgs false
set_option linter.unusedVariables false

def anT (k : Nat) : List Oper → Nat → T Nat → T Nat
  | [], _, t => t
  | o :: l, i, t => anT k l (i + 1) (T.set k t i (ancOf (T.get 0 k t) o.after.toList))
def splitRow (an : Nat → Nat) (k i : Nat) (o : Oper) : Bool :=
  Nat.beq (an i) (ancOf an o.after.toList) && (edgesLt i o.after.toList && (match Nat.ble k i with
    | true => Nat.beq (an i) (2 ^ i - 1)
    | false => match o.guard with
      | some (g, _) => Nat.ble (g + 1) k
      | none => true))
def splitB (k : Nat) (ops : List Oper) : Bool := allI (splitRow (T.get 0 8 (anT 8 ops 0 .nil)) k) ops 0
section
variable {P : Program} {Q : Exit → Act → World → Prop}
theorem wp_noQ {o : Oper} {a : Act} {w : World} {K K' : Act → World → Prop} {R : Act → World → Prop} (h : o.wp P a w K (fun e a w => e = .normal ∧ R a w)) (hk : ∀ a w, K a w → K' a w) : o.wp P a w K' Q := by
  unfold Oper.wp at *
  generalize (execOp a.eval o).run P w = r at *
  cases r with
  | halt x w' => cases x <;> simp only [Oper.upon] at h ⊢ <;> first | exact h | cases h.1
  | ok n w' =>
    cases n <;> simp only [Oper.upon] at h ⊢ <;> first
      | exact h
      | exact hk _ _ h
      | exact Calls.mono h (fun e w'' he => by cases e <;> first | exact hk _ _ he | cases he.1 | (obtain ⟨_, _, x, _⟩ := he; cases x))
      | exact Rows.mono h (fun _ _ he => hk _ _ he)
/-- The invariant over the orders. -/
def SplitInv (P : Program) (front back : List Oper) (Q : Exit → Act → World → Prop) (an : Nat → Nat) (L : Array Bool) (a : Act) (w : World) : Prop :=
  L.size = front.length + back.length ∧ (∀ x, L.getD x false = true → ∀ y, (an x).testBit y = true → L.getD y false = true) ∧
  (((∀ i, front.length ≤ i → L.getD i false = false) ∧ ∃ fuel Lf, Lf.size = front.length ∧ (∀ i, i < front.length → Lf.getD i false = L.getD i false) ∧ wpAny P .any front.toArray (fun e a w => e = .normal ∧ wpOps P (front ++ back).toArray Q (List.range' front.length back.length) a w) fuel Lf a w) ∨
   ∃ j, 1 ≤ j ∧ j ≤ back.length ∧ (∀ i, L.getD i false = true ↔ i < front.length + j) ∧ wpOps P (front ++ back).toArray Q (List.range' (front.length + j) (back.length - j)) a w)
theorem getD_ft {L : Array Bool} {j : Nat} (h : L.getD j false = false) (hj : j < L.size) : L.getD j true = false := by
  rw [Array.getD_eq_getD_getElem?, Array.getElem?_eq_getElem hj] at *
  exact h
theorem wp_region_split {front back : List Oper} {id : Nat} {a : Act} {w : World} (hm : P.follows .mixedOrders = true) (hck : splitB front.length (front ++ back) = true)
    (h : wpAny P .any front.toArray (fun e a w => e = .normal ∧ wpOps P (front ++ back).toArray Q (List.range' front.length back.length) a w) front.length (Array.replicate front.length false) a w.drew) :
    (Code.region id (front ++ back).toArray true).wp P Q a w := by
  unfold splitB at hck
  generalize han : T.get 0 8 (anT 8 (front ++ back) 0 .nil) = an at hck
  have row : ∀ i o, (front ++ back)[i]? = some o → splitRow an front.length i o = true := fun i o ho => by
    have := allI_at hck ho
    rwa [Nat.zero_add] at this
  have hno : ∀ n j, (Array.replicate n false).getD j false = false := fun n j => by
    rw [Array.getD_eq_getD_getElem?, Array.getElem?_replicate]
    split <;> rfl
  refine wp_region_inv hm (SplitInv P front back Q an) ?_ ?_ ?_
  · exact ⟨by simp, (fun x hx => by rw [hno] at hx; cases hx), .inl ⟨fun i _ => hno _ _, front.length, _, by simp, fun i _ => by rw [hno, hno], h⟩⟩
  · intro L a w hI i hi
    obtain ⟨hsz, hcl, hI⟩ := hI
    obtain ⟨hl0, o, ho, he⟩ := mem_ready.1 hi
    have hl := getD_tf hl0
    have ho' : (front ++ back)[i]? = some o := by simpa using ho
    have hilt : i < front.length + back.length := by
      have := (List.getElem?_eq_some_iff.1 ho').1
      simpa using this
    have hrow := row i o ho'
    unfold splitRow at hrow
    simp only [Bool.and_eq_true] at hrow
    obtain ⟨r1, r2, r3⟩ := hrow
    have r1 := Nat.eq_of_beq_eq_true r1
    have up : ∀ y, (an i).testBit y = true → L.getD y false = true := by
      intro y hy
      rw [r1] at hy
      obtain ⟨e, h1, h2, h3⟩ := ancOf_mem hy
      have hon := he e (Array.mem_toList_iff.1 h1) h2
      rcases h3 with rfl | h3
      · exact hon
      · exact hcl _ hon y h3
    have hset : ∀ j, (L.setIfInBounds i true).getD j false = (decide (i = j) || L.getD j false) := fun j => getD_set (by omega)
    have hcl2 : ∀ x, (L.setIfInBounds i true).getD x false = true → ∀ y, (an x).testBit y = true → (L.setIfInBounds i true).getD y false = true := by
      intro x hx y hy
      rw [hset] at hx ⊢
      by_cases hix : i = x
      · subst hix
        rw [up y hy, Bool.or_true]
      · rw [decide_eq_false hix, Bool.false_or] at hx
        rw [hcl x hx y hy, Bool.or_true]
    rcases hI with ⟨hA, fuel, Lf, f1, f2, f3⟩ | ⟨j, j1, j2, j3, j4⟩
    · by_cases hik : i < front.length
      · have hof : front.toArray[i]? = some o := by
          rw [List.getElem?_append_left hik] at ho'
          simpa using ho'
        have hrd : i ∈ Region.ready .any front.toArray Lf := by
          refine mem_ready.2 ⟨getD_ft (by rw [f2 i hik]; exact hl) (by omega), o, hof, fun e hee hb => ?_⟩
          have := edgesLt_mem r2 e (Array.mem_toList_iff.2 hee) hb
          rw [f2 _ (by omega)]
          exact he e hee hb
        cases fuel with
        | zero =>
          unfold wpAny at f3
          rw [f3.1] at hrd
          cases hrd
        | succ fuel =>
          unfold wpAny at f3
          have g := f3.2 i hrd
          have next : ∀ a w, wpAny P .any front.toArray (fun e a w => e = .normal ∧ wpOps P (front ++ back).toArray Q (List.range' front.length back.length) a w) fuel (Lf.setIfInBounds i true) a w → SplitInv P front back Q an (L.setIfInBounds i true) a w := fun a w hh =>
            ⟨by simpa using hsz, hcl2, .inl ⟨fun x hx => by rw [hset, hA x hx, decide_eq_false (by omega)]; rfl, fuel, _, by simpa using f1, fun x hx => by rw [hset, getD_set (by omega), f2 x hx], hh⟩⟩
          have hbl : Nat.ble front.length i = false := by
            cases hb : Nat.ble front.length i with
            | false => rfl
            | true => exact absurd (Nat.le_of_ble_eq_true hb) (by omega)
          rw [hbl] at r3
          dsimp only at r3
          have hw : Region.wanted o (yielded front.toArray a.tmps) = Region.wanted o (yielded (front ++ back).toArray a.tmps) := by
            unfold Region.wanted
            split
            · rfl
            · rename_i g b hg
              rw [hg] at r3
              have hgk := Nat.le_of_ble_eq_true r3
              unfold yielded
              have : front.toArray[g]? = (front ++ back).toArray[g]? := by
                simp only [List.getElem?_toArray]
                rw [List.getElem?_append_left (by omega)]
              rw [this]
          unfold wpOp at g ⊢
          rw [hof] at g
          rw [ho]
          dsimp only at g ⊢
          rw [hw] at g
          split at g
          · rename_i hwt
            rw [if_pos hwt]
            rcases g with g | ⟨_, _, _, x, _⟩
            · exact .inl (wp_noQ g next)
            · cases x
          · rename_i hwt
            rw [if_neg hwt]
            exact next _ _ g
      · have hik' : front.length ≤ i := by omega
        rw [Nat.ble_eq_true_of_le hik'] at r3
        have r3 := Nat.eq_of_beq_eq_true r3
        have all : ∀ y, y < i → L.getD y false = true := fun y hy => up y (by rw [r3, Nat.testBit_two_pow_sub_one, decide_eq_true hy])
        have hki : i = front.length := by
          by_cases hx : front.length < i
          · have := all front.length hx
            rw [hA _ (Nat.le_refl _)] at this
            cases this
          · omega
        subst hki
        have hrd : Region.ready .any front.toArray Lf = [] := by
          cases hr : Region.ready .any front.toArray Lf with
          | nil => rfl
          | cons y l =>
            have hy : y ∈ Region.ready .any front.toArray Lf := by rw [hr]; exact List.mem_cons_self
            obtain ⟨h0, x, hx, _⟩ := mem_ready.1 hy
            have hyl : y < front.length := by
              have := (Array.getElem?_eq_some_iff.1 hx).1
              simpa using this
            have h0 := getD_tf h0
            rw [f2 y hyl, all y hyl] at h0
            cases h0
        have hQ : wpOps P (front ++ back).toArray Q (List.range' front.length back.length) a w := by
          cases fuel with
          | zero => unfold wpAny at f3; exact f3.2.2
          | succ fuel => unfold wpAny at f3; exact (f3.1 hrd).2
        have hb1 : back.length = (back.length - 1) + 1 := by omega
        rw [hb1, List.range'_succ, wpOps_cons] at hQ
        refine wpOp_mono (fun a w hh => ⟨by simpa using hsz, hcl2, .inr ⟨1, Nat.le_refl _, by omega, fun x => ?_, hh⟩⟩) hQ
        rw [hset]
        by_cases hx : front.length = x
        · rw [decide_eq_true hx]
          simp
          omega
        · rw [decide_eq_false hx, Bool.false_or]
          constructor
          · intro hxx
            by_cases hlt : x < front.length
            · omega
            · rw [hA x (by omega)] at hxx
              cases hxx
          · intro hxx
            exact all x (by omega)
    · have hij : front.length + j ≤ i := by
        by_cases hx : i < front.length + j
        · rw [(j3 i).2 hx] at hl
          cases hl
        · omega
      rw [Nat.ble_eq_true_of_le (by omega)] at r3
      have r3 := Nat.eq_of_beq_eq_true r3
      have hie : i = front.length + j := by
        by_cases hx : front.length + j < i
        · have := up (front.length + j) (by rw [r3, Nat.testBit_two_pow_sub_one, decide_eq_true hx])
          have := (j3 _).1 this
          omega
        · omega
      subst hie
      have hb1 : back.length - j = (back.length - (j + 1)) + 1 := by omega
      rw [hb1, List.range'_succ, wpOps_cons] at j4
      refine wpOp_mono (fun a w hh => ⟨by simpa using hsz, hcl2, .inr ⟨j + 1, by omega, by omega, fun x => ?_, hh⟩⟩) j4
      rw [hset]
      by_cases hx : front.length + j = x
      · rw [decide_eq_true hx]
        simp
        omega
      · rw [decide_eq_false hx, Bool.false_or, j3 x]
        omega
  · intro L a w hI hr
    obtain ⟨hsz, hcl, hI⟩ := hI
    have all : ∀ n i, i < n → i < front.length + back.length → L.getD i false = true := by
      intro n
      induction n with
      | zero => intro i hi _; exact absurd hi (Nat.not_lt_zero _)
      | succ n ih =>
        intro i hi hlt
        cases hb : L.getD i false with
        | true => rfl
        | false =>
          have hlen : i < (front ++ back).length := by simpa using hlt
          have ho : (front ++ back)[i]? = some (front ++ back)[i] := List.getElem?_eq_getElem hlen
          have hrow := row i _ ho
          unfold splitRow at hrow
          simp only [Bool.and_eq_true] at hrow
          have : i ∈ Region.ready .any (front ++ back).toArray L := by
            refine mem_ready.2 ⟨getD_ft hb (by omega), _, (by rw [List.getElem?_toArray]; exact ho), fun e hee hbd => ?_⟩
            have := edgesLt_mem hrow.2.1 e (Array.mem_toList_iff.2 hee) hbd
            exact ih e.on (by omega) (by omega)
          rw [hr] at this
          cases this
    rcases hI with ⟨hA, fuel, Lf, f1, f2, f3⟩ | ⟨j, j1, j2, j3, j4⟩
    · have hb0 : back.length = 0 := by
        by_cases hx : back.length = 0
        · exact hx
        · have := all (front.length + 1) front.length (by omega) (by omega)
          rw [hA _ (Nat.le_refl _)] at this
          cases this
      have hrd : Region.ready .any front.toArray Lf = [] := by
        cases hr : Region.ready .any front.toArray Lf with
        | nil => rfl
        | cons y l =>
          have hy : y ∈ Region.ready .any front.toArray Lf := by rw [hr]; exact List.mem_cons_self
          obtain ⟨h0, x, hx, _⟩ := mem_ready.1 hy
          have hyl : y < front.length := by
            have := (Array.getElem?_eq_some_iff.1 hx).1
            simpa using this
          have h0 := getD_tf h0
          rw [f2 y hyl, all (y + 1) y (by omega) (by omega)] at h0
          cases h0
      have hQ : wpOps P (front ++ back).toArray Q (List.range' front.length back.length) a w := by
        cases fuel with
        | zero => unfold wpAny at f3; exact f3.2.2
        | succ fuel => unfold wpAny at f3; exact (f3.1 hrd).2
      rw [hb0] at hQ
      exact hQ
    · have hj : j = back.length := by
        by_cases hx : j < back.length
        · have := all (front.length + j + 1) (front.length + j) (by omega) (by omega)
          have := (j3 _).1 this
          omega
        · omega
      subst hj
      rw [Nat.sub_self] at j4
      exact j4
/-- A quiet front, and what comes behind it in the order of the text. -/
theorem wp_region_front {l front back : List Oper} {id : Nat} {a : Act} {w : World} {C : World → Prop} (hl : l = front ++ back) (hm : P.follows .mixedOrders = true) (hck : splitB front.length (front ++ back) = true) (hB : Region.lexB .any front.toArray = true) (hC : C w.drew)
    (h : wpQuiet P front.toArray C (fun a' => ∀ w', C w' → wpList P l.toArray Q back a' w') front a) : (Code.region id l.toArray true).wp P Q a w := by
  subst hl
  refine wp_region_split hm hck ?_
  have hx : ∀ a w, wpList P (front ++ back).toArray Q back a w → wpOps P (front ++ back).toArray Q (List.range' front.length back.length) a w := fun a w hh => by
    rw [wpOps_eq_wpList back front.length (fun j => by rw [List.getElem?_toArray, List.getElem?_append_right (by omega), Nat.add_sub_cancel_left])]
    exact hh
  simp only [Region.lexB, Bool.and_eq_true] at hB
  have := wpAnyQ_lex (C := C) (md := .any) hB.1 front 0 (Array.replicate front.length false) a (by simp) (by simpa using hB.2) h
  have := wpAny_of_quiet (C := C) (Q := fun a' => ∀ w', C w' → wpList P (front ++ back).toArray Q back a' w') (Q' := fun e a w => e = .normal ∧ wpOps P (front ++ back).toArray Q (List.range' front.length back.length) a w) (fun _ w' hw' hh => ⟨rfl, hx _ _ (hh w' hw')⟩) _ _ _ _ hC this
  simpa using this
end
end Go.Proofs.YtmodghiokoiipaaGreat

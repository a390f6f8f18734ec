/-
  The executor: a drawn region: the table of its memories.
-/
import Derived.Test.YtmodghiokoiipaaGreatEv
namespace Go.Proofs.YtmodghiokoiipaaGreat
open Go Go.RowKit
set_option linter.unusedVariables false
set_option linter.unusedSimpArgs false

theorem flt_le (l : List Nat) (p q : Nat → Bool) (h : ∀ x, q x = true → p x = true) : (l.filter q).length ≤ (l.filter p).length := by
  induction l with
  | nil => simp
  | cons x l ih =>
    simp only [List.filter_cons]
    cases hq : q x
    · cases hp : p x
      · simpa using ih
      · simp only [Bool.false_eq_true, if_false, if_true, List.length_cons]
        omega
    · rw [h x hq]
      simp only [if_true, List.length_cons]
      omega
theorem flt_lt (l : List Nat) (p q : Nat → Bool) (h : ∀ x, q x = true → p x = true) (i : Nat) (hi : i ∈ l) (h1 : p i = true) (h2 : q i = false) : (l.filter q).length < (l.filter p).length := by
  induction l with
  | nil => cases hi
  | cons x l ih =>
    have hle := flt_le l p q h
    simp only [List.filter_cons]
    rcases List.mem_cons.1 hi with rfl | hi
    · rw [h1, h2]
      simp only [Bool.false_eq_true, if_false, if_true, List.length_cons]
      omega
    · have := ih hi
      cases hq : q x
      · cases hp : p x
        · simpa using this
        · simp only [Bool.false_eq_true, if_false, if_true, List.length_cons]
          omega
      · rw [h x hq]
        simp only [if_true, List.length_cons]
        omega
section
variable {P : Program} {ops : Array Oper} {Q : Exit → Act → World → Prop} {md : Region.Mode}
/-- How many have not come up. -/
def unl (ops : Array Oper) (L : Array Bool) : Nat := ((List.range ops.size).filter fun i => !L.getD i true).length
theorem unl_set {L : Array Bool} {i : Nat} (h : i < ops.size) (h0 : L.getD i true = false) : unl ops (L.setIfInBounds i true) < unl ops L := by
  refine flt_lt _ _ _ (fun x hx => ?_) i (List.mem_range.2 h) (by simp [h0]) ?_
  · by_cases hxi : i = x
    · subst hxi
      simp [Array.getElem?_setIfInBounds] at hx
      split at hx <;> simp_all
    · simpa [Array.getElem?_setIfInBounds, hxi] using hx
  · simp [Array.getElem?_setIfInBounds]
    split <;> simp
theorem wpAny_inv (Inv : Array Bool → Act → World → Prop)
    (step : ∀ L a w, Inv L a w → ∀ i ∈ Region.ready md ops L, wpOp P ops Q i (Inv (L.setIfInBounds i true)) a w)
    (fin : ∀ L a w, Inv L a w → Region.ready md ops L = [] → Q .normal a w) : ∀ (fuel : Nat) (L : Array Bool) (a : Act) (w : World), unl ops L ≤ fuel → Inv L a w → wpAny P md ops Q fuel L a w := by
  intro fuel
  induction fuel with
  | zero =>
    intro L a w hu hI
    have hr : Region.ready md ops L = [] := by
      cases hr : Region.ready md ops L with
      | nil => rfl
      | cons i l =>
        have hi : i ∈ Region.ready md ops L := by rw [hr]; exact List.mem_cons_self
        obtain ⟨h0, x, hx, _⟩ := mem_ready.1 hi
        have := unl_set (ops := ops) (L := L) (Array.getElem?_eq_some_iff.1 hx).1 h0
        omega
    exact ⟨hr, fin L a w hI hr⟩
  | succ fuel ih =>
    intro L a w hu hI
    refine ⟨fun hr => fin L a w hI hr, fun i hi => ?_⟩
    obtain ⟨h0, x, hx, _⟩ := mem_ready.1 hi
    have := unl_set (ops := ops) (L := L) (Array.getElem?_eq_some_iff.1 hx).1 h0
    exact wpOp_mono (fun a' w' h => ih _ a' w' (by omega) h) (step L a w hI i hi)
theorem wp_region_inv {id : Nat} {a : Act} {w : World} (hm : P.follows .mixedOrders = true) (Inv : Array Bool → Act → World → Prop) (h0 : Inv (Array.replicate ops.size false) a w.drew)
    (step : ∀ L a w, Inv L a w → ∀ i ∈ Region.ready .any ops L, wpOp P ops Q i (Inv (L.setIfInBounds i true)) a w)
    (fin : ∀ L a w, Inv L a w → Region.ready .any ops L = [] → Q .normal a w) : (Code.region id ops true).wp P Q a w := by
  refine wp_region_any hm (wpAny_inv Inv step fin _ _ _ _ ?_ h0)
  exact Nat.le_trans (List.length_filter_le _ _) (by simp)
end


/-! The checks of a drawn region. -/
def allI (g : Nat → Oper → Bool) : List Oper → Nat → Bool
  | [], _ => true
  | o :: l, i => g i o && allI g l (i + 1)
theorem allI_at {g : Nat → Oper → Bool} : ∀ {l : List Oper} {i : Nat}, allI g l i = true → ∀ {j : Nat} {o : Oper}, l[j]? = some o → g (i + j) o = true
  | x :: l, i, h, 0, o, hj => by
    simp only [allI, Bool.and_eq_true] at h
    simp only [List.getElem?_cons_zero, Option.some.injEq] at hj
    subst hj
    exact h.1
  | x :: l, i, h, j + 1, o, hj => by
    simp only [allI, Bool.and_eq_true] at h
    have := allI_at h.2 (j := j) (o := o) (by simpa using hj)
    rwa [Nat.add_assoc, Nat.add_comm 1 j] at this
  | [], i, h, j, o, hj => by simp at hj
/-- The ancestors that the edges give. -/
def ancOf (an : Nat → Nat) : List Edge → Nat
  | [] => 0
  | e :: l => match Region.binds .any e with
    | true => (2 ^ e.on ||| an e.on) ||| ancOf an l
    | false => ancOf an l
theorem ancOf_mem {an : Nat → Nat} {j : Nat} : ∀ {l : List Edge}, (ancOf an l).testBit j = true → ∃ e ∈ l, Region.binds .any e = true ∧ (j = e.on ∨ (an e.on).testBit j = true)
  | [], h => by simp [ancOf] at h
  | e :: l, h => by
    unfold ancOf at h
    split at h
    · rename_i hb
      rw [Nat.testBit_or, Nat.testBit_or, Bool.or_eq_true, Bool.or_eq_true, Nat.testBit_two_pow, decide_eq_true_eq] at h
      rcases h with (h | h) | h
      · exact ⟨e, List.mem_cons_self, hb, .inl h.symm⟩
      · exact ⟨e, List.mem_cons_self, hb, .inr h⟩
      · obtain ⟨e2, h1, h2⟩ := ancOf_mem h
        exact ⟨e2, List.mem_cons_of_mem _ h1, h2⟩
    · obtain ⟨e2, h1, h2⟩ := ancOf_mem h
      exact ⟨e2, List.mem_cons_of_mem _ h1, h2⟩
def edgesLt (i : Nat) : List Edge → Bool
  | [] => true
  | e :: l => match Region.binds .any e with
    | true => Nat.ble (e.on + 1) i && edgesLt i l
    | false => edgesLt i l
theorem edgesLt_mem {i : Nat} : ∀ {l : List Edge}, edgesLt i l = true → ∀ e ∈ l, Region.binds .any e = true → e.on < i
  | x :: l, h, e, he, hb => by
    unfold edgesLt at h
    rcases List.mem_cons.1 he with rfl | he
    · rw [hb] at h
      simp only [Bool.and_eq_true] at h
      exact Nat.le_of_ble_eq_true h.1
    · split at h
      · simp only [Bool.and_eq_true] at h
        exact edgesLt_mem h.2 e he hb
      · exact edgesLt_mem h e he hb
/-- What the operations of T wait for. -/
def orA (an : Nat → Nat) (T : Nat) : Nat → Nat
  | 0 => 0
  | n + 1 => match T.testBit n with
    | true => an n ||| orA an T n
    | false => orA an T n
theorem orA_mem {an : Nat → Nat} {T i : Nat} : ∀ {n : Nat}, (orA an T n).testBit i = true → ∃ j, T.testBit j = true ∧ (an j).testBit i = true
  | 0, h => by simp [orA] at h
  | n + 1, h => by
    unfold orA at h
    split at h
    · rename_i hb
      rw [Nat.testBit_or, Bool.or_eq_true] at h
      rcases h with h | h
      · exact ⟨n, hb, h⟩
      · exact orA_mem h
    · exact orA_mem h
abbrev TB := List (Nat × List (Nat × Obj))
def findT : TB → Nat → Option (List (Nat × Obj))
  | [], _ => none
  | (K, h) :: l, T => match Nat.beq K T with
    | true => some h
    | false => findT l T
/-- What is known of a drawn region. -/
structure DD where
  R : Rg
  F : Rg
  an : Nat → Nat
  wr : Nat → Nat
  M : Nat
  tab : TB
section
variable {P : Program} {base : PS}
def DD.look (D : DD) (i t : Nat) : Value := match D.wr t with
  | 0 => D.R.get t
  | k + 1 => match (D.an i).testBit k with
    | true => D.F.get t
    | false => D.R.get t
def DD.ckT (D : DD) (ops : Array Oper) (i t : Nat) : Bool := match D.wr t with
  | 0 => true
  | k + 1 => match (D.an i).testBit k with
    | true => match (ops[k]?).bind (·.dst) with
      | some d => Nat.beq d t
      | none => false
    | false => Nat.beq k i || (D.an k).testBit i
def DD.ckX (D : DD) (ops : Array Oper) (i : Nat) : Operand → Bool
  | .tmp t => D.ckT ops i t
  | _ => true
def DD.ckG (D : DD) (ops : Array Oper) (i : Nat) (o : Oper) : Bool := match o.guard with
  | some (g, _) => match (ops[g]?).bind (·.dst) with
    | some d => D.ckT ops i d
    | none => true
  | none => true
def DD.ckD (D : DD) (i : Nat) (o : Oper) : Bool := match o.dst with
  | some d => Nat.ble (d + 1) D.R.n && Nat.beq (D.wr d) (i + 1)
  | none => true
def DD.row (D : DD) (ops : Array Oper) (i : Nat) (o : Oper) : Bool :=
  D.ckD i o && (Nat.beq (D.an i) (ancOf D.an o.after.toList) && (edgesLt i o.after.toList && (o.op.operands.all (D.ckX ops i) && D.ckG ops i o)))
def DD.fits (D : DD) (T W i : Nat) : Bool := (!T.testBit i) && (subB (D.M &&& D.an i) T && !W.testBit i)
def DD.ckV (D : DD) (dst : Option Tmp) (v : Value) : Bool := match dst with
  | some d => eqV 8 v (D.F.get d)
  | none => true
def DD.ckM (D : DD) (T i : Nat) (m : AH) : Bool := match D.M.testBit i with
  | true => match findT D.tab (T ||| 2 ^ i) with
    | some h => eqH m.h h
    | none => false
  | false => Nat.beq m.st 0
structure DD.Ok (D : DD) (P : Program) (cf : CFn) (ap : AP) (ops : Array Oper) (h0 : List (Nat × Obj)) : Prop where
  rows : allI (D.row ops) ops.toList 0 = true
  runs : ∀ T h, findT D.tab T = some h → ∀ i o, ops[i]? = some o → D.fits T (orA D.an T ops.size) i = true → ∃ look c v m, svW P cf ap ops look ⟨h, c, 0⟩ o = some (v, m) ∧ (∀ t, Sees ops o t → look t = D.look i t) ∧ D.ckV o.dst v = true ∧ D.ckM T i m = true
  first : findT D.tab 0 = some h0
  /-- The slots that no operation writes are as before. -/
  rest : ∀ d, (¬ ∃ o ∈ ops.toList, o.dst = some d) → D.F.get d = D.R.get d
  fk : D.F.n ≤ 2 ^ D.F.k
  fn : D.F.n = D.R.n

/-- The invariant over the orders. -/
def Wrote (ops : Array Oper) (L : Array Bool) (d : Nat) : Prop := ∃ k o, L.getD k false = true ∧ ops[k]? = some o ∧ o.dst = some d
structure DI (D : DD) (ops : Array Oper) (f0 : NF) (base : PS) (w0 : World) (L : Array Bool) (a : Act) (w : World) : Prop where
  ex : ∃ f T h, NF.le f0 f ∧ findT D.tab T = some h ∧ (∀ j, T.testBit j = (D.M.testBit j && L.getD j false)) ∧ HR f base h w ∧ (∀ d, Wrote ops L d → VR f (D.F.get d) (a.tmps.getD d undef)) ∧ ∀ d, ¬ Wrote ops L d → VR f (D.R.get d) (a.tmps.getD d undef)
  sz : L.size = ops.size
  cl : ∀ k, L.getD k false = true → ∀ j, (D.an k).testBit j = true → L.getD j false = true
  dn : a.defers = []
  ts : a.tmps.size = D.R.n
  bw : Kept base w0 w
  hb : Old base w
theorem getD_set {L : Array Bool} {i j : Nat} (hi : i < L.size) : (L.setIfInBounds i true).getD j false = (decide (i = j) || L.getD j false) := by
  rw [Array.getD_eq_getD_getElem?, Array.getD_eq_getD_getElem?, Array.getElem?_setIfInBounds]
  by_cases h : i = j
  · subst h
    simp [hi]
  · simp [h]
theorem getD_tf {L : Array Bool} {j : Nat} (h : L.getD j true = false) : L.getD j false = false := by
  rw [Array.getD_eq_getD_getElem?] at *
  cases hx : L[j]? with
  | none => rfl
  | some x => rw [hx] at h; exact h
theorem DD.Ok.rowAt {D : DD} {cf : CFn} {ap : AP} {ops : Array Oper} {h0 : List (Nat × Obj)} (hk : D.Ok P cf ap ops h0) {i : Nat} {o : Oper} (ho : ops[i]? = some o) : D.row ops i o = true := by
  have := allI_at hk.rows (j := i) (o := o) (by rw [Array.getElem?_toList]; exact ho)
  rwa [Nat.zero_add] at this
theorem DD.Ok.dstAt {D : DD} {cf : CFn} {ap : AP} {ops : Array Oper} {h0 : List (Nat × Obj)} (hk : D.Ok P cf ap ops h0) {i : Nat} {o : Oper} {d : Nat} (ho : ops[i]? = some o) (hd : o.dst = some d) : d < D.R.n ∧ D.wr d = i + 1 := by
  have := hk.rowAt ho
  unfold DD.row DD.ckD at this
  rw [hd] at this
  simp only [Bool.and_eq_true] at this
  exact ⟨Nat.le_of_ble_eq_true this.1.1, Nat.eq_of_beq_eq_true this.1.2⟩
theorem DD.Ok.lookAt {D : DD} {cf : CFn} {ap : AP} {ops : Array Oper} {h0 : List (Nat × Obj)} (hk : D.Ok P cf ap ops h0) {L : Array Bool} {f : NF} {tmps : Array Value} {i t : Nat} (hc : D.ckT ops i t = true) (hi : L.getD i false = false)
    (cl : ∀ k, L.getD k false = true → ∀ j, (D.an k).testBit j = true → L.getD j false = true) (up : ∀ j, (D.an i).testBit j = true → L.getD j false = true)
    (h1 : ∀ d, Wrote ops L d → VR f (D.F.get d) (tmps.getD d undef)) (h2 : ∀ d, ¬ Wrote ops L d → VR f (D.R.get d) (tmps.getD d undef)) : VR f (D.look i t) (tmps.getD t undef) := by
  unfold DD.ckT at hc
  unfold DD.look
  split at hc
  · rename_i hw
    refine h2 t ?_
    rintro ⟨k, o, _, ho, hd⟩
    have := (hk.dstAt ho hd).2
    omega
  · rename_i k hw
    split at hc
    · rename_i hb
      split at hc
      · rename_i d hd
        obtain ⟨o, ho, hd⟩ := Option.bind_eq_some_iff.1 hd
        obtain rfl := Nat.eq_of_beq_eq_true hc
        exact h1 d ⟨k, o, up k hb, ho, hd⟩
      · cases hc
    · rename_i hb
      refine h2 t ?_
      rintro ⟨k2, o, hl, ho, hd⟩
      have e := (hk.dstAt ho hd).2
      obtain rfl : k2 = k := by omega
      rw [Bool.or_eq_true] at hc
      rcases hc with hc | hc
      · rw [Nat.eq_of_beq_eq_true hc, hi] at hl
        cases hl
      · rw [cl k2 hl i hc] at hi
        cases hi
theorem DI.step (hz : PZ P) {cf : CFn} (hcf : CF P cf) (hct : CT cf) {ap : AP} (hap : APS P ap) (hat : AT ap) {D : DD} {ops : Array Oper} {h0 : List (Nat × Obj)} (hk : D.Ok P cf ap ops h0) {f0 : NF} {w0 : World} {L : Array Bool} {a : Act} {w : World} (hI : DI D ops f0 base w0 L a w) {i : Nat} (hi : i ∈ Region.ready .any ops L) {Q : Exit → Act → World → Prop} :
    wpOp P ops Q i (DI D ops f0 base w0 (L.setIfInBounds i true)) a w := by
  obtain ⟨hl0, o, ho, he⟩ := mem_ready.1 hi
  have hl := getD_tf hl0
  obtain ⟨f, T, h, e1, e2, e3, e4, e5, e6⟩ := hI.ex
  have hlt : i < ops.size := (Array.getElem?_eq_some_iff.1 ho).1
  have hrow := hk.rowAt ho
  unfold DD.row at hrow
  simp only [Bool.and_eq_true] at hrow
  obtain ⟨r1, r2, r3, r4, r5⟩ := hrow
  have r2 := Nat.eq_of_beq_eq_true r2
  have up : ∀ j, (D.an i).testBit j = true → L.getD j false = true := by
    intro j hj
    rw [r2] at hj
    obtain ⟨e, h1, h2, h3⟩ := ancOf_mem hj
    have hon := he e (Array.mem_toList_iff.1 h1) h2
    rcases h3 with rfl | h3
    · exact hon
    · exact hI.cl _ hon j h3
  have hfit : D.fits T (orA D.an T ops.size) i = true := by
    unfold DD.fits
    simp only [Bool.and_eq_true, Bool.not_eq_true']
    refine ⟨by rw [e3, hl, Bool.and_false], ?_, ?_⟩
    · unfold subB
      have hself : ∀ n : Nat, Nat.beq n n = true := fun n => by
        induction n with
        | zero => rfl
        | succ n ih => exact ih
      have heq : (D.M &&& D.an i ||| T) = T := by
        refine Nat.eq_of_testBit_eq fun j => ?_
        rw [Nat.testBit_or, Nat.testBit_and, e3]
        cases hm : D.M.testBit j
        · rfl
        · cases ha : (D.an i).testBit j
          · rfl
          · rw [up j ha]
            rfl
      rw [heq]
      exact hself T
    · cases hb : (orA D.an T ops.size).testBit i
      · rfl
      · obtain ⟨j, h1, h2⟩ := orA_mem hb
        rw [e3, Bool.and_eq_true] at h1
        rw [hI.cl j h1.2 i h2] at hl
        cases hl
  obtain ⟨look, c, v, m, hsv, hlook, k1, k2⟩ := hk.runs T h e2 i o ho hfit
  have sees : ∀ t, Sees ops o t → VR f (D.look i t) (a.tmps.getD t undef) := by
    intro t ht
    refine hk.lookAt ?_ hl hI.cl up e5 e6
    rcases ht with ht | ⟨g, b, hg, hd⟩
    · exact Array.all_eq_true_iff_forall_mem.1 r4 _ ht
    · unfold DD.ckG at r5
      rw [hg] at r5
      dsimp only at r5
      rw [hd] at r5
      exact r5
  refine svW_sound hz hcf hap (m := ⟨h, c, 0⟩) ho e4 hI.hb (fun t ht => by rw [hlook t ht]; exact sees t ht) hsv fun g v' w' j1 j2 j3 j4 => ?_
  have hgd : ∀ j, (L.setIfInBounds i true).getD j false = (decide (i = j) || L.getD j false) := fun j => getD_set (by rw [hI.sz]; exact hlt)
  refine ⟨?_, by simpa using hI.sz, ?_, by rw [put_defers]; exact hI.dn, by rw [put_size]; exact hI.ts, hI.bw.trans j4, hI.hb.mono j4⟩
  · have hh : ∃ T' h', findT D.tab T' = some h' ∧ (∀ j, T'.testBit j = (D.M.testBit j && (decide (i = j) || L.getD j false))) ∧ m.h = h' := by
      unfold DD.ckM at k2
      split at k2
      · rename_i hm
        split at k2
        · rename_i h' hf
          refine ⟨_, h', hf, fun j => ?_, eqH_sound _ _ k2⟩
          rw [Nat.testBit_or, Nat.testBit_two_pow, e3]
          by_cases hij : i = j
          · subst hij
            simp [hm]
          · simp [hij]
        · cases k2
      · rename_i hm
        have h5 := (svW_turns hct hat hsv).2 (Nat.eq_of_beq_eq_true k2)
        refine ⟨T, h, e2, fun j => ?_, h5⟩
        rw [e3]
        by_cases hij : i = j
        · subst hij
          rw [hm]
          rfl
        · simp [hij]
    obtain ⟨T', h', q1, q2, rfl⟩ := hh
    refine ⟨g, T', m.h, NF.le_trans e1 j1, q1, fun j => by rw [q2, hgd], j3, fun d hd => ?_, fun d hd => ?_⟩
    · rw [getD_put, hI.ts]
      by_cases hdd : o.dst = some d
      · rw [if_pos ⟨hdd, (hk.dstAt ho hdd).1⟩]
        unfold DD.ckV at k1
        rw [hdd] at k1
        rw [← eqV_sound _ _ _ k1]
        exact j2
      · rw [if_neg fun x => hdd x.1]
        refine (e5 d ?_).mono j1
        obtain ⟨k, ok, x1, x2, x3⟩ := hd
        rw [hgd] at x1
        by_cases hik : i = k
        · subst hik
          rw [ho] at x2
          cases x2
          exact absurd x3 hdd
        · rw [decide_eq_false hik, Bool.false_or] at x1
          exact ⟨k, ok, x1, x2, x3⟩
    · have hdd : o.dst ≠ some d := fun x => hd ⟨i, o, by rw [hgd]; simp, ho, x⟩
      rw [getD_put, if_neg fun x => hdd x.1]
      refine (e6 d ?_).mono j1
      rintro ⟨k, ok, x1, x2, x3⟩
      exact hd ⟨k, ok, by rw [hgd, x1, Bool.or_true], x2, x3⟩
  · intro k hkk j hj
    rw [hgd] at hkk ⊢
    by_cases hik : i = k
    · subst hik
      rw [up j hj, Bool.or_true]
    · rw [decide_eq_false hik, Bool.false_or] at hkk
      rw [hI.cl k hkk j hj, Bool.or_true]
theorem DI.all {D : DD} {ops : Array Oper} {f0 : NF} {w0 : World} {L : Array Bool} {a : Act} {w : World} {cf : CFn} {ap : AP} {h0 : List (Nat × Obj)} (hk : D.Ok P cf ap ops h0) (hI : DI D ops f0 base w0 L a w) (hr : Region.ready .any ops L = []) : ∀ n i, i < n → i < ops.size → L.getD i false = true
  | 0, i, h, _ => absurd h (Nat.not_lt_zero _)
  | n + 1, i, h, hlt => by
    cases hb : L.getD i false with
    | true => rfl
    | false =>
      have ho : ops[i]? = some ops[i] := Array.getElem?_eq_some_iff.2 ⟨hlt, rfl⟩
      have : i ∈ Region.ready .any ops L := by
        refine mem_ready.2 ⟨?_, ops[i], ho, fun e he hbd => ?_⟩
        · have hs : i < L.size := by rw [hI.sz]; exact hlt
          rw [Array.getD_eq_getD_getElem?, Array.getElem?_eq_getElem hs] at *
          exact hb
        · have hrow := hk.rowAt ho
          unfold DD.row at hrow
          simp only [Bool.and_eq_true] at hrow
          have := edgesLt_mem hrow.2.2.1 e (Array.mem_toList_iff.2 he) hbd
          exact DI.all hk hI hr n e.on (by omega) (by omega)
      rw [hr] at this
      cases this
theorem DD.region (hm : P.follows .mixedOrders = true) (hz : PZ P) {cf : CFn} (hcf : CF P cf) (hct : CT cf) {ap : AP} (hap : APS P ap) (hat : AT ap) {D : DD} {ops : Array Oper} {S : FS} (hk : D.Ok P cf ap ops S.m.h) (hR : D.R = S.r) (hM : D.M < 2 ^ ops.size) {hf : List (Nat × Obj)} (hend : findT D.tab D.M = some hf) {c st id : Nat} {f : NF} {a : Act} {w : World} (hs : RS f base S a w)
    {Q : Exit → Act → World → Prop} (hq : ∀ g a' w', NF.le f g → RS g base ⟨D.F, ⟨hf, c, st⟩⟩ a' w' → Kept base w w' → Q .normal a' w') : (Code.region id ops true).wp P Q a w := by
  refine wp_region_inv hm (DI D ops f base w) ?_ (fun L a w hI i hi => hI.step hz hcf hct hap hat hk hi) ?_
  · have hno : ∀ j, (Array.replicate ops.size false).getD j false = false := by
      intro j
      rw [Array.getD_eq_getD_getElem?, Array.getElem?_replicate]
      split <;> rfl
    refine ⟨⟨f, 0, S.m.h, NF.le_refl f, hk.first, fun j => by rw [hno, Nat.zero_testBit, Bool.and_false], ⟨hs.mem.get, hs.mem.dom, hs.mem.inj⟩, fun d hd => ?_, fun d _ => by rw [hR]; exact hs.regs.get d⟩, by simp, fun k hkk => ?_, hs.dn, by rw [hR]; exact hs.regs.n.symm, (Kept.refl _ _).drew, hs.hb⟩
    · obtain ⟨k, o, x, _⟩ := hd
      rw [hno] at x
      cases x
    · rw [hno] at hkk
      cases hkk
  · intro L a' w' hI hr
    have all := fun i h => hI.all hk hr (i + 1) i (Nat.lt_succ_self i) h
    obtain ⟨g, T, h, e1, e2, e3, e4, e5, e6⟩ := hI.ex
    have hT : T = D.M := Nat.eq_of_testBit_eq fun j => by
      rw [e3]
      cases hj : D.M.testBit j
      · rfl
      · have : j < ops.size := by
          by_cases hlt : j < ops.size
          · exact hlt
          · rw [Nat.testBit_lt_two_pow (Nat.lt_of_lt_of_le hM (Nat.pow_le_pow_right (by omega) (by omega)))] at hj
            cases hj
        rw [all j this]
        rfl
    subst hT
    rw [hend] at e2
    cases e2
    refine hq g a' w' e1 ⟨⟨?_, hk.fk, fun d => ?_⟩, e4, hI.dn, hI.hb⟩ hI.bw
    · rw [hk.fn]
      exact hI.ts.symm
    · by_cases hd : Wrote ops L d
      · exact e5 d hd
      · rw [show D.F.get d = D.R.get d from hk.rest d fun ⟨o, ho, hdst⟩ => by
          obtain ⟨i, hi, hio⟩ := List.mem_iff_getElem.1 ho
          rw [Array.length_toList] at hi
          exact hd ⟨i, o, all i hi, by rw [← hio]; simp, hdst⟩]
        exact e6 d hd
end
end Go.Proofs.YtmodghiokoiipaaGreat

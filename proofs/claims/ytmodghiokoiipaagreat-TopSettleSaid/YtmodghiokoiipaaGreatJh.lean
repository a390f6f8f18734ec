/-
  TopSettle: texts joined (by joint.py).
-/
import Derived.Test.YtmodghiokoiipaaGreatSg
import Derived.Test.YtmodghiokoiipaaGreatSb
import Derived.Orders
import Derived.RegionTactic

/-!
  A region that draws its order, by what each operation leaves: a law that needs no way of its own for each order.
-/
namespace Go.Proofs.YtmodghiokoiipaaGreat
open Go.RowKit
set_option linter.unusedSimpArgs false
set_option linter.unusedVariables false

def upd (f : Nat → Value) (k : Nat) (v : Value) : Nat → Value := fun i => if i = k then v else f i
def TS (S : List Nat) (t : Array Value) (f : Nat → Value) : Array Value := t.mapIdx fun i v => if S.contains i then f i else v
section
variable {S : List Nat}
theorem TS_old (t : Array Value) (f : Nat → Value) (k : Nat) (hk : S.contains k = false) : (TS S t f)[k]? = t[k]? := by
  simp only [TS, Array.getElem?_mapIdx, hk, Bool.false_eq_true, if_false]
  cases t[k]? <;> rfl
theorem TS_get (t : Array Value) (f : Nat → Value) (k : Nat) (hk : S.contains k = true) (hs : k < t.size) : (TS S t f)[k]? = some (f k) := by
  simp only [TS, Array.getElem?_mapIdx, hk, if_true]
  rw [Array.getElem?_eq_getElem hs]
  rfl
theorem TS_size (t : Array Value) (f : Nat → Value) : (TS S t f).size = t.size := by simp [TS]
theorem TS_set (t : Array Value) (f : Nat → Value) (k : Nat) (v : Value) (hk : S.contains k = true) : (TS S t f).setIfInBounds k v = TS S t (upd f k v) := by
  apply Array.ext_getElem?
  intro j
  rw [Array.getElem?_setIfInBounds]
  by_cases h : k = j
  · subst h
    simp only [if_true, TS_size]
    by_cases hs : k < t.size
    · rw [if_pos hs, TS_get _ _ _ hk hs]
      simp [upd]
    · rw [if_neg hs, Array.getElem?_eq_none (by rw [TS_size]; omega)]
  · rw [if_neg h]
    simp only [TS, Array.getElem?_mapIdx, upd, if_neg (Ne.symm h)]
theorem TS_self (t : Array Value) : t = TS S t fun i => t.getD i undef := by
  apply Array.ext_getElem?
  intro j
  simp only [TS, Array.getElem?_mapIdx]
  by_cases hs : j < t.size
  · rw [Array.getElem?_eq_getElem hs]
    simp [hs]
  · rw [Array.getElem?_eq_none (by omega)]
    rfl
theorem region_genS {id : Nat} {P : Program} {ops : Array Oper} {ts : Array Value} {ds : List Deferred} {Q : Exit → Act → World → Prop} {w : World} (n : Nat) (Post : (Nat → Value) → World → Prop) (hpost : ∀ f w', Post f w' → Q .normal ⟨TS S ts f, ds⟩ w') (hsz : n < ts.size)
    (h : ∀ T Q', (∀ k, S.contains k = false → T[k]? = ts[k]?) → n < T.size → (∀ f w', Post f w' → Q' .normal ⟨TS S T f, ds⟩ w') → (Code.region id ops true).wp P Q' ⟨T, ds⟩ w) : (Code.region id ops true).wp P Q ⟨ts, ds⟩ w := h ts Q (fun _ _ => rfl) hsz hpost
end
/-! Append to an empty literal: nothing that was there is written. -/
section
variable {P : Program} {w : World}
theorem run_append_lit (base : Nat) (t ty e : TypeId) (i : TypeInfo) (z : Value) (size bytes : Nat) (ht : P.underlying t = some (.slice e)) (hi : P.info? e = some i) (hz : i.zero = some z)
    (hsize : i.size = size) (hby : i.bytes = bytes) (hzs : z.cells.size = size) (hsz : 0 < size)
    (g : Nat) (hown : w.ownsRow base e size (.slice (some ⟨g, 0, none⟩) 0 0) 0 [])
    (a : Addr) (m c : Nat) (news : List Value) (hl : news.length = m * size) (hnews : ∀ j u, news[j]? = some u → w.cell? (a.add j) = some u) (h1 : ∀ u ∈ news, u.oneCell' = true)
    (h63 : m ≤ maxLen) (hbytes : m * bytes ≤ 140737488355328) (hbase : base ≤ w.heap.size) :
    ∃ v' w', (Builtin.append_ #[t, t] ty #[.slice (some ⟨g, 0, none⟩) 0 0, .slice (some a) m c]).run P w = .ok v' w' ∧ w'.ownsRow base e size v' m news ∧ w.grownBy w' none ∧ v' ≠ .slice none 0 0 := by
  by_cases hm : m = 0
  · subst hm
    have hn : news = [] := List.eq_nil_of_length_eq_zero (by simpa using hl)
    subst hn
    subst hsize
    have hown0 := hown
    rcases hown.2 with ⟨h, _⟩ | ⟨g', cap, cur, hv, hbg, hg, hnc, hcm, hcs, htake⟩
    · cases h
    · simp only [Value.slice.injEq, Option.some.injEq, Addr.mk.injEq, and_true, true_and] at hv
      obtain ⟨rfl, rfl⟩ := hv
      have hcur : cur = #[] := by
        have : cur.size = 0 := by simpa using hcs
        exact Array.eq_empty_of_size_eq_zero this
      subst hcur
      have hr := run_append_room (P := P) w t ty e i ht hi g 0 0 #[] hg a 0 c [] (by simp) hnews h1 (by omega) (by simp)
      have hsame : ∀ k : Nat, (w.setRow g (((#[] : Array Value).toList.take (0 * i.size) ++ [] ++ (#[] : Array Value).toList.drop (0 * i.size + ([] : List Value).length)).toArray)).heap[k]? = w.heap[k]? := fun k => by
        by_cases hk : k = g
        · subst hk
          rw [setRow_heap w k #[] _ e _ hg, hg]
          simp
        · exact setRow_other w g k _ (fun e => hk e)
      exact ⟨_, _, hr, own_heap hown0 fun k _ _ => hsame k, ⟨rfl, rfl, rfl, by simp, fun k _ _ => hsame k⟩, by simp⟩
  · subst hsize
    subst hby
    have hsmall : m ≤ 9223372036854775807 := by simp only [maxLen] at h63; omega
    have hr := run_append_grow (P := P) w t ty e i z ht hi hz ⟨g, 0, none⟩ 0 0 [] (by simp) (by intro j u h; simp at h) a m c news hl hnews (by omega) (by omega) (growslice_fits (by omega) (by simpa using hbytes))
    simp only [Nat.zero_add] at hr
    have hge := grownCap_ge w m 0 e
    have hcm : grownCap w m 0 e ≤ maxLen := grownCap_le_maxLen w m 0 e h63
    refine ⟨_, _, hr, ⟨hl, .inr ⟨w.heap.size, _, _, rfl, hbase, heap_alloc_new w.drew _, hge, hcm, ?_, ?_⟩⟩, ⟨rfl, rfl, rfl, by simp, fun k hk _ => heap_alloc_old w.drew _ hk⟩, by simp⟩
    · simp only [Array.size_append, List.size_toArray, size_zeroCells, hzs, hl, List.length_nil, Nat.zero_add, ← Nat.add_mul]
      congr 1
      omega
    · simp only [Array.toList_append, List.nil_append, ← hl]
      exact List.take_left
theorem step_append_lit {ops : Array Oper} {o : Oper} {a : Act} {K : Act → World → Prop} {Q : Exit → Act → World → Prop} {E : Prop} (hgd : o.guard = none) (s x : Operand) (t : TypeId)
    (ho : o.op = .call { callee := .builtin .append, args := #[s, x], argTypes := #[t, t] })
    (base : Nat) (e : TypeId) (i : TypeInfo) (z : Value) (size bytes : Nat) (ht : P.underlying t = some (.slice e)) (hi : P.info? e = some i) (hz : i.zero = some z)
    (hsize : i.size = size) (hby : i.bytes = bytes) (hzs : z.cells.size = size) (hsz : 0 < size)
    (g : Nat) (hs : a.eval s = .slice (some ⟨g, 0, none⟩) 0 0) (hown : w.ownsRow base e size (.slice (some ⟨g, 0, none⟩) 0 0) 0 [])
    (A : Option Addr) (m c : Nat) (news : List Value) (hx : a.eval x = .slice A m c) (hnil : A = none → m = 0 ∧ c = 0) (hl : news.length = m * size) (hnews : ∀ ad, A = some ad → ∀ j u, news[j]? = some u → w.cell? (ad.add j) = some u) (h1 : ∀ u ∈ news, u.oneCell' = true)
    (h63 : m ≤ maxLen) (hbytes : m * bytes ≤ 140737488355328) (hbase : base ≤ w.heap.size)
    (h : ∀ v' w', w'.ownsRow base e size v' m news → w.grownBy w' none → v' ≠ .slice none 0 0 → K (a.put o.dst v') w') :
    if Region.wanted o (yielded ops a.tmps) = true then Oper.wp P o a w K Q else E := by
  have hw : Region.wanted o (yielded ops a.tmps) = true := by simp [Region.wanted, hgd]
  rw [if_pos hw]
  rcases A with _ | ad
  · obtain ⟨rfl, rfl⟩ := hnil rfl
    have hnn : news = [] := List.eq_nil_of_length_eq_zero (by omega)
    subst hnn
    have hrun := run_append_owned_none (P := P) (w := w) base t o.type e i size ht hi _ 0 [] hown
    unfold Oper.wp
    simp [execOp, ho, resolve, invoke, builtin, hs, hx, hrun, Result.andThen]
    exact h _ _ hown (World.grownBy.refl _ _) (by simp)
  · obtain ⟨v', w', hr, h2, h3, h4⟩ := run_append_lit (P := P) (w := w) base t o.type e i z size bytes ht hi hz hsize hby hzs hsz g hown ad m c news hl (hnews ad rfl) h1 h63 hbytes hbase
    unfold Oper.wp execOp
    simp only [ho, resolve, invoke, builtin, Sem.run_bind, Sem.run_pure, Result.andThen_ok, List.map_toArray, List.map_cons, List.map_nil, hs, hx, hr]
    exact h v' w' h2 h3 h4
end


section
variable {P : Program} {ops : Array Oper} {Q : Exit → Act → World → Prop}
theorem rep_false (k j : Nat) : (Array.replicate k false).getD j false = false := by
  simp only [Array.getD_eq_getD_getElem?, Array.getElem?_replicate]
  split <;> rfl
theorem ready_all {n : Nat} (hn : ops.size = n) (hac : ((List.range n).all fun i => match ops[i]? with | some o => o.after.all (fun e => !Region.binds .any e || decide (e.on < i)) | none => false) = true)
    {L : Array Bool} (hL : L.size = n) (hr : Region.ready .any ops L = []) : ∀ j, j < n → L.getD j false = true := by
  intro j
  induction j using Nat.strongRecOn with
  | _ j ih =>
    intro hj
    cases hc : L.getD j false with
    | true => rfl
    | false =>
      exfalso
      have h1 := List.all_eq_true.1 hac j (List.mem_range.2 hj)
      cases ho : ops[j]? with
      | none => rw [ho] at h1; cases h1
      | some o =>
        rw [ho] at h1
        have h2 := Array.all_eq_true_iff_forall_mem.1 h1
        have hm : j ∈ Region.ready .any ops L := by
          refine mem_ready.2 ⟨?_, o, ho, fun e he hb => ?_⟩
          · have hlt : j < L.size := by omega
            simp [hlt] at hc ⊢
            exact hc
          · have h3 := h2 e he
            rw [hb] at h3
            have h4 : e.on < j := by simpa using h3
            exact ih e.on h4 (by omega)
        rw [hr] at hm
        cases hm
/-- A region whose operations each leave something that no other operation destroys. -/
theorem region_posts {id : Nat} {S : List Nat} {T : Array Value} {ds : List Deferred} {w0 : World} (n : Nat) (hn : ops.size = n) (hm : P.follows .mixedOrders = true)
    (hac : ((List.range n).all fun i => match ops[i]? with | some o => o.after.all (fun e => !Region.binds .any e || decide (e.on < i)) | none => false) = true)
    (hun : ((List.range n).all fun i => (List.range n).all fun j => i == j || (match ops[i]?, ops[j]? with | some o, some o' => o.dst.isNone || o.dst != o'.dst | _, _ => false)) = true)
    (Wd : World → Prop) (Post : Nat → (Nat → Value) → World → Prop) (Step : Nat → World → World → Prop) (h0 : Wd w0.drew)
    (stab : ∀ i j oi oj, ops[i]? = some oi → ops[j]? = some oj → i ≠ j → (∀ e ∈ oj.after, Region.binds .any e = true → e.on ≠ i) → ∀ (f f' : Nat → Value) w w', (∀ k o', ops[k]? = some o' → k ≠ i → ∀ d, o'.dst = some d → f' d = f d) → Step i w w' → Post j f w → Post j f' w')
    (hop : ∀ i o, ops[i]? = some o → ∀ (f : Nat → Value) w, (∀ e ∈ o.after, Region.binds .any e = true → Post e.on f w) → Wd w → wpOp P ops Q i (fun a' w' => ∃ f', a' = ⟨TS S T f', ds⟩ ∧ (∀ d, o.dst ≠ some d → f' d = f d) ∧ Post i f' w' ∧ Step i w w' ∧ Wd w') ⟨TS S T f, ds⟩ w)
    (fin : ∀ (f : Nat → Value) w, (∀ j, j < n → Post j f w) → Wd w → Q .normal ⟨TS S T f, ds⟩ w) : (Code.region id ops true).wp P Q ⟨T, ds⟩ w0 := by
  refine wp_region_inv hm (fun L a w => ∃ f, a = ⟨TS S T f, ds⟩ ∧ L.size = n ∧ (∀ j, L.getD j false = true → Post j f w) ∧ (∀ j o, ops[j]? = some o → L.getD j false = true → ∀ e ∈ o.after, Region.binds .any e = true → L.getD e.on false = true) ∧ Wd w) ?_ ?_ ?_
  · refine ⟨fun i => T.getD i undef, congrArg (fun x => Act.mk x ds) (TS_self T), by simp [hn], fun j hj => ?_, fun j o _ hj => ?_, h0⟩
    · rw [rep_false] at hj
      cases hj
    · rw [rep_false] at hj
      cases hj
  · rintro L a w ⟨f, rfl, hsz, hp, hcl, hw⟩ i hi
    obtain ⟨hi0, o, ho, hall⟩ := mem_ready.1 hi
    have hin : i < n := by rw [← hn]; exact (Array.getElem?_eq_some_iff.1 ho).1
    have hif : L.getD i false = false := by
      have hlt : i < L.size := by omega
      simp [hlt] at hi0 ⊢
      exact hi0
    refine wpOp_mono ?_ (hop i o ho f w (fun e he hb => hp _ (hall e he hb)) hw)
    rintro a' w' ⟨f', rfl, hf, hpi, hst, hw'⟩
    have gs : ∀ j, j ≠ i → (L.setIfInBounds i true).getD j false = L.getD j false := fun j hj => by
      simp only [Array.getD_eq_getD_getElem?, Array.getElem?_setIfInBounds]
      rw [if_neg (Ne.symm hj)]
    refine ⟨f', rfl, by simp [hsz], fun j hj => ?_, fun j oj hoj hj e he hb => ?_, hw'⟩
    · by_cases hji : j = i
      · subst hji
        exact hpi
      · rw [gs j hji] at hj
        have hjn : j < L.size := by
          rcases Nat.lt_or_ge j L.size with h | h
          · exact h
          · simp [Array.getElem?_eq_none h] at hj
        obtain ⟨oj, hoj⟩ : ∃ oj, ops[j]? = some oj := ⟨_, Array.getElem?_eq_getElem (by omega)⟩
        refine stab i j o oj ho hoj (Ne.symm hji) (fun e he hb h => ?_) f f' w w' (fun k o' hk hki d hd => ?_) hst (hp j hj)
        · have := hcl j oj hoj hj e he hb
          rw [h, hif] at this
          cases this
        · refine hf d ?_
          have hkn : k < n := by rw [← hn]; exact (Array.getElem?_eq_some_iff.1 hk).1
          have h1 := List.all_eq_true.1 (List.all_eq_true.1 hun i (List.mem_range.2 hin)) k (List.mem_range.2 hkn)
          rw [ho, hk] at h1
          intro he
          simp [he, hd] at h1
          exact hki h1.symm
    · by_cases hji : j = i
      · subst hji
        rw [ho] at hoj
        obtain rfl := Option.some.inj hoj
        have h1 := hall e he hb
        by_cases hei : e.on = j
        · rw [hei, hif] at h1
          cases h1
        · rw [gs _ hei]
          exact h1
      · rw [gs j hji] at hj
        have h1 := hcl j oj hoj hj e he hb
        by_cases hei : e.on = i
        · rw [hei, hif] at h1
          cases h1
        · rw [gs _ hei]
          exact h1
  · rintro L a w ⟨f, rfl, hsz, hp, hcl, hw⟩ hr
    exact fin f w (fun j hj => hp j (ready_all hn hac hsz hr j hj)) hw
end
end Go.Proofs.YtmodghiokoiipaaGreat

/-!
  What the operations of the two great regions of TopSettle leave in memory.
-/
namespace Go.Proofs.YtmodghiokoiipaaGreat
open Go.RowKit
set_option linter.unusedSimpArgs false
set_option linter.unusedVariables false

abbrev StT : TypeId := 35
abbrev AgT : TypeId := 42
abbrev UgT : TypeId := 31
/-- Nothing that was there has turned but what is of the type of statements. -/
structure RSt (w w' : World) : Prop where
  size : w.heap.size ≤ w'.heap.size
  keep : ∀ (k : Nat) (cur : Array Value) (T : TypeId) (fr : Nat × Nat), w.heap[k]? = some (.cells cur T fr) → T ≠ StT → w'.heap[k]? = w.heap[k]?
  st : ∀ (k : Nat) (c0 c1 c2 c3 c4 : Value), w.heap[k]? = some (.cells #[c0, c1, c2, c3, c4] StT) → ∃ d0 d1 d2 d3 d4, w'.heap[k]? = some (.cells #[d0, d1, d2, d3, d4] StT)
theorem heap_lt {w : World} {k : Nat} {o : Obj} (h : w.heap[k]? = some o) : k < w.heap.size := (Array.getElem?_eq_some_iff.1 h).1
theorem RSt.of_below {w w' : World} (h : Below w.heap.size w w') : RSt w w' :=
  ⟨h.size, fun k _ _ _ hk _ => h.block k (heap_lt hk), fun k c0 c1 c2 c3 c4 hk => ⟨c0, c1, c2, c3, c4, (h.block k (heap_lt hk)).trans hk⟩⟩
theorem RSt.refl (w : World) : RSt w w := RSt.of_below (Below.refl _ _)
theorem own_rs {w w' : World} (h : RSt w w') {B n m : Nat} {e : TypeId} {v : Value} {xs : List Value} (ho : w.ownsRow B e n v m xs) (hne : e ≠ StT) : w'.ownsRow B e n v m xs := by
  obtain ⟨h1, h2⟩ := ho
  refine ⟨h1, ?_⟩
  rcases h2 with h2 | ⟨g, cap, cur, hv, hg, hh, r⟩
  · exact .inl h2
  · exact .inr ⟨g, cap, cur, hv, hg, (h.keep g _ _ _ hh hne).trans hh, r⟩
/-- A block for a statement. -/
def SBk (w : World) (q : Nat) : Prop := ∃ c0 c1 c2 c3 c4, w.heap[q]? = some (.cells #[c0, c1, c2, c3, c4] StT)
theorem SBk.rs {w w' : World} {q : Nat} (h : SBk w q) (hs : RSt w w') : SBk w' q := by
  obtain ⟨c0, c1, c2, c3, c4, h⟩ := h
  exact hs.st _ _ _ _ _ _ h
theorem SBk.new (w : World) (a b c d e : Value) : SBk (w.alloc (.cells #[a, b, c, d, e] StT)) w.heap.size := ⟨a, b, c, d, e, heap_alloc_new w _⟩
theorem blk_of {w : World} {q : Nat} {a b c d e : Value} (h : w.heap[q]? = some (.cells #[a, b, c, d, e] StT)) : Blk w q [a, b, c, d, e] := by
  refine ⟨heap_lt h, fun i v hv => ?_⟩
  have hi := (List.getElem?_eq_some_iff.1 hv).1
  rw [← hv]
  match i, hi with
  | 0, _ | 1, _ | 2, _ | 3, _ | 4, _ => exact ⟨by simp [World.cell?, h], by simp [World.frozen?, h]⟩
theorem st_heap {w : World} {q : Nat} {c0 c1 c2 c3 c4 : Value} (h : w.heap[q]? = some (.cells #[c0, c1, c2, c3, c4] StT)) (a b c d e : Value) :
    (((((w.setCell ⟨q, 0, none⟩ a).setCell ⟨q, 1, none⟩ b).setCell ⟨q, 2, none⟩ c).setCell ⟨q, 3, none⟩ d).setCell ⟨q, 4, none⟩ e).heap[q]? = some (.cells #[a, b, c, d, e] StT) := by
  have h0 := heap_setCell_same w q 0 _ _ a h
  have h1 := heap_setCell_same _ q 1 _ _ b h0
  have h2 := heap_setCell_same _ q 2 _ _ c h1
  have h3 := heap_setCell_same _ q 3 _ _ d h2
  have h4 := heap_setCell_same _ q 4 _ _ e h3
  rw [h4]
  rfl
theorem st_rs {w : World} {q : Nat} (h : SBk w q) (a b c d e : Value) : RSt w (((((w.setCell ⟨q, 0, none⟩ a).setCell ⟨q, 1, none⟩ b).setCell ⟨q, 2, none⟩ c).setCell ⟨q, 3, none⟩ d).setCell ⟨q, 4, none⟩ e) := by
  obtain ⟨c0, c1, c2, c3, c4, h⟩ := h
  have hk : ∀ k, k ≠ q → (((((w.setCell ⟨q, 0, none⟩ a).setCell ⟨q, 1, none⟩ b).setCell ⟨q, 2, none⟩ c).setCell ⟨q, 3, none⟩ d).setCell ⟨q, 4, none⟩ e).heap[k]? = w.heap[k]? := fun k hk => by
    rw [Below.heap_setCell _ ⟨q, 4, none⟩ _ k hk, Below.heap_setCell _ ⟨q, 3, none⟩ _ k hk, Below.heap_setCell _ ⟨q, 2, none⟩ _ k hk, Below.heap_setCell _ ⟨q, 1, none⟩ _ k hk, Below.heap_setCell _ ⟨q, 0, none⟩ _ k hk]
  refine ⟨by simp, fun k cur T fr hh hT => hk k (fun e => ?_), fun k d0 d1 d2 d3 d4 hh => ?_⟩
  · subst e
    rw [h] at hh
    simp only [Option.some.injEq, Obj.cells.injEq] at hh
    exact hT hh.2.1.symm
  · by_cases e' : k = q
    · subst e'
      exact ⟨_, _, _, _, _, st_heap h a b c d e⟩
    · exact ⟨_, _, _, _, _, (hk k e').trans hh⟩
theorem st_blk {w : World} {q : Nat} (h : SBk w q) (a b c d e : Value) : Blk (((((w.setCell ⟨q, 0, none⟩ a).setCell ⟨q, 1, none⟩ b).setCell ⟨q, 2, none⟩ c).setCell ⟨q, 3, none⟩ d).setCell ⟨q, 4, none⟩ e) q [a, b, c, d, e] := by
  obtain ⟨c0, c1, c2, c3, c4, h⟩ := h
  exact blk_of (st_heap h a b c d e)
theorem st_below {w : World} {B q : Nat} {w0 : World} (hb : Below B w0 w) (hq : B ≤ q) (a b c d e : Value) : Below B w0 (((((w.setCell ⟨q, 0, none⟩ a).setCell ⟨q, 1, none⟩ b).setCell ⟨q, 2, none⟩ c).setCell ⟨q, 3, none⟩ d).setCell ⟨q, 4, none⟩ e) :=
  ((((hb.setCell (p := ⟨q, 0, none⟩) hq a).setCell (p := ⟨q, 1, none⟩) hq b).setCell (p := ⟨q, 2, none⟩) hq c).setCell (p := ⟨q, 3, none⟩) hq d).setCell (p := ⟨q, 4, none⟩) hq e
def LitV (w : World) (B : Nat) (e : TypeId) (n : Nat) (v : Value) : Prop := ∃ g, v = .slice (some ⟨g, 0, none⟩) 0 0 ∧ w.ownsRow B e n (.slice (some ⟨g, 0, none⟩) 0 0) 0 []
def AgV (w : World) (B : Nat) (v : Value) (zs : List Ag) : Prop := ∃ D k, v = .slice (some ⟨D, 0, none⟩) zs.length k ∧ zs.length ≤ k ∧ w.ownsRow B AgT 7 (.slice (some ⟨D, 0, none⟩) zs.length k) zs.length (zs.flatMap Ag.cells)
def UgV (w : World) (B : Nat) (v : Value) (us : List Ug) : Prop := w.ownsRow B UgT 12 v us.length (us.flatMap Ug.cells)
def TupV (w : World) (B : Nat) (v : Value) (S : Stm) : Prop := ∃ p f t x, v = .tuple #[.agg #[.int .i64 p, .int .i64 f, .int .i64 t, x, .int .i64 S.net], .int .i64 S.err] ∧ OC w B x S.cs
def AggV (w : World) (B : Nat) (v : Value) (S : Stm) : Prop := ∃ p f t x, v = .agg #[.int .i64 p, .int .i64 f, .int .i64 t, x, .int .i64 S.net] ∧ OC w B x S.cs
def PtrV (w : World) (B : Nat) (v : Value) : Prop := ∃ q, v = .pointer (some ⟨q, 0, none⟩) ∧ B ≤ q ∧ SBk w q
def FinV (w : World) (B : Nat) (v : Value) (S : Stm) : Prop := ∃ q p f t x, v = .pointer (some ⟨q, 0, none⟩) ∧ B ≤ q ∧ Blk w q [.int .i64 p, .int .i64 f, .int .i64 t, x, .int .i64 S.net] ∧ OC w B x S.cs
theorem LitV.rs {w w' : World} {B n : Nat} {e : TypeId} {v : Value} (h : LitV w B e n v) (hs : RSt w w') (he : e ≠ StT) : LitV w' B e n v := by
  obtain ⟨g, h1, h2⟩ := h
  exact ⟨g, h1, own_rs hs h2 he⟩
theorem LitV.new (w : World) (B n : Nat) (e : TypeId) (hB : B ≤ w.heap.size) : LitV (w.alloc (.cells #[] e)) B e n (.slice (some ⟨w.heap.size, 0, none⟩) 0 0) := ⟨_, rfl, own_lit0 w B n e hB⟩
theorem AgV.rs {w w' : World} {B : Nat} {v : Value} {zs : List Ag} (h : AgV w B v zs) (hs : RSt w w') : AgV w' B v zs := by
  obtain ⟨D, k, h1, h2, h3⟩ := h
  exact ⟨D, k, h1, h2, own_rs hs h3 (by decide)⟩
theorem AgV.mk' {w : World} {B : Nat} {v : Value} {zs : List Ag} (h : w.ownsRow B AgT 7 v zs.length (zs.flatMap Ag.cells)) (hn : v ≠ .slice none 0 0) : AgV w B v zs := by
  obtain ⟨A, c, rfl, hA⟩ := own_form h
  rcases hA with ⟨rfl, h1, rfl⟩ | ⟨D, rfl, h1, h2, h3⟩
  · rw [h1] at hn
    exact absurd rfl hn
  · exact ⟨D, c, rfl, h3, h⟩
theorem UgV.rs {w w' : World} {B : Nat} {v : Value} {us : List Ug} (h : UgV w B v us) (hs : RSt w w') : UgV w' B v us := own_rs hs h (by decide)
theorem OC.rs {w w' : World} {B : Nat} {v : Value} {cs : List Ch} (h : OC w B v cs) (hs : RSt w w') : OC w' B v cs := own_rs hs h (by decide)
theorem TupV.rs {w w' : World} {B : Nat} {v : Value} {S : Stm} (h : TupV w B v S) (hs : RSt w w') : TupV w' B v S := by
  obtain ⟨p, f, t, x, h1, h2⟩ := h
  exact ⟨p, f, t, x, h1, h2.rs hs⟩
theorem AggV.rs {w w' : World} {B : Nat} {v : Value} {S : Stm} (h : AggV w B v S) (hs : RSt w w') : AggV w' B v S := by
  obtain ⟨p, f, t, x, h1, h2⟩ := h
  exact ⟨p, f, t, x, h1, h2.rs hs⟩
theorem PtrV.rs {w w' : World} {B : Nat} {v : Value} (h : PtrV w B v) (hs : RSt w w') : PtrV w' B v := by
  obtain ⟨q, h1, h2, h3⟩ := h
  exact ⟨q, h1, h2, h3.rs hs⟩
theorem cells7' : ∀ x : Ag, x.cells.length = 7 := fun _ => rfl
theorem cells12 : ∀ x : Ug, x.cells.length = 12 := fun _ => rfl
theorem ug_one1 (x : Ug) : ∀ u ∈ x.cells, u.oneCell' = true := by
  intro u hx
  simp only [Ug.cells, List.mem_cons, List.not_mem_nil, or_false] at hx
  rcases hx with rfl | rfl | rfl | rfl | rfl | rfl | rfl | rfl | rfl | rfl | rfl | rfl <;> rfl
theorem ug_one (us : List Ug) : ∀ u ∈ us.flatMap Ug.cells, u.oneCell' = true := by
  intro u hu
  obtain ⟨x, _, hx⟩ := List.mem_flatMap.1 hu
  exact ug_one1 x u hx
/-- The cells of records behind an address that need be none only where there is nothing. -/
theorem recs_news' {α : Type} {n : Nat} {cells : α → List Value} (hf : ∀ x, (cells x).length = n) (hn : 0 < n) {w : World} {A : Option Addr} {xs : List α} (h : Recs n cells w A xs) : ∀ ad, A = some ad → ∀ j u, (xs.flatMap cells)[j]? = some u → w.cell? (ad.add j) = some u := by
  rintro ad rfl j u hu
  have hlt : j < xs.length * n := by
    have := (List.getElem?_eq_some_iff.1 hu).1
    rwa [flat_len hf] at this
  have h0 : 0 < xs.length := by
    rcases Nat.eq_zero_or_pos xs.length with h0 | h0
    · rw [h0, Nat.zero_mul] at hlt
      omega
    · exact h0
  obtain ⟨b, o, hA, _⟩ := h 0 _ (List.getElem?_eq_getElem h0)
  have hsp : ad.spot = none := by cases hA; rfl
  exact recs_news hf hn h hsp j u hu
theorem UgV.ugs {w : World} {B : Nat} {v : Value} {us : List Ug} (h : UgV w B v us) : ∃ A c, v = .slice A us.length c ∧ Ugs w A us := own_rec cells12 h
theorem AgV.ags {w : World} {B : Nat} {v : Value} {zs : List Ag} (h : AgV w B v zs) : ∃ D k, v = .slice (some ⟨D, 0, none⟩) zs.length k ∧ zs.length ≤ k ∧ Ags w (some ⟨D, 0, none⟩) zs := by
  obtain ⟨D, k, h1, h2, h3⟩ := h
  obtain ⟨A, c, h4, h5⟩ := own_rec cells7' h3
  obtain ⟨rfl, rfl⟩ : some ⟨D, 0, none⟩ = A ∧ k = c := by simpa using h4
  exact ⟨D, k, h1, h2, h5⟩
theorem info_ug : (Tryz.prog.info? 31).map (fun i => (i.zero, i.size, i.bytes)) = some (some (.agg #[.int .i64 0, .int .i64 0, .int .i64 0, .int .i64 0, .string ByteArray.empty, .string ByteArray.empty, .int .i64 0, .int .i64 0, .int .i64 0, .bool false, .int .i64 0, .int .i64 0]), 12, 112) := by kernel_rfl
/-- The statement of settling, as a value. -/
theorem stR_tup {w w' : World} {zs : List Ag} {us : List Ug} {e : Ending} {B : Nat} (h : StR w zs us e w') (hB : B ≤ w.heap.size) : ∃ v, e = .returned v ∧ TupV w' B v (stmF zs us) ∧ Below w.heap.size w w' := by
  obtain ⟨p, f, t, v, rfl, h1, h2⟩ := h
  exact ⟨_, rfl, ⟨p, f, t, v, rfl, own_mono h1 hB⟩, h2⟩
end Go.Proofs.YtmodghiokoiipaaGreat

/-!
  What each operation of the two great regions of TopSettle leaves.
-/
namespace Go.Proofs.YtmodghiokoiipaaGreat
open Go.RowKit
set_option linter.unusedSimpArgs false
set_option linter.unusedVariables false

theorem upd_self {f : Nat → Value} {d : Nat} {v : Value} : upd f d v d = v := by simp [upd]
theorem upd_ne {f : Nat → Value} {d k : Nat} {v : Value} (h : some d ≠ some k) : upd f d v k = f k := by
  unfold upd
  rw [if_neg (fun e => h (by rw [e]))]
/-- What each operation of region 17 leaves. -/
def P17 (B : Nat) (S : Stm) (zs : List Ag) (us : List Ug) (A : Option Addr) (c : Nat) (A2 : Option Addr) (c2 : Nat) : Nat → (Nat → Value) → World → Prop
  | 0, f, w => LitV w B AgT 7 (f 106)
  | 1, f, w => f 107 = .slice A zs.length c
  | 2, f, w => AgV w B (f 108) zs
  | 3, f, w => LitV w B UgT 12 (f 109)
  | 4, f, w => f 110 = .slice A2 us.length c2
  | 5, f, w => UgV w B (f 111) us
  | 6, f, w => f 112 = .agg #[.int .i64 0, .int .i64 2678400]
  | 7, f, w => TupV w B (f 113) S
  | 8, f, w => TupV w B (f 105) S
  | 9, f, w => AggV w B (f 114) S
  | 10, f, w => f 115 = .int .i64 S.err
  | 11, f, w => PtrV w B (f 12)
  | 12, f, w => FinV w B (f 12) S
  | 13, f, w => f 13 = .int .i64 S.err
  | _, _, _ => True
def sl17 : Nat → Option Nat
  | 0 => some 106
  | 1 => some 107
  | 2 => some 108
  | 3 => some 109
  | 4 => some 110
  | 5 => some 111
  | 6 => some 112
  | 7 => some 113
  | 8 => some 105
  | 9 => some 114
  | 10 => some 115
  | 11 => some 12
  | 13 => some 13
  | _ => none
theorem P17.stab {B : Nat} {S : Stm} {zs : List Ag} {us : List Ug} {A : Option Addr} {c : Nat} {A2 : Option Addr} {c2 : Nat} {j : Nat} {f f' : Nat → Value} {w w' : World} (hf : ∀ d, sl17 j = some d → f' d = f d) (h12 : j = 12 → f' 12 = f 12) (hs : RSt w w') (hw : j = 12 → w' = w) (h : P17 B S zs us A c A2 c2 j f w) : P17 B S zs us A c A2 c2 j f' w' := by
  match j with
  | 0 =>
    have e := hf 106 rfl
    show LitV w' B AgT 7 (f' 106)
    rw [e]
    exact LitV.rs h hs (by decide)
  | 1 =>
    have e := hf 107 rfl
    show f' 107 = _
    rw [e]
    exact h
  | 2 =>
    have e := hf 108 rfl
    show AgV w' B (f' 108) zs
    rw [e]
    exact AgV.rs h hs
  | 3 =>
    have e := hf 109 rfl
    show LitV w' B UgT 12 (f' 109)
    rw [e]
    exact LitV.rs h hs (by decide)
  | 4 =>
    have e := hf 110 rfl
    show f' 110 = _
    rw [e]
    exact h
  | 5 =>
    have e := hf 111 rfl
    show UgV w' B (f' 111) us
    rw [e]
    exact UgV.rs h hs
  | 6 =>
    have e := hf 112 rfl
    show f' 112 = _
    rw [e]
    exact h
  | 7 =>
    have e := hf 113 rfl
    show TupV w' B (f' 113) S
    rw [e]
    exact TupV.rs h hs
  | 8 =>
    have e := hf 105 rfl
    show TupV w' B (f' 105) S
    rw [e]
    exact TupV.rs h hs
  | 9 =>
    have e := hf 114 rfl
    show AggV w' B (f' 114) S
    rw [e]
    exact AggV.rs h hs
  | 10 =>
    have e := hf 115 rfl
    show f' 115 = _
    rw [e]
    exact h
  | 11 =>
    have e := hf 12 rfl
    show PtrV w' B (f' 12)
    rw [e]
    exact PtrV.rs h hs
  | 12 =>
    obtain rfl := hw rfl
    have e := h12 rfl
    show FinV w' B (f' 12) S
    rw [e]
    exact h
  | 13 =>
    have e := hf 13 rfl
    show f' 13 = _
    rw [e]
    exact h
  | j + 14 => exact trivial
/-- What each operation of region 18 leaves. -/
def P18 (B : Nat) (S : Stm) (zs : List Ag) (us : List Ug) (A : Option Addr) (c : Nat) (A2 : Option Addr) (c2 : Nat) : Nat → (Nat → Value) → World → Prop
  | 0, f, w => LitV w B AgT 7 (f 117)
  | 1, f, w => f 118 = .slice A zs.length c
  | 2, f, w => AgV w B (f 119) zs
  | 3, f, w => f 120 = .slice A2 us.length c2
  | 4, f, w => f 121 = .agg #[.int .i64 0, .int .i64 2678400]
  | 5, f, w => TupV w B (f 122) S
  | 6, f, w => TupV w B (f 116) S
  | 7, f, w => AggV w B (f 123) S
  | 8, f, w => f 124 = .int .i64 S.err
  | 9, f, w => PtrV w B (f 14)
  | 10, f, w => FinV w B (f 14) S
  | 11, f, w => f 15 = .int .i64 S.err
  | _, _, _ => True
def sl18 : Nat → Option Nat
  | 0 => some 117
  | 1 => some 118
  | 2 => some 119
  | 3 => some 120
  | 4 => some 121
  | 5 => some 122
  | 6 => some 116
  | 7 => some 123
  | 8 => some 124
  | 9 => some 14
  | 11 => some 15
  | _ => none
theorem P18.stab {B : Nat} {S : Stm} {zs : List Ag} {us : List Ug} {A : Option Addr} {c : Nat} {A2 : Option Addr} {c2 : Nat} {j : Nat} {f f' : Nat → Value} {w w' : World} (hf : ∀ d, sl18 j = some d → f' d = f d) (h12 : j = 10 → f' 14 = f 14) (hs : RSt w w') (hw : j = 10 → w' = w) (h : P18 B S zs us A c A2 c2 j f w) : P18 B S zs us A c A2 c2 j f' w' := by
  match j with
  | 0 =>
    have e := hf 117 rfl
    show LitV w' B AgT 7 (f' 117)
    rw [e]
    exact LitV.rs h hs (by decide)
  | 1 =>
    have e := hf 118 rfl
    show f' 118 = _
    rw [e]
    exact h
  | 2 =>
    have e := hf 119 rfl
    show AgV w' B (f' 119) zs
    rw [e]
    exact AgV.rs h hs
  | 3 =>
    have e := hf 120 rfl
    show f' 120 = _
    rw [e]
    exact h
  | 4 =>
    have e := hf 121 rfl
    show f' 121 = _
    rw [e]
    exact h
  | 5 =>
    have e := hf 122 rfl
    show TupV w' B (f' 122) S
    rw [e]
    exact TupV.rs h hs
  | 6 =>
    have e := hf 116 rfl
    show TupV w' B (f' 116) S
    rw [e]
    exact TupV.rs h hs
  | 7 =>
    have e := hf 123 rfl
    show AggV w' B (f' 123) S
    rw [e]
    exact AggV.rs h hs
  | 8 =>
    have e := hf 124 rfl
    show f' 124 = _
    rw [e]
    exact h
  | 9 =>
    have e := hf 14 rfl
    show PtrV w' B (f' 14)
    rw [e]
    exact PtrV.rs h hs
  | 10 =>
    obtain rfl := hw rfl
    have e := h12 rfl
    show FinV w' B (f' 14) S
    rw [e]
    exact h
  | 11 =>
    have e := hf 15 rfl
    show f' 15 = _
    rw [e]
    exact h
  | j + 12 => exact trivial
end Go.Proofs.YtmodghiokoiipaaGreat

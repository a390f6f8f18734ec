/-
  ConsumeWallets: texts joined (by joinw.py).
-/
import Derived.Test.YthkollhebabhbaaYc

/-!
  A region's orders by an invariant; the invariant of Apply's first region.
-/
namespace Go.Proofs.Ythkollhebabhbaa
open Go.RowKit
set_option linter.unusedSimpArgs false
set_option linter.unusedVariables false

theorem flt_le (l : List Nat) (p q : Nat → Bool) (h : ∀ x, q x = true → p x = true) : (l.filter q).length ≤ (l.filter p).length := by
  induction l with
  | nil => simp
  | cons x l ih =>
    simp only [List.filter_cons]
    cases hq : q x
    · cases hp : p x
      · simpa using ih
      · simp only [Bool.false_eq_true, if_false, if_true, List.length_cons]
        omega
    · rw [h x hq]
      simp only [if_true, List.length_cons]
      omega
theorem flt_lt (l : List Nat) (p q : Nat → Bool) (h : ∀ x, q x = true → p x = true) (i : Nat) (hi : i ∈ l) (h1 : p i = true) (h2 : q i = false) : (l.filter q).length < (l.filter p).length := by
  induction l with
  | nil => cases hi
  | cons x l ih =>
    have hle := flt_le l p q h
    simp only [List.filter_cons]
    rcases List.mem_cons.1 hi with rfl | hi
    · rw [h1, h2]
      simp only [Bool.false_eq_true, if_false, if_true, List.length_cons]
      omega
    · have := ih hi
      cases hq : q x
      · cases hp : p x
        · simpa using this
        · simp only [Bool.false_eq_true, if_false, if_true, List.length_cons]
          omega
      · rw [h x hq]
        simp only [if_true, List.length_cons]
        omega
section
variable {P : Program} {ops : Array Oper} {Q : Exit → Act → World → Prop} {md : Region.Mode}
/-- How many have not come up. -/
def unl (ops : Array Oper) (L : Array Bool) : Nat := ((List.range ops.size).filter fun i => !L.getD i true).length
theorem unl_set {L : Array Bool} {i : Nat} (h : i < ops.size) (h0 : L.getD i true = false) : unl ops (L.setIfInBounds i true) < unl ops L := by
  refine flt_lt _ _ _ (fun x hx => ?_) i (List.mem_range.2 h) (by simp [h0]) ?_
  · by_cases hxi : i = x
    · subst hxi
      simp [Array.getElem?_setIfInBounds] at hx
      split at hx <;> simp_all
    · simpa [Array.getElem?_setIfInBounds, hxi] using hx
  · simp [Array.getElem?_setIfInBounds]
    split <;> simp
theorem wpAny_inv (Inv : Array Bool → Act → World → Prop)
    (step : ∀ L a w, Inv L a w → ∀ i ∈ Region.ready md ops L, wpOp P ops Q i (Inv (L.setIfInBounds i true)) a w)
    (fin : ∀ L a w, Inv L a w → Region.ready md ops L = [] → Q .normal a w) : ∀ (fuel : Nat) (L : Array Bool) (a : Act) (w : World), unl ops L ≤ fuel → Inv L a w → wpAny P md ops Q fuel L a w := by
  intro fuel
  induction fuel with
  | zero =>
    intro L a w hu hI
    have hr : Region.ready md ops L = [] := by
      cases hr : Region.ready md ops L with
      | nil => rfl
      | cons i l =>
        have hi : i ∈ Region.ready md ops L := by rw [hr]; exact List.mem_cons_self
        obtain ⟨h0, x, hx, _⟩ := mem_ready.1 hi
        have := unl_set (ops := ops) (L := L) (Array.getElem?_eq_some_iff.1 hx).1 h0
        omega
    exact ⟨hr, fin L a w hI hr⟩
  | succ fuel ih =>
    intro L a w hu hI
    refine ⟨fun hr => fin L a w hI hr, fun i hi => ?_⟩
    obtain ⟨h0, x, hx, _⟩ := mem_ready.1 hi
    have := unl_set (ops := ops) (L := L) (Array.getElem?_eq_some_iff.1 hx).1 h0
    exact wpOp_mono (fun a' w' h => ih _ a' w' (by omega) h) (step L a w hI i hi)
theorem wp_region_inv {id : Nat} {a : Act} {w : World} (hm : P.follows .mixedOrders = true) (Inv : Array Bool → Act → World → Prop) (h0 : Inv (Array.replicate ops.size false) a w.drew)
    (step : ∀ L a w, Inv L a w → ∀ i ∈ Region.ready .any ops L, wpOp P ops Q i (Inv (L.setIfInBounds i true)) a w)
    (fin : ∀ L a w, Inv L a w → Region.ready .any ops L = [] → Q .normal a w) : (Code.region id ops true).wp P Q a w := by
  refine wp_region_any hm (wpAny_inv Inv step fin _ _ _ _ ?_ h0)
  exact Nat.le_trans (List.length_filter_le _ _) (by simp)
end

/-- The slots that the region writes. -/
def S14 : List Nat := [5, 7, 8, 9, 10, 11, 12, 13, 14, 15, 16, 17, 18, 19]
def T14 (t : Array Value) (f : Nat → Value) : Array Value := t.mapIdx fun i v => if S14.contains i then f i else v
def upd (f : Nat → Value) (k : Nat) (v : Value) : Nat → Value := fun i => if i = k then v else f i
theorem T14_old (t : Array Value) (f : Nat → Value) (k : Nat) (hk : S14.contains k = false) : (T14 t f)[k]? = t[k]? := by
  simp only [T14, Array.getElem?_mapIdx, hk, Bool.false_eq_true, if_false]
  cases t[k]? <;> rfl
theorem T14_get (t : Array Value) (f : Nat → Value) (k : Nat) (hk : S14.contains k = true) (hs : k < t.size) : (T14 t f)[k]? = some (f k) := by
  simp only [T14, Array.getElem?_mapIdx, hk, if_true]
  rw [Array.getElem?_eq_getElem hs]
  rfl
theorem T14_size (t : Array Value) (f : Nat → Value) : (T14 t f).size = t.size := by simp [T14]
theorem T14_set (t : Array Value) (f : Nat → Value) (k : Nat) (v : Value) (hk : S14.contains k = true) : (T14 t f).setIfInBounds k v = T14 t (upd f k v) := by
  apply Array.ext_getElem?
  intro j
  rw [Array.getElem?_setIfInBounds]
  by_cases h : k = j
  · subst h
    simp only [if_true, T14_size]
    by_cases hs : k < t.size
    · rw [if_pos hs, T14_get _ _ _ hk hs]
      simp [upd]
    · rw [if_neg hs, Array.getElem?_eq_none (by rw [T14_size]; omega)]
  · rw [if_neg h]
    simp only [T14, Array.getElem?_mapIdx, upd, if_neg (Ne.symm h)]
theorem T14_self (t : Array Value) : t = T14 t fun i => t.getD i undef := by
  apply Array.ext_getElem?
  intro j
  simp only [T14, Array.getElem?_mapIdx]
  by_cases hs : j < t.size
  · rw [Array.getElem?_eq_getElem hs]
    simp [hs]
  · rw [Array.getElem?_eq_none (by omega)]
    rfl
theorem region_gen {id : Nat} {P : Program} {ops : Array Oper} {ts : Array Value} {ds : List Deferred} {Q : Exit → Act → World → Prop} {w : World} (Post : (Nat → Value) → World → Prop) (hpost : ∀ f w', Post f w' → Q .normal ⟨T14 ts f, ds⟩ w') (hsz : 19 < ts.size)
    (h : ∀ T Q', T[2]? = ts[2]? → 19 < T.size → (∀ f w', Post f w' → Q' .normal ⟨T14 T f, ds⟩ w') → (Code.region id ops true).wp P Q' ⟨T, ds⟩ w) : (Code.region id ops true).wp P Q ⟨ts, ds⟩ w := h ts Q rfl hsz hpost

def Lt (w : World) (B : Nat) (e : TypeId) (size : Nat) (v : Value) : Prop := ∃ g, v = .slice (some ⟨g, 0, none⟩) 0 0 ∧ w.ownsRow B e size v 0 []
theorem Lt.below {w w' : World} {B size : Nat} {e : TypeId} {v : Value} (h : Lt w B e size v) (hb : Below w.heap.size w w') : Lt w' B e size v := by
  obtain ⟨g, h1, h2⟩ := h
  exact ⟨g, h1, own_below h2 hb⟩
theorem Lt.new {w : World} {B size : Nat} {e : TypeId} (hB : B ≤ w.heap.size) : Lt (w.alloc (.cells #[] e)) B e size (.slice (some ⟨w.heap.size, 0, none⟩) 0 0) := ⟨_, rfl, own_litN rfl hB⟩
/-- The three rows. -/
def Ow3 (w : World) (B : Nat) (m : Bo) (x y z : Value) : Prop := w.ownsRow B 118 6 x m.al.length (m.al.flatMap Ac.cells) ∧ w.ownsRow B 121 8 y m.sl.length (m.sl.flatMap Sb.cells) ∧ w.ownsRow B 3 1 z m.el.length (m.el.flatMap ntc)
theorem Ow3.below {w w' : World} {B : Nat} {m : Bo} {x y z : Value} (h : Ow3 w B m x y z) (hb : Below w.heap.size w w') : Ow3 w' B m x y z := ⟨own_below h.1 hb, own_below h.2.1 hb, own_below h.2.2 hb⟩
structure BkN (w : World) (B N : Nat) (x y z : Value) : Prop where
  hN : B ≤ N
  lt : N < w.heap.size
  ty : Typed w N 104
  f0 : w.frozen? ⟨N, 0, none⟩ = false
  f1 : w.frozen? ⟨N, 1, none⟩ = false
  f2 : w.frozen? ⟨N, 2, none⟩ = false
  c0 : w.cell? ⟨N, 0, none⟩ = some x
  c1 : w.cell? ⟨N, 1, none⟩ = some y
  c2 : w.cell? ⟨N, 2, none⟩ = some z
theorem BkN.below {w w' : World} {B N : Nat} {x y z : Value} (h : BkN w B N x y z) (hb : Below w.heap.size w w') : BkN w' B N x y z :=
  ⟨h.hN, Nat.lt_of_lt_of_le h.lt hb.size, h.ty.below hb, (hb.frozen (p := ⟨N, 0, none⟩) h.lt).trans h.f0, (hb.frozen (p := ⟨N, 1, none⟩) h.lt).trans h.f1, (hb.frozen (p := ⟨N, 2, none⟩) h.lt).trans h.f2, (hb.cell (p := ⟨N, 0, none⟩) h.lt).trans h.c0, (hb.cell (p := ⟨N, 1, none⟩) h.lt).trans h.c1, (hb.cell (p := ⟨N, 2, none⟩) h.lt).trans h.c2⟩

/-- What holds when some of the operations have come up. -/
structure RI (m : Bo) (A1 A2 A3 : Option Addr) (c1 c2 c3 bk B : Nat) (W1 : World) (L : Array Bool) (f : Nat → Value) (w : World) : Prop where
  sz : L.size = 15
  bel : Below B W1 w
  l0 : L.getD 0 false = true → Lt w B 118 6 (f 7)
  l1 : L.getD 1 false = true → (f 8) = .pointer (some ⟨bk, 0, none⟩)
  l2 : L.getD 2 false = true → (f 9) = .slice A1 m.al.length c1
  l3 : L.getD 3 false = true → w.ownsRow B 118 6 (f 10) m.al.length (m.al.flatMap Ac.cells)
  l4 : L.getD 4 false = true → Lt w B 121 8 (f 11)
  l5 : L.getD 5 false = true → (f 12) = .pointer (some ⟨bk, 1, none⟩)
  l6 : L.getD 6 false = true → (f 13) = .slice A2 m.sl.length c2
  l7 : L.getD 7 false = true → w.ownsRow B 121 8 (f 14) m.sl.length (m.sl.flatMap Sb.cells)
  l8 : L.getD 8 false = true → Lt w B 3 1 (f 15)
  l9 : L.getD 9 false = true → (f 16) = .pointer (some ⟨bk, 2, none⟩)
  l10 : L.getD 10 false = true → (f 17) = .slice A3 m.el.length c3
  l11 : L.getD 11 false = true → w.ownsRow B 3 1 (f 18) m.el.length (m.el.flatMap ntc)
  l12 : L.getD 12 false = true → ∃ x y z, (f 19) = .agg #[x, y, z] ∧ Ow3 w B m x y z
  l13 : L.getD 13 false = true → ∃ N x y z, f 5 = .pointer (some ⟨N, 0, none⟩) ∧ BkN w B N x y z ∧ (L.getD 14 false = true → Ow3 w B m x y z)
  d14 : L.getD 14 false = true → L.getD 13 false = true
theorem RI.start {m : Bo} {A1 A2 A3 : Option Addr} {c1 c2 c3 bk B : Nat} {W1 w : World} (hb : Below B W1 w) (f : Nat → Value) : RI m A1 A2 A3 c1 c2 c3 bk B W1 (Array.replicate 15 false) f w := by
  refine ⟨rfl, hb, ?_, ?_, ?_, ?_, ?_, ?_, ?_, ?_, ?_, ?_, ?_, ?_, ?_, ?_, ?_⟩ <;> (intro h; simp at h)
theorem RI.below {m : Bo} {A1 A2 A3 : Option Addr} {c1 c2 c3 bk B : Nat} {W1 : World} {L : Array Bool} {f : Nat → Value} {w : World} (h : RI m A1 A2 A3 c1 c2 c3 bk B W1 L f w) {w' : World} (hb : Below w.heap.size w w') (hB : B ≤ w.heap.size) : RI m A1 A2 A3 c1 c2 c3 bk B W1 L f w' := by
  refine ⟨h.sz, h.bel.trans (hb.mono hB), ?_, ?_, ?_, ?_, ?_, ?_, ?_, ?_, ?_, ?_, ?_, ?_, ?_, ?_, ?_⟩
  · exact fun hL => (h.l0 hL).below hb
  · exact h.l1
  · exact h.l2
  · exact fun hL => own_below (h.l3 hL) hb
  · exact fun hL => (h.l4 hL).below hb
  · exact h.l5
  · exact h.l6
  · exact fun hL => own_below (h.l7 hL) hb
  · exact fun hL => (h.l8 hL).below hb
  · exact h.l9
  · exact h.l10
  · exact fun hL => own_below (h.l11 hL) hb
  · intro hL
    obtain ⟨x, y, z, h1, h2⟩ := h.l12 hL
    exact ⟨x, y, z, h1, h2.below hb⟩
  · intro hL
    obtain ⟨N, x, y, z, h1, h2, h3⟩ := h.l13 hL
    exact ⟨N, x, y, z, h1, h2.below hb, fun h => (h3 h).below hb⟩
  · exact h.d14
theorem RI.u0 {m : Bo} {A1 A2 A3 : Option Addr} {c1 c2 c3 bk B : Nat} {W1 : World} {L : Array Bool} {f : Nat → Value} {w : World} (h : RI m A1 A2 A3 c1 c2 c3 bk B W1 L f w) {v : Value} (hv : Lt w B 118 6 v) : RI m A1 A2 A3 c1 c2 c3 bk B W1 (L.setIfInBounds 0 true) (upd f 7 v) w := by
  refine ⟨by simp [h.sz], h.bel, ?_, ?_, ?_, ?_, ?_, ?_, ?_, ?_, ?_, ?_, ?_, ?_, ?_, ?_, ?_⟩
  · intro _; simpa [upd] using hv
  · simpa [upd, Array.getElem?_setIfInBounds] using h.l1
  · simpa [upd, Array.getElem?_setIfInBounds] using h.l2
  · simpa [upd, Array.getElem?_setIfInBounds] using h.l3
  · simpa [upd, Array.getElem?_setIfInBounds] using h.l4
  · simpa [upd, Array.getElem?_setIfInBounds] using h.l5
  · simpa [upd, Array.getElem?_setIfInBounds] using h.l6
  · simpa [upd, Array.getElem?_setIfInBounds] using h.l7
  · simpa [upd, Array.getElem?_setIfInBounds] using h.l8
  · simpa [upd, Array.getElem?_setIfInBounds] using h.l9
  · simpa [upd, Array.getElem?_setIfInBounds] using h.l10
  · simpa [upd, Array.getElem?_setIfInBounds] using h.l11
  · simpa [upd, Array.getElem?_setIfInBounds] using h.l12
  · simpa [upd, Array.getElem?_setIfInBounds] using h.l13
  · simpa [upd, Array.getElem?_setIfInBounds] using h.d14
theorem RI.u1 {m : Bo} {A1 A2 A3 : Option Addr} {c1 c2 c3 bk B : Nat} {W1 : World} {L : Array Bool} {f : Nat → Value} {w : World} (h : RI m A1 A2 A3 c1 c2 c3 bk B W1 L f w) {v : Value} (hv : v = .pointer (some ⟨bk, 0, none⟩)) : RI m A1 A2 A3 c1 c2 c3 bk B W1 (L.setIfInBounds 1 true) (upd f 8 v) w := by
  refine ⟨by simp [h.sz], h.bel, ?_, ?_, ?_, ?_, ?_, ?_, ?_, ?_, ?_, ?_, ?_, ?_, ?_, ?_, ?_⟩
  · simpa [upd, Array.getElem?_setIfInBounds] using h.l0
  · intro _; simpa [upd] using hv
  · simpa [upd, Array.getElem?_setIfInBounds] using h.l2
  · simpa [upd, Array.getElem?_setIfInBounds] using h.l3
  · simpa [upd, Array.getElem?_setIfInBounds] using h.l4
  · simpa [upd, Array.getElem?_setIfInBounds] using h.l5
  · simpa [upd, Array.getElem?_setIfInBounds] using h.l6
  · simpa [upd, Array.getElem?_setIfInBounds] using h.l7
  · simpa [upd, Array.getElem?_setIfInBounds] using h.l8
  · simpa [upd, Array.getElem?_setIfInBounds] using h.l9
  · simpa [upd, Array.getElem?_setIfInBounds] using h.l10
  · simpa [upd, Array.getElem?_setIfInBounds] using h.l11
  · simpa [upd, Array.getElem?_setIfInBounds] using h.l12
  · simpa [upd, Array.getElem?_setIfInBounds] using h.l13
  · simpa [upd, Array.getElem?_setIfInBounds] using h.d14
theorem RI.u2 {m : Bo} {A1 A2 A3 : Option Addr} {c1 c2 c3 bk B : Nat} {W1 : World} {L : Array Bool} {f : Nat → Value} {w : World} (h : RI m A1 A2 A3 c1 c2 c3 bk B W1 L f w) {v : Value} (hv : v = .slice A1 m.al.length c1) : RI m A1 A2 A3 c1 c2 c3 bk B W1 (L.setIfInBounds 2 true) (upd f 9 v) w := by
  refine ⟨by simp [h.sz], h.bel, ?_, ?_, ?_, ?_, ?_, ?_, ?_, ?_, ?_, ?_, ?_, ?_, ?_, ?_, ?_⟩
  · simpa [upd, Array.getElem?_setIfInBounds] using h.l0
  · simpa [upd, Array.getElem?_setIfInBounds] using h.l1
  · intro _; simpa [upd] using hv
  · simpa [upd, Array.getElem?_setIfInBounds] using h.l3
  · simpa [upd, Array.getElem?_setIfInBounds] using h.l4
  · simpa [upd, Array.getElem?_setIfInBounds] using h.l5
  · simpa [upd, Array.getElem?_setIfInBounds] using h.l6
  · simpa [upd, Array.getElem?_setIfInBounds] using h.l7
  · simpa [upd, Array.getElem?_setIfInBounds] using h.l8
  · simpa [upd, Array.getElem?_setIfInBounds] using h.l9
  · simpa [upd, Array.getElem?_setIfInBounds] using h.l10
  · simpa [upd, Array.getElem?_setIfInBounds] using h.l11
  · simpa [upd, Array.getElem?_setIfInBounds] using h.l12
  · simpa [upd, Array.getElem?_setIfInBounds] using h.l13
  · simpa [upd, Array.getElem?_setIfInBounds] using h.d14
theorem RI.u3 {m : Bo} {A1 A2 A3 : Option Addr} {c1 c2 c3 bk B : Nat} {W1 : World} {L : Array Bool} {f : Nat → Value} {w : World} (h : RI m A1 A2 A3 c1 c2 c3 bk B W1 L f w) {v : Value} (hv : w.ownsRow B 118 6 v m.al.length (m.al.flatMap Ac.cells)) : RI m A1 A2 A3 c1 c2 c3 bk B W1 (L.setIfInBounds 3 true) (upd f 10 v) w := by
  refine ⟨by simp [h.sz], h.bel, ?_, ?_, ?_, ?_, ?_, ?_, ?_, ?_, ?_, ?_, ?_, ?_, ?_, ?_, ?_⟩
  · simpa [upd, Array.getElem?_setIfInBounds] using h.l0
  · simpa [upd, Array.getElem?_setIfInBounds] using h.l1
  · simpa [upd, Array.getElem?_setIfInBounds] using h.l2
  · intro _; simpa [upd] using hv
  · simpa [upd, Array.getElem?_setIfInBounds] using h.l4
  · simpa [upd, Array.getElem?_setIfInBounds] using h.l5
  · simpa [upd, Array.getElem?_setIfInBounds] using h.l6
  · simpa [upd, Array.getElem?_setIfInBounds] using h.l7
  · simpa [upd, Array.getElem?_setIfInBounds] using h.l8
  · simpa [upd, Array.getElem?_setIfInBounds] using h.l9
  · simpa [upd, Array.getElem?_setIfInBounds] using h.l10
  · simpa [upd, Array.getElem?_setIfInBounds] using h.l11
  · simpa [upd, Array.getElem?_setIfInBounds] using h.l12
  · simpa [upd, Array.getElem?_setIfInBounds] using h.l13
  · simpa [upd, Array.getElem?_setIfInBounds] using h.d14
theorem RI.u4 {m : Bo} {A1 A2 A3 : Option Addr} {c1 c2 c3 bk B : Nat} {W1 : World} {L : Array Bool} {f : Nat → Value} {w : World} (h : RI m A1 A2 A3 c1 c2 c3 bk B W1 L f w) {v : Value} (hv : Lt w B 121 8 v) : RI m A1 A2 A3 c1 c2 c3 bk B W1 (L.setIfInBounds 4 true) (upd f 11 v) w := by
  refine ⟨by simp [h.sz], h.bel, ?_, ?_, ?_, ?_, ?_, ?_, ?_, ?_, ?_, ?_, ?_, ?_, ?_, ?_, ?_⟩
  · simpa [upd, Array.getElem?_setIfInBounds] using h.l0
  · simpa [upd, Array.getElem?_setIfInBounds] using h.l1
  · simpa [upd, Array.getElem?_setIfInBounds] using h.l2
  · simpa [upd, Array.getElem?_setIfInBounds] using h.l3
  · intro _; simpa [upd] using hv
  · simpa [upd, Array.getElem?_setIfInBounds] using h.l5
  · simpa [upd, Array.getElem?_setIfInBounds] using h.l6
  · simpa [upd, Array.getElem?_setIfInBounds] using h.l7
  · simpa [upd, Array.getElem?_setIfInBounds] using h.l8
  · simpa [upd, Array.getElem?_setIfInBounds] using h.l9
  · simpa [upd, Array.getElem?_setIfInBounds] using h.l10
  · simpa [upd, Array.getElem?_setIfInBounds] using h.l11
  · simpa [upd, Array.getElem?_setIfInBounds] using h.l12
  · simpa [upd, Array.getElem?_setIfInBounds] using h.l13
  · simpa [upd, Array.getElem?_setIfInBounds] using h.d14
theorem RI.u5 {m : Bo} {A1 A2 A3 : Option Addr} {c1 c2 c3 bk B : Nat} {W1 : World} {L : Array Bool} {f : Nat → Value} {w : World} (h : RI m A1 A2 A3 c1 c2 c3 bk B W1 L f w) {v : Value} (hv : v = .pointer (some ⟨bk, 1, none⟩)) : RI m A1 A2 A3 c1 c2 c3 bk B W1 (L.setIfInBounds 5 true) (upd f 12 v) w := by
  refine ⟨by simp [h.sz], h.bel, ?_, ?_, ?_, ?_, ?_, ?_, ?_, ?_, ?_, ?_, ?_, ?_, ?_, ?_, ?_⟩
  · simpa [upd, Array.getElem?_setIfInBounds] using h.l0
  · simpa [upd, Array.getElem?_setIfInBounds] using h.l1
  · simpa [upd, Array.getElem?_setIfInBounds] using h.l2
  · simpa [upd, Array.getElem?_setIfInBounds] using h.l3
  · simpa [upd, Array.getElem?_setIfInBounds] using h.l4
  · intro _; simpa [upd] using hv
  · simpa [upd, Array.getElem?_setIfInBounds] using h.l6
  · simpa [upd, Array.getElem?_setIfInBounds] using h.l7
  · simpa [upd, Array.getElem?_setIfInBounds] using h.l8
  · simpa [upd, Array.getElem?_setIfInBounds] using h.l9
  · simpa [upd, Array.getElem?_setIfInBounds] using h.l10
  · simpa [upd, Array.getElem?_setIfInBounds] using h.l11
  · simpa [upd, Array.getElem?_setIfInBounds] using h.l12
  · simpa [upd, Array.getElem?_setIfInBounds] using h.l13
  · simpa [upd, Array.getElem?_setIfInBounds] using h.d14
theorem RI.u6 {m : Bo} {A1 A2 A3 : Option Addr} {c1 c2 c3 bk B : Nat} {W1 : World} {L : Array Bool} {f : Nat → Value} {w : World} (h : RI m A1 A2 A3 c1 c2 c3 bk B W1 L f w) {v : Value} (hv : v = .slice A2 m.sl.length c2) : RI m A1 A2 A3 c1 c2 c3 bk B W1 (L.setIfInBounds 6 true) (upd f 13 v) w := by
  refine ⟨by simp [h.sz], h.bel, ?_, ?_, ?_, ?_, ?_, ?_, ?_, ?_, ?_, ?_, ?_, ?_, ?_, ?_, ?_⟩
  · simpa [upd, Array.getElem?_setIfInBounds] using h.l0
  · simpa [upd, Array.getElem?_setIfInBounds] using h.l1
  · simpa [upd, Array.getElem?_setIfInBounds] using h.l2
  · simpa [upd, Array.getElem?_setIfInBounds] using h.l3
  · simpa [upd, Array.getElem?_setIfInBounds] using h.l4
  · simpa [upd, Array.getElem?_setIfInBounds] using h.l5
  · intro _; simpa [upd] using hv
  · simpa [upd, Array.getElem?_setIfInBounds] using h.l7
  · simpa [upd, Array.getElem?_setIfInBounds] using h.l8
  · simpa [upd, Array.getElem?_setIfInBounds] using h.l9
  · simpa [upd, Array.getElem?_setIfInBounds] using h.l10
  · simpa [upd, Array.getElem?_setIfInBounds] using h.l11
  · simpa [upd, Array.getElem?_setIfInBounds] using h.l12
  · simpa [upd, Array.getElem?_setIfInBounds] using h.l13
  · simpa [upd, Array.getElem?_setIfInBounds] using h.d14
theorem RI.u7 {m : Bo} {A1 A2 A3 : Option Addr} {c1 c2 c3 bk B : Nat} {W1 : World} {L : Array Bool} {f : Nat → Value} {w : World} (h : RI m A1 A2 A3 c1 c2 c3 bk B W1 L f w) {v : Value} (hv : w.ownsRow B 121 8 v m.sl.length (m.sl.flatMap Sb.cells)) : RI m A1 A2 A3 c1 c2 c3 bk B W1 (L.setIfInBounds 7 true) (upd f 14 v) w := by
  refine ⟨by simp [h.sz], h.bel, ?_, ?_, ?_, ?_, ?_, ?_, ?_, ?_, ?_, ?_, ?_, ?_, ?_, ?_, ?_⟩
  · simpa [upd, Array.getElem?_setIfInBounds] using h.l0
  · simpa [upd, Array.getElem?_setIfInBounds] using h.l1
  · simpa [upd, Array.getElem?_setIfInBounds] using h.l2
  · simpa [upd, Array.getElem?_setIfInBounds] using h.l3
  · simpa [upd, Array.getElem?_setIfInBounds] using h.l4
  · simpa [upd, Array.getElem?_setIfInBounds] using h.l5
  · simpa [upd, Array.getElem?_setIfInBounds] using h.l6
  · intro _; simpa [upd] using hv
  · simpa [upd, Array.getElem?_setIfInBounds] using h.l8
  · simpa [upd, Array.getElem?_setIfInBounds] using h.l9
  · simpa [upd, Array.getElem?_setIfInBounds] using h.l10
  · simpa [upd, Array.getElem?_setIfInBounds] using h.l11
  · simpa [upd, Array.getElem?_setIfInBounds] using h.l12
  · simpa [upd, Array.getElem?_setIfInBounds] using h.l13
  · simpa [upd, Array.getElem?_setIfInBounds] using h.d14
theorem RI.u8 {m : Bo} {A1 A2 A3 : Option Addr} {c1 c2 c3 bk B : Nat} {W1 : World} {L : Array Bool} {f : Nat → Value} {w : World} (h : RI m A1 A2 A3 c1 c2 c3 bk B W1 L f w) {v : Value} (hv : Lt w B 3 1 v) : RI m A1 A2 A3 c1 c2 c3 bk B W1 (L.setIfInBounds 8 true) (upd f 15 v) w := by
  refine ⟨by simp [h.sz], h.bel, ?_, ?_, ?_, ?_, ?_, ?_, ?_, ?_, ?_, ?_, ?_, ?_, ?_, ?_, ?_⟩
  · simpa [upd, Array.getElem?_setIfInBounds] using h.l0
  · simpa [upd, Array.getElem?_setIfInBounds] using h.l1
  · simpa [upd, Array.getElem?_setIfInBounds] using h.l2
  · simpa [upd, Array.getElem?_setIfInBounds] using h.l3
  · simpa [upd, Array.getElem?_setIfInBounds] using h.l4
  · simpa [upd, Array.getElem?_setIfInBounds] using h.l5
  · simpa [upd, Array.getElem?_setIfInBounds] using h.l6
  · simpa [upd, Array.getElem?_setIfInBounds] using h.l7
  · intro _; simpa [upd] using hv
  · simpa [upd, Array.getElem?_setIfInBounds] using h.l9
  · simpa [upd, Array.getElem?_setIfInBounds] using h.l10
  · simpa [upd, Array.getElem?_setIfInBounds] using h.l11
  · simpa [upd, Array.getElem?_setIfInBounds] using h.l12
  · simpa [upd, Array.getElem?_setIfInBounds] using h.l13
  · simpa [upd, Array.getElem?_setIfInBounds] using h.d14
theorem RI.u9 {m : Bo} {A1 A2 A3 : Option Addr} {c1 c2 c3 bk B : Nat} {W1 : World} {L : Array Bool} {f : Nat → Value} {w : World} (h : RI m A1 A2 A3 c1 c2 c3 bk B W1 L f w) {v : Value} (hv : v = .pointer (some ⟨bk, 2, none⟩)) : RI m A1 A2 A3 c1 c2 c3 bk B W1 (L.setIfInBounds 9 true) (upd f 16 v) w := by
  refine ⟨by simp [h.sz], h.bel, ?_, ?_, ?_, ?_, ?_, ?_, ?_, ?_, ?_, ?_, ?_, ?_, ?_, ?_, ?_⟩
  · simpa [upd, Array.getElem?_setIfInBounds] using h.l0
  · simpa [upd, Array.getElem?_setIfInBounds] using h.l1
  · simpa [upd, Array.getElem?_setIfInBounds] using h.l2
  · simpa [upd, Array.getElem?_setIfInBounds] using h.l3
  · simpa [upd, Array.getElem?_setIfInBounds] using h.l4
  · simpa [upd, Array.getElem?_setIfInBounds] using h.l5
  · simpa [upd, Array.getElem?_setIfInBounds] using h.l6
  · simpa [upd, Array.getElem?_setIfInBounds] using h.l7
  · simpa [upd, Array.getElem?_setIfInBounds] using h.l8
  · intro _; simpa [upd] using hv
  · simpa [upd, Array.getElem?_setIfInBounds] using h.l10
  · simpa [upd, Array.getElem?_setIfInBounds] using h.l11
  · simpa [upd, Array.getElem?_setIfInBounds] using h.l12
  · simpa [upd, Array.getElem?_setIfInBounds] using h.l13
  · simpa [upd, Array.getElem?_setIfInBounds] using h.d14
theorem RI.u10 {m : Bo} {A1 A2 A3 : Option Addr} {c1 c2 c3 bk B : Nat} {W1 : World} {L : Array Bool} {f : Nat → Value} {w : World} (h : RI m A1 A2 A3 c1 c2 c3 bk B W1 L f w) {v : Value} (hv : v = .slice A3 m.el.length c3) : RI m A1 A2 A3 c1 c2 c3 bk B W1 (L.setIfInBounds 10 true) (upd f 17 v) w := by
  refine ⟨by simp [h.sz], h.bel, ?_, ?_, ?_, ?_, ?_, ?_, ?_, ?_, ?_, ?_, ?_, ?_, ?_, ?_, ?_⟩
  · simpa [upd, Array.getElem?_setIfInBounds] using h.l0
  · simpa [upd, Array.getElem?_setIfInBounds] using h.l1
  · simpa [upd, Array.getElem?_setIfInBounds] using h.l2
  · simpa [upd, Array.getElem?_setIfInBounds] using h.l3
  · simpa [upd, Array.getElem?_setIfInBounds] using h.l4
  · simpa [upd, Array.getElem?_setIfInBounds] using h.l5
  · simpa [upd, Array.getElem?_setIfInBounds] using h.l6
  · simpa [upd, Array.getElem?_setIfInBounds] using h.l7
  · simpa [upd, Array.getElem?_setIfInBounds] using h.l8
  · simpa [upd, Array.getElem?_setIfInBounds] using h.l9
  · intro _; simpa [upd] using hv
  · simpa [upd, Array.getElem?_setIfInBounds] using h.l11
  · simpa [upd, Array.getElem?_setIfInBounds] using h.l12
  · simpa [upd, Array.getElem?_setIfInBounds] using h.l13
  · simpa [upd, Array.getElem?_setIfInBounds] using h.d14
theorem RI.u11 {m : Bo} {A1 A2 A3 : Option Addr} {c1 c2 c3 bk B : Nat} {W1 : World} {L : Array Bool} {f : Nat → Value} {w : World} (h : RI m A1 A2 A3 c1 c2 c3 bk B W1 L f w) {v : Value} (hv : w.ownsRow B 3 1 v m.el.length (m.el.flatMap ntc)) : RI m A1 A2 A3 c1 c2 c3 bk B W1 (L.setIfInBounds 11 true) (upd f 18 v) w := by
  refine ⟨by simp [h.sz], h.bel, ?_, ?_, ?_, ?_, ?_, ?_, ?_, ?_, ?_, ?_, ?_, ?_, ?_, ?_, ?_⟩
  · simpa [upd, Array.getElem?_setIfInBounds] using h.l0
  · simpa [upd, Array.getElem?_setIfInBounds] using h.l1
  · simpa [upd, Array.getElem?_setIfInBounds] using h.l2
  · simpa [upd, Array.getElem?_setIfInBounds] using h.l3
  · simpa [upd, Array.getElem?_setIfInBounds] using h.l4
  · simpa [upd, Array.getElem?_setIfInBounds] using h.l5
  · simpa [upd, Array.getElem?_setIfInBounds] using h.l6
  · simpa [upd, Array.getElem?_setIfInBounds] using h.l7
  · simpa [upd, Array.getElem?_setIfInBounds] using h.l8
  · simpa [upd, Array.getElem?_setIfInBounds] using h.l9
  · simpa [upd, Array.getElem?_setIfInBounds] using h.l10
  · intro _; simpa [upd] using hv
  · simpa [upd, Array.getElem?_setIfInBounds] using h.l12
  · simpa [upd, Array.getElem?_setIfInBounds] using h.l13
  · simpa [upd, Array.getElem?_setIfInBounds] using h.d14
theorem RI.u12 {m : Bo} {A1 A2 A3 : Option Addr} {c1 c2 c3 bk B : Nat} {W1 : World} {L : Array Bool} {f : Nat → Value} {w : World} (h : RI m A1 A2 A3 c1 c2 c3 bk B W1 L f w) {v : Value} (hv : ∃ x y z, v = .agg #[x, y, z] ∧ Ow3 w B m x y z) : RI m A1 A2 A3 c1 c2 c3 bk B W1 (L.setIfInBounds 12 true) (upd f 19 v) w := by
  refine ⟨by simp [h.sz], h.bel, ?_, ?_, ?_, ?_, ?_, ?_, ?_, ?_, ?_, ?_, ?_, ?_, ?_, ?_, ?_⟩
  · simpa [upd, Array.getElem?_setIfInBounds] using h.l0
  · simpa [upd, Array.getElem?_setIfInBounds] using h.l1
  · simpa [upd, Array.getElem?_setIfInBounds] using h.l2
  · simpa [upd, Array.getElem?_setIfInBounds] using h.l3
  · simpa [upd, Array.getElem?_setIfInBounds] using h.l4
  · simpa [upd, Array.getElem?_setIfInBounds] using h.l5
  · simpa [upd, Array.getElem?_setIfInBounds] using h.l6
  · simpa [upd, Array.getElem?_setIfInBounds] using h.l7
  · simpa [upd, Array.getElem?_setIfInBounds] using h.l8
  · simpa [upd, Array.getElem?_setIfInBounds] using h.l9
  · simpa [upd, Array.getElem?_setIfInBounds] using h.l10
  · simpa [upd, Array.getElem?_setIfInBounds] using h.l11
  · intro _; simpa [upd] using hv
  · simpa [upd, Array.getElem?_setIfInBounds] using h.l13
  · simpa [upd, Array.getElem?_setIfInBounds] using h.d14
theorem RI.u13 {m : Bo} {A1 A2 A3 : Option Addr} {c1 c2 c3 bk B : Nat} {W1 : World} {L : Array Bool} {f : Nat → Value} {w : World} (h : RI m A1 A2 A3 c1 c2 c3 bk B W1 L f w) (h0 : L.getD 13 true = false) {N : Nat} {x y z : Value} (hv : BkN w B N x y z) : RI m A1 A2 A3 c1 c2 c3 bk B W1 (L.setIfInBounds 13 true) (upd f 5 (.pointer (some ⟨N, 0, none⟩))) w := by
  have hs := h.sz
  have h1 : L.getD 14 false = true → False := fun e => by
    have := h.d14 e
    simp [hs] at this h0
    rw [h0] at this
    cases this
  refine ⟨by simp [h.sz], h.bel, ?_, ?_, ?_, ?_, ?_, ?_, ?_, ?_, ?_, ?_, ?_, ?_, ?_, ?_, ?_⟩
  · simpa [upd, Array.getElem?_setIfInBounds] using h.l0
  · simpa [upd, Array.getElem?_setIfInBounds] using h.l1
  · simpa [upd, Array.getElem?_setIfInBounds] using h.l2
  · simpa [upd, Array.getElem?_setIfInBounds] using h.l3
  · simpa [upd, Array.getElem?_setIfInBounds] using h.l4
  · simpa [upd, Array.getElem?_setIfInBounds] using h.l5
  · simpa [upd, Array.getElem?_setIfInBounds] using h.l6
  · simpa [upd, Array.getElem?_setIfInBounds] using h.l7
  · simpa [upd, Array.getElem?_setIfInBounds] using h.l8
  · simpa [upd, Array.getElem?_setIfInBounds] using h.l9
  · simpa [upd, Array.getElem?_setIfInBounds] using h.l10
  · simpa [upd, Array.getElem?_setIfInBounds] using h.l11
  · simpa [upd, Array.getElem?_setIfInBounds] using h.l12
  · intro _
    exact ⟨N, x, y, z, by simp [upd], hv, fun e => (h1 (by simpa [Array.getElem?_setIfInBounds] using e)).elim⟩
  · intro _
    simp [hs]
theorem BkN.set {w : World} {B N : Nat} {x y z u v t : Value} (h : BkN w B N x y z) : BkN (((w.setCell ⟨N, 0, none⟩ u).setCell ⟨N, 1, none⟩ v).setCell ⟨N, 2, none⟩ t) B N u v t := by
  obtain ⟨h1, h2, h3, h4, h5, h6, h7, h8, h9⟩ := h
  exact ⟨h1, by simpa using h2, h3.set.set.set, by simp [go_sem, h4], by simp [go_sem, h5], by simp [go_sem, h6], by simp [go_sem, h7], by simp [go_sem, h8], by simp [go_sem, h9]⟩

theorem RI.u14 {m : Bo} {A1 A2 A3 : Option Addr} {c1 c2 c3 bk B : Nat} {W1 : World} {L : Array Bool} {f : Nat → Value} {w : World} (h : RI m A1 A2 A3 c1 c2 c3 bk B W1 L f w) (h13 : L.getD 13 false = true) (h12 : L.getD 12 false = true) {N : Nat} {u v t : Value} (hN : f 5 = .pointer (some ⟨N, 0, none⟩)) (hf : f 19 = .agg #[u, v, t]) : RI m A1 A2 A3 c1 c2 c3 bk B W1 (L.setIfInBounds 14 true) f (((w.setCell ⟨N, 0, none⟩ u).setCell ⟨N, 1, none⟩ v).setCell ⟨N, 2, none⟩ t) := by
  have hs := h.sz
  obtain ⟨N', x, y, z, e1, hk, _⟩ := h.l13 h13
  rw [hN] at e1
  simp only [Value.pointer.injEq, Option.some.injEq, Addr.mk.injEq, and_true] at e1
  subst e1
  have own : ∀ {e : TypeId} {size n : Nat} {q : Value} {xs : List Value}, w.ownsRow B e size q n xs → e ≠ 104 → (((w.setCell ⟨N, 0, none⟩ u).setCell ⟨N, 1, none⟩ v).setCell ⟨N, 2, none⟩ t).ownsRow B e size q n xs := fun o ne => own_setY (own_setY (own_setY o hk.ty ne) hk.ty.set ne) hk.ty.set.set ne
  have own3 : ∀ {x y z : Value}, Ow3 w B m x y z → Ow3 (((w.setCell ⟨N, 0, none⟩ u).setCell ⟨N, 1, none⟩ v).setCell ⟨N, 2, none⟩ t) B m x y z := fun o => ⟨own o.1 (by decide), own o.2.1 (by decide), own o.2.2 (by decide)⟩
  refine ⟨by simp [h.sz], ?_, ?_, ?_, ?_, ?_, ?_, ?_, ?_, ?_, ?_, ?_, ?_, ?_, ?_, ?_, ?_⟩
  · exact ((h.bel.setCell hk.hN _).setCell hk.hN _).setCell hk.hN _
  · intro hL
    obtain ⟨g, h1, h2⟩ := h.l0 (by simpa [Array.getElem?_setIfInBounds] using hL)
    exact ⟨g, h1, own h2 (by decide)⟩
  · exact fun hL => h.l1 (by simpa [Array.getElem?_setIfInBounds] using hL)
  · exact fun hL => h.l2 (by simpa [Array.getElem?_setIfInBounds] using hL)
  · exact fun hL => own (h.l3 (by simpa [Array.getElem?_setIfInBounds] using hL)) (by decide)
  · intro hL
    obtain ⟨g, h1, h2⟩ := h.l4 (by simpa [Array.getElem?_setIfInBounds] using hL)
    exact ⟨g, h1, own h2 (by decide)⟩
  · exact fun hL => h.l5 (by simpa [Array.getElem?_setIfInBounds] using hL)
  · exact fun hL => h.l6 (by simpa [Array.getElem?_setIfInBounds] using hL)
  · exact fun hL => own (h.l7 (by simpa [Array.getElem?_setIfInBounds] using hL)) (by decide)
  · intro hL
    obtain ⟨g, h1, h2⟩ := h.l8 (by simpa [Array.getElem?_setIfInBounds] using hL)
    exact ⟨g, h1, own h2 (by decide)⟩
  · exact fun hL => h.l9 (by simpa [Array.getElem?_setIfInBounds] using hL)
  · exact fun hL => h.l10 (by simpa [Array.getElem?_setIfInBounds] using hL)
  · exact fun hL => own (h.l11 (by simpa [Array.getElem?_setIfInBounds] using hL)) (by decide)
  · intro hL
    obtain ⟨x, y, z, h1, h2⟩ := h.l12 (by simpa [Array.getElem?_setIfInBounds] using hL)
    exact ⟨x, y, z, h1, own3 h2⟩
  · intro _
    obtain ⟨x', y', z', e2, h2⟩ := h.l12 h12
    rw [hf] at e2
    simp only [Value.agg.injEq, Array.mk.injEq, List.cons.injEq, and_true] at e2
    obtain ⟨rfl, rfl, rfl⟩ := e2
    exact ⟨N, u, v, t, hN, hk.set, fun _ => own3 h2⟩
  · intro _
    simpa [Array.getElem?_setIfInBounds] using h13
end Go.Proofs.Ythkollhebabhbaa

/-!
  The book that Apply makes: how its memory goes on.
-/
namespace Go.Proofs.Ythkollhebabhbaa
open Go.RowKit
set_option linter.unusedSimpArgs false
set_option linter.unusedVariables false

theorem Typed.heap {w w' : World} {N : Nat} {e : TypeId} (h : Typed w N e) (e1 : w'.heap[N]? = w.heap[N]?) : Typed w' N e := by
  obtain ⟨cs, fr, h⟩ := h
  exact ⟨cs, fr, e1.trans h⟩
theorem typed_ne {w : World} {N B size n : Nat} {e T : TypeId} {v : Value} {xs : List Value} (h : Typed w N T) (o : w.ownsRow B e size v n xs) (ne : e ≠ T) : some N ≠ v.ownBlock := by
  rcases o.2 with ⟨rfl, _⟩ | ⟨g, cap, cur, rfl, _, hh, _⟩
  · simp [Value.ownBlock]
  · intro e1
    simp only [Value.ownBlock, Option.some.injEq] at e1
    subst e1
    obtain ⟨cs, fr, h⟩ := h
    rw [hh] at h
    simp only [Option.some.injEq, Obj.cells.injEq] at h
    exact ne h.2.1
theorem BkN.heap {w w' : World} {B N : Nat} {x y z : Value} (h : BkN w B N x y z) (hs : w.heap.size ≤ w'.heap.size) (e : w'.heap[N]? = w.heap[N]?) : BkN w' B N x y z := by
  obtain ⟨h1, h2, h3, h4, h5, h6, h7, h8, h9⟩ := h
  have hc : ∀ i, w'.cell? ⟨N, i, none⟩ = w.cell? ⟨N, i, none⟩ := fun i => World.cell?_of_block (a := ⟨N, i, none⟩) e
  have hf : ∀ i, w'.frozen? ⟨N, i, none⟩ = w.frozen? ⟨N, i, none⟩ := fun i => World.frozen?_of_block (a := ⟨N, i, none⟩) e
  exact ⟨h1, by omega, h3.heap e, (hf 0).trans h4, (hf 1).trans h5, (hf 2).trans h6, (hc 0).trans h7, (hc 1).trans h8, (hc 2).trans h9⟩
theorem BkN.s0 {w : World} {B N : Nat} {x y z u : Value} (h : BkN w B N x y z) : BkN (w.setCell ⟨N, 0, none⟩ u) B N u y z := by
  obtain ⟨h1, h2, h3, h4, h5, h6, h7, h8, h9⟩ := h
  exact ⟨h1, by simpa using h2, h3.set, by simp [go_sem, h4], by simp [go_sem, h5], by simp [go_sem, h6], by simp [go_sem, h7], by simp [go_sem, h8], by simp [go_sem, h9]⟩
theorem BkN.s1 {w : World} {B N : Nat} {x y z u : Value} (h : BkN w B N x y z) : BkN (w.setCell ⟨N, 1, none⟩ u) B N x u z := by
  obtain ⟨h1, h2, h3, h4, h5, h6, h7, h8, h9⟩ := h
  exact ⟨h1, by simpa using h2, h3.set, by simp [go_sem, h4], by simp [go_sem, h5], by simp [go_sem, h6], by simp [go_sem, h7], by simp [go_sem, h8], by simp [go_sem, h9]⟩
theorem BkN.s2 {w : World} {B N : Nat} {x y z u : Value} (h : BkN w B N x y z) : BkN (w.setCell ⟨N, 2, none⟩ u) B N x y u := by
  obtain ⟨h1, h2, h3, h4, h5, h6, h7, h8, h9⟩ := h
  exact ⟨h1, by simpa using h2, h3.set, by simp [go_sem, h4], by simp [go_sem, h5], by simp [go_sem, h6], by simp [go_sem, h7], by simp [go_sem, h8], by simp [go_sem, h9]⟩
theorem BkN.other {w : World} {B N M i : Nat} {x y z u : Value} (h : BkN w B N x y z) (hne : N ≠ M) : BkN (w.setCell ⟨M, i, none⟩ u) B N x y z :=
  h.heap (by simp) (Below.heap_setCell w ⟨M, i, none⟩ u N hne)
/-- The book in the making, behind a world W1. -/
structure ApS (W1 w : World) (N : Nat) (m : Bo) (x y z : Value) : Prop where
  bk : BkN w W1.heap.size N x y z
  o1 : w.ownsRow W1.heap.size 118 6 x m.al.length (m.al.flatMap Ac.cells)
  o2 : w.ownsRow W1.heap.size 121 8 y m.sl.length (m.sl.flatMap Sb.cells)
  o3 : w.ownsRow W1.heap.size 3 1 z m.el.length (m.el.flatMap ntc)
  bl : Below W1.heap.size W1 w
section
variable {W1 w w' : World} {N : Nat} {m : Bo} {x y z : Value}
theorem ApS.below (h : ApS W1 w N m x y z) (hb : Below w.heap.size w w') : ApS W1 w' N m x y z :=
  ⟨h.bk.below hb, own_below h.o1 hb, own_below h.o2 hb, own_below h.o3 hb, h.bl.trans (hb.mono h.bl.size)⟩
theorem ApS.app1 (h : ApS W1 w N m x y z) {x' : Value} {a : Ac} (ho : w'.ownsRow W1.heap.size 118 6 x' (m.al.length + 1) (m.al.flatMap Ac.cells ++ a.cells)) (hg : w.grownBy w' x.ownBlock) : ApS W1 (w'.setCell ⟨N, 0, none⟩ x') N { m with al := m.al ++ [a] } x' y z := by
  have hk : BkN w' W1.heap.size N x y z := h.bk.heap hg.size (hg.block N h.bk.lt (typed_ne h.bk.ty h.o1 (by decide)))
  refine ⟨hk.s0, ?_, own_setY (own_grown h.o2 h.o1 (by decide) hg) hk.ty (by decide), own_setY (own_grown h.o3 h.o1 (by decide) hg) hk.ty (by decide), (h.bl.grown hg h.bl.size fun k e => (World.ownsRow.lt h.o1 k e).1).setCell h.bk.hN _⟩
  have := own_setY (N := N) (i := 0) (x := x') ho hk.ty (by decide)
  simpa using this
theorem ApS.app2 (h : ApS W1 w N m x y z) {y' : Value} {a : Sb} (ho : w'.ownsRow W1.heap.size 121 8 y' (m.sl.length + 1) (m.sl.flatMap Sb.cells ++ a.cells)) (hg : w.grownBy w' y.ownBlock) : ApS W1 (w'.setCell ⟨N, 1, none⟩ y') N { m with sl := m.sl ++ [a] } x y' z := by
  have hk : BkN w' W1.heap.size N x y z := h.bk.heap hg.size (hg.block N h.bk.lt (typed_ne h.bk.ty h.o2 (by decide)))
  refine ⟨hk.s1, own_setY (own_grown h.o1 h.o2 (by decide) hg) hk.ty (by decide), ?_, own_setY (own_grown h.o3 h.o2 (by decide) hg) hk.ty (by decide), (h.bl.grown hg h.bl.size fun k e => (World.ownsRow.lt h.o2 k e).1).setCell h.bk.hN _⟩
  have := own_setY (N := N) (i := 1) (x := y') ho hk.ty (by decide)
  simpa using this
theorem ApS.app3 (h : ApS W1 w N m x y z) {z' : Value} {a : Int} (ho : w'.ownsRow W1.heap.size 3 1 z' (m.el.length + 1) (m.el.flatMap ntc ++ ntc a)) (hg : w.grownBy w' z.ownBlock) : ApS W1 (w'.setCell ⟨N, 2, none⟩ z') N { m with el := m.el ++ [a] } x y z' := by
  have hk : BkN w' W1.heap.size N x y z := h.bk.heap hg.size (hg.block N h.bk.lt (typed_ne h.bk.ty h.o3 (by decide)))
  refine ⟨hk.s2, own_setY (own_grown h.o1 h.o3 (by decide) hg) hk.ty (by decide), own_setY (own_grown h.o2 h.o3 (by decide) hg) hk.ty (by decide), ?_, (h.bl.grown hg h.bl.size fun k e => (World.ownsRow.lt h.o3 k e).1).setCell h.bk.hN _⟩
  have := own_setY (N := N) (i := 2) (x := z') ho hk.ty (by decide)
  simpa using this
end
theorem flat_set (xs : List Ac) (k : Nat) (a : Ac) (h : xs[k]? = some a) : (xs.flatMap Ac.cells).set (k * 6 + 4) (.bool true) = (xs.set k { a with closed := true }).flatMap Ac.cells := by
  induction xs generalizing k with
  | nil => simp at h
  | cons x xs ih =>
    cases k with
    | zero =>
      simp only [List.getElem?_cons_zero, Option.some.injEq] at h
      subst h
      rfl
    | succ k =>
      simp only [List.getElem?_cons_succ] at h
      rw [List.flatMap_cons, List.set_cons_succ, List.flatMap_cons, ← ih k h, List.set_append]
      rw [if_neg (by simp [Ac.cells]; omega)]
      congr 2
      simp [Ac.cells]
      omega
theorem set8_app (p q : List Value) (n k : Nat) (hp : p.length = n) (v : Value) : (p ++ q).set (n + k) v = p ++ q.set k v := by
  subst hp
  rw [List.set_append, if_neg (by omega)]
  congr 2
  omega
theorem flat_set8 (xs : List Sb) (k : Nat) (a : Sb) (h : k < xs.length) : ((((((((xs.flatMap Sb.cells).set (k * 8) (.int .i64 a.id)).set (k * 8 + 1) (.int .i64 a.acc)).set (k * 8 + 2) (.int .i64 a.since)).set (k * 8 + 3) (.string a.plan)).set (k * 8 + 4) (.slice a.na a.nn a.nc)).set (k * 8 + 5) (.slice a.pa a.pn a.pc)).set (k * 8 + 6) (.bool a.su)).set (k * 8 + 7) (.bool a.fa) = (xs.set k a).flatMap Sb.cells := by
  induction xs generalizing k with
  | nil => simp at h
  | cons x xs ih =>
    cases k with
    | zero => rfl
    | succ k =>
      have h' : k < xs.length := by simpa using h
      have e : ∀ i, (k + 1) * 8 + i = 8 + (k * 8 + i) := fun i => by omega
      have e0 : (k + 1) * 8 = 8 + k * 8 := by omega
      have hl : x.cells.length = 8 := rfl
      rw [List.flatMap_cons, List.set_cons_succ, List.flatMap_cons, ← ih k h', e 1, e 2, e 3, e 4, e 5, e 6, e 7, e0]
      simp only [set8_app _ _ _ _ hl]
section
variable {W1 w w' : World} {N g n c : Nat} {m : Bo} {x y z : Value}
theorem own_blk {w : World} {B size n m g c : Nat} {e : TypeId} {xs : List Value} (h : w.ownsRow B e size (.slice (some ⟨g, 0, none⟩) n c) m xs) : B ≤ g ∧ g < w.heap.size := World.ownsRow.lt h g rfl
theorem own_typed {w : World} {B size n m g c : Nat} {e : TypeId} {xs : List Value} (h : w.ownsRow B e size (.slice (some ⟨g, 0, none⟩) n c) m xs) : Typed w g e := by
  rcases h.2 with ⟨h', _⟩ | ⟨g', cap', cur, h', _, hh, _⟩
  · cases h'
  · simp only [Value.slice.injEq, Option.some.injEq, Addr.mk.injEq, and_true, true_and] at h'
    obtain ⟨rfl, _⟩ := h'
    exact ⟨_, _, hh⟩
theorem ApS.set1 (h : ApS W1 w N m (.slice (some ⟨g, 0, none⟩) m.al.length c) y z) {k : Nat} {a : Ac} (hk : m.al[k]? = some a) : ApS W1 (w.setCell ⟨g, k * 6 + 4, none⟩ (.bool true)) N { m with al := m.al.set k { a with closed := true } } (.slice (some ⟨g, 0, none⟩) m.al.length c) y z := by
  have hne := typed_ne h.bk.ty h.o1 (by decide)
  simp only [Value.ownBlock, ne_eq, Option.some.injEq] at hne
  have hb := own_blk h.o1
  have hty := own_typed h.o1
  refine ⟨h.bk.other hne, ?_, own_setY h.o2 hty (by decide), own_setY h.o3 hty (by decide), h.bl.setCell hb.1 _⟩
  have := (h.o1.stored (k * 6 + 4) (.bool true)).1
  rw [flat_set _ _ _ hk] at this
  simpa using this
theorem ApS.set8 (h : ApS W1 w N m x (.slice (some ⟨g, 0, none⟩) m.sl.length c) z) {k : Nat} (a : Sb) (hk : k < m.sl.length) : ApS W1 ((((((((w.setCell ⟨g, k * 8, none⟩ (.int .i64 a.id)).setCell ⟨g, k * 8 + 1, none⟩ (.int .i64 a.acc)).setCell ⟨g, k * 8 + 2, none⟩ (.int .i64 a.since)).setCell ⟨g, k * 8 + 3, none⟩ (.string a.plan)).setCell ⟨g, k * 8 + 4, none⟩ (.slice a.na a.nn a.nc)).setCell ⟨g, k * 8 + 5, none⟩ (.slice a.pa a.pn a.pc)).setCell ⟨g, k * 8 + 6, none⟩ (.bool a.su)).setCell ⟨g, k * 8 + 7, none⟩ (.bool a.fa)) N { m with sl := m.sl.set k a } x (.slice (some ⟨g, 0, none⟩) m.sl.length c) z := by
  have hne := typed_ne h.bk.ty h.o2 (by decide)
  simp only [Value.ownBlock, ne_eq, Option.some.injEq] at hne
  have hb := own_blk h.o2
  have hty := own_typed h.o2
  have t1 := hty.set (M := g) (i := k * 8) (x := .int .i64 a.id)
  have t2 := t1.set (M := g) (i := k * 8 + 1) (x := .int .i64 a.acc)
  have t3 := t2.set (M := g) (i := k * 8 + 2) (x := .int .i64 a.since)
  have t4 := t3.set (M := g) (i := k * 8 + 3) (x := .string a.plan)
  have t5 := t4.set (M := g) (i := k * 8 + 4) (x := .slice a.na a.nn a.nc)
  have t6 := t5.set (M := g) (i := k * 8 + 5) (x := .slice a.pa a.pn a.pc)
  have t7 := t6.set (M := g) (i := k * 8 + 6) (x := .bool a.su)
  refine ⟨((((((((h.bk.other hne).other hne).other hne).other hne).other hne).other hne).other hne).other hne), ?_, ?_, ?_, ((((((((h.bl.setCell hb.1 _).setCell hb.1 _).setCell hb.1 _).setCell hb.1 _).setCell hb.1 _).setCell hb.1 _).setCell hb.1 _).setCell hb.1 _)⟩
  · exact own_setY (own_setY (own_setY (own_setY (own_setY (own_setY (own_setY (own_setY h.o1 hty (by decide)) t1 (by decide)) t2 (by decide)) t3 (by decide)) t4 (by decide)) t5 (by decide)) t6 (by decide)) t7 (by decide)
  · have := ((((((((h.o2.stored (k * 8) (.int .i64 a.id)).1.stored (k * 8 + 1) (.int .i64 a.acc)).1.stored (k * 8 + 2) (.int .i64 a.since)).1.stored (k * 8 + 3) (.string a.plan)).1.stored (k * 8 + 4) (.slice a.na a.nn a.nc)).1.stored (k * 8 + 5) (.slice a.pa a.pn a.pc)).1.stored (k * 8 + 6) (.bool a.su)).1.stored (k * 8 + 7) (.bool a.fa)).1
    rw [flat_set8 _ _ _ hk] at this
    simpa using this
  · exact own_setY (own_setY (own_setY (own_setY (own_setY (own_setY (own_setY (own_setY h.o3 hty (by decide)) t1 (by decide)) t2 (by decide)) t3 (by decide)) t4 (by decide)) t5 (by decide)) t6 (by decide)) t7 (by decide)
theorem ApS.low (h : ApS W1 w N m x y z) {R i : Nat} {u : Value} (hR : R < W1.heap.size) : BkN (w.setCell ⟨R, i, none⟩ u) W1.heap.size N x y z ∧ (w.setCell ⟨R, i, none⟩ u).ownsRow W1.heap.size 118 6 x m.al.length (m.al.flatMap Ac.cells) ∧ (w.setCell ⟨R, i, none⟩ u).ownsRow W1.heap.size 121 8 y m.sl.length (m.sl.flatMap Sb.cells) ∧ (w.setCell ⟨R, i, none⟩ u).ownsRow W1.heap.size 3 1 z m.el.length (m.el.flatMap ntc) :=
  ⟨h.bk.other (by have := h.bk.hN; omega), own_low h.o1 hR, own_low h.o2 hR, own_low h.o3 hR⟩
end
/-- From the row of a list to the row's first block. -/
theorem own_some {w : World} {B size n : Nat} {e : TypeId} {v : Value} {xs : List Value} (h : w.ownsRow B e size v n xs) (hn : 0 < n) : ∃ g c, v = .slice (some ⟨g, 0, none⟩) n c ∧ n ≤ c ∧ c ≤ maxLen := by
  rcases h.2 with ⟨rfl, h0⟩ | ⟨g, cap, cur, rfl, _, hh, hc, hm, _⟩
  · omega
  · exact ⟨g, cap, rfl, hc, hm⟩
theorem AgL.grown {lo : Nat} {a b c : World} {row : Option Nat} (h : AgL lo a b) (hg : b.grownBy c row) (hr : ∀ k, row = some k → k < lo) : AgL lo a c :=
  ⟨Nat.le_trans h.s hg.size, fun k hk hl => (hg.block k (Nat.lt_of_lt_of_le hl h.s) (fun e => by have := hr k e.symm; omega)).trans (h.h k hk hl)⟩
theorem Sb.Ok.mono {w : World} {B B' : Nat} {x : Sb} (h : x.Ok w B) (hB : B ≤ B') : x.Ok w B' := ⟨h.ns, h.ps, Nat.le_trans h.nb hB, Nat.le_trans h.pb hB⟩
theorem ix_in {i n : Int} {ids : List Int} (h : (i < 0 ∧ ¬ n ∈ ids) ∨ (n ∈ ids ∧ ∃ k : Nat, i = (k : Int) ∧ k < ids.length)) (hm : n ∈ ids) : ∃ k : Nat, i = (k : Int) ∧ k < ids.length := by
  rcases h with ⟨_, h⟩ | ⟨_, h⟩
  · exact absurd hm h
  · exact h
/-- The book in every world that is the same from block lo on. -/
def BoF (lo : Nat) (w : World) (B : Nat) (A1 A2 A3 : Option Addr) (c1 c2 c3 : Nat) (m : Bo) : Prop := ∀ W', AgL lo w W' → BoIn W' B A1 A2 A3 c1 c2 c3 m
theorem BoF.ag {lo : Nat} {w w' : World} {B : Nat} {A1 A2 A3 : Option Addr} {c1 c2 c3 : Nat} {m : Bo} (h : BoF lo w B A1 A2 A3 c1 c2 c3 m) (ag : AgL lo w w') : BoF lo w' B A1 A2 A3 c1 c2 c3 m := fun W' a => h W' (ag.trans a)
theorem BoF.bo {lo : Nat} {w w' : World} {B : Nat} {A1 A2 A3 : Option Addr} {c1 c2 c3 : Nat} {m : Bo} (h : BoF lo w B A1 A2 A3 c1 c2 c3 m) (hb : Below w.heap.size w w') : BoIn w' B A1 A2 A3 c1 c2 c3 m := h w' (.of_below hb)
theorem keepL {W X : World} {b i : Nat} {v : Value} (hb : Below W.heap.size W X) (hlt : b < W.heap.size) (h : W.cell? ⟨b, i, none⟩ = some v) : X.cell? ⟨b, i, none⟩ = some v := (hb.cell (p := ⟨b, i, none⟩) hlt).trans h
theorem keepS {X : World} {b i g j : Nat} {u v : Value} (h : X.cell? ⟨b, i, none⟩ = some v) (hne : b ≠ g) : (X.setCell ⟨g, j, none⟩ u).cell? ⟨b, i, none⟩ = some v :=
  (World.cell?_of_block (w := X) (a := ⟨b, i, none⟩) (Below.heap_setCell X ⟨g, j, none⟩ u b hne)).trans h
theorem own_ac4 {w : World} {B g d k : Nat} {al : List Ac} {a : Ac} (h : w.ownsRow B 118 6 (.slice (some ⟨g, 0, none⟩) al.length d) al.length (al.flatMap Ac.cells)) (hk : al[k]? = some a) : g < w.heap.size ∧ w.cell? ⟨g, k * 6 + 4, none⟩ = some (.bool a.closed) ∧ ∀ j, w.frozen? ⟨g, j, none⟩ = false := by
  obtain ⟨A, c, e, hr, -⟩ := own_rws (f := Ac.cells) (n := 6) (fun _ => rfl) h
  simp only [Value.slice.injEq, true_and] at e
  obtain ⟨rfl, rfl⟩ := e
  obtain ⟨b, o, e, -, -, -, -, -, x4, -⟩ := ac_cells hr hk
  simp only [Option.some.injEq, Addr.mk.injEq, and_true] at e
  obtain ⟨rfl, rfl⟩ := e
  exact ⟨(own_blk h).2, by simpa using x4, fun j => h.frozenAt j⟩
theorem own_sb8 {w : World} {B g d k : Nat} {sl : List Sb} {x : Sb} (h : w.ownsRow B 121 8 (.slice (some ⟨g, 0, none⟩) sl.length d) sl.length (sl.flatMap Sb.cells)) (hk : sl[k]? = some x) : g < w.heap.size ∧ (∀ j, w.frozen? ⟨g, j, none⟩ = false) ∧ w.cell? ⟨g, k * 8, none⟩ = some (.int .i64 x.id) ∧ w.cell? ⟨g, k * 8 + 1, none⟩ = some (.int .i64 x.acc) ∧ w.cell? ⟨g, k * 8 + 2, none⟩ = some (.int .i64 x.since) ∧ w.cell? ⟨g, k * 8 + 3, none⟩ = some (.string x.plan) ∧ w.cell? ⟨g, k * 8 + 4, none⟩ = some (.slice x.na x.nn x.nc) ∧ w.cell? ⟨g, k * 8 + 5, none⟩ = some (.slice x.pa x.pn x.pc) ∧ w.cell? ⟨g, k * 8 + 6, none⟩ = some (.bool x.su) ∧ w.cell? ⟨g, k * 8 + 7, none⟩ = some (.bool x.fa) := by
  obtain ⟨A, c, e, hr, -⟩ := own_rws (f := Sb.cells) (n := 8) (fun _ => rfl) h
  simp only [Value.slice.injEq, true_and] at e
  obtain ⟨rfl, rfl⟩ := e
  obtain ⟨b, o, e, -, h8⟩ := sb_cells hr hk
  simp only [Option.some.injEq, Addr.mk.injEq, and_true] at e
  obtain ⟨rfl, rfl⟩ := e
  simp only [Nat.zero_add] at h8
  exact ⟨(own_blk h).2, fun j => h.frozenAt j, h8⟩
def ApR (lo B : Nat) (w : World) (e : Ending) (w' : World) : Prop := (∃ (A1 A2 A3 : Option Addr) (c1 c2 c3 : Nat) (m' : Bo), e = .returned (.agg #[.slice A1 m'.al.length c1, .slice A2 m'.sl.length c2, .slice A3 m'.el.length c3]) ∧ BoF lo w' B A1 A2 A3 c1 c2 c3 m') ∧ Below w.heap.size w w'
/-- The end: the book copied out to block R. -/
theorem ApS.fin {w W1 w3 : World} {N R B lo : Nat} {m' : Bo} {x y z : Value} (h : ApS W1 w3 N m' x y z) (hw : Below w.heap.size w W1) (hlo : lo ≤ w.heap.size) (hR : R < W1.heap.size) (hR' : w.heap.size ≤ R) (u1 u2 u3 : Value)
    (ok : ∀ s ∈ m'.sl, ∀ W', AgL lo w W' → AgL W1.heap.size w3 W' → s.Ok W' B) (b1 : m'.al.length ≤ B) (b2 : m'.sl.length ≤ B) (b3 : m'.el.length ≤ B) {e : Ending} (he : e = .returned (.agg #[x, y, z])) : ApR lo B w e (((w3.setCell ⟨R, 0, none⟩ u1).setCell ⟨R, 1, none⟩ u2).setCell ⟨R, 2, none⟩ u3) := by
  have hb : Below w.heap.size w (((w3.setCell ⟨R, 0, none⟩ u1).setCell ⟨R, 1, none⟩ u2).setCell ⟨R, 2, none⟩ u3) := (((hw.trans (h.bl.mono hw.size)).setCell hR' _).setCell hR' _).setCell hR' _
  have ha : AgL W1.heap.size w3 (((w3.setCell ⟨R, 0, none⟩ u1).setCell ⟨R, 1, none⟩ u2).setCell ⟨R, 2, none⟩ u3) := (((AgL.refl _ _).set hR).set hR).set hR
  have hlo1 : lo ≤ W1.heap.size := Nat.le_trans hlo hw.size
  obtain ⟨A1, d1, e1, n1⟩ := own_rws (f := Ac.cells) (n := 6) (fun _ => rfl) h.o1
  obtain ⟨A2, d2, e2, n2⟩ := own_rws (f := Sb.cells) (n := 8) (fun _ => rfl) h.o2
  obtain ⟨A3, d3, e3, n3⟩ := own_rws (f := ntc) (n := 1) (fun _ => rfl) h.o3
  refine ⟨⟨A1, A2, A3, d1, d2, d3, m', by rw [he, e1, e2, e3], fun W' ag => ?_⟩, hb⟩
  have ag1 : AgL W1.heap.size w3 W' := ha.trans (ag.mono hlo1)
  obtain ⟨A1', d1', e1', r1, -⟩ := own_rws (f := Ac.cells) (n := 6) (fun _ => rfl) (own_ag ag1 h.o1 (Nat.le_refl _))
  obtain ⟨A2', d2', e2', r2, -⟩ := own_rws (f := Sb.cells) (n := 8) (fun _ => rfl) (own_ag ag1 h.o2 (Nat.le_refl _))
  obtain ⟨A3', d3', e3', r3, -⟩ := own_rws (f := ntc) (n := 1) (fun _ => rfl) (own_ag ag1 h.o3 (Nat.le_refl _))
  have i1 := e1'.symm.trans e1
  have i2 := e2'.symm.trans e2
  have i3 := e3'.symm.trans e3
  simp only [Value.slice.injEq, true_and] at i1 i2 i3
  obtain ⟨rfl, rfl⟩ := i1
  obtain ⟨rfl, rfl⟩ := i2
  obtain ⟨rfl, rfl⟩ := i3
  exact ⟨r1, r2, r3, fun s hs => ok s hs W' ((AgL.of_below hb).trans ag) ag1, n1.2.1, n2.2.1, n3.2.1, b1, b2, b3⟩
end Go.Proofs.Ythkollhebabhbaa

/-!
  The invariant of Apply's region that changes a row of the subscriptions.
-/
namespace Go.Proofs.Ythkollhebabhbaa
open Go.RowKit
set_option linter.unusedSimpArgs false
set_option linter.unusedVariables false

def TS (S : List Nat) (t : Array Value) (f : Nat → Value) : Array Value := t.mapIdx fun i v => if S.contains i then f i else v
section
variable {S : List Nat}
theorem TS_old (t : Array Value) (f : Nat → Value) (k : Nat) (hk : S.contains k = false) : (TS S t f)[k]? = t[k]? := by
  simp only [TS, Array.getElem?_mapIdx, hk, Bool.false_eq_true, if_false]
  cases t[k]? <;> rfl
theorem TS_get (t : Array Value) (f : Nat → Value) (k : Nat) (hk : S.contains k = true) (hs : k < t.size) : (TS S t f)[k]? = some (f k) := by
  simp only [TS, Array.getElem?_mapIdx, hk, if_true]
  rw [Array.getElem?_eq_getElem hs]
  rfl
theorem TS_size (t : Array Value) (f : Nat → Value) : (TS S t f).size = t.size := by simp [TS]
theorem TS_set (t : Array Value) (f : Nat → Value) (k : Nat) (v : Value) (hk : S.contains k = true) : (TS S t f).setIfInBounds k v = TS S t (upd f k v) := by
  apply Array.ext_getElem?
  intro j
  rw [Array.getElem?_setIfInBounds]
  by_cases h : k = j
  · subst h
    simp only [if_true, TS_size]
    by_cases hs : k < t.size
    · rw [if_pos hs, TS_get _ _ _ hk hs]
      simp [upd]
    · rw [if_neg hs, Array.getElem?_eq_none (by rw [TS_size]; omega)]
  · rw [if_neg h]
    simp only [TS, Array.getElem?_mapIdx, upd, if_neg (Ne.symm h)]
theorem TS_self (t : Array Value) : t = TS S t fun i => t.getD i undef := by
  apply Array.ext_getElem?
  intro j
  simp only [TS, Array.getElem?_mapIdx]
  by_cases hs : j < t.size
  · rw [Array.getElem?_eq_getElem hs]
    simp [hs]
  · rw [Array.getElem?_eq_none (by omega)]
    rfl
theorem region_genS {id : Nat} {P : Program} {ops : Array Oper} {ts : Array Value} {ds : List Deferred} {Q : Exit → Act → World → Prop} {w : World} (n : Nat) (Post : (Nat → Value) → World → Prop) (hpost : ∀ f w', Post f w' → Q .normal ⟨TS S ts f, ds⟩ w') (hsz : n < ts.size)
    (h : ∀ T Q', (∀ k, S.contains k = false → T[k]? = ts[k]?) → n < T.size → (∀ f w', Post f w' → Q' .normal ⟨TS S T f, ds⟩ w') → (Code.region id ops true).wp P Q' ⟨T, ds⟩ w) : (Code.region id ops true).wp P Q ⟨ts, ds⟩ w := h ts Q (fun _ _ => rfl) hsz hpost
end
def EvV (a k c s : Int) (nu na : ByteArray) (v : Int) : Value := .agg #[.int .i64 a, .int .i64 k, .int .i64 c, .int .i64 s, .string nu, .string na, .int .i64 v]
/-- The changed row, in the world w. -/
def ChV (lo B : Nat) (w0 wd w : World) (y : Sb) : Prop := ∃ w5, AgL wd.heap.size w5 w ∧ w5.heap.size ≤ w.heap.size ∧ ∀ W', AgL lo w0 W' → AgL wd.heap.size w5 W' → y.Ok W' B

structure RJ (lo B N g d k : Nat) (m : Bo) (x : Sb) (e v1 v3 : Value) (w0 W1 wd : World) (L : Array Bool) (f : Nat → Value) (w : World) : Prop where
  sz : L.size = 12
  bel : L.getD 11 false = false → Below wd.heap.size wd w
  l0 : L.getD 0 false = true → f 26 = .pointer (some ⟨N, 1, none⟩)
  l1 : L.getD 1 false = true → f 27 = .slice (some ⟨g, 0, none⟩) m.sl.length d
  l2 : L.getD 2 false = true → f 28 = .int .i64 (k : Int)
  l3 : L.getD 3 false = true → f 29 = .pointer (some ⟨N, 1, none⟩)
  l4 : L.getD 4 false = true → f 30 = .slice (some ⟨g, 0, none⟩) m.sl.length d
  l5 : L.getD 5 false = true → f 31 = .int .i64 (k : Int)
  l6 : L.getD 6 false = true → f 32 = .pointer (some ⟨g, k * 8, none⟩)
  l7 : L.getD 7 false = true → f 33 = SbV x
  l8 : L.getD 8 false = true → f 34 = e
  l9 : L.getD 9 false = true → ∃ y : Sb, f 35 = SbV y ∧ ChV lo B w0 wd w y
  l10 : L.getD 10 false = true → f 36 = .pointer (some ⟨g, k * 8, none⟩)
  l11 : L.getD 11 false = true → ∃ y : Sb, ChV lo B w0 wd w y ∧ ApS W1 w N { m with sl := m.sl.set k y } v1 (.slice (some ⟨g, 0, none⟩) m.sl.length d) v3
  da : L.getD 11 false = true → ∀ i, i < 12 → L.getD i false = true
theorem RJ.start {lo B N g d k : Nat} {m : Bo} {x : Sb} {e v1 v3 : Value} {w0 W1 wd : World} {w : World} (hb : Below wd.heap.size wd w) (f : Nat → Value) : RJ lo B N g d k m x e v1 v3 w0 W1 wd (Array.replicate 12 false) f w := by
  refine ⟨rfl, fun _ => hb, ?_, ?_, ?_, ?_, ?_, ?_, ?_, ?_, ?_, ?_, ?_, ?_, ?_⟩ <;> (intro h; simp at h)
theorem RJ.u0 {lo B N g d k : Nat} {m : Bo} {x : Sb} {e v1 v3 : Value} {w0 W1 wd : World} {L : Array Bool} {f : Nat → Value} {w : World} (h : RJ lo B N g d k m x e v1 v3 w0 W1 wd L f w) {v : Value} (hv : v = .pointer (some ⟨N, 1, none⟩)) : RJ lo B N g d k m x e v1 v3 w0 W1 wd (L.setIfInBounds 0 true) (upd f 26 v) w := by
  refine ⟨by simp [h.sz], ?_, ?_, ?_, ?_, ?_, ?_, ?_, ?_, ?_, ?_, ?_, ?_, ?_, ?_⟩
  · simpa [Array.getElem?_setIfInBounds] using h.bel
  · intro _; simpa [upd] using hv
  · simpa [upd, Array.getElem?_setIfInBounds] using h.l1
  · simpa [upd, Array.getElem?_setIfInBounds] using h.l2
  · simpa [upd, Array.getElem?_setIfInBounds] using h.l3
  · simpa [upd, Array.getElem?_setIfInBounds] using h.l4
  · simpa [upd, Array.getElem?_setIfInBounds] using h.l5
  · simpa [upd, Array.getElem?_setIfInBounds] using h.l6
  · simpa [upd, Array.getElem?_setIfInBounds] using h.l7
  · simpa [upd, Array.getElem?_setIfInBounds] using h.l8
  · simpa [upd, Array.getElem?_setIfInBounds] using h.l9
  · simpa [upd, Array.getElem?_setIfInBounds] using h.l10
  · simpa [upd, Array.getElem?_setIfInBounds] using h.l11
  · exact fun hL j hj => getD_set_true (h.da (by simpa [Array.getElem?_setIfInBounds] using hL) j hj)
theorem RJ.u1 {lo B N g d k : Nat} {m : Bo} {x : Sb} {e v1 v3 : Value} {w0 W1 wd : World} {L : Array Bool} {f : Nat → Value} {w : World} (h : RJ lo B N g d k m x e v1 v3 w0 W1 wd L f w) {v : Value} (hv : v = .slice (some ⟨g, 0, none⟩) m.sl.length d) : RJ lo B N g d k m x e v1 v3 w0 W1 wd (L.setIfInBounds 1 true) (upd f 27 v) w := by
  refine ⟨by simp [h.sz], ?_, ?_, ?_, ?_, ?_, ?_, ?_, ?_, ?_, ?_, ?_, ?_, ?_, ?_⟩
  · simpa [Array.getElem?_setIfInBounds] using h.bel
  · simpa [upd, Array.getElem?_setIfInBounds] using h.l0
  · intro _; simpa [upd] using hv
  · simpa [upd, Array.getElem?_setIfInBounds] using h.l2
  · simpa [upd, Array.getElem?_setIfInBounds] using h.l3
  · simpa [upd, Array.getElem?_setIfInBounds] using h.l4
  · simpa [upd, Array.getElem?_setIfInBounds] using h.l5
  · simpa [upd, Array.getElem?_setIfInBounds] using h.l6
  · simpa [upd, Array.getElem?_setIfInBounds] using h.l7
  · simpa [upd, Array.getElem?_setIfInBounds] using h.l8
  · simpa [upd, Array.getElem?_setIfInBounds] using h.l9
  · simpa [upd, Array.getElem?_setIfInBounds] using h.l10
  · simpa [upd, Array.getElem?_setIfInBounds] using h.l11
  · exact fun hL j hj => getD_set_true (h.da (by simpa [Array.getElem?_setIfInBounds] using hL) j hj)
theorem RJ.u2 {lo B N g d k : Nat} {m : Bo} {x : Sb} {e v1 v3 : Value} {w0 W1 wd : World} {L : Array Bool} {f : Nat → Value} {w : World} (h : RJ lo B N g d k m x e v1 v3 w0 W1 wd L f w) {v : Value} (hv : v = .int .i64 (k : Int)) : RJ lo B N g d k m x e v1 v3 w0 W1 wd (L.setIfInBounds 2 true) (upd f 28 v) w := by
  refine ⟨by simp [h.sz], ?_, ?_, ?_, ?_, ?_, ?_, ?_, ?_, ?_, ?_, ?_, ?_, ?_, ?_⟩
  · simpa [Array.getElem?_setIfInBounds] using h.bel
  · simpa [upd, Array.getElem?_setIfInBounds] using h.l0
  · simpa [upd, Array.getElem?_setIfInBounds] using h.l1
  · intro _; simpa [upd] using hv
  · simpa [upd, Array.getElem?_setIfInBounds] using h.l3
  · simpa [upd, Array.getElem?_setIfInBounds] using h.l4
  · simpa [upd, Array.getElem?_setIfInBounds] using h.l5
  · simpa [upd, Array.getElem?_setIfInBounds] using h.l6
  · simpa [upd, Array.getElem?_setIfInBounds] using h.l7
  · simpa [upd, Array.getElem?_setIfInBounds] using h.l8
  · simpa [upd, Array.getElem?_setIfInBounds] using h.l9
  · simpa [upd, Array.getElem?_setIfInBounds] using h.l10
  · simpa [upd, Array.getElem?_setIfInBounds] using h.l11
  · exact fun hL j hj => getD_set_true (h.da (by simpa [Array.getElem?_setIfInBounds] using hL) j hj)
theorem RJ.u3 {lo B N g d k : Nat} {m : Bo} {x : Sb} {e v1 v3 : Value} {w0 W1 wd : World} {L : Array Bool} {f : Nat → Value} {w : World} (h : RJ lo B N g d k m x e v1 v3 w0 W1 wd L f w) {v : Value} (hv : v = .pointer (some ⟨N, 1, none⟩)) : RJ lo B N g d k m x e v1 v3 w0 W1 wd (L.setIfInBounds 3 true) (upd f 29 v) w := by
  refine ⟨by simp [h.sz], ?_, ?_, ?_, ?_, ?_, ?_, ?_, ?_, ?_, ?_, ?_, ?_, ?_, ?_⟩
  · simpa [Array.getElem?_setIfInBounds] using h.bel
  · simpa [upd, Array.getElem?_setIfInBounds] using h.l0
  · simpa [upd, Array.getElem?_setIfInBounds] using h.l1
  · simpa [upd, Array.getElem?_setIfInBounds] using h.l2
  · intro _; simpa [upd] using hv
  · simpa [upd, Array.getElem?_setIfInBounds] using h.l4
  · simpa [upd, Array.getElem?_setIfInBounds] using h.l5
  · simpa [upd, Array.getElem?_setIfInBounds] using h.l6
  · simpa [upd, Array.getElem?_setIfInBounds] using h.l7
  · simpa [upd, Array.getElem?_setIfInBounds] using h.l8
  · simpa [upd, Array.getElem?_setIfInBounds] using h.l9
  · simpa [upd, Array.getElem?_setIfInBounds] using h.l10
  · simpa [upd, Array.getElem?_setIfInBounds] using h.l11
  · exact fun hL j hj => getD_set_true (h.da (by simpa [Array.getElem?_setIfInBounds] using hL) j hj)
theorem RJ.u4 {lo B N g d k : Nat} {m : Bo} {x : Sb} {e v1 v3 : Value} {w0 W1 wd : World} {L : Array Bool} {f : Nat → Value} {w : World} (h : RJ lo B N g d k m x e v1 v3 w0 W1 wd L f w) {v : Value} (hv : v = .slice (some ⟨g, 0, none⟩) m.sl.length d) : RJ lo B N g d k m x e v1 v3 w0 W1 wd (L.setIfInBounds 4 true) (upd f 30 v) w := by
  refine ⟨by simp [h.sz], ?_, ?_, ?_, ?_, ?_, ?_, ?_, ?_, ?_, ?_, ?_, ?_, ?_, ?_⟩
  · simpa [Array.getElem?_setIfInBounds] using h.bel
  · simpa [upd, Array.getElem?_setIfInBounds] using h.l0
  · simpa [upd, Array.getElem?_setIfInBounds] using h.l1
  · simpa [upd, Array.getElem?_setIfInBounds] using h.l2
  · simpa [upd, Array.getElem?_setIfInBounds] using h.l3
  · intro _; simpa [upd] using hv
  · simpa [upd, Array.getElem?_setIfInBounds] using h.l5
  · simpa [upd, Array.getElem?_setIfInBounds] using h.l6
  · simpa [upd, Array.getElem?_setIfInBounds] using h.l7
  · simpa [upd, Array.getElem?_setIfInBounds] using h.l8
  · simpa [upd, Array.getElem?_setIfInBounds] using h.l9
  · simpa [upd, Array.getElem?_setIfInBounds] using h.l10
  · simpa [upd, Array.getElem?_setIfInBounds] using h.l11
  · exact fun hL j hj => getD_set_true (h.da (by simpa [Array.getElem?_setIfInBounds] using hL) j hj)
theorem RJ.u5 {lo B N g d k : Nat} {m : Bo} {x : Sb} {e v1 v3 : Value} {w0 W1 wd : World} {L : Array Bool} {f : Nat → Value} {w : World} (h : RJ lo B N g d k m x e v1 v3 w0 W1 wd L f w) {v : Value} (hv : v = .int .i64 (k : Int)) : RJ lo B N g d k m x e v1 v3 w0 W1 wd (L.setIfInBounds 5 true) (upd f 31 v) w := by
  refine ⟨by simp [h.sz], ?_, ?_, ?_, ?_, ?_, ?_, ?_, ?_, ?_, ?_, ?_, ?_, ?_, ?_⟩
  · simpa [Array.getElem?_setIfInBounds] using h.bel
  · simpa [upd, Array.getElem?_setIfInBounds] using h.l0
  · simpa [upd, Array.getElem?_setIfInBounds] using h.l1
  · simpa [upd, Array.getElem?_setIfInBounds] using h.l2
  · simpa [upd, Array.getElem?_setIfInBounds] using h.l3
  · simpa [upd, Array.getElem?_setIfInBounds] using h.l4
  · intro _; simpa [upd] using hv
  · simpa [upd, Array.getElem?_setIfInBounds] using h.l6
  · simpa [upd, Array.getElem?_setIfInBounds] using h.l7
  · simpa [upd, Array.getElem?_setIfInBounds] using h.l8
  · simpa [upd, Array.getElem?_setIfInBounds] using h.l9
  · simpa [upd, Array.getElem?_setIfInBounds] using h.l10
  · simpa [upd, Array.getElem?_setIfInBounds] using h.l11
  · exact fun hL j hj => getD_set_true (h.da (by simpa [Array.getElem?_setIfInBounds] using hL) j hj)
theorem RJ.u6 {lo B N g d k : Nat} {m : Bo} {x : Sb} {e v1 v3 : Value} {w0 W1 wd : World} {L : Array Bool} {f : Nat → Value} {w : World} (h : RJ lo B N g d k m x e v1 v3 w0 W1 wd L f w) {v : Value} (hv : v = .pointer (some ⟨g, k * 8, none⟩)) : RJ lo B N g d k m x e v1 v3 w0 W1 wd (L.setIfInBounds 6 true) (upd f 32 v) w := by
  refine ⟨by simp [h.sz], ?_, ?_, ?_, ?_, ?_, ?_, ?_, ?_, ?_, ?_, ?_, ?_, ?_, ?_⟩
  · simpa [Array.getElem?_setIfInBounds] using h.bel
  · simpa [upd, Array.getElem?_setIfInBounds] using h.l0
  · simpa [upd, Array.getElem?_setIfInBounds] using h.l1
  · simpa [upd, Array.getElem?_setIfInBounds] using h.l2
  · simpa [upd, Array.getElem?_setIfInBounds] using h.l3
  · simpa [upd, Array.getElem?_setIfInBounds] using h.l4
  · simpa [upd, Array.getElem?_setIfInBounds] using h.l5
  · intro _; simpa [upd] using hv
  · simpa [upd, Array.getElem?_setIfInBounds] using h.l7
  · simpa [upd, Array.getElem?_setIfInBounds] using h.l8
  · simpa [upd, Array.getElem?_setIfInBounds] using h.l9
  · simpa [upd, Array.getElem?_setIfInBounds] using h.l10
  · simpa [upd, Array.getElem?_setIfInBounds] using h.l11
  · exact fun hL j hj => getD_set_true (h.da (by simpa [Array.getElem?_setIfInBounds] using hL) j hj)
theorem RJ.u7 {lo B N g d k : Nat} {m : Bo} {x : Sb} {e v1 v3 : Value} {w0 W1 wd : World} {L : Array Bool} {f : Nat → Value} {w : World} (h : RJ lo B N g d k m x e v1 v3 w0 W1 wd L f w) {v : Value} (hv : v = SbV x) : RJ lo B N g d k m x e v1 v3 w0 W1 wd (L.setIfInBounds 7 true) (upd f 33 v) w := by
  refine ⟨by simp [h.sz], ?_, ?_, ?_, ?_, ?_, ?_, ?_, ?_, ?_, ?_, ?_, ?_, ?_, ?_⟩
  · simpa [Array.getElem?_setIfInBounds] using h.bel
  · simpa [upd, Array.getElem?_setIfInBounds] using h.l0
  · simpa [upd, Array.getElem?_setIfInBounds] using h.l1
  · simpa [upd, Array.getElem?_setIfInBounds] using h.l2
  · simpa [upd, Array.getElem?_setIfInBounds] using h.l3
  · simpa [upd, Array.getElem?_setIfInBounds] using h.l4
  · simpa [upd, Array.getElem?_setIfInBounds] using h.l5
  · simpa [upd, Array.getElem?_setIfInBounds] using h.l6
  · intro _; simpa [upd] using hv
  · simpa [upd, Array.getElem?_setIfInBounds] using h.l8
  · simpa [upd, Array.getElem?_setIfInBounds] using h.l9
  · simpa [upd, Array.getElem?_setIfInBounds] using h.l10
  · simpa [upd, Array.getElem?_setIfInBounds] using h.l11
  · exact fun hL j hj => getD_set_true (h.da (by simpa [Array.getElem?_setIfInBounds] using hL) j hj)
theorem RJ.u8 {lo B N g d k : Nat} {m : Bo} {x : Sb} {e v1 v3 : Value} {w0 W1 wd : World} {L : Array Bool} {f : Nat → Value} {w : World} (h : RJ lo B N g d k m x e v1 v3 w0 W1 wd L f w) {v : Value} (hv : v = e) : RJ lo B N g d k m x e v1 v3 w0 W1 wd (L.setIfInBounds 8 true) (upd f 34 v) w := by
  refine ⟨by simp [h.sz], ?_, ?_, ?_, ?_, ?_, ?_, ?_, ?_, ?_, ?_, ?_, ?_, ?_, ?_⟩
  · simpa [Array.getElem?_setIfInBounds] using h.bel
  · simpa [upd, Array.getElem?_setIfInBounds] using h.l0
  · simpa [upd, Array.getElem?_setIfInBounds] using h.l1
  · simpa [upd, Array.getElem?_setIfInBounds] using h.l2
  · simpa [upd, Array.getElem?_setIfInBounds] using h.l3
  · simpa [upd, Array.getElem?_setIfInBounds] using h.l4
  · simpa [upd, Array.getElem?_setIfInBounds] using h.l5
  · simpa [upd, Array.getElem?_setIfInBounds] using h.l6
  · simpa [upd, Array.getElem?_setIfInBounds] using h.l7
  · intro _; simpa [upd] using hv
  · simpa [upd, Array.getElem?_setIfInBounds] using h.l9
  · simpa [upd, Array.getElem?_setIfInBounds] using h.l10
  · simpa [upd, Array.getElem?_setIfInBounds] using h.l11
  · exact fun hL j hj => getD_set_true (h.da (by simpa [Array.getElem?_setIfInBounds] using hL) j hj)
theorem RJ.u10 {lo B N g d k : Nat} {m : Bo} {x : Sb} {e v1 v3 : Value} {w0 W1 wd : World} {L : Array Bool} {f : Nat → Value} {w : World} (h : RJ lo B N g d k m x e v1 v3 w0 W1 wd L f w) {v : Value} (hv : v = .pointer (some ⟨g, k * 8, none⟩)) : RJ lo B N g d k m x e v1 v3 w0 W1 wd (L.setIfInBounds 10 true) (upd f 36 v) w := by
  refine ⟨by simp [h.sz], ?_, ?_, ?_, ?_, ?_, ?_, ?_, ?_, ?_, ?_, ?_, ?_, ?_, ?_⟩
  · simpa [Array.getElem?_setIfInBounds] using h.bel
  · simpa [upd, Array.getElem?_setIfInBounds] using h.l0
  · simpa [upd, Array.getElem?_setIfInBounds] using h.l1
  · simpa [upd, Array.getElem?_setIfInBounds] using h.l2
  · simpa [upd, Array.getElem?_setIfInBounds] using h.l3
  · simpa [upd, Array.getElem?_setIfInBounds] using h.l4
  · simpa [upd, Array.getElem?_setIfInBounds] using h.l5
  · simpa [upd, Array.getElem?_setIfInBounds] using h.l6
  · simpa [upd, Array.getElem?_setIfInBounds] using h.l7
  · simpa [upd, Array.getElem?_setIfInBounds] using h.l8
  · simpa [upd, Array.getElem?_setIfInBounds] using h.l9
  · intro _; simpa [upd] using hv
  · simpa [upd, Array.getElem?_setIfInBounds] using h.l11
  · exact fun hL j hj => getD_set_true (h.da (by simpa [Array.getElem?_setIfInBounds] using hL) j hj)
theorem RJ.u9 {lo B N g d k : Nat} {m : Bo} {x : Sb} {e v1 v3 : Value} {w0 W1 wd : World} {L : Array Bool} {f : Nat → Value} {w : World} (h : RJ lo B N g d k m x e v1 v3 w0 W1 wd L f w) (h11 : L.getD 11 false = false) {w' : World} (hb : Below wd.heap.size wd w') {y : Sb} (hy : ChV lo B w0 wd w' y) : RJ lo B N g d k m x e v1 v3 w0 W1 wd (L.setIfInBounds 9 true) (upd f 35 (SbV y)) w' := by
  refine ⟨by simp [h.sz], ?_, ?_, ?_, ?_, ?_, ?_, ?_, ?_, ?_, ?_, ?_, ?_, ?_, ?_⟩
  · intro _; exact hb
  · simpa [upd, Array.getElem?_setIfInBounds] using h.l0
  · simpa [upd, Array.getElem?_setIfInBounds] using h.l1
  · simpa [upd, Array.getElem?_setIfInBounds] using h.l2
  · simpa [upd, Array.getElem?_setIfInBounds] using h.l3
  · simpa [upd, Array.getElem?_setIfInBounds] using h.l4
  · simpa [upd, Array.getElem?_setIfInBounds] using h.l5
  · simpa [upd, Array.getElem?_setIfInBounds] using h.l6
  · simpa [upd, Array.getElem?_setIfInBounds] using h.l7
  · simpa [upd, Array.getElem?_setIfInBounds] using h.l8
  · intro _; exact ⟨y, by simp [upd], hy⟩
  · simpa [upd, Array.getElem?_setIfInBounds] using h.l10
  · intro hL
    simp [Array.getElem?_setIfInBounds] at hL h11
    rw [h11] at hL
    cases hL
  · exact fun hL j hj => getD_set_true (h.da (by simpa [Array.getElem?_setIfInBounds] using hL) j hj)
theorem RJ.u11 {lo B N g d k : Nat} {m : Bo} {x : Sb} {e v1 v3 : Value} {w0 W1 wd : World} {L : Array Bool} {f : Nat → Value} {w : World} (h : RJ lo B N g d k m x e v1 v3 w0 W1 wd L f w) {w' : World} {y : Sb} (hy : ChV lo B w0 wd w' y) (hp : ApS W1 w' N { m with sl := m.sl.set k y } v1 (.slice (some ⟨g, 0, none⟩) m.sl.length d) v3) (h35 : f 35 = SbV y) (ha : ∀ i, i < 11 → L.getD i false = true) : RJ lo B N g d k m x e v1 v3 w0 W1 wd (L.setIfInBounds 11 true) f w' := by
  refine ⟨by simp [h.sz], ?_, ?_, ?_, ?_, ?_, ?_, ?_, ?_, ?_, ?_, ?_, ?_, ?_, ?_⟩
  · intro hL
    simp [Array.getElem?_setIfInBounds, h.sz] at hL
  · simpa [upd, Array.getElem?_setIfInBounds] using h.l0
  · simpa [upd, Array.getElem?_setIfInBounds] using h.l1
  · simpa [upd, Array.getElem?_setIfInBounds] using h.l2
  · simpa [upd, Array.getElem?_setIfInBounds] using h.l3
  · simpa [upd, Array.getElem?_setIfInBounds] using h.l4
  · simpa [upd, Array.getElem?_setIfInBounds] using h.l5
  · simpa [upd, Array.getElem?_setIfInBounds] using h.l6
  · simpa [upd, Array.getElem?_setIfInBounds] using h.l7
  · simpa [upd, Array.getElem?_setIfInBounds] using h.l8
  · intro _; exact ⟨y, h35, hy⟩
  · simpa [upd, Array.getElem?_setIfInBounds] using h.l10
  · intro _; exact ⟨y, hy, hp⟩
  · intro _ j hj
    by_cases hj1 : j = 11
    · subst hj1
      simp [h.sz]
    · exact getD_set_true (ha j (by omega))
end Go.Proofs.Ythkollhebabhbaa

/-!
  The invariant of a region of seven operations: a load, an element's load, a call, a store.
-/
namespace Go.Proofs.Ythkollhebabhbaa
open Go.RowKit
set_option linter.unusedSimpArgs false
set_option linter.unusedVariables false

structure RK (q : Nat) (v0 v1 v2 v3 v4 : Value) (Mid : World → Value → Prop) (Fin : World → Prop) (w0 : World) (L : Array Bool) (f : Nat → Value) (w : World) : Prop where
  sz : L.size = 7
  bel : L.getD 6 false = false → Below w0.heap.size w0 w
  l0 : L.getD 0 false = true → f (q + 0) = v0
  l1 : L.getD 1 false = true → f (q + 1) = v1
  l2 : L.getD 2 false = true → f (q + 2) = v2
  l3 : L.getD 3 false = true → f (q + 3) = v3
  l4 : L.getD 4 false = true → f (q + 4) = v4
  l5 : L.getD 5 false = true → L.getD 6 false = false → Mid w (f (q + 5))
  l6 : L.getD 6 false = true → Fin w
  da : L.getD 6 false = true → ∀ i, i < 7 → L.getD i false = true
theorem RK.start {q : Nat} {v0 v1 v2 v3 v4 : Value} {Mid : World → Value → Prop} {Fin : World → Prop} {w0 : World} {f : Nat → Value} {w : World} (hb : Below w0.heap.size w0 w) : RK q v0 v1 v2 v3 v4 Mid Fin w0 (Array.replicate 7 false) f w := by
  refine ⟨rfl, fun _ => hb, ?_, ?_, ?_, ?_, ?_, ?_, ?_, ?_⟩ <;> (intro h; simp at h)
theorem RK.u0 {q : Nat} {v0 v1 v2 v3 v4 : Value} {Mid : World → Value → Prop} {Fin : World → Prop} {w0 : World} {L : Array Bool} {f : Nat → Value} {w : World} (h : RK q v0 v1 v2 v3 v4 Mid Fin w0 L f w) : RK q v0 v1 v2 v3 v4 Mid Fin w0 (L.setIfInBounds 0 true) (upd f (q + 0) v0) w := by
  refine ⟨by simp [h.sz], ?_, ?_, ?_, ?_, ?_, ?_, ?_, ?_, ?_⟩
  · simpa [Array.getElem?_setIfInBounds] using h.bel
  · intro _; simp [upd]
  · simpa [upd, Array.getElem?_setIfInBounds] using h.l1
  · simpa [upd, Array.getElem?_setIfInBounds] using h.l2
  · simpa [upd, Array.getElem?_setIfInBounds] using h.l3
  · simpa [upd, Array.getElem?_setIfInBounds] using h.l4
  · simpa [upd, Array.getElem?_setIfInBounds] using h.l5
  · simpa [upd, Array.getElem?_setIfInBounds] using h.l6
  · exact fun hL j hj => getD_set_true (h.da (by simpa [Array.getElem?_setIfInBounds] using hL) j hj)
theorem RK.u1 {q : Nat} {v0 v1 v2 v3 v4 : Value} {Mid : World → Value → Prop} {Fin : World → Prop} {w0 : World} {L : Array Bool} {f : Nat → Value} {w : World} (h : RK q v0 v1 v2 v3 v4 Mid Fin w0 L f w) : RK q v0 v1 v2 v3 v4 Mid Fin w0 (L.setIfInBounds 1 true) (upd f (q + 1) v1) w := by
  refine ⟨by simp [h.sz], ?_, ?_, ?_, ?_, ?_, ?_, ?_, ?_, ?_⟩
  · simpa [Array.getElem?_setIfInBounds] using h.bel
  · simpa [upd, Array.getElem?_setIfInBounds] using h.l0
  · intro _; simp [upd]
  · simpa [upd, Array.getElem?_setIfInBounds] using h.l2
  · simpa [upd, Array.getElem?_setIfInBounds] using h.l3
  · simpa [upd, Array.getElem?_setIfInBounds] using h.l4
  · simpa [upd, Array.getElem?_setIfInBounds] using h.l5
  · simpa [upd, Array.getElem?_setIfInBounds] using h.l6
  · exact fun hL j hj => getD_set_true (h.da (by simpa [Array.getElem?_setIfInBounds] using hL) j hj)
theorem RK.u2 {q : Nat} {v0 v1 v2 v3 v4 : Value} {Mid : World → Value → Prop} {Fin : World → Prop} {w0 : World} {L : Array Bool} {f : Nat → Value} {w : World} (h : RK q v0 v1 v2 v3 v4 Mid Fin w0 L f w) : RK q v0 v1 v2 v3 v4 Mid Fin w0 (L.setIfInBounds 2 true) (upd f (q + 2) v2) w := by
  refine ⟨by simp [h.sz], ?_, ?_, ?_, ?_, ?_, ?_, ?_, ?_, ?_⟩
  · simpa [Array.getElem?_setIfInBounds] using h.bel
  · simpa [upd, Array.getElem?_setIfInBounds] using h.l0
  · simpa [upd, Array.getElem?_setIfInBounds] using h.l1
  · intro _; simp [upd]
  · simpa [upd, Array.getElem?_setIfInBounds] using h.l3
  · simpa [upd, Array.getElem?_setIfInBounds] using h.l4
  · simpa [upd, Array.getElem?_setIfInBounds] using h.l5
  · simpa [upd, Array.getElem?_setIfInBounds] using h.l6
  · exact fun hL j hj => getD_set_true (h.da (by simpa [Array.getElem?_setIfInBounds] using hL) j hj)
theorem RK.u3 {q : Nat} {v0 v1 v2 v3 v4 : Value} {Mid : World → Value → Prop} {Fin : World → Prop} {w0 : World} {L : Array Bool} {f : Nat → Value} {w : World} (h : RK q v0 v1 v2 v3 v4 Mid Fin w0 L f w) : RK q v0 v1 v2 v3 v4 Mid Fin w0 (L.setIfInBounds 3 true) (upd f (q + 3) v3) w := by
  refine ⟨by simp [h.sz], ?_, ?_, ?_, ?_, ?_, ?_, ?_, ?_, ?_⟩
  · simpa [Array.getElem?_setIfInBounds] using h.bel
  · simpa [upd, Array.getElem?_setIfInBounds] using h.l0
  · simpa [upd, Array.getElem?_setIfInBounds] using h.l1
  · simpa [upd, Array.getElem?_setIfInBounds] using h.l2
  · intro _; simp [upd]
  · simpa [upd, Array.getElem?_setIfInBounds] using h.l4
  · simpa [upd, Array.getElem?_setIfInBounds] using h.l5
  · simpa [upd, Array.getElem?_setIfInBounds] using h.l6
  · exact fun hL j hj => getD_set_true (h.da (by simpa [Array.getElem?_setIfInBounds] using hL) j hj)
theorem RK.u4 {q : Nat} {v0 v1 v2 v3 v4 : Value} {Mid : World → Value → Prop} {Fin : World → Prop} {w0 : World} {L : Array Bool} {f : Nat → Value} {w : World} (h : RK q v0 v1 v2 v3 v4 Mid Fin w0 L f w) : RK q v0 v1 v2 v3 v4 Mid Fin w0 (L.setIfInBounds 4 true) (upd f (q + 4) v4) w := by
  refine ⟨by simp [h.sz], ?_, ?_, ?_, ?_, ?_, ?_, ?_, ?_, ?_⟩
  · simpa [Array.getElem?_setIfInBounds] using h.bel
  · simpa [upd, Array.getElem?_setIfInBounds] using h.l0
  · simpa [upd, Array.getElem?_setIfInBounds] using h.l1
  · simpa [upd, Array.getElem?_setIfInBounds] using h.l2
  · simpa [upd, Array.getElem?_setIfInBounds] using h.l3
  · intro _; simp [upd]
  · simpa [upd, Array.getElem?_setIfInBounds] using h.l5
  · simpa [upd, Array.getElem?_setIfInBounds] using h.l6
  · exact fun hL j hj => getD_set_true (h.da (by simpa [Array.getElem?_setIfInBounds] using hL) j hj)
theorem RK.u5 {q : Nat} {v0 v1 v2 v3 v4 : Value} {Mid : World → Value → Prop} {Fin : World → Prop} {w0 : World} {L : Array Bool} {f : Nat → Value} {w : World} (h : RK q v0 v1 v2 v3 v4 Mid Fin w0 L f w) (h6 : L.getD 6 false = false) {w' : World} (hb : Below w0.heap.size w0 w') {v : Value} (hm : Mid w' v) : RK q v0 v1 v2 v3 v4 Mid Fin w0 (L.setIfInBounds 5 true) (upd f (q + 5) v) w' := by
  refine ⟨by simp [h.sz], ?_, ?_, ?_, ?_, ?_, ?_, ?_, ?_, ?_⟩
  · exact fun _ => hb
  · simpa [upd, Array.getElem?_setIfInBounds] using h.l0
  · simpa [upd, Array.getElem?_setIfInBounds] using h.l1
  · simpa [upd, Array.getElem?_setIfInBounds] using h.l2
  · simpa [upd, Array.getElem?_setIfInBounds] using h.l3
  · simpa [upd, Array.getElem?_setIfInBounds] using h.l4
  · intro _ _; simpa [upd] using hm
  · intro hL
    simp [Array.getElem?_setIfInBounds] at hL h6
    rw [h6] at hL
    cases hL
  · exact fun hL j hj => getD_set_true (h.da (by simpa [Array.getElem?_setIfInBounds] using hL) j hj)
theorem RK.u6 {q : Nat} {v0 v1 v2 v3 v4 : Value} {Mid : World → Value → Prop} {Fin : World → Prop} {w0 : World} {L : Array Bool} {f : Nat → Value} {w : World} (h : RK q v0 v1 v2 v3 v4 Mid Fin w0 L f w) (ha : ∀ i, i < 6 → L.getD i false = true) {w' : World} (hf : Fin w') : RK q v0 v1 v2 v3 v4 Mid Fin w0 (L.setIfInBounds 6 true) f w' := by
  refine ⟨by simp [h.sz], ?_, ?_, ?_, ?_, ?_, ?_, ?_, ?_, ?_⟩
  · intro hL
    simp [Array.getElem?_setIfInBounds, h.sz] at hL
  · simpa [upd, Array.getElem?_setIfInBounds] using h.l0
  · simpa [upd, Array.getElem?_setIfInBounds] using h.l1
  · simpa [upd, Array.getElem?_setIfInBounds] using h.l2
  · simpa [upd, Array.getElem?_setIfInBounds] using h.l3
  · simpa [upd, Array.getElem?_setIfInBounds] using h.l4
  · intro _ hL
    simp [Array.getElem?_setIfInBounds, h.sz] at hL
  · exact fun _ => hf
  · intro _ j hj
    by_cases hj1 : j = 6
    · subst hj1
      simp [h.sz]
    · exact getD_set_true (ha j (by omega))
end Go.Proofs.Ythkollhebabhbaa

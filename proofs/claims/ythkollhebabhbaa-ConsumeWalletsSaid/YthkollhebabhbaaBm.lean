/-
  Buckets in memory: a list that lies at an address, a list that a call owns; texts likewise.
-/
import Derived.Test.YthkollhebabhbaaBw2
namespace Go.Proofs.Ythkollhebabhbaa
open Go.RowKit
set_option linter.unusedSimpArgs false

/-! Rows of the call's own. -/
theorem own_form {w : World} {base : Nat} {e : TypeId} {size : Nat} {v : Value} {n : Nat} {xs : List Value} (h : w.ownsRow base e size v n xs) : ∃ A c, v = .slice A n c ∧ (A = none → c = 0 ∧ n = 0) := by
  rcases h.2 with ⟨rfl, rfl⟩ | ⟨g, cap, cur, rfl, _⟩
  · exact ⟨none, 0, rfl, fun _ => ⟨rfl, rfl⟩⟩
  · exact ⟨some ⟨g, 0, none⟩, cap, rfl, fun h => by cases h⟩
theorem own_mono {w : World} {base base' : Nat} {e : TypeId} {size : Nat} {v : Value} {n : Nat} {xs : List Value} (h : w.ownsRow base e size v n xs) (hb : base' ≤ base) : w.ownsRow base' e size v n xs := by
  obtain ⟨h1, h2⟩ := h
  refine ⟨h1, ?_⟩
  rcases h2 with h2 | ⟨g, cap, cur, hv, hg, r⟩
  · exact .inl h2
  · exact .inr ⟨g, cap, cur, hv, Nat.le_trans hb hg, r⟩
theorem own_heap {w w' : World} {base : Nat} {e : TypeId} {size : Nat} {v : Value} {n : Nat} {xs : List Value} (h : w.ownsRow base e size v n xs) (hk : ∀ k, base ≤ k → k < w.heap.size → w'.heap[k]? = w.heap[k]?) : w'.ownsRow base e size v n xs := by
  obtain ⟨h1, h2⟩ := h
  refine ⟨h1, ?_⟩
  rcases h2 with h2 | ⟨g, cap, cur, hv, hg, hh, r⟩
  · exact .inl h2
  · refine .inr ⟨g, cap, cur, hv, hg, ?_, r⟩
    rw [hk g hg ?_, hh]
    rcases Nat.lt_or_ge g w.heap.size with hlt | hge
    · exact hlt
    · rw [Array.getElem?_eq_none hge] at hh
      cases hh
theorem own_swap {W W' : World} {s : More} {base : Nat} {e : TypeId} {size : Nat} {v : Value} {n : Nat} {xs : List Value} (h : (ext W s).ownsRow base e size v n xs) (hs : W'.heap.size = W.heap.size) (hB : W.heap.size ≤ base) : (ext W' s).ownsRow base e size v n xs :=
  own_heap h fun k hk _ => by
    simp only [ext, Array.getElem?_append, if_neg (by omega : ¬ k < W.heap.size), if_neg (by omega : ¬ k < W'.heap.size), hs]
theorem own_below {w w' : World} {base : Nat} {e : TypeId} {size : Nat} {v : Value} {n : Nat} {xs : List Value} (h : w.ownsRow base e size v n xs) (hb : Below w.heap.size w w') : w'.ownsRow base e size v n xs :=
  own_heap h fun k _ hk => hb.block k hk
theorem own_drew {w : World} {base : Nat} {e : TypeId} {size : Nat} {v : Value} {n : Nat} {xs : List Value} (h : w.ownsRow base e size v n xs) : w.drew.ownsRow base e size v n xs := h
/-- Rows of different element types never share a block. -/
theorem own_ne {w : World} {base base' : Nat} {e e' : TypeId} {size size' : Nat} {v v' : Value} {n n' : Nat} {xs xs' : List Value} (h : w.ownsRow base e size v n xs) (h' : w.ownsRow base' e' size' v' n' xs') (hne : e ≠ e') : v.ownBlock = none ∨ v.ownBlock ≠ v'.ownBlock := by
  rcases h.2 with ⟨rfl, _⟩ | ⟨g, cap, cur, rfl, _, hh, _⟩
  · exact .inl rfl
  · right
    rcases h'.2 with ⟨rfl, _⟩ | ⟨g', cap', cur', rfl, _, hh', _⟩
    · simp [Value.ownBlock]
    · intro e1
      simp only [Value.ownBlock, Option.some.injEq] at e1
      subst e1
      rw [hh] at hh'
      simp only [Option.some.injEq, Obj.cells.injEq] at hh'
      exact hne hh'.2.1
theorem own_strs {w : World} {base : Nat} {A : Option Addr} {c : Nat} {zs : List ByteArray} {e : TypeId} (h : w.ownsRow base e 1 (.slice A zs.length c) zs.length (zs.map Value.string)) : StrsAt w A zs := fun j s hs => by
  have hj : j < zs.length := (List.getElem?_eq_some_iff.1 hs).1
  rcases h.2 with ⟨h1, h2⟩ | ⟨g, cap, cur, hv, _, hh, _⟩
  · rw [h2] at hj
    exact absurd hj (by omega)
  · simp only [Value.slice.injEq] at hv
    obtain ⟨rfl, _, rfl⟩ := hv
    refine ⟨g, 0, rfl, ?_, ?_⟩
    · rcases Nat.lt_or_ge g w.heap.size with hlt | hge
      · exact hlt
      · rw [Array.getElem?_eq_none hge] at hh
        cases hh
    · rw [Nat.zero_add, h.cellAt j (by omega)]
      simp [hs]

/-- The cells of a bucket. -/
def Bk.cells (x : Bk) (A : Option Addr) (c : Nat) : List Value := [.int .i64 x.acc, .int .i64 x.sub, .string x.prod, .int .i64 x.idx, .int .i64 x.kind, .slice A x.zones.length c, .int .i64 x.frm, .int .i64 x.til, .int .i64 x.units, .int .i64 x.left, .int .i64 x.prio, .bool x.shared]
theorem Bk.len_cells (x : Bk) (A : Option Addr) (c : Nat) : (x.cells A c).length = 12 := rfl
def Bk.rows : List Bk → List (Option Addr × Nat) → List Value
  | x :: xs, z :: Z => x.cells z.1 z.2 ++ rows xs Z
  | _, _ => []
theorem Bk.len_rows : ∀ (xs : List Bk) (Z : List (Option Addr × Nat)), Z.length = xs.length → (Bk.rows xs Z).length = xs.length * 12
  | [], _, _ => rfl
  | x :: xs, [], h => by simp at h
  | x :: xs, z :: Z, h => by
    simp only [Bk.rows, List.length_append, Bk.len_cells, List.length_cons, Bk.len_rows xs Z (by simpa using h)]
    omega
theorem Bk.rows_snoc : ∀ (xs : List Bk) (Z : List (Option Addr × Nat)) (x : Bk) (z : Option Addr × Nat), Z.length = xs.length → Bk.rows (xs ++ [x]) (Z ++ [z]) = Bk.rows xs Z ++ x.cells z.1 z.2
  | [], [], x, z, _ => by simp [Bk.rows]
  | [], _ :: _, _, _, h => by simp at h
  | _ :: _, [], _, _, h => by simp at h
  | y :: xs, u :: Z, x, z, h => by
    simp only [List.cons_append, Bk.rows, Bk.rows_snoc xs Z x z (by simpa using h), List.append_assoc]
theorem Bk.rows_at : ∀ (xs : List Bk) (Z : List (Option Addr × Nat)) (j i : Nat) (x : Bk) (z : Option Addr × Nat), xs[j]? = some x → Z[j]? = some z → i < 12 → (Bk.rows xs Z)[j * 12 + i]? = (x.cells z.1 z.2)[i]?
  | [], _, _, _, _, _, h, _, _ => by simp at h
  | _ :: _, [], _, _, _, _, _, h, _ => by simp at h
  | y :: xs, u :: Z, 0, i, x, z, h, h', hi => by
    simp only [List.getElem?_cons_zero, Option.some.injEq] at h h'
    subst h h'
    simp only [Bk.rows, Nat.zero_mul, Nat.zero_add]
    rw [List.getElem?_append_left (by rw [Bk.len_cells]; exact hi)]
  | y :: xs, u :: Z, j + 1, i, x, z, h, h', hi => by
    simp only [List.getElem?_cons_succ] at h h'
    simp only [Bk.rows]
    rw [List.getElem?_append_right (by rw [Bk.len_cells]; omega), Bk.len_cells, show (j + 1) * 12 + i - 12 = j * 12 + i from by omega]
    exact Bk.rows_at xs Z j i x z h h' hi

/-- The buckets xs lie from A on. -/
def Bks (w : World) (A : Option Addr) (xs : List Bk) : Prop := ∀ (j : Nat) (x : Bk), xs[j]? = some x → ∃ b o za zc, A = some ⟨b, o, none⟩ ∧ b < w.heap.size ∧
  (∀ i v, (x.cells za zc)[i]? = some v → w.cell? ⟨b, o + j * 12 + i, none⟩ = some v) ∧ StrsAt w za x.zones ∧ (za = none → zc = 0)
theorem Bks.below {w w' : World} {A : Option Addr} {xs : List Bk} (h : Bks w A xs) (hb : Below w.heap.size w w') : Bks w' A xs := fun j x hx => by
  obtain ⟨b, o, za, zc, hA, hlt, hc, hz, hz2⟩ := h j x hx
  exact ⟨b, o, za, zc, hA, Nat.lt_of_lt_of_le hlt hb.size, fun i v hv => (hb.cell (p := ⟨b, o + j * 12 + i, none⟩) hlt).trans (hc i v hv), hz.below hb, hz2⟩

/-- The call owns the buckets xs, from block B on. -/
def OwnBks (w : World) (B : Nat) (v : Value) (xs : List Bk) : Prop := ∃ Z : List (Option Addr × Nat), Z.length = xs.length ∧ w.ownsRow B 91 12 v xs.length (Bk.rows xs Z) ∧
  ∀ (j : Nat) (x : Bk) (z : Option Addr × Nat), xs[j]? = some x → Z[j]? = some z → w.ownsRow B 9 1 (.slice z.1 x.zones.length z.2) x.zones.length (x.zones.map Value.string)
theorem OwnBks.nil (w : World) (B : Nat) : OwnBks w B (.slice none 0 0) [] := ⟨[], rfl, World.ownsRow_nil _ _ _ _, fun j x z h => by simp at h⟩
theorem OwnBks.below {w w' : World} {B : Nat} {v : Value} {xs : List Bk} (h : OwnBks w B v xs) (hb : Below w.heap.size w w') : OwnBks w' B v xs := by
  obtain ⟨Z, h1, h2, h3⟩ := h
  exact ⟨Z, h1, own_below h2 hb, fun j x z hx hz => own_below (h3 j x z hx hz) hb⟩
theorem OwnBks.mono {w : World} {B B' : Nat} {v : Value} {xs : List Bk} (h : OwnBks w B v xs) (hb : B' ≤ B) : OwnBks w B' v xs := by
  obtain ⟨Z, h1, h2, h3⟩ := h
  exact ⟨Z, h1, own_mono h2 hb, fun j x z hx hz => own_mono (h3 j x z hx hz) hb⟩
theorem OwnBks.form {w : World} {B : Nat} {v : Value} {xs : List Bk} (h : OwnBks w B v xs) : ∃ A c, v = .slice A xs.length c ∧ Bks w A xs ∧ (A = none → c = 0) := by
  obtain ⟨Z, h1, h2, h3⟩ := h
  rcases h2.2 with ⟨rfl, h0⟩ | ⟨g, cap, cur, rfl, _, hh, _⟩
  · refine ⟨none, 0, by rw [h0], fun j x hx => ?_, fun _ => rfl⟩
    have hj : j < xs.length := (List.getElem?_eq_some_iff.1 hx).1
    omega
  · refine ⟨some ⟨g, 0, none⟩, cap, rfl, fun j x hx => ?_, fun h => by cases h⟩
    have hj : j < xs.length := (List.getElem?_eq_some_iff.1 hx).1
    obtain ⟨z, hz⟩ : ∃ z, Z[j]? = some z := ⟨_, List.getElem?_eq_getElem (by omega)⟩
    have hzo := h3 j x z hx hz
    refine ⟨g, 0, z.1, z.2, rfl, ?_, fun i u hu => ?_, own_strs hzo, fun hn => ?_⟩
    · rcases Nat.lt_or_ge g w.heap.size with hlt | hge
      · exact hlt
      · rw [Array.getElem?_eq_none hge] at hh
        cases hh
    · have hi : i < 12 := by
        have := (List.getElem?_eq_some_iff.1 hu).1
        rwa [Bk.len_cells] at this
      rw [Nat.zero_add, h2.cellAt (j * 12 + i) (by omega), Bk.rows_at xs Z j i x z hx hz hi, hu]
    · obtain ⟨A, c, hv, hAc⟩ := own_form hzo
      simp only [Value.slice.injEq, true_and] at hv
      rw [hv.2]
      exact (hAc (hv.1.symm.trans hn)).1
end Go.Proofs.Ythkollhebabhbaa

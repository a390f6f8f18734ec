/-
  A slice that came in as an argument, of whatever elements: its cells, element by element; a struct whose fields are one cell each, as cells. No program is named here.
-/
import Derived.Test.YtmodghiokoiipaaGreatKit
namespace Go.Proofs.YtmodghiokoiipaaGreat
open Go.RowKit Go.ChangeShapes Go.WideShapes Go.Deep

theorem lt_of_cell {w : World} {b o : Nat} {s : Option _} {v : Value} (h : w.cell? ⟨b, o, s⟩ = some v) : b < w.heap.size := by
  rcases Nat.lt_or_ge b w.heap.size with h1 | h1
  · exact h1
  · simp [World.cell?, Array.getElem?_eq_none h1] at h

theorem spot_of_cell {w : World} {a : Addr} {v : Value} (h : w.cell? a = some v) : a.spot = none := by
  unfold World.cell? at h
  split at h
  · split at h
    · cases h
    · rename_i hs
      simpa using hs
  · cases h

section
variable {H : Type} {enc : TypeId × Value → H} {P : Program} {w : World} {base : Nat} {spare : Nat → Bool} {held : Bool}

/-- The elements of a slice: where they lie, and each with its own reading. -/
theorem open_slice_cells {t e : TypeId} {A : Option Addr} {n cap : Nat} {d : DataW H} {p : List MemPlace} (C : Nat) (hC0 : 0 < C) (ht : P.underlying t = some (.slice e)) (hC : P.cellsOf e = C)
    (h : DataW.Trod enc P w base spare held t (.slice A n cap) d p) :
    n ≤ maxLen ∧ (n = 0 ∨ ∃ (b o : Nat) (V : Nat → List Value) (fuel : Nat) (Y : Nat → DataW H × List MemPlace), A = some ⟨b, o, none⟩ ∧ b < w.heap.size ∧
      ∀ i, i < n → (V i).length = C ∧ (∀ j, j < C → w.cell? ⟨b, o + i * C + j, none⟩ = (V i)[j]?) ∧ DataW.trod enc P w base spare held fuel e (V i) = some (Y i)) := by
  obtain ⟨fuel, hf⟩ := h
  rcases open_slice ht hf with ⟨h0, _⟩ | ⟨a, len, cap', m, n', D, Pl, hcs, hb, hl, hm, hmm, hx, hi⟩
  · simp [Value.cells] at h0
    exact ⟨by omega, .inl h0.2.1⟩
  · simp only [Value.cells, List.cons.injEq, Value.slice.injEq, and_true] at hcs
    obtain ⟨rfl, rfl, rfl⟩ := hcs
    refine ⟨by omega, ?_⟩
    rcases Nat.eq_zero_or_pos n with h0 | h0
    · exact .inl h0
    · refine .inr ?_
      have hnm : n ≤ m := by rw [hmm]; split <;> omega
      rw [hC] at hi
      obtain ⟨cs0, hc0, _⟩ := hi 0 (by omega)
      obtain ⟨_, hl0, hat0⟩ := World.cells?_some hc0
      have h00 := hat0 0 hC0
      have hsome : cs0[0]? = some (cs0[0]'(by omega)) := List.getElem?_eq_getElem (by omega)
      rw [hsome] at h00
      have hsp : a.spot = none := by
        have := spot_of_cell h00
        simpa [Addr.add] using this
      obtain ⟨b, o, sp⟩ := a
      simp only at hsp
      subst hsp
      have hbl : b < w.heap.size := by
        have h1 : w.cell? ⟨b, o, none⟩ = some (cs0[0]'(by omega)) := by simpa [Addr.add] using h00
        exact lt_of_cell h1
      have ha : ∀ i j, ((⟨b, o, none⟩ : Addr).add (i * C)).add j = ⟨b, o + i * C + j, none⟩ := by
        intro i j
        unfold Addr.add
        by_cases h1 : i * C = 0 <;> by_cases h2 : j = 0 <;> simp [h1, h2]
      refine ⟨b, o, fun i => if hin : i < n then (hi i (by omega)).choose else [], n', fun i => (D i, Pl i), rfl, hbl, fun i hin => ?_⟩
      have hs := (hi i (by omega)).choose_spec
      obtain ⟨_, hcl, hat⟩ := World.cells?_some hs.1
      simp only [dif_pos hin]
      exact ⟨hcl, fun j hj => by rw [← ha]; exact hat j hj, hs.2⟩

/-- A struct whose fields are one cell each, out of memory: each cell with its own reading. -/
theorem struct_cells {t : TypeId} {fs : Array Field} {fuel : Nat} {cs : List Value} {x : DataW H × List MemPlace} (hs : P.underlying t = some (.struct fs)) (hone : oneCellFields P fs = true) (hC : P.cellsOf t = fs.size)
    (h : DataW.trod enc P w base spare held fuel t cs = some x) :
    cs.length = fs.size ∧ ∀ (i : Nat) (f : Field), fs[i]? = some f → ∃ (n : Nat) (c : Value) (y : DataW H × List MemPlace), cs[i]? = some c ∧ DataW.trod enc P w base spare held n f.type [c] = some y := by
  obtain ⟨xs, n, _, hx, hcl0, hlen, hg⟩ := DataW.trod_struct hs h
  have hcl : cs.length = fs.size := hcl0.trans hC
  refine ⟨hcl, fun i f hi => ?_⟩
  have hlt : i < fs.size := (Array.getElem?_eq_some_iff.1 hi).1
  obtain ⟨o, k⟩ := hone_of hone i f hi
  have hg' := hg i f hi
  rw [o, k] at hg'
  refine ⟨n, cs[i]'(by omega), xs[i]'(by omega), List.getElem?_eq_getElem (by omega), ?_⟩
  rw [← List.getElem?_eq_getElem (by omega : i < xs.length), ← hg']
  congr 1
  rw [List.drop_eq_getElem_cons (by omega)]
  rfl
end
end Go.Proofs.YtmodghiokoiipaaGreat

/-
  A list of buckets, or of takes, that came in as an argument.
-/
import Derived.Test.YthkollhebabhbaaOpenB
import Derived.Test.YthkollhebabhbaaBw11
namespace Go.Proofs.Ythkollhebabhbaa
open Go.RowKit Go.ChangeShapes Go.WideShapes Go.Deep

/-- A list of buckets as an argument. -/
def InBks (w : World) (A : Option Addr) (n : Nat) : Prop := ∃ xs : List Bk, xs.length = n ∧ n ≤ maxLen ∧ Bks w A xs ∧ ∀ x ∈ xs, x.Fits
/-- A list of takes as an argument. -/
def InTks (w : World) (A : Option Addr) (n : Nat) : Prop := ∃ ts : List Tk, ts.length = n ∧ n ≤ maxLen ∧ Tks w A ts ∧ ∀ t ∈ ts, fits t.units

section
variable {H : Type} {enc : TypeId × Value → H} {w : World} {base : Nat} {spare : Nat → Bool} {held : Bool}

theorem open_buckets {A : Option Addr} {n c : Nat} {d : DataW H} {p : List MemPlace} (h : DataW.Trod enc Try.prog w base spare held 22 (.slice A n c) d p) : InBks w A n := by
  obtain ⟨hm, h0⟩ := open_slice_cells 12 (by decide) Try.underlying22 (by kernel_rfl) h
  rcases h0 with h0 | ⟨b, o, V, fuel, Y, rfl, hb, hV⟩
  · exact ⟨[], h0.symm, hm, fun j x hx => by simp at hx, fun x hx => by cases hx⟩
  · have hx : ∀ i, i < n → ∃ (x : Bk) (za : Option Addr) (zc : Nat), V i = x.cells za zc ∧ StrsAt w za x.zones ∧ (za = none → zc = 0) ∧ x.Fits := fun i hi => open_bucket_cells (hV i hi).2.2
    refine ⟨(List.range n).map fun i => if hi : i < n then (hx i hi).choose else Bk.zero, by simp, hm, fun j x hj => ?_, fun x hx' => ?_⟩
    · have hjn : j < n := by
        have := (List.getElem?_eq_some_iff.1 hj).1
        simpa using this
      have hxj : (hx j hjn).choose = x := by simpa [List.getElem?_map, hjn] using hj
      obtain ⟨za, zc, hc, hs, hz, _⟩ := (hx j hjn).choose_spec
      rw [hxj] at hc hs
      refine ⟨b, o, za, zc, rfl, hb, fun i v hv => ?_, hs, hz⟩
      have hi : i < 12 := by
        have := (List.getElem?_eq_some_iff.1 hv).1
        rwa [Bk.len_cells] at this
      rw [(hV j hjn).2.1 i hi, hc]
      exact hv
    · obtain ⟨j, hj, rfl⟩ := List.mem_map.1 hx'
      have hjn : j < n := List.mem_range.1 hj
      simp only [hjn, dite_true]
      exact (hx j hjn).choose_spec.choose_spec.choose_spec.2.2.2

theorem five {α : Type} {cs : List α} (h : cs.length = 5) : ∃ a b c d e, cs = [a, b, c, d, e] := by
  match cs, h with
  | [a, b, c, d, e], _ => exact ⟨a, b, c, d, e, rfl⟩
theorem open_take_cells {fuel : Nat} {cs : List Value} {x : DataW H × List MemPlace} (h : DataW.trod enc Try.prog w base spare held fuel 86 cs = some x) : ∃ t : Tk, cs = t.cells ∧ fits t.units := by
  obtain ⟨hl, hp⟩ := struct_cells Try.underlying86 (by kernel_rfl) (by kernel_rfl) h
  obtain ⟨c0, c1, c2, c3, c4, rfl⟩ := five (hl.trans rfl)
  obtain ⟨_, x0, _, e0, t0⟩ := hp 0 _ rfl
  obtain ⟨_, x1, _, e1, t1⟩ := hp 1 _ rfl
  obtain ⟨_, x2, _, e2, t2⟩ := hp 2 _ rfl
  obtain ⟨_, x3, _, e3, t3⟩ := hp 3 _ rfl
  obtain ⟨_, x4, _, e4, t4⟩ := hp 4 _ rfl
  obtain ⟨n0, k0, _⟩ := DataW.trod_int Try.underlying3 t0
  obtain ⟨n1, k1, _⟩ := DataW.trod_string Try.underlying9 t1
  obtain ⟨n2, k2, _⟩ := DataW.trod_int Try.underlying3 t2
  obtain ⟨n3, k3, _⟩ := DataW.trod_int Try.underlying3 t3
  obtain ⟨n4, k4, _, f4⟩ := DataW.trod_int Try.underlying3 t4
  simp only [List.getElem?_cons_zero, List.getElem?_cons_succ, Option.some.injEq, List.cons.injEq, and_true] at *
  subst e0 e1 e2 e3 e4 k0 k1 k2 k3 k4
  exact ⟨⟨n0, n1, n2, n3, n4⟩, rfl, fits_of f4⟩
theorem open_takes {A : Option Addr} {n c : Nat} {d : DataW H} {p : List MemPlace} (h : DataW.Trod enc Try.prog w base spare held 41 (.slice A n c) d p) : InTks w A n := by
  obtain ⟨hm, h0⟩ := open_slice_cells 5 (by decide) Try.underlying41 (by kernel_rfl) h
  rcases h0 with h0 | ⟨b, o, V, fuel, Y, rfl, hb, hV⟩
  · exact ⟨[], h0.symm, hm, fun j x hx => by simp at hx, fun x hx => by cases hx⟩
  · have hx : ∀ i, i < n → ∃ t : Tk, V i = t.cells ∧ fits t.units := fun i hi => open_take_cells (hV i hi).2.2
    refine ⟨(List.range n).map fun i => if hi : i < n then (hx i hi).choose else ⟨0, ByteArray.empty, 0, 0, 0⟩, by simp, hm, fun j x hj => ?_, fun x hx' => ?_⟩
    · have hjn : j < n := by
        have := (List.getElem?_eq_some_iff.1 hj).1
        simpa using this
      have hxj : (hx j hjn).choose = x := by simpa [List.getElem?_map, hjn] using hj
      have hc := (hx j hjn).choose_spec.1
      rw [hxj] at hc
      refine ⟨b, o, rfl, hb, fun i v hv => ?_⟩
      have hi : i < 5 := (List.getElem?_eq_some_iff.1 hv).1
      rw [(hV j hjn).2.1 i hi, hc]
      exact hv
    · obtain ⟨j, hj, rfl⟩ := List.mem_map.1 hx'
      have hjn : j < n := List.mem_range.1 hj
      simp only [hjn, dite_true]
      exact (hx j hjn).choose_spec.2
end
end Go.Proofs.Ythkollhebabhbaa

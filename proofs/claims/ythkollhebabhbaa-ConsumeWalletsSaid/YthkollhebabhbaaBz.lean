/-
  Small facts on what Few, Take and Give say.
-/
import Derived.Test.YthkollhebabhbaaBw13
import Derived.Test.YthkollhebabhbaaBw18
import Derived.Test.YthkollhebabhbaaBq
namespace Go.Proofs.Ythkollhebabhbaa
open Go.RowKit
set_option linter.unusedSimpArgs false

theorem few_yes {xs : List Bk} (h : fewB xs = true) : xs.length ≤ 12 ∧ ∀ x ∈ xs, x.zones.length ≤ 6 := by
  simp only [fewB, Bool.and_eq_true, decide_eq_true_eq, List.all_eq_true] at h
  exact h
theorem take_max (xs : List Bk) (use : Bk → Bool) (n : Int) : take xs use n = take xs use (max n 0) := by
  unfold take
  rw [show max (max n 0) 0 = max n 0 by omega]
theorem take_mem {xs : List Bk} {use : Bk → Bool} (hu : UseOk use) {n : Int} {y : Bk} (h : y ∈ (take xs use n).1) : ∃ x ∈ xs, ∃ l, l ≤ x.left ∧ y = x.withLeft l := by
  rw [take_max] at h
  obtain ⟨q, hq⟩ := List.mem_iff_getElem?.1 h
  rw [take_out hu (by omega)] at hq
  obtain ⟨x, hx, rfl⟩ := Option.map_eq_some_iff.1 hq
  have := am_le (eff_nonneg hu xs) (srt (posr xs) 0 xs.length) (max n 0) q (by omega)
  refine ⟨x, List.mem_of_getElem? hx, _, ?_, rfl⟩
  unfold amt
  omega
theorem take_tlen (xs : List Bk) (use : Bk → Bool) (n : Int) : (take xs use n).2.1.length ≤ xs.length := by
  rw [take_max, take_tks xs use (by omega)]
  have := tks_len (xs := xs) (use := use) (srt (posr xs) 0 xs.length) (max n 0)
  rw [srt_length] at this
  exact this

def TakeR (r : List Bk × List Tk × Int) (w : World) (e : Ending) (w' : World) : Prop := ∃ v1 v2, e = .returned (.tuple #[v1, v2, .int .i64 r.2.2]) ∧ OwnBks w' w.heap.size v1 r.1 ∧ OwnTks w' w.heap.size v2 r.2.1 ∧ Below w.heap.size w w'

/-- What is given back lies among the buckets, whatever is left of them. -/
theorem give_mem : ∀ (ts : List Tk) (xs : List Bk) (y : Bk), y ∈ (give ts xs).1 → ∃ x ∈ xs, ∃ l, y = x.withLeft l
  | [], xs, y, h => ⟨y, h, y.left, rfl⟩
  | t :: ts, xs, y, h => by
    rw [give] at h
    split at h
    · cases h
    · split at h
      · cases h
      · split at h
        · rename_i k hk _
          obtain ⟨x, hx, l, rfl⟩ := give_mem ts _ y h
          rcases List.mem_or_eq_of_mem_set hx with hx | rfl
          · exact ⟨x, hx, l, rfl⟩
          · obtain ⟨b, hb, _⟩ := fnd_some hk
            rw [getD_at hb]
            exact ⟨b, List.mem_of_getElem? hb, l, rfl⟩
        · cases h
theorem give_len : ∀ (ts : List Tk) (xs : List Bk), (give ts xs).1.length ≤ xs.length
  | [], xs => Nat.le_refl _
  | t :: ts, xs => by
    rw [give]
    split
    · simp
    · split
      · simp
      · split
        · refine Nat.le_trans (give_len ts _) ?_
          rw [List.length_set]
          exact Nat.le_refl _
        · simp

end Go.Proofs.Ythkollhebabhbaa

/-
  The walks of the small functions of buckets: names, periods, comparisons.
-/
import Derived.Test.YthkollhebabhbaaProg
import Derived.Test.YthkollhebabhbaaBp
namespace Go.Proofs.Ythkollhebabhbaa
open Go.RowKit
set_option linter.unusedSimpArgs false

theorem size_toList (s : ByteArray) : s.toList.length = s.size := by
  rw [ByteArray.toList_eq]
  cases s
  rfl
theorem isEmpty_of {s : ByteArray} (h : s.size = 0) : s.toList.isEmpty = true := by
  rw [List.isEmpty_iff_length_eq_zero, size_toList, h]
theorem isEmpty_not {s : ByteArray} (h : 0 < s.size) : s.toList.isEmpty = false := by
  cases hh : s.toList with
  | nil =>
    have := size_toList s
    rw [hh] at this
    simp at this
    omega
  | cons a l => rfl
end Go.Proofs.Ythkollhebabhbaa

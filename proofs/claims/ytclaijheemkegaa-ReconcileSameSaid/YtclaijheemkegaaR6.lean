/-
  The closure of Units, and the sums.
-/
import Derived.Test.YtclaijheemkegaaR4
namespace Go.Proofs.Ytclaijheemkegaa
open Go.RowKit
set_option linter.unusedSimpArgs false
set_option linter.unusedVariables false

/-- The units at a position, none outside; and whether it is inside. -/
def uamt (xs : List It) (i : Int) : Int := if 0 ≤ i then ((xs[i.toNat]?).map It.cnt).getD 0 else 0
def uin (xs : List It) (i : Int) : Bool := decide (0 ≤ i ∧ i < xs.length)
theorem uamt_in (xs : List It) (i : Int) : 0 ≤ uamt xs i ∧ uamt xs i ≤ 1099511627776 := by
  unfold uamt
  split
  · cases xs[i.toNat]? with
    | none => simp
    | some x => exact x.cnt_in
  · omega
theorem uamt_out {xs : List It} {i : Int} (h : uin xs i = false) : uamt xs i = 0 := by
  unfold uin at h
  unfold uamt
  split
  · have : ¬ (0 ≤ i ∧ i < xs.length) := of_decide_eq_false h
    rw [List.getElem?_eq_none (by omega)]
    rfl
  · rfl
theorem uamt_at {xs : List It} {k : Nat} {x : It} (h : xs[k]? = some x) : uamt xs (k : Int) = x.cnt := by
  unfold uamt
  rw [if_pos (by omega), show (k : Int).toNat = k by omega, h]
  rfl

theorem inside_any (i k : Int) (Ax At : Option Addr) (n m cx ct : Nat) (bx bt : Nat) (w : World) (hx : w.cell? ⟨bx, 0, none⟩ = some (.slice Ax n cx)) (ht : w.cell? ⟨bt, 0, none⟩ = some (.slice At m ct)) (hbx : bx < w.heap.size) (hbt : bt < w.heap.size) :
    Calls Try.prog 27 #[.agg #[.int .i64 i, .int .i64 k], .pointer (some ⟨bx, 0, none⟩), .pointer (some ⟨bt, 0, none⟩)] w fun e w' => e = .returned (.bool (decide (0 ≤ i ∧ i < n) && decide (0 ≤ k ∧ k < m))) ∧ Below w.heap.size w w' := by
  have e1 : ¬ bx = w.heap.size := by omega
  have e2 : ¬ bt = w.heap.size := by omega
  go_enter Try.func27, Try.ntmps27
  go_wp2
  all_goals
    go_ret
    refine ⟨?_, ?_⟩
    · refine congrArg (fun x => Ending.returned (Value.bool x)) ?_
      rw [Bool.eq_iff_iff]
      simp only [Bool.and_eq_true, decide_eq_true_eq, Bool.false_eq_true, true_iff, false_iff]
      omega
    · repeat' (first | exact Below.refl _ _ | refine below_ext ?_ ?_ _ | refine Below.alloc ?_ ?_ _ | refine Below.setCell ?_ ?_ _ | refine Below.drew ?_ | (rw [size_ext]; refine Nat.le_add_right_of_le ?_) | go_size | (rw [World.size_alloc]; refine Nat.le_add_right_of_le ?_))
end Go.Proofs.Ytclaijheemkegaa

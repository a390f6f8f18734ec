/-
  The walks over the wallet's functions, the program's and the reference's: each returns what the plain function of the same name computes, and changes nothing that was there.
-/
import Derived.Test.YthkollhebabhbaaProg
import Derived.Test.YthkollhebabhbaaWp
namespace Go.Proofs.Ythkollhebabhbaa
open Go.RowKit

set_option maxHeartbeats 400000 in
theorem within_any (n lo hi : Int) (w : World) :
    Calls Try.prog 54 #[.int .i64 n, .int .i64 lo, .int .i64 hi] w fun e w' => e = .returned (.bool (inB n lo hi)) ∧ w = w' := by
  go_enter Try.func54, Try.ntmps54
  go_wp2
  all_goals (go_ret; exact ⟨ret_bool (by unfold inB; simp; omega), rfl⟩)
set_option maxHeartbeats 400000 in
theorem valid_any (n : Int) (w : World) :
    Calls Try.prog 61 #[.int .i64 n] w fun e w' => e = .returned (.bool (inB n (-1125899906842624) 1125899906842624)) ∧ w = w' := by
  go_enter Try.func61, Try.ntmps61
  go_wp2
  all_goals (go_ret; exact ⟨ret_bool (by unfold inB; simp; omega), rfl⟩)
set_option maxHeartbeats 400000 in
theorem rvalid_any (n : Int) (w : World) :
    Calls Try.prog 33 #[.int .i64 n] w fun e w' => e = .returned (.bool (inB n (-1125899906842624) 1125899906842624)) ∧ w = w' := by
  go_enter Try.func33, Try.ntmps33
  go_wp2
  all_goals (go_ret; exact ⟨ret_bool (by unfold inB; simp; omega), rfl⟩)
set_option maxHeartbeats 400000 in
theorem money_any (n : Int) (w : World) :
    Calls Try.prog 56 #[.int .i64 n] w fun e w' => e = .returned (.bool (inB n 0 1125899906842624)) ∧ w = w' := by
  go_enter Try.func56, Try.ntmps56
  go_wp2_with (go_at_call 33; refine (rvalid_any _ _).mono ?_; rintro e w' ⟨rfl, rfl⟩)
  all_goals (go_ret; exact ⟨ret_bool (by first | (rw [Bool.eq_iff_iff, inB_iff, inB_iff]; omega) | exact (inB_no.2 (by omega)).symm), rfl⟩)

set_option linter.unusedSimpArgs false in
set_option maxHeartbeats 400000 in
theorem check_any (a b f h u : Int) (w : World) :
    Calls Try.prog 52 #[.agg #[.int .i64 a, .int .i64 b, .int .i64 f, .int .i64 h, .int .i64 u]] w fun e w' => e = .returned (.int .i64 (W5.mk a b f h u).chk) ∧ Below w.heap.size w w' := by
  go_enter Try.func52, Try.ntmps52
  go_wp2_with (first
    | (go_at_call 54; refine (within_any _ _ _ _).mono ?_; rintro e w' ⟨rfl, rfl⟩)
    | (go_at_call 61; refine (valid_any _ _).mono ?_; rintro e w' ⟨rfl, rfl⟩))
  all_goals
    go_ret
    refine ⟨ret_int ?_, (Below.refl _ _).alloc (Nat.le_refl _) _⟩
    try simp only [Bool.not_eq_true', Bool.not_eq_false', Bool.not_eq_true, inB_iff, inB_no] at *
    unfold W5.chk
    dsimp only
    repeat' split
    all_goals first | rfl | (exfalso; (try unfold wrap64 at *); omega)

set_option linter.unusedSimpArgs false in
set_option maxHeartbeats 1000000 in
theorem rcheck_any (a b f h u : Int) (w : World) :
    Calls Try.prog 15 #[.agg #[.int .i64 a, .int .i64 b, .int .i64 f, .int .i64 h, .int .i64 u]] w fun e w' => e = .returned (.int .i64 (W5.mk a b f h u).chk) ∧ Below w.heap.size w w' := by
  go_enter Try.func15, Try.ntmps15
  go_wp2_with (go_at_call 33; refine (rvalid_any _ _).mono ?_; rintro e w' ⟨rfl, rfl⟩)
  all_goals
    go_ret
    refine ⟨ret_int ?_, (Below.refl _ _).alloc (Nat.le_refl _) _⟩
    try simp only [Bool.not_eq_true', Bool.not_eq_false', Bool.not_eq_true, inB_iff, inB_no, decide_eq_true_eq, decide_eq_false_iff_not] at *
    unfold W5.chk
    dsimp only
    repeat' split
    all_goals first | rfl | (exfalso; (try unfold wrap64 at *); omega)
end Go.Proofs.Ythkollhebabhbaa

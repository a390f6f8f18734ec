/-
  The walks over the wallet's functions that hand back a wallet and an error, the program's and the reference's: each returns what the plain function of the same name computes, and changes nothing that was there.
-/
import Derived.Test.YthkollhebabhbaaWal
namespace Go.Proofs.Ythkollhebabhbaa
open Go.RowKit

set_option maxHeartbeats 400000 in
theorem result_ok (a b f h u : Int) (w : World) :
    Calls Try.prog 53 #[.agg #[.int .i64 a, .int .i64 b, .int .i64 f, .int .i64 h, .int .i64 u], .int .i64 0] w fun e w' => e = .returned (.tuple #[.agg #[.int .i64 a, .int .i64 b, .int .i64 f, .int .i64 h, .int .i64 u], .int .i64 0]) ∧ Below w.heap.size w w' := by
  go_enter Try.func53, Try.ntmps53
  go_wp2
  go_returns
  refine ⟨rfl, ?_⟩
  go_grown
set_option maxHeartbeats 400000 in
theorem result_err (a b f h u e : Int) (he : (e != 0) = true) (w : World) :
    Calls Try.prog 53 #[.agg #[.int .i64 a, .int .i64 b, .int .i64 f, .int .i64 h, .int .i64 u], .int .i64 e] w fun x w' => x = .returned (.tuple #[.agg #[.int .i64 0, .int .i64 0, .int .i64 0, .int .i64 0, .int .i64 0], .int .i64 e]) ∧ Below w.heap.size w w' := by
  go_enter Try.func53, Try.ntmps53
  go_wp2
  go_returns
  refine ⟨rfl, ?_⟩
  go_grown

set_option maxHeartbeats 400000 in
theorem free_any (a b f h u : Int) (w : World) :
    Calls Try.prog 28 #[.agg #[.int .i64 a, .int .i64 b, .int .i64 f, .int .i64 h, .int .i64 u]] w fun e w' => e = .returned (.int .i64 (W5.mk a b f h u).free) ∧ Below w.heap.size w w' := by
  by_cases hc : (W5.mk a b f h u).chk = 0
  · have hk := W5.chk_ok.1 hc
    dsimp only at hk
    obtain ⟨_, _, _, _, _, _, _, _, _, _, _⟩ := hk
    have hc1 : ((W5.mk a b f h u).chk != 0) = false := by simp [hc]
    have H := Lib.hid hc
    clear hc
    go_enter Try.func28, Try.ntmps28
    go_wp2_with (go_at_call 52; refine (check_any _ _ _ _ _ _).mono ?_; rintro e w1 ⟨rfl, hb⟩; obtain ⟨hcc, hff⟩ := bcell hb)
    go_ret
    exact ⟨ret_int (by rw [W5.free, if_pos H.out]), ((Below.refl _ _).alloc (Nat.le_refl _) _).trans (hb.mono (by simp))⟩
  · have hc1 : ((W5.mk a b f h u).chk != 0) = true := by simp [hc]
    have H := Lib.hid hc
    clear hc
    go_enter Try.func28, Try.ntmps28
    go_wp2_with (go_at_call 52; refine (check_any _ _ _ _ _ _).mono ?_; rintro e w1 ⟨rfl, hb⟩; obtain ⟨hcc, hff⟩ := bcell hb)
    go_ret
    exact ⟨ret_int (by rw [W5.free, if_neg H.out]), ((Below.refl _ _).alloc (Nat.le_refl _) _).trans (hb.mono (by simp))⟩

set_option maxHeartbeats 400000 in
theorem rfree_any (a b f h u : Int) (w : World) :
    Calls Try.prog 14 #[.agg #[.int .i64 a, .int .i64 b, .int .i64 f, .int .i64 h, .int .i64 u]] w fun e w' => e = .returned (.int .i64 (W5.mk a b f h u).free) ∧ Below w.heap.size w w' := by
  by_cases hc : (W5.mk a b f h u).chk = 0
  · have hk := W5.chk_ok.1 hc
    dsimp only at hk
    obtain ⟨_, _, _, _, _, _, _, _, _, _, _⟩ := hk
    have hc1 : ((W5.mk a b f h u).chk != 0) = false := by simp [hc]
    have H := Lib.hid hc
    clear hc
    go_enter Try.func14, Try.ntmps14
    go_wp2_with (go_at_call 15; refine (rcheck_any _ _ _ _ _ _).mono ?_; rintro e w1 ⟨rfl, hb⟩; obtain ⟨hcc, hff⟩ := bcell hb)
    go_ret
    exact ⟨ret_int (by rw [W5.free, if_pos H.out]), ((Below.refl _ _).alloc (Nat.le_refl _) _).trans (hb.mono (by simp))⟩
  · have hc1 : ((W5.mk a b f h u).chk != 0) = true := by simp [hc]
    have H := Lib.hid hc
    clear hc
    go_enter Try.func14, Try.ntmps14
    go_wp2_with (go_at_call 15; refine (rcheck_any _ _ _ _ _ _).mono ?_; rintro e w1 ⟨rfl, hb⟩; obtain ⟨hcc, hff⟩ := bcell hb)
    go_ret
    exact ⟨ret_int (by rw [W5.free, if_neg H.out]), ((Below.refl _ _).alloc (Nat.le_refl _) _).trans (hb.mono (by simp))⟩

theorem result_6 (a b f h u : Int) (w : World) :
    Calls Try.prog 53 #[.agg #[.int .i64 a, .int .i64 b, .int .i64 f, .int .i64 h, .int .i64 u], .int .i64 6] w fun x w' => x = .returned (.tuple #[.agg #[.int .i64 0, .int .i64 0, .int .i64 0, .int .i64 0, .int .i64 0], .int .i64 6]) ∧ Below w.heap.size w w' :=
  result_err a b f h u 6 rfl w

theorem result_19 (a b f h u : Int) (w : World) :
    Calls Try.prog 53 #[.agg #[.int .i64 a, .int .i64 b, .int .i64 f, .int .i64 h, .int .i64 u], .int .i64 19] w fun x w' => x = .returned (.tuple #[.agg #[.int .i64 0, .int .i64 0, .int .i64 0, .int .i64 0, .int .i64 0], .int .i64 19]) ∧ Below w.heap.size w w' :=
  result_err a b f h u 19 rfl w
end Go.Proofs.Ythkollhebabhbaa

/-
  The walks of Credit, Debit and Floor, the program's and the reference's, each against the plain function of its name.
-/
import Derived.Test.YthkollhebabhbaaWal1
namespace Go.Proofs.Ythkollhebabhbaa
open Go.RowKit

set_option maxHeartbeats 1000000 in
theorem credit_any (a b f h u n : Int) (w : World) :
    Calls Try.prog 35 #[.agg #[.int .i64 a, .int .i64 b, .int .i64 f, .int .i64 h, .int .i64 u], .int .i64 n] w fun e w' => e = .returned (.tuple #[.agg #[.int .i64 (W5.credit (W5.mk a b f h u) n).1.a, .int .i64 (W5.credit (W5.mk a b f h u) n).1.b, .int .i64 (W5.credit (W5.mk a b f h u) n).1.f, .int .i64 (W5.credit (W5.mk a b f h u) n).1.h, .int .i64 (W5.credit (W5.mk a b f h u) n).1.u], .int .i64 (W5.credit (W5.mk a b f h u) n).2]) ∧ Below w.heap.size w w' := by
  by_cases hc : (W5.mk a b f h u).chk = 0
  · have hk := W5.chk_ok.1 hc
    dsimp only at hk
    obtain ⟨_, _, _, _, _, _, _, _, _, _, _⟩ := hk
    have hc1 : ((W5.mk a b f h u).chk != 0) = false := by simp [hc]
    have H := Lib.hid hc
    clear hc
    by_cases h1 : 0 ≤ n ∧ n ≤ 1125899906842624
    · skip
      have g1 : inB n 0 1125899906842624 = true := inB_iff.2 ⟨by omega, by omega⟩
      obtain ⟨_, _⟩ := h1
      by_cases h2 : b + n ≤ 1125899906842624
      · skip
        have g2 : inB (b + n) (-1125899906842624) 1125899906842624 = true := inB_iff.2 ⟨by omega, by omega⟩
        have E : Hid (W5.credit (W5.mk a b f h u) n = (⟨a, b + n, f, h, u⟩, 0)) := by
          unfold Hid W5.credit
          rw [if_pos H.out, if_pos (by (try dsimp only); omega)]
        go_enter Try.func35, Try.ntmps35
        go_wp2_with (first
          | (go_at_call 52; with_reducible refine (check_any _ _ _ _ _ _).mono ?_; rintro e w1 ⟨rfl, hb⟩; obtain ⟨s, rfl⟩ := ext_of_below hb; clear hb)
          | (go_at_call 28; with_reducible refine (free_any _ _ _ _ _ _).mono ?_; rintro e w1 ⟨rfl, hb⟩; obtain ⟨s, rfl⟩ := ext_of_below hb; clear hb)
          | (go_at_call 54; with_reducible refine (within_any _ _ _ _).mono ?_; rintro e w' ⟨rfl, rfl⟩)
          | (go_at_call 61; with_reducible refine (valid_any _ _).mono ?_; rintro e w' ⟨rfl, rfl⟩)
          | (go_at_call 53; with_reducible refine (result_err _ _ _ _ _ _ (by assumption) _).mono ?_; rintro e w1 ⟨rfl, hb⟩; obtain ⟨s, rfl⟩ := ext_of_below hb; clear hb)
          | (go_at_call 53; with_reducible refine (result_6 _ _ _ _ _ _).mono ?_; rintro e w1 ⟨rfl, hb⟩; obtain ⟨s, rfl⟩ := ext_of_below hb; clear hb)
          | (go_at_call 53; with_reducible refine (result_19 _ _ _ _ _ _).mono ?_; rintro e w1 ⟨rfl, hb⟩; obtain ⟨s, rfl⟩ := ext_of_below hb; clear hb))
        go_returns
        refine ⟨?_, ?_⟩
        · rw [E.out]; (try rfl)
        · repeat' (first | exact Below.refl _ _ | refine below_ext ?_ ?_ _ | refine Below.alloc ?_ ?_ _ | refine Below.setCell ?_ ?_ _ | refine Below.drew ?_ | (rw [size_ext]; refine Nat.le_add_right_of_le ?_) | go_size | (rw [World.size_alloc]; refine Nat.le_add_right_of_le ?_))
      · skip
        have g2 : inB (b + n) (-1125899906842624) 1125899906842624 = false := inB_no.2 (by omega)
        have E : Hid (W5.credit (W5.mk a b f h u) n = (W5.zero, 6)) := by
          unfold Hid W5.credit
          rw [if_pos H.out, if_neg (by (try dsimp only); omega)]
        go_enter Try.func35, Try.ntmps35
        go_wp2_with (first
          | (go_at_call 52; with_reducible refine (check_any _ _ _ _ _ _).mono ?_; rintro e w1 ⟨rfl, hb⟩; obtain ⟨s, rfl⟩ := ext_of_below hb; clear hb)
          | (go_at_call 28; with_reducible refine (free_any _ _ _ _ _ _).mono ?_; rintro e w1 ⟨rfl, hb⟩; obtain ⟨s, rfl⟩ := ext_of_below hb; clear hb)
          | (go_at_call 54; with_reducible refine (within_any _ _ _ _).mono ?_; rintro e w' ⟨rfl, rfl⟩)
          | (go_at_call 61; with_reducible refine (valid_any _ _).mono ?_; rintro e w' ⟨rfl, rfl⟩)
          | (go_at_call 53; with_reducible refine (result_err _ _ _ _ _ _ (by assumption) _).mono ?_; rintro e w1 ⟨rfl, hb⟩; obtain ⟨s, rfl⟩ := ext_of_below hb; clear hb)
          | (go_at_call 53; with_reducible refine (result_6 _ _ _ _ _ _).mono ?_; rintro e w1 ⟨rfl, hb⟩; obtain ⟨s, rfl⟩ := ext_of_below hb; clear hb)
          | (go_at_call 53; with_reducible refine (result_19 _ _ _ _ _ _).mono ?_; rintro e w1 ⟨rfl, hb⟩; obtain ⟨s, rfl⟩ := ext_of_below hb; clear hb))
        go_returns
        refine ⟨?_, ?_⟩
        · rw [E.out]; (try rfl)
        · repeat' (first | exact Below.refl _ _ | refine below_ext ?_ ?_ _ | refine Below.alloc ?_ ?_ _ | refine Below.setCell ?_ ?_ _ | refine Below.drew ?_ | (rw [size_ext]; refine Nat.le_add_right_of_le ?_) | go_size | (rw [World.size_alloc]; refine Nat.le_add_right_of_le ?_))
    · skip
      have g1 : inB n 0 1125899906842624 = false := inB_no.2 (by omega)
      have E : Hid (W5.credit (W5.mk a b f h u) n = (W5.zero, 6)) := by
        unfold Hid W5.credit
        rw [if_pos H.out, if_neg (by (try dsimp only); omega)]
      go_enter Try.func35, Try.ntmps35
      go_wp2_with (first
        | (go_at_call 52; with_reducible refine (check_any _ _ _ _ _ _).mono ?_; rintro e w1 ⟨rfl, hb⟩; obtain ⟨s, rfl⟩ := ext_of_below hb; clear hb)
        | (go_at_call 28; with_reducible refine (free_any _ _ _ _ _ _).mono ?_; rintro e w1 ⟨rfl, hb⟩; obtain ⟨s, rfl⟩ := ext_of_below hb; clear hb)
        | (go_at_call 54; with_reducible refine (within_any _ _ _ _).mono ?_; rintro e w' ⟨rfl, rfl⟩)
        | (go_at_call 61; with_reducible refine (valid_any _ _).mono ?_; rintro e w' ⟨rfl, rfl⟩)
        | (go_at_call 53; with_reducible refine (result_err _ _ _ _ _ _ (by assumption) _).mono ?_; rintro e w1 ⟨rfl, hb⟩; obtain ⟨s, rfl⟩ := ext_of_below hb; clear hb)
        | (go_at_call 53; with_reducible refine (result_6 _ _ _ _ _ _).mono ?_; rintro e w1 ⟨rfl, hb⟩; obtain ⟨s, rfl⟩ := ext_of_below hb; clear hb)
        | (go_at_call 53; with_reducible refine (result_19 _ _ _ _ _ _).mono ?_; rintro e w1 ⟨rfl, hb⟩; obtain ⟨s, rfl⟩ := ext_of_below hb; clear hb))
      go_returns
      refine ⟨?_, ?_⟩
      · rw [E.out]; (try rfl)
      · repeat' (first | exact Below.refl _ _ | refine below_ext ?_ ?_ _ | refine Below.alloc ?_ ?_ _ | refine Below.setCell ?_ ?_ _ | refine Below.drew ?_ | (rw [size_ext]; refine Nat.le_add_right_of_le ?_) | go_size | (rw [World.size_alloc]; refine Nat.le_add_right_of_le ?_))
  · have hc1 : ((W5.mk a b f h u).chk != 0) = true := by simp [hc]
    have H := Lib.hid hc
    clear hc
    have E : Hid (W5.credit (W5.mk a b f h u) n = (W5.zero, (W5.mk a b f h u).chk)) := by
      unfold Hid W5.credit
      rw [if_neg H.out]
    go_enter Try.func35, Try.ntmps35
    go_wp2_with (first
      | (go_at_call 52; with_reducible refine (check_any _ _ _ _ _ _).mono ?_; rintro e w1 ⟨rfl, hb⟩; obtain ⟨s, rfl⟩ := ext_of_below hb; clear hb)
      | (go_at_call 28; with_reducible refine (free_any _ _ _ _ _ _).mono ?_; rintro e w1 ⟨rfl, hb⟩; obtain ⟨s, rfl⟩ := ext_of_below hb; clear hb)
      | (go_at_call 54; with_reducible refine (within_any _ _ _ _).mono ?_; rintro e w' ⟨rfl, rfl⟩)
      | (go_at_call 61; with_reducible refine (valid_any _ _).mono ?_; rintro e w' ⟨rfl, rfl⟩)
      | (go_at_call 53; with_reducible refine (result_err _ _ _ _ _ _ (by assumption) _).mono ?_; rintro e w1 ⟨rfl, hb⟩; obtain ⟨s, rfl⟩ := ext_of_below hb; clear hb)
      | (go_at_call 53; with_reducible refine (result_6 _ _ _ _ _ _).mono ?_; rintro e w1 ⟨rfl, hb⟩; obtain ⟨s, rfl⟩ := ext_of_below hb; clear hb)
      | (go_at_call 53; with_reducible refine (result_19 _ _ _ _ _ _).mono ?_; rintro e w1 ⟨rfl, hb⟩; obtain ⟨s, rfl⟩ := ext_of_below hb; clear hb))
    go_returns
    refine ⟨?_, ?_⟩
    · rw [E.out]; (try rfl)
    · repeat' (first | exact Below.refl _ _ | refine below_ext ?_ ?_ _ | refine Below.alloc ?_ ?_ _ | refine Below.setCell ?_ ?_ _ | refine Below.drew ?_ | (rw [size_ext]; refine Nat.le_add_right_of_le ?_) | go_size | (rw [World.size_alloc]; refine Nat.le_add_right_of_le ?_))

set_option maxHeartbeats 1000000 in
theorem rcredit_any (a b f h u n : Int) (w : World) :
    Calls Try.prog 37 #[.agg #[.int .i64 a, .int .i64 b, .int .i64 f, .int .i64 h, .int .i64 u], .int .i64 n] w fun e w' => e = .returned (.tuple #[.agg #[.int .i64 (W5.credit (W5.mk a b f h u) n).1.a, .int .i64 (W5.credit (W5.mk a b f h u) n).1.b, .int .i64 (W5.credit (W5.mk a b f h u) n).1.f, .int .i64 (W5.credit (W5.mk a b f h u) n).1.h, .int .i64 (W5.credit (W5.mk a b f h u) n).1.u], .int .i64 (W5.credit (W5.mk a b f h u) n).2]) ∧ Below w.heap.size w w' := by
  by_cases hc : (W5.mk a b f h u).chk = 0
  · have hk := W5.chk_ok.1 hc
    dsimp only at hk
    obtain ⟨_, _, _, _, _, _, _, _, _, _, _⟩ := hk
    have hc1 : ((W5.mk a b f h u).chk != 0) = false := by simp [hc]
    have H := Lib.hid hc
    clear hc
    by_cases h1 : 0 ≤ n ∧ n ≤ 1125899906842624
    · skip
      have g1 : inB n 0 1125899906842624 = true := inB_iff.2 ⟨by omega, by omega⟩
      obtain ⟨_, _⟩ := h1
      by_cases h2 : b + n ≤ 1125899906842624
      · skip
        have g2 : inB (b + n) (-1125899906842624) 1125899906842624 = true := inB_iff.2 ⟨by omega, by omega⟩
        have E : Hid (W5.credit (W5.mk a b f h u) n = (⟨a, b + n, f, h, u⟩, 0)) := by
          unfold Hid W5.credit
          rw [if_pos H.out, if_pos (by (try dsimp only); omega)]
        go_enter Try.func37, Try.ntmps37
        go_wp2_with (first
          | (go_at_call 15; with_reducible refine (rcheck_any _ _ _ _ _ _).mono ?_; rintro e w1 ⟨rfl, hb⟩; obtain ⟨s, rfl⟩ := ext_of_below hb; clear hb)
          | (go_at_call 14; with_reducible refine (rfree_any _ _ _ _ _ _).mono ?_; rintro e w1 ⟨rfl, hb⟩; obtain ⟨s, rfl⟩ := ext_of_below hb; clear hb)
          | (go_at_call 56; with_reducible refine (money_any _ _).mono ?_; rintro e w' ⟨rfl, rfl⟩)
          | (go_at_call 33; with_reducible refine (rvalid_any _ _).mono ?_; rintro e w' ⟨rfl, rfl⟩))
        go_returns
        refine ⟨?_, ?_⟩
        · rw [E.out]; (try rfl)
        · repeat' (first | exact Below.refl _ _ | refine below_ext ?_ ?_ _ | refine Below.alloc ?_ ?_ _ | refine Below.setCell ?_ ?_ _ | refine Below.drew ?_ | (rw [size_ext]; refine Nat.le_add_right_of_le ?_) | go_size | (rw [World.size_alloc]; refine Nat.le_add_right_of_le ?_))
      · skip
        have g2 : inB (b + n) (-1125899906842624) 1125899906842624 = false := inB_no.2 (by omega)
        have E : Hid (W5.credit (W5.mk a b f h u) n = (W5.zero, 6)) := by
          unfold Hid W5.credit
          rw [if_pos H.out, if_neg (by (try dsimp only); omega)]
        go_enter Try.func37, Try.ntmps37
        go_wp2_with (first
          | (go_at_call 15; with_reducible refine (rcheck_any _ _ _ _ _ _).mono ?_; rintro e w1 ⟨rfl, hb⟩; obtain ⟨s, rfl⟩ := ext_of_below hb; clear hb)
          | (go_at_call 14; with_reducible refine (rfree_any _ _ _ _ _ _).mono ?_; rintro e w1 ⟨rfl, hb⟩; obtain ⟨s, rfl⟩ := ext_of_below hb; clear hb)
          | (go_at_call 56; with_reducible refine (money_any _ _).mono ?_; rintro e w' ⟨rfl, rfl⟩)
          | (go_at_call 33; with_reducible refine (rvalid_any _ _).mono ?_; rintro e w' ⟨rfl, rfl⟩))
        go_returns
        refine ⟨?_, ?_⟩
        · rw [E.out]; (try rfl)
        · repeat' (first | exact Below.refl _ _ | refine below_ext ?_ ?_ _ | refine Below.alloc ?_ ?_ _ | refine Below.setCell ?_ ?_ _ | refine Below.drew ?_ | (rw [size_ext]; refine Nat.le_add_right_of_le ?_) | go_size | (rw [World.size_alloc]; refine Nat.le_add_right_of_le ?_))
    · skip
      have g1 : inB n 0 1125899906842624 = false := inB_no.2 (by omega)
      have E : Hid (W5.credit (W5.mk a b f h u) n = (W5.zero, 6)) := by
        unfold Hid W5.credit
        rw [if_pos H.out, if_neg (by (try dsimp only); omega)]
      go_enter Try.func37, Try.ntmps37
      go_wp2_with (first
        | (go_at_call 15; with_reducible refine (rcheck_any _ _ _ _ _ _).mono ?_; rintro e w1 ⟨rfl, hb⟩; obtain ⟨s, rfl⟩ := ext_of_below hb; clear hb)
        | (go_at_call 14; with_reducible refine (rfree_any _ _ _ _ _ _).mono ?_; rintro e w1 ⟨rfl, hb⟩; obtain ⟨s, rfl⟩ := ext_of_below hb; clear hb)
        | (go_at_call 56; with_reducible refine (money_any _ _).mono ?_; rintro e w' ⟨rfl, rfl⟩)
        | (go_at_call 33; with_reducible refine (rvalid_any _ _).mono ?_; rintro e w' ⟨rfl, rfl⟩))
      go_returns
      refine ⟨?_, ?_⟩
      · rw [E.out]; (try rfl)
      · repeat' (first | exact Below.refl _ _ | refine below_ext ?_ ?_ _ | refine Below.alloc ?_ ?_ _ | refine Below.setCell ?_ ?_ _ | refine Below.drew ?_ | (rw [size_ext]; refine Nat.le_add_right_of_le ?_) | go_size | (rw [World.size_alloc]; refine Nat.le_add_right_of_le ?_))
  · have hc1 : ((W5.mk a b f h u).chk != 0) = true := by simp [hc]
    have H := Lib.hid hc
    clear hc
    have E : Hid (W5.credit (W5.mk a b f h u) n = (W5.zero, (W5.mk a b f h u).chk)) := by
      unfold Hid W5.credit
      rw [if_neg H.out]
    go_enter Try.func37, Try.ntmps37
    go_wp2_with (first
      | (go_at_call 15; with_reducible refine (rcheck_any _ _ _ _ _ _).mono ?_; rintro e w1 ⟨rfl, hb⟩; obtain ⟨s, rfl⟩ := ext_of_below hb; clear hb)
      | (go_at_call 14; with_reducible refine (rfree_any _ _ _ _ _ _).mono ?_; rintro e w1 ⟨rfl, hb⟩; obtain ⟨s, rfl⟩ := ext_of_below hb; clear hb)
      | (go_at_call 56; with_reducible refine (money_any _ _).mono ?_; rintro e w' ⟨rfl, rfl⟩)
      | (go_at_call 33; with_reducible refine (rvalid_any _ _).mono ?_; rintro e w' ⟨rfl, rfl⟩))
    go_returns
    refine ⟨?_, ?_⟩
    · rw [E.out]; (try rfl)
    · repeat' (first | exact Below.refl _ _ | refine below_ext ?_ ?_ _ | refine Below.alloc ?_ ?_ _ | refine Below.setCell ?_ ?_ _ | refine Below.drew ?_ | (rw [size_ext]; refine Nat.le_add_right_of_le ?_) | go_size | (rw [World.size_alloc]; refine Nat.le_add_right_of_le ?_))

set_option maxHeartbeats 1000000 in
theorem debit_any (a b f h u n : Int) (w : World) :
    Calls Try.prog 29 #[.agg #[.int .i64 a, .int .i64 b, .int .i64 f, .int .i64 h, .int .i64 u], .int .i64 n] w fun e w' => e = .returned (.tuple #[.agg #[.int .i64 (W5.debit (W5.mk a b f h u) n).1.a, .int .i64 (W5.debit (W5.mk a b f h u) n).1.b, .int .i64 (W5.debit (W5.mk a b f h u) n).1.f, .int .i64 (W5.debit (W5.mk a b f h u) n).1.h, .int .i64 (W5.debit (W5.mk a b f h u) n).1.u], .int .i64 (W5.debit (W5.mk a b f h u) n).2]) ∧ Below w.heap.size w w' := by
  by_cases hc : (W5.mk a b f h u).chk = 0
  · have hk := W5.chk_ok.1 hc
    dsimp only at hk
    obtain ⟨_, _, _, _, _, _, _, _, _, _, _⟩ := hk
    have hc1 : ((W5.mk a b f h u).chk != 0) = false := by simp [hc]
    have H := Lib.hid hc
    clear hc
    have hfr : (W5.mk a b f h u).free = b - h - f := by rw [W5.free, if_pos H.out]
    have hfr1 : (W5.mk a b f h u).free ≤ b - h - f := by omega
    have hfr2 : b - h - f ≤ (W5.mk a b f h u).free := by omega
    clear hfr
    by_cases h1 : 0 ≤ n ∧ n ≤ 1125899906842624
    · skip
      have g1 : inB n 0 1125899906842624 = true := inB_iff.2 ⟨by omega, by omega⟩
      obtain ⟨_, _⟩ := h1
      by_cases h2 : (W5.mk a b f h u).free < n
      · skip
        have E : Hid (W5.debit (W5.mk a b f h u) n = (W5.zero, 19)) := by
          unfold Hid W5.debit
          rw [if_pos H.out, if_pos (by (try dsimp only); omega), if_pos h2]
        go_enter Try.func29, Try.ntmps29
        go_wp2_with (first
          | (go_at_call 52; with_reducible refine (check_any _ _ _ _ _ _).mono ?_; rintro e w1 ⟨rfl, hb⟩; obtain ⟨s, rfl⟩ := ext_of_below hb; clear hb)
          | (go_at_call 28; with_reducible refine (free_any _ _ _ _ _ _).mono ?_; rintro e w1 ⟨rfl, hb⟩; obtain ⟨s, rfl⟩ := ext_of_below hb; clear hb)
          | (go_at_call 54; with_reducible refine (within_any _ _ _ _).mono ?_; rintro e w' ⟨rfl, rfl⟩)
          | (go_at_call 61; with_reducible refine (valid_any _ _).mono ?_; rintro e w' ⟨rfl, rfl⟩)
          | (go_at_call 53; with_reducible refine (result_err _ _ _ _ _ _ (by assumption) _).mono ?_; rintro e w1 ⟨rfl, hb⟩; obtain ⟨s, rfl⟩ := ext_of_below hb; clear hb)
          | (go_at_call 53; with_reducible refine (result_6 _ _ _ _ _ _).mono ?_; rintro e w1 ⟨rfl, hb⟩; obtain ⟨s, rfl⟩ := ext_of_below hb; clear hb)
          | (go_at_call 53; with_reducible refine (result_19 _ _ _ _ _ _).mono ?_; rintro e w1 ⟨rfl, hb⟩; obtain ⟨s, rfl⟩ := ext_of_below hb; clear hb))
        go_returns
        refine ⟨?_, ?_⟩
        · rw [E.out]; (try rfl)
        · repeat' (first | exact Below.refl _ _ | refine below_ext ?_ ?_ _ | refine Below.alloc ?_ ?_ _ | refine Below.setCell ?_ ?_ _ | refine Below.drew ?_ | (rw [size_ext]; refine Nat.le_add_right_of_le ?_) | go_size | (rw [World.size_alloc]; refine Nat.le_add_right_of_le ?_))
      · skip
        have E : Hid (W5.debit (W5.mk a b f h u) n = (⟨a, b - n, f, h, u⟩, 0)) := by
          unfold Hid W5.debit
          rw [if_pos H.out, if_pos (by (try dsimp only); omega), if_neg h2]
        go_enter Try.func29, Try.ntmps29
        go_wp2_with (first
          | (go_at_call 52; with_reducible refine (check_any _ _ _ _ _ _).mono ?_; rintro e w1 ⟨rfl, hb⟩; obtain ⟨s, rfl⟩ := ext_of_below hb; clear hb)
          | (go_at_call 28; with_reducible refine (free_any _ _ _ _ _ _).mono ?_; rintro e w1 ⟨rfl, hb⟩; obtain ⟨s, rfl⟩ := ext_of_below hb; clear hb)
          | (go_at_call 54; with_reducible refine (within_any _ _ _ _).mono ?_; rintro e w' ⟨rfl, rfl⟩)
          | (go_at_call 61; with_reducible refine (valid_any _ _).mono ?_; rintro e w' ⟨rfl, rfl⟩)
          | (go_at_call 53; with_reducible refine (result_err _ _ _ _ _ _ (by assumption) _).mono ?_; rintro e w1 ⟨rfl, hb⟩; obtain ⟨s, rfl⟩ := ext_of_below hb; clear hb)
          | (go_at_call 53; with_reducible refine (result_6 _ _ _ _ _ _).mono ?_; rintro e w1 ⟨rfl, hb⟩; obtain ⟨s, rfl⟩ := ext_of_below hb; clear hb)
          | (go_at_call 53; with_reducible refine (result_19 _ _ _ _ _ _).mono ?_; rintro e w1 ⟨rfl, hb⟩; obtain ⟨s, rfl⟩ := ext_of_below hb; clear hb))
        go_returns
        refine ⟨?_, ?_⟩
        · rw [E.out]; (try rfl)
        · repeat' (first | exact Below.refl _ _ | refine below_ext ?_ ?_ _ | refine Below.alloc ?_ ?_ _ | refine Below.setCell ?_ ?_ _ | refine Below.drew ?_ | (rw [size_ext]; refine Nat.le_add_right_of_le ?_) | go_size | (rw [World.size_alloc]; refine Nat.le_add_right_of_le ?_))
    · skip
      have g1 : inB n 0 1125899906842624 = false := inB_no.2 (by omega)
      have E : Hid (W5.debit (W5.mk a b f h u) n = (W5.zero, 6)) := by
        unfold Hid W5.debit
        rw [if_pos H.out, if_neg (by (try dsimp only); omega)]
      go_enter Try.func29, Try.ntmps29
      go_wp2_with (first
        | (go_at_call 52; with_reducible refine (check_any _ _ _ _ _ _).mono ?_; rintro e w1 ⟨rfl, hb⟩; obtain ⟨s, rfl⟩ := ext_of_below hb; clear hb)
        | (go_at_call 28; with_reducible refine (free_any _ _ _ _ _ _).mono ?_; rintro e w1 ⟨rfl, hb⟩; obtain ⟨s, rfl⟩ := ext_of_below hb; clear hb)
        | (go_at_call 54; with_reducible refine (within_any _ _ _ _).mono ?_; rintro e w' ⟨rfl, rfl⟩)
        | (go_at_call 61; with_reducible refine (valid_any _ _).mono ?_; rintro e w' ⟨rfl, rfl⟩)
        | (go_at_call 53; with_reducible refine (result_err _ _ _ _ _ _ (by assumption) _).mono ?_; rintro e w1 ⟨rfl, hb⟩; obtain ⟨s, rfl⟩ := ext_of_below hb; clear hb)
        | (go_at_call 53; with_reducible refine (result_6 _ _ _ _ _ _).mono ?_; rintro e w1 ⟨rfl, hb⟩; obtain ⟨s, rfl⟩ := ext_of_below hb; clear hb)
        | (go_at_call 53; with_reducible refine (result_19 _ _ _ _ _ _).mono ?_; rintro e w1 ⟨rfl, hb⟩; obtain ⟨s, rfl⟩ := ext_of_below hb; clear hb))
      go_returns
      refine ⟨?_, ?_⟩
      · rw [E.out]; (try rfl)
      · repeat' (first | exact Below.refl _ _ | refine below_ext ?_ ?_ _ | refine Below.alloc ?_ ?_ _ | refine Below.setCell ?_ ?_ _ | refine Below.drew ?_ | (rw [size_ext]; refine Nat.le_add_right_of_le ?_) | go_size | (rw [World.size_alloc]; refine Nat.le_add_right_of_le ?_))
  · have hc1 : ((W5.mk a b f h u).chk != 0) = true := by simp [hc]
    have H := Lib.hid hc
    clear hc
    have E : Hid (W5.debit (W5.mk a b f h u) n = (W5.zero, (W5.mk a b f h u).chk)) := by
      unfold Hid W5.debit
      rw [if_neg H.out]
    go_enter Try.func29, Try.ntmps29
    go_wp2_with (first
      | (go_at_call 52; with_reducible refine (check_any _ _ _ _ _ _).mono ?_; rintro e w1 ⟨rfl, hb⟩; obtain ⟨s, rfl⟩ := ext_of_below hb; clear hb)
      | (go_at_call 28; with_reducible refine (free_any _ _ _ _ _ _).mono ?_; rintro e w1 ⟨rfl, hb⟩; obtain ⟨s, rfl⟩ := ext_of_below hb; clear hb)
      | (go_at_call 54; with_reducible refine (within_any _ _ _ _).mono ?_; rintro e w' ⟨rfl, rfl⟩)
      | (go_at_call 61; with_reducible refine (valid_any _ _).mono ?_; rintro e w' ⟨rfl, rfl⟩)
      | (go_at_call 53; with_reducible refine (result_err _ _ _ _ _ _ (by assumption) _).mono ?_; rintro e w1 ⟨rfl, hb⟩; obtain ⟨s, rfl⟩ := ext_of_below hb; clear hb)
      | (go_at_call 53; with_reducible refine (result_6 _ _ _ _ _ _).mono ?_; rintro e w1 ⟨rfl, hb⟩; obtain ⟨s, rfl⟩ := ext_of_below hb; clear hb)
      | (go_at_call 53; with_reducible refine (result_19 _ _ _ _ _ _).mono ?_; rintro e w1 ⟨rfl, hb⟩; obtain ⟨s, rfl⟩ := ext_of_below hb; clear hb))
    go_returns
    refine ⟨?_, ?_⟩
    · rw [E.out]; (try rfl)
    · repeat' (first | exact Below.refl _ _ | refine below_ext ?_ ?_ _ | refine Below.alloc ?_ ?_ _ | refine Below.setCell ?_ ?_ _ | refine Below.drew ?_ | (rw [size_ext]; refine Nat.le_add_right_of_le ?_) | go_size | (rw [World.size_alloc]; refine Nat.le_add_right_of_le ?_))

set_option maxHeartbeats 1000000 in
theorem rdebit_any (a b f h u n : Int) (w : World) :
    Calls Try.prog 31 #[.agg #[.int .i64 a, .int .i64 b, .int .i64 f, .int .i64 h, .int .i64 u], .int .i64 n] w fun e w' => e = .returned (.tuple #[.agg #[.int .i64 (W5.debit (W5.mk a b f h u) n).1.a, .int .i64 (W5.debit (W5.mk a b f h u) n).1.b, .int .i64 (W5.debit (W5.mk a b f h u) n).1.f, .int .i64 (W5.debit (W5.mk a b f h u) n).1.h, .int .i64 (W5.debit (W5.mk a b f h u) n).1.u], .int .i64 (W5.debit (W5.mk a b f h u) n).2]) ∧ Below w.heap.size w w' := by
  by_cases hc : (W5.mk a b f h u).chk = 0
  · have hk := W5.chk_ok.1 hc
    dsimp only at hk
    obtain ⟨_, _, _, _, _, _, _, _, _, _, _⟩ := hk
    have hc1 : ((W5.mk a b f h u).chk != 0) = false := by simp [hc]
    have H := Lib.hid hc
    clear hc
    have hfr : (W5.mk a b f h u).free = b - h - f := by rw [W5.free, if_pos H.out]
    have hfr1 : (W5.mk a b f h u).free ≤ b - h - f := by omega
    have hfr2 : b - h - f ≤ (W5.mk a b f h u).free := by omega
    clear hfr
    by_cases h1 : 0 ≤ n ∧ n ≤ 1125899906842624
    · skip
      have g1 : inB n 0 1125899906842624 = true := inB_iff.2 ⟨by omega, by omega⟩
      obtain ⟨_, _⟩ := h1
      by_cases h2 : (W5.mk a b f h u).free < n
      · skip
        have E : Hid (W5.debit (W5.mk a b f h u) n = (W5.zero, 19)) := by
          unfold Hid W5.debit
          rw [if_pos H.out, if_pos (by (try dsimp only); omega), if_pos h2]
        go_enter Try.func31, Try.ntmps31
        go_wp2_with (first
          | (go_at_call 15; with_reducible refine (rcheck_any _ _ _ _ _ _).mono ?_; rintro e w1 ⟨rfl, hb⟩; obtain ⟨s, rfl⟩ := ext_of_below hb; clear hb)
          | (go_at_call 14; with_reducible refine (rfree_any _ _ _ _ _ _).mono ?_; rintro e w1 ⟨rfl, hb⟩; obtain ⟨s, rfl⟩ := ext_of_below hb; clear hb)
          | (go_at_call 56; with_reducible refine (money_any _ _).mono ?_; rintro e w' ⟨rfl, rfl⟩)
          | (go_at_call 33; with_reducible refine (rvalid_any _ _).mono ?_; rintro e w' ⟨rfl, rfl⟩))
        go_returns
        refine ⟨?_, ?_⟩
        · rw [E.out]; (try rfl)
        · repeat' (first | exact Below.refl _ _ | refine below_ext ?_ ?_ _ | refine Below.alloc ?_ ?_ _ | refine Below.setCell ?_ ?_ _ | refine Below.drew ?_ | (rw [size_ext]; refine Nat.le_add_right_of_le ?_) | go_size | (rw [World.size_alloc]; refine Nat.le_add_right_of_le ?_))
      · skip
        have E : Hid (W5.debit (W5.mk a b f h u) n = (⟨a, b - n, f, h, u⟩, 0)) := by
          unfold Hid W5.debit
          rw [if_pos H.out, if_pos (by (try dsimp only); omega), if_neg h2]
        go_enter Try.func31, Try.ntmps31
        go_wp2_with (first
          | (go_at_call 15; with_reducible refine (rcheck_any _ _ _ _ _ _).mono ?_; rintro e w1 ⟨rfl, hb⟩; obtain ⟨s, rfl⟩ := ext_of_below hb; clear hb)
          | (go_at_call 14; with_reducible refine (rfree_any _ _ _ _ _ _).mono ?_; rintro e w1 ⟨rfl, hb⟩; obtain ⟨s, rfl⟩ := ext_of_below hb; clear hb)
          | (go_at_call 56; with_reducible refine (money_any _ _).mono ?_; rintro e w' ⟨rfl, rfl⟩)
          | (go_at_call 33; with_reducible refine (rvalid_any _ _).mono ?_; rintro e w' ⟨rfl, rfl⟩))
        go_returns
        refine ⟨?_, ?_⟩
        · rw [E.out]; (try rfl)
        · repeat' (first | exact Below.refl _ _ | refine below_ext ?_ ?_ _ | refine Below.alloc ?_ ?_ _ | refine Below.setCell ?_ ?_ _ | refine Below.drew ?_ | (rw [size_ext]; refine Nat.le_add_right_of_le ?_) | go_size | (rw [World.size_alloc]; refine Nat.le_add_right_of_le ?_))
    · skip
      have g1 : inB n 0 1125899906842624 = false := inB_no.2 (by omega)
      have E : Hid (W5.debit (W5.mk a b f h u) n = (W5.zero, 6)) := by
        unfold Hid W5.debit
        rw [if_pos H.out, if_neg (by (try dsimp only); omega)]
      go_enter Try.func31, Try.ntmps31
      go_wp2_with (first
        | (go_at_call 15; with_reducible refine (rcheck_any _ _ _ _ _ _).mono ?_; rintro e w1 ⟨rfl, hb⟩; obtain ⟨s, rfl⟩ := ext_of_below hb; clear hb)
        | (go_at_call 14; with_reducible refine (rfree_any _ _ _ _ _ _).mono ?_; rintro e w1 ⟨rfl, hb⟩; obtain ⟨s, rfl⟩ := ext_of_below hb; clear hb)
        | (go_at_call 56; with_reducible refine (money_any _ _).mono ?_; rintro e w' ⟨rfl, rfl⟩)
        | (go_at_call 33; with_reducible refine (rvalid_any _ _).mono ?_; rintro e w' ⟨rfl, rfl⟩))
      go_returns
      refine ⟨?_, ?_⟩
      · rw [E.out]; (try rfl)
      · repeat' (first | exact Below.refl _ _ | refine below_ext ?_ ?_ _ | refine Below.alloc ?_ ?_ _ | refine Below.setCell ?_ ?_ _ | refine Below.drew ?_ | (rw [size_ext]; refine Nat.le_add_right_of_le ?_) | go_size | (rw [World.size_alloc]; refine Nat.le_add_right_of_le ?_))
  · have hc1 : ((W5.mk a b f h u).chk != 0) = true := by simp [hc]
    have H := Lib.hid hc
    clear hc
    have E : Hid (W5.debit (W5.mk a b f h u) n = (W5.zero, (W5.mk a b f h u).chk)) := by
      unfold Hid W5.debit
      rw [if_neg H.out]
    go_enter Try.func31, Try.ntmps31
    go_wp2_with (first
      | (go_at_call 15; with_reducible refine (rcheck_any _ _ _ _ _ _).mono ?_; rintro e w1 ⟨rfl, hb⟩; obtain ⟨s, rfl⟩ := ext_of_below hb; clear hb)
      | (go_at_call 14; with_reducible refine (rfree_any _ _ _ _ _ _).mono ?_; rintro e w1 ⟨rfl, hb⟩; obtain ⟨s, rfl⟩ := ext_of_below hb; clear hb)
      | (go_at_call 56; with_reducible refine (money_any _ _).mono ?_; rintro e w' ⟨rfl, rfl⟩)
      | (go_at_call 33; with_reducible refine (rvalid_any _ _).mono ?_; rintro e w' ⟨rfl, rfl⟩))
    go_returns
    refine ⟨?_, ?_⟩
    · rw [E.out]; (try rfl)
    · repeat' (first | exact Below.refl _ _ | refine below_ext ?_ ?_ _ | refine Below.alloc ?_ ?_ _ | refine Below.setCell ?_ ?_ _ | refine Below.drew ?_ | (rw [size_ext]; refine Nat.le_add_right_of_le ?_) | go_size | (rw [World.size_alloc]; refine Nat.le_add_right_of_le ?_))

set_option maxHeartbeats 1000000 in
theorem floor_any (a b f h u n : Int) (w : World) :
    Calls Try.prog 43 #[.agg #[.int .i64 a, .int .i64 b, .int .i64 f, .int .i64 h, .int .i64 u], .int .i64 n] w fun e w' => e = .returned (.tuple #[.agg #[.int .i64 (W5.floor (W5.mk a b f h u) n).1.a, .int .i64 (W5.floor (W5.mk a b f h u) n).1.b, .int .i64 (W5.floor (W5.mk a b f h u) n).1.f, .int .i64 (W5.floor (W5.mk a b f h u) n).1.h, .int .i64 (W5.floor (W5.mk a b f h u) n).1.u], .int .i64 (W5.floor (W5.mk a b f h u) n).2]) ∧ Below w.heap.size w w' := by
  by_cases hc : (W5.mk a b f h u).chk = 0
  · have hk := W5.chk_ok.1 hc
    dsimp only at hk
    obtain ⟨_, _, _, _, _, _, _, _, _, _, _⟩ := hk
    have hc1 : ((W5.mk a b f h u).chk != 0) = false := by simp [hc]
    have H := Lib.hid hc
    clear hc
    by_cases h1 : -1125899906842624 ≤ n ∧ n ≤ 0
    · skip
      have g1 : inB n (-1125899906842624) 0 = true := inB_iff.2 ⟨by omega, by omega⟩
      have g3 : inB n (-1125899906842624) 1125899906842624 = true := inB_iff.2 ⟨by omega, by omega⟩
      obtain ⟨_, _⟩ := h1
      by_cases h2 : b - h < n
      · skip
        have E : Hid (W5.floor (W5.mk a b f h u) n = (W5.zero, 19)) := by
          unfold Hid W5.floor
          rw [if_pos H.out, if_pos (by (try dsimp only); omega), if_pos (by (try dsimp only); omega)]
        go_enter Try.func43, Try.ntmps43
        go_wp2_with (first
          | (go_at_call 52; with_reducible refine (check_any _ _ _ _ _ _).mono ?_; rintro e w1 ⟨rfl, hb⟩; obtain ⟨s, rfl⟩ := ext_of_below hb; clear hb)
          | (go_at_call 28; with_reducible refine (free_any _ _ _ _ _ _).mono ?_; rintro e w1 ⟨rfl, hb⟩; obtain ⟨s, rfl⟩ := ext_of_below hb; clear hb)
          | (go_at_call 54; with_reducible refine (within_any _ _ _ _).mono ?_; rintro e w' ⟨rfl, rfl⟩)
          | (go_at_call 61; with_reducible refine (valid_any _ _).mono ?_; rintro e w' ⟨rfl, rfl⟩)
          | (go_at_call 53; with_reducible refine (result_err _ _ _ _ _ _ (by assumption) _).mono ?_; rintro e w1 ⟨rfl, hb⟩; obtain ⟨s, rfl⟩ := ext_of_below hb; clear hb)
          | (go_at_call 53; with_reducible refine (result_6 _ _ _ _ _ _).mono ?_; rintro e w1 ⟨rfl, hb⟩; obtain ⟨s, rfl⟩ := ext_of_below hb; clear hb)
          | (go_at_call 53; with_reducible refine (result_19 _ _ _ _ _ _).mono ?_; rintro e w1 ⟨rfl, hb⟩; obtain ⟨s, rfl⟩ := ext_of_below hb; clear hb))
        go_returns
        refine ⟨?_, ?_⟩
        · rw [E.out]; (try rfl)
        · repeat' (first | exact Below.refl _ _ | refine below_ext ?_ ?_ _ | refine Below.alloc ?_ ?_ _ | refine Below.setCell ?_ ?_ _ | refine Below.drew ?_ | (rw [size_ext]; refine Nat.le_add_right_of_le ?_) | go_size | (rw [World.size_alloc]; refine Nat.le_add_right_of_le ?_))
      · skip
        have E : Hid (W5.floor (W5.mk a b f h u) n = (⟨a, b, n, h, u⟩, 0)) := by
          unfold Hid W5.floor
          rw [if_pos H.out, if_pos (by (try dsimp only); omega), if_neg (by (try dsimp only); omega)]
        go_enter Try.func43, Try.ntmps43
        go_wp2_with (first
          | (go_at_call 52; with_reducible refine (check_any _ _ _ _ _ _).mono ?_; rintro e w1 ⟨rfl, hb⟩; obtain ⟨s, rfl⟩ := ext_of_below hb; clear hb)
          | (go_at_call 28; with_reducible refine (free_any _ _ _ _ _ _).mono ?_; rintro e w1 ⟨rfl, hb⟩; obtain ⟨s, rfl⟩ := ext_of_below hb; clear hb)
          | (go_at_call 54; with_reducible refine (within_any _ _ _ _).mono ?_; rintro e w' ⟨rfl, rfl⟩)
          | (go_at_call 61; with_reducible refine (valid_any _ _).mono ?_; rintro e w' ⟨rfl, rfl⟩)
          | (go_at_call 53; with_reducible refine (result_err _ _ _ _ _ _ (by assumption) _).mono ?_; rintro e w1 ⟨rfl, hb⟩; obtain ⟨s, rfl⟩ := ext_of_below hb; clear hb)
          | (go_at_call 53; with_reducible refine (result_6 _ _ _ _ _ _).mono ?_; rintro e w1 ⟨rfl, hb⟩; obtain ⟨s, rfl⟩ := ext_of_below hb; clear hb)
          | (go_at_call 53; with_reducible refine (result_19 _ _ _ _ _ _).mono ?_; rintro e w1 ⟨rfl, hb⟩; obtain ⟨s, rfl⟩ := ext_of_below hb; clear hb))
        go_returns
        refine ⟨?_, ?_⟩
        · rw [E.out]; (try rfl)
        · repeat' (first | exact Below.refl _ _ | refine below_ext ?_ ?_ _ | refine Below.alloc ?_ ?_ _ | refine Below.setCell ?_ ?_ _ | refine Below.drew ?_ | (rw [size_ext]; refine Nat.le_add_right_of_le ?_) | go_size | (rw [World.size_alloc]; refine Nat.le_add_right_of_le ?_))
    · skip
      have g1 : inB n (-1125899906842624) 0 = false := inB_no.2 (by omega)
      by_cases h2 : n ≤ 0
      · skip
        have g3 : inB n (-1125899906842624) 1125899906842624 = false := inB_no.2 (by omega)
        have E : Hid (W5.floor (W5.mk a b f h u) n = (W5.zero, 6)) := by
          unfold Hid W5.floor
          rw [if_pos H.out, if_neg (by (try dsimp only); omega)]
        go_enter Try.func43, Try.ntmps43
        go_wp2_with (first
          | (go_at_call 52; with_reducible refine (check_any _ _ _ _ _ _).mono ?_; rintro e w1 ⟨rfl, hb⟩; obtain ⟨s, rfl⟩ := ext_of_below hb; clear hb)
          | (go_at_call 28; with_reducible refine (free_any _ _ _ _ _ _).mono ?_; rintro e w1 ⟨rfl, hb⟩; obtain ⟨s, rfl⟩ := ext_of_below hb; clear hb)
          | (go_at_call 54; with_reducible refine (within_any _ _ _ _).mono ?_; rintro e w' ⟨rfl, rfl⟩)
          | (go_at_call 61; with_reducible refine (valid_any _ _).mono ?_; rintro e w' ⟨rfl, rfl⟩)
          | (go_at_call 53; with_reducible refine (result_err _ _ _ _ _ _ (by assumption) _).mono ?_; rintro e w1 ⟨rfl, hb⟩; obtain ⟨s, rfl⟩ := ext_of_below hb; clear hb)
          | (go_at_call 53; with_reducible refine (result_6 _ _ _ _ _ _).mono ?_; rintro e w1 ⟨rfl, hb⟩; obtain ⟨s, rfl⟩ := ext_of_below hb; clear hb)
          | (go_at_call 53; with_reducible refine (result_19 _ _ _ _ _ _).mono ?_; rintro e w1 ⟨rfl, hb⟩; obtain ⟨s, rfl⟩ := ext_of_below hb; clear hb))
        go_returns
        refine ⟨?_, ?_⟩
        · rw [E.out]; (try rfl)
        · repeat' (first | exact Below.refl _ _ | refine below_ext ?_ ?_ _ | refine Below.alloc ?_ ?_ _ | refine Below.setCell ?_ ?_ _ | refine Below.drew ?_ | (rw [size_ext]; refine Nat.le_add_right_of_le ?_) | go_size | (rw [World.size_alloc]; refine Nat.le_add_right_of_le ?_))
      · skip
        by_cases h3 : n ≤ 1125899906842624
        · skip
          have g3 : inB n (-1125899906842624) 1125899906842624 = true := inB_iff.2 ⟨by omega, by omega⟩
          have E : Hid (W5.floor (W5.mk a b f h u) n = (W5.zero, 6)) := by
            unfold Hid W5.floor
            rw [if_pos H.out, if_neg (by (try dsimp only); omega)]
          go_enter Try.func43, Try.ntmps43
          go_wp2_with (first
            | (go_at_call 52; with_reducible refine (check_any _ _ _ _ _ _).mono ?_; rintro e w1 ⟨rfl, hb⟩; obtain ⟨s, rfl⟩ := ext_of_below hb; clear hb)
            | (go_at_call 28; with_reducible refine (free_any _ _ _ _ _ _).mono ?_; rintro e w1 ⟨rfl, hb⟩; obtain ⟨s, rfl⟩ := ext_of_below hb; clear hb)
            | (go_at_call 54; with_reducible refine (within_any _ _ _ _).mono ?_; rintro e w' ⟨rfl, rfl⟩)
            | (go_at_call 61; with_reducible refine (valid_any _ _).mono ?_; rintro e w' ⟨rfl, rfl⟩)
            | (go_at_call 53; with_reducible refine (result_err _ _ _ _ _ _ (by assumption) _).mono ?_; rintro e w1 ⟨rfl, hb⟩; obtain ⟨s, rfl⟩ := ext_of_below hb; clear hb)
            | (go_at_call 53; with_reducible refine (result_6 _ _ _ _ _ _).mono ?_; rintro e w1 ⟨rfl, hb⟩; obtain ⟨s, rfl⟩ := ext_of_below hb; clear hb)
            | (go_at_call 53; with_reducible refine (result_19 _ _ _ _ _ _).mono ?_; rintro e w1 ⟨rfl, hb⟩; obtain ⟨s, rfl⟩ := ext_of_below hb; clear hb))
          go_returns
          refine ⟨?_, ?_⟩
          · rw [E.out]; (try rfl)
          · repeat' (first | exact Below.refl _ _ | refine below_ext ?_ ?_ _ | refine Below.alloc ?_ ?_ _ | refine Below.setCell ?_ ?_ _ | refine Below.drew ?_ | (rw [size_ext]; refine Nat.le_add_right_of_le ?_) | go_size | (rw [World.size_alloc]; refine Nat.le_add_right_of_le ?_))
        · skip
          have g3 : inB n (-1125899906842624) 1125899906842624 = false := inB_no.2 (by omega)
          have E : Hid (W5.floor (W5.mk a b f h u) n = (W5.zero, 6)) := by
            unfold Hid W5.floor
            rw [if_pos H.out, if_neg (by (try dsimp only); omega)]
          go_enter Try.func43, Try.ntmps43
          go_wp2_with (first
            | (go_at_call 52; with_reducible refine (check_any _ _ _ _ _ _).mono ?_; rintro e w1 ⟨rfl, hb⟩; obtain ⟨s, rfl⟩ := ext_of_below hb; clear hb)
            | (go_at_call 28; with_reducible refine (free_any _ _ _ _ _ _).mono ?_; rintro e w1 ⟨rfl, hb⟩; obtain ⟨s, rfl⟩ := ext_of_below hb; clear hb)
            | (go_at_call 54; with_reducible refine (within_any _ _ _ _).mono ?_; rintro e w' ⟨rfl, rfl⟩)
            | (go_at_call 61; with_reducible refine (valid_any _ _).mono ?_; rintro e w' ⟨rfl, rfl⟩)
            | (go_at_call 53; with_reducible refine (result_err _ _ _ _ _ _ (by assumption) _).mono ?_; rintro e w1 ⟨rfl, hb⟩; obtain ⟨s, rfl⟩ := ext_of_below hb; clear hb)
            | (go_at_call 53; with_reducible refine (result_6 _ _ _ _ _ _).mono ?_; rintro e w1 ⟨rfl, hb⟩; obtain ⟨s, rfl⟩ := ext_of_below hb; clear hb)
            | (go_at_call 53; with_reducible refine (result_19 _ _ _ _ _ _).mono ?_; rintro e w1 ⟨rfl, hb⟩; obtain ⟨s, rfl⟩ := ext_of_below hb; clear hb))
          go_returns
          refine ⟨?_, ?_⟩
          · rw [E.out]; (try rfl)
          · repeat' (first | exact Below.refl _ _ | refine below_ext ?_ ?_ _ | refine Below.alloc ?_ ?_ _ | refine Below.setCell ?_ ?_ _ | refine Below.drew ?_ | (rw [size_ext]; refine Nat.le_add_right_of_le ?_) | go_size | (rw [World.size_alloc]; refine Nat.le_add_right_of_le ?_))
  · have hc1 : ((W5.mk a b f h u).chk != 0) = true := by simp [hc]
    have H := Lib.hid hc
    clear hc
    have E : Hid (W5.floor (W5.mk a b f h u) n = (W5.zero, (W5.mk a b f h u).chk)) := by
      unfold Hid W5.floor
      rw [if_neg H.out]
    go_enter Try.func43, Try.ntmps43
    go_wp2_with (first
      | (go_at_call 52; with_reducible refine (check_any _ _ _ _ _ _).mono ?_; rintro e w1 ⟨rfl, hb⟩; obtain ⟨s, rfl⟩ := ext_of_below hb; clear hb)
      | (go_at_call 28; with_reducible refine (free_any _ _ _ _ _ _).mono ?_; rintro e w1 ⟨rfl, hb⟩; obtain ⟨s, rfl⟩ := ext_of_below hb; clear hb)
      | (go_at_call 54; with_reducible refine (within_any _ _ _ _).mono ?_; rintro e w' ⟨rfl, rfl⟩)
      | (go_at_call 61; with_reducible refine (valid_any _ _).mono ?_; rintro e w' ⟨rfl, rfl⟩)
      | (go_at_call 53; with_reducible refine (result_err _ _ _ _ _ _ (by assumption) _).mono ?_; rintro e w1 ⟨rfl, hb⟩; obtain ⟨s, rfl⟩ := ext_of_below hb; clear hb)
      | (go_at_call 53; with_reducible refine (result_6 _ _ _ _ _ _).mono ?_; rintro e w1 ⟨rfl, hb⟩; obtain ⟨s, rfl⟩ := ext_of_below hb; clear hb)
      | (go_at_call 53; with_reducible refine (result_19 _ _ _ _ _ _).mono ?_; rintro e w1 ⟨rfl, hb⟩; obtain ⟨s, rfl⟩ := ext_of_below hb; clear hb))
    go_returns
    refine ⟨?_, ?_⟩
    · rw [E.out]; (try rfl)
    · repeat' (first | exact Below.refl _ _ | refine below_ext ?_ ?_ _ | refine Below.alloc ?_ ?_ _ | refine Below.setCell ?_ ?_ _ | refine Below.drew ?_ | (rw [size_ext]; refine Nat.le_add_right_of_le ?_) | go_size | (rw [World.size_alloc]; refine Nat.le_add_right_of_le ?_))

set_option maxHeartbeats 1000000 in
theorem rfloor_any (a b f h u n : Int) (w : World) :
    Calls Try.prog 65 #[.agg #[.int .i64 a, .int .i64 b, .int .i64 f, .int .i64 h, .int .i64 u], .int .i64 n] w fun e w' => e = .returned (.tuple #[.agg #[.int .i64 (W5.floor (W5.mk a b f h u) n).1.a, .int .i64 (W5.floor (W5.mk a b f h u) n).1.b, .int .i64 (W5.floor (W5.mk a b f h u) n).1.f, .int .i64 (W5.floor (W5.mk a b f h u) n).1.h, .int .i64 (W5.floor (W5.mk a b f h u) n).1.u], .int .i64 (W5.floor (W5.mk a b f h u) n).2]) ∧ Below w.heap.size w w' := by
  by_cases hc : (W5.mk a b f h u).chk = 0
  · have hk := W5.chk_ok.1 hc
    dsimp only at hk
    obtain ⟨_, _, _, _, _, _, _, _, _, _, _⟩ := hk
    have hc1 : ((W5.mk a b f h u).chk != 0) = false := by simp [hc]
    have H := Lib.hid hc
    clear hc
    by_cases h1 : -1125899906842624 ≤ n ∧ n ≤ 0
    · skip
      have g1 : inB n (-1125899906842624) 0 = true := inB_iff.2 ⟨by omega, by omega⟩
      have g3 : inB n (-1125899906842624) 1125899906842624 = true := inB_iff.2 ⟨by omega, by omega⟩
      obtain ⟨_, _⟩ := h1
      by_cases h2 : b - h < n
      · skip
        have E : Hid (W5.floor (W5.mk a b f h u) n = (W5.zero, 19)) := by
          unfold Hid W5.floor
          rw [if_pos H.out, if_pos (by (try dsimp only); omega), if_pos (by (try dsimp only); omega)]
        go_enter Try.func65, Try.ntmps65
        go_wp2_with (first
          | (go_at_call 15; with_reducible refine (rcheck_any _ _ _ _ _ _).mono ?_; rintro e w1 ⟨rfl, hb⟩; obtain ⟨s, rfl⟩ := ext_of_below hb; clear hb)
          | (go_at_call 14; with_reducible refine (rfree_any _ _ _ _ _ _).mono ?_; rintro e w1 ⟨rfl, hb⟩; obtain ⟨s, rfl⟩ := ext_of_below hb; clear hb)
          | (go_at_call 56; with_reducible refine (money_any _ _).mono ?_; rintro e w' ⟨rfl, rfl⟩)
          | (go_at_call 33; with_reducible refine (rvalid_any _ _).mono ?_; rintro e w' ⟨rfl, rfl⟩))
        go_returns
        refine ⟨?_, ?_⟩
        · rw [E.out]; (try rfl)
        · repeat' (first | exact Below.refl _ _ | refine below_ext ?_ ?_ _ | refine Below.alloc ?_ ?_ _ | refine Below.setCell ?_ ?_ _ | refine Below.drew ?_ | (rw [size_ext]; refine Nat.le_add_right_of_le ?_) | go_size | (rw [World.size_alloc]; refine Nat.le_add_right_of_le ?_))
      · skip
        have E : Hid (W5.floor (W5.mk a b f h u) n = (⟨a, b, n, h, u⟩, 0)) := by
          unfold Hid W5.floor
          rw [if_pos H.out, if_pos (by (try dsimp only); omega), if_neg (by (try dsimp only); omega)]
        go_enter Try.func65, Try.ntmps65
        go_wp2_with (first
          | (go_at_call 15; with_reducible refine (rcheck_any _ _ _ _ _ _).mono ?_; rintro e w1 ⟨rfl, hb⟩; obtain ⟨s, rfl⟩ := ext_of_below hb; clear hb)
          | (go_at_call 14; with_reducible refine (rfree_any _ _ _ _ _ _).mono ?_; rintro e w1 ⟨rfl, hb⟩; obtain ⟨s, rfl⟩ := ext_of_below hb; clear hb)
          | (go_at_call 56; with_reducible refine (money_any _ _).mono ?_; rintro e w' ⟨rfl, rfl⟩)
          | (go_at_call 33; with_reducible refine (rvalid_any _ _).mono ?_; rintro e w' ⟨rfl, rfl⟩))
        go_returns
        refine ⟨?_, ?_⟩
        · rw [E.out]; (try rfl)
        · repeat' (first | exact Below.refl _ _ | refine below_ext ?_ ?_ _ | refine Below.alloc ?_ ?_ _ | refine Below.setCell ?_ ?_ _ | refine Below.drew ?_ | (rw [size_ext]; refine Nat.le_add_right_of_le ?_) | go_size | (rw [World.size_alloc]; refine Nat.le_add_right_of_le ?_))
    · skip
      have g1 : inB n (-1125899906842624) 0 = false := inB_no.2 (by omega)
      by_cases h2 : n ≤ 0
      · skip
        have g3 : inB n (-1125899906842624) 1125899906842624 = false := inB_no.2 (by omega)
        have E : Hid (W5.floor (W5.mk a b f h u) n = (W5.zero, 6)) := by
          unfold Hid W5.floor
          rw [if_pos H.out, if_neg (by (try dsimp only); omega)]
        go_enter Try.func65, Try.ntmps65
        go_wp2_with (first
          | (go_at_call 15; with_reducible refine (rcheck_any _ _ _ _ _ _).mono ?_; rintro e w1 ⟨rfl, hb⟩; obtain ⟨s, rfl⟩ := ext_of_below hb; clear hb)
          | (go_at_call 14; with_reducible refine (rfree_any _ _ _ _ _ _).mono ?_; rintro e w1 ⟨rfl, hb⟩; obtain ⟨s, rfl⟩ := ext_of_below hb; clear hb)
          | (go_at_call 56; with_reducible refine (money_any _ _).mono ?_; rintro e w' ⟨rfl, rfl⟩)
          | (go_at_call 33; with_reducible refine (rvalid_any _ _).mono ?_; rintro e w' ⟨rfl, rfl⟩))
        go_returns
        refine ⟨?_, ?_⟩
        · rw [E.out]; (try rfl)
        · repeat' (first | exact Below.refl _ _ | refine below_ext ?_ ?_ _ | refine Below.alloc ?_ ?_ _ | refine Below.setCell ?_ ?_ _ | refine Below.drew ?_ | (rw [size_ext]; refine Nat.le_add_right_of_le ?_) | go_size | (rw [World.size_alloc]; refine Nat.le_add_right_of_le ?_))
      · skip
        by_cases h3 : n ≤ 1125899906842624
        · skip
          have g3 : inB n (-1125899906842624) 1125899906842624 = true := inB_iff.2 ⟨by omega, by omega⟩
          have E : Hid (W5.floor (W5.mk a b f h u) n = (W5.zero, 6)) := by
            unfold Hid W5.floor
            rw [if_pos H.out, if_neg (by (try dsimp only); omega)]
          go_enter Try.func65, Try.ntmps65
          go_wp2_with (first
            | (go_at_call 15; with_reducible refine (rcheck_any _ _ _ _ _ _).mono ?_; rintro e w1 ⟨rfl, hb⟩; obtain ⟨s, rfl⟩ := ext_of_below hb; clear hb)
            | (go_at_call 14; with_reducible refine (rfree_any _ _ _ _ _ _).mono ?_; rintro e w1 ⟨rfl, hb⟩; obtain ⟨s, rfl⟩ := ext_of_below hb; clear hb)
            | (go_at_call 56; with_reducible refine (money_any _ _).mono ?_; rintro e w' ⟨rfl, rfl⟩)
            | (go_at_call 33; with_reducible refine (rvalid_any _ _).mono ?_; rintro e w' ⟨rfl, rfl⟩))
          go_returns
          refine ⟨?_, ?_⟩
          · rw [E.out]; (try rfl)
          · repeat' (first | exact Below.refl _ _ | refine below_ext ?_ ?_ _ | refine Below.alloc ?_ ?_ _ | refine Below.setCell ?_ ?_ _ | refine Below.drew ?_ | (rw [size_ext]; refine Nat.le_add_right_of_le ?_) | go_size | (rw [World.size_alloc]; refine Nat.le_add_right_of_le ?_))
        · skip
          have g3 : inB n (-1125899906842624) 1125899906842624 = false := inB_no.2 (by omega)
          have E : Hid (W5.floor (W5.mk a b f h u) n = (W5.zero, 6)) := by
            unfold Hid W5.floor
            rw [if_pos H.out, if_neg (by (try dsimp only); omega)]
          go_enter Try.func65, Try.ntmps65
          go_wp2_with (first
            | (go_at_call 15; with_reducible refine (rcheck_any _ _ _ _ _ _).mono ?_; rintro e w1 ⟨rfl, hb⟩; obtain ⟨s, rfl⟩ := ext_of_below hb; clear hb)
            | (go_at_call 14; with_reducible refine (rfree_any _ _ _ _ _ _).mono ?_; rintro e w1 ⟨rfl, hb⟩; obtain ⟨s, rfl⟩ := ext_of_below hb; clear hb)
            | (go_at_call 56; with_reducible refine (money_any _ _).mono ?_; rintro e w' ⟨rfl, rfl⟩)
            | (go_at_call 33; with_reducible refine (rvalid_any _ _).mono ?_; rintro e w' ⟨rfl, rfl⟩))
          go_returns
          refine ⟨?_, ?_⟩
          · rw [E.out]; (try rfl)
          · repeat' (first | exact Below.refl _ _ | refine below_ext ?_ ?_ _ | refine Below.alloc ?_ ?_ _ | refine Below.setCell ?_ ?_ _ | refine Below.drew ?_ | (rw [size_ext]; refine Nat.le_add_right_of_le ?_) | go_size | (rw [World.size_alloc]; refine Nat.le_add_right_of_le ?_))
  · have hc1 : ((W5.mk a b f h u).chk != 0) = true := by simp [hc]
    have H := Lib.hid hc
    clear hc
    have E : Hid (W5.floor (W5.mk a b f h u) n = (W5.zero, (W5.mk a b f h u).chk)) := by
      unfold Hid W5.floor
      rw [if_neg H.out]
    go_enter Try.func65, Try.ntmps65
    go_wp2_with (first
      | (go_at_call 15; with_reducible refine (rcheck_any _ _ _ _ _ _).mono ?_; rintro e w1 ⟨rfl, hb⟩; obtain ⟨s, rfl⟩ := ext_of_below hb; clear hb)
      | (go_at_call 14; with_reducible refine (rfree_any _ _ _ _ _ _).mono ?_; rintro e w1 ⟨rfl, hb⟩; obtain ⟨s, rfl⟩ := ext_of_below hb; clear hb)
      | (go_at_call 56; with_reducible refine (money_any _ _).mono ?_; rintro e w' ⟨rfl, rfl⟩)
      | (go_at_call 33; with_reducible refine (rvalid_any _ _).mono ?_; rintro e w' ⟨rfl, rfl⟩))
    go_returns
    refine ⟨?_, ?_⟩
    · rw [E.out]; (try rfl)
    · repeat' (first | exact Below.refl _ _ | refine below_ext ?_ ?_ _ | refine Below.alloc ?_ ?_ _ | refine Below.setCell ?_ ?_ _ | refine Below.drew ?_ | (rw [size_ext]; refine Nat.le_add_right_of_le ?_) | go_size | (rw [World.size_alloc]; refine Nat.le_add_right_of_le ?_))

end Go.Proofs.Ythkollhebabhbaa

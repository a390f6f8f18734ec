/-
  The walk of WalletHolds: whatever the wallet and the numbers, it returns true and changes nothing that was there.
-/
import Derived.Test.YtfbodilmjkcihaaWl2
import Derived.BigQuiet
import Derived.Test.YtfbodilmjkcihaaKit3
namespace Go.Proofs.Ytfbodilmjkcihaa
open Go.RowKit

/-! What the law's calls come to, case by case. -/
theorem hold_yes {a b f h u n : Int} (H : (W5.hold (W5.mk a b f h u) n).2 = 0) : (W5.mk a b f h u).chk = 0 ∧ 0 ≤ n ∧ n ≤ b - h - f ∧ h + n ≤ 1125899906842624 ∧ W5.hold (W5.mk a b f h u) n = (⟨a, b, f, h + n, u⟩, 0) := by
  unfold W5.hold at H ⊢
  by_cases hc : (W5.mk a b f h u).chk = 0
  · rw [if_pos hc] at H ⊢
    by_cases h1 : 0 ≤ n ∧ n ≤ 1125899906842624
    · rw [if_pos h1] at H ⊢
      have hf : (W5.mk a b f h u).free = b - h - f := by rw [W5.free, if_pos hc]
      rw [hf] at H ⊢
      by_cases h2 : b - h - f < n
      · rw [if_pos h2] at H
        cases H
      · rw [if_neg h2] at H ⊢
        by_cases h3 : h + n ≤ 1125899906842624
        · rw [if_pos (by exact h3)]
          exact ⟨hc, h1.1, by omega, h3, rfl⟩
        · rw [if_neg (by exact h3)] at H
          cases H
    · rw [if_neg h1] at H
      cases H
  · rw [if_neg hc] at H
    exact absurd H hc
theorem credit_yes {a b f h u n : Int} (H : (W5.credit (W5.mk a b f h u) n).2 = 0) : (W5.mk a b f h u).chk = 0 ∧ 0 ≤ n ∧ n ≤ 1125899906842624 ∧ b + n ≤ 1125899906842624 ∧ W5.credit (W5.mk a b f h u) n = (⟨a, b + n, f, h, u⟩, 0) := by
  unfold W5.credit at H ⊢
  by_cases hc : (W5.mk a b f h u).chk = 0
  · rw [if_pos hc] at H ⊢
    by_cases h1 : 0 ≤ n ∧ n ≤ 1125899906842624 ∧ b + n ≤ 1125899906842624
    · rw [if_pos h1]
      exact ⟨hc, h1.1, h1.2.1, h1.2.2, rfl⟩
    · rw [if_neg h1] at H
      cases H
  · rw [if_neg hc] at H
    exact absurd H hc
theorem credit_no {a b f h u n : Int} (H : (W5.credit (W5.mk a b f h u) n).2 ≠ 0) : (W5.credit (W5.mk a b f h u) n).1 = W5.zero := by
  unfold W5.credit at H ⊢
  by_cases hc : (W5.mk a b f h u).chk = 0
  · rw [if_pos hc] at H ⊢
    by_cases h1 : 0 ≤ n ∧ n ≤ 1125899906842624 ∧ b + n ≤ 1125899906842624
    · rw [if_pos h1] at H
      exact absurd rfl H
    · rw [if_neg h1]
  · rw [if_neg hc]
theorem chk_of {a b f h u : Int} (h1 : 1 ≤ a ∧ a ≤ 9999 ∧ -1125899906842624 ≤ b ∧ b ≤ 1125899906842624 ∧ -1125899906842624 ≤ f ∧ f ≤ 0 ∧ 0 ≤ h ∧ h ≤ 1125899906842624 ∧ -1 ≤ u ∧ u ≤ 12622780799 ∧ f ≤ b - h) : (W5.mk a b f h u).chk = 0 := W5.chk_ok.2 h1
theorem free_of {a b f h u : Int} (hc : (W5.mk a b f h u).chk = 0) : (W5.mk a b f h u).free = b - h - f := by rw [W5.free, if_pos hc]

set_option maxHeartbeats 2000000 in
theorem holds_no_yes (a b f h u n k : Int) (w : World) (hho : (W5.hold (W5.mk a b f h u) n).2 ≠ 0) (hcr : (W5.credit (W5.mk a b f h u) n).2 = 0) :
    Calls Try.prog 8 #[.agg #[.int .i64 a, .int .i64 b, .int .i64 f, .int .i64 h, .int .i64 u], .int .i64 n, .int .i64 k] w fun e w' => e = .returned (.bool true) ∧ Below w.heap.size w w' := by
  have B1 : ((W5.hold (W5.mk a b f h u) n).2 == 0) = false := beq_eq_false_iff_ne.2 hho
  have hho' := Lib.hid hho
  clear hho
  obtain ⟨hc, _, _, _, C1⟩ := credit_yes hcr
  clear hcr
  have hk := W5.chk_ok.1 hc
  dsimp only at hk
  obtain ⟨_, _, _, _, _, _, _, _, _, _, _⟩ := hk
  have Kc := chk_of (a := a) (b := b + n) (f := f) (h := h) (u := u) (by omega)
  have C2 := free_of Kc
  have C3 : W5.debit ⟨a, b + n, f, h, u⟩ n = (⟨a, b, f, h, u⟩, 0) := by
    unfold W5.debit
    rw [if_pos Kc, if_pos (by omega), if_neg (by rw [C2]; omega)]
    congr 2
    dsimp only
    omega
  have C4 := free_of hc
  have C5 : (b + n - h - f == b - h - f + n) = true := beq_iff_eq.2 (by omega)
  have C6 : IntKind.i64.wrap (b - h - f + n) = b - h - f + n := IntWalk.i64_in _ (by omega)
  clear Kc
  have Hc := Lib.hid hc
  clear hc
  go_enter Try.func8, Try.ntmps8
  go_wp2_with (first
    | (go_at_call 23; with_reducible refine (hold_any _ _ _ _ _ _ _).mono ?_; rintro e w1 ⟨rfl, hb⟩; obtain ⟨s, rfl⟩ := ext_of_below hb; clear hb)
    | (go_at_call 17; with_reducible refine (settle_any _ _ _ _ _ _ _ _).mono ?_; rintro e w1 ⟨rfl, hb⟩; obtain ⟨s, rfl⟩ := ext_of_below hb; clear hb)
    | (go_at_call 21; with_reducible refine (debit_any _ _ _ _ _ _ _).mono ?_; rintro e w1 ⟨rfl, hb⟩; obtain ⟨s, rfl⟩ := ext_of_below hb; clear hb)
    | (go_at_call 15; with_reducible refine (credit_any _ _ _ _ _ _ _).mono ?_; rintro e w1 ⟨rfl, hb⟩; obtain ⟨s, rfl⟩ := ext_of_below hb; clear hb)
    | (go_at_call 14; with_reducible refine (alive_any _).mono ?_; rintro e w1 ⟨rfl, hb⟩; obtain ⟨s, rfl⟩ := ext_of_below hb; clear hb))
  refine wp_region_more (by kernel_rfl) (by kernel_rfl) ?_
  repeat (first | go_big_quiet_skip | quiet_step (first
    | (go_at_call 12; first | with_reducible exact more_call (free_any _ _ _ _ _ _) | exact more_call2 (free_any _ _ _ _ _ _))
    | (go_at_call 14; first | with_reducible exact more_call (alive_any _) | exact more_call2 (alive_any _))))
  refine wpQuiet_nil ?_
  rintro _ ⟨s, rfl⟩
  go_wp2_with (first
    | (go_at_call 23; with_reducible refine (hold_any _ _ _ _ _ _ _).mono ?_; rintro e w1 ⟨rfl, hb⟩; obtain ⟨s, rfl⟩ := ext_of_below hb; clear hb)
    | (go_at_call 17; with_reducible refine (settle_any _ _ _ _ _ _ _ _).mono ?_; rintro e w1 ⟨rfl, hb⟩; obtain ⟨s, rfl⟩ := ext_of_below hb; clear hb)
    | (go_at_call 21; with_reducible refine (debit_any _ _ _ _ _ _ _).mono ?_; rintro e w1 ⟨rfl, hb⟩; obtain ⟨s, rfl⟩ := ext_of_below hb; clear hb)
    | (go_at_call 15; with_reducible refine (credit_any _ _ _ _ _ _ _).mono ?_; rintro e w1 ⟨rfl, hb⟩; obtain ⟨s, rfl⟩ := ext_of_below hb; clear hb)
    | (go_at_call 14; with_reducible refine (alive_any _).mono ?_; rintro e w1 ⟨rfl, hb⟩; obtain ⟨s, rfl⟩ := ext_of_below hb; clear hb))
  go_returns
  refine ⟨rfl, ?_⟩
  repeat' (first | exact Below.refl _ _ | refine below_ext ?_ ?_ _ | refine Below.alloc ?_ ?_ _ | refine Below.setCell ?_ ?_ _ | refine Below.drew ?_ | (rw [size_ext]; refine Nat.le_add_right_of_le ?_) | go_size | (rw [World.size_alloc]; refine Nat.le_add_right_of_le ?_))

set_option maxHeartbeats 2000000 in
theorem holds_no_no (a b f h u n k : Int) (w : World) (hho : (W5.hold (W5.mk a b f h u) n).2 ≠ 0) (hcr : (W5.credit (W5.mk a b f h u) n).2 ≠ 0) :
    Calls Try.prog 8 #[.agg #[.int .i64 a, .int .i64 b, .int .i64 f, .int .i64 h, .int .i64 u], .int .i64 n, .int .i64 k] w fun e w' => e = .returned (.bool true) ∧ Below w.heap.size w w' := by
  have B1 : ((W5.hold (W5.mk a b f h u) n).2 == 0) = false := beq_eq_false_iff_ne.2 hho
  have hho' := Lib.hid hho
  clear hho
  have C1 := credit_no hcr
  have C2 : ((W5.credit (W5.mk a b f h u) n).2 != 0) = true := bne_iff_ne.2 hcr
  have hcr' := Lib.hid hcr
  clear hcr
  go_enter Try.func8, Try.ntmps8
  go_wp2_with (first
    | (go_at_call 23; with_reducible refine (hold_any _ _ _ _ _ _ _).mono ?_; rintro e w1 ⟨rfl, hb⟩; obtain ⟨s, rfl⟩ := ext_of_below hb; clear hb)
    | (go_at_call 17; with_reducible refine (settle_any _ _ _ _ _ _ _ _).mono ?_; rintro e w1 ⟨rfl, hb⟩; obtain ⟨s, rfl⟩ := ext_of_below hb; clear hb)
    | (go_at_call 21; with_reducible refine (debit_any _ _ _ _ _ _ _).mono ?_; rintro e w1 ⟨rfl, hb⟩; obtain ⟨s, rfl⟩ := ext_of_below hb; clear hb)
    | (go_at_call 15; with_reducible refine (credit_any _ _ _ _ _ _ _).mono ?_; rintro e w1 ⟨rfl, hb⟩; obtain ⟨s, rfl⟩ := ext_of_below hb; clear hb)
    | (go_at_call 14; with_reducible refine (alive_any _).mono ?_; rintro e w1 ⟨rfl, hb⟩; obtain ⟨s, rfl⟩ := ext_of_below hb; clear hb))
  go_returns
  refine ⟨rfl, ?_⟩
  repeat' (first | exact Below.refl _ _ | refine below_ext ?_ ?_ _ | refine Below.alloc ?_ ?_ _ | refine Below.setCell ?_ ?_ _ | refine Below.drew ?_ | (rw [size_ext]; refine Nat.le_add_right_of_le ?_) | go_size | (rw [World.size_alloc]; refine Nat.le_add_right_of_le ?_))

set_option maxHeartbeats 2000000 in
theorem holds_below_yes (a b f h u n k : Int) (w : World) (hho : (W5.hold (W5.mk a b f h u) n).2 = 0) (h0 : k < 0) (hcr : (W5.credit (W5.mk a b f h u) n).2 = 0) :
    Calls Try.prog 8 #[.agg #[.int .i64 a, .int .i64 b, .int .i64 f, .int .i64 h, .int .i64 u], .int .i64 n, .int .i64 k] w fun e w' => e = .returned (.bool true) ∧ Below w.heap.size w w' := by
  obtain ⟨hc, _, _, _, B1⟩ := hold_yes hho
  clear hho
  have hk := W5.chk_ok.1 hc
  dsimp only at hk
  obtain ⟨_, _, _, _, _, _, _, _, _, _, _⟩ := hk
  have Kh := chk_of (a := a) (b := b) (f := f) (h := h + n) (u := u) (by omega)
  have B2 := free_of Kh
  have B3 := free_of hc
  have B4 : (b - (h + n) - f != b - h - f - n) = false := by rw [bne_eq_false_iff_eq]; omega
  have B9 : IntKind.i64.wrap (b - h - f - n) = b - h - f - n := IntWalk.i64_in _ (by omega)
  have t1 : decide (0 ≤ k) = false := decide_eq_false (by omega)
  have t2 : decide (n < k) = false := decide_eq_false (by omega)
  clear Kh
  have Hh := Lib.hid hc
  clear hc
  obtain ⟨hc, _, _, _, C1⟩ := credit_yes hcr
  clear hcr
  have hk := W5.chk_ok.1 hc
  dsimp only at hk
  obtain ⟨_, _, _, _, _, _, _, _, _, _, _⟩ := hk
  have Kc := chk_of (a := a) (b := b + n) (f := f) (h := h) (u := u) (by omega)
  have C2 := free_of Kc
  have C3 : W5.debit ⟨a, b + n, f, h, u⟩ n = (⟨a, b, f, h, u⟩, 0) := by
    unfold W5.debit
    rw [if_pos Kc, if_pos (by omega), if_neg (by rw [C2]; omega)]
    congr 2
    dsimp only
    omega
  have C4 := free_of hc
  have C5 : (b + n - h - f == b - h - f + n) = true := beq_iff_eq.2 (by omega)
  have C6 : IntKind.i64.wrap (b - h - f + n) = b - h - f + n := IntWalk.i64_in _ (by omega)
  clear Kc
  have Hc := Lib.hid hc
  clear hc
  go_enter Try.func8, Try.ntmps8
  go_wp2_with (first
    | (go_at_call 23; with_reducible refine (hold_any _ _ _ _ _ _ _).mono ?_; rintro e w1 ⟨rfl, hb⟩; obtain ⟨s, rfl⟩ := ext_of_below hb; clear hb)
    | (go_at_call 17; with_reducible refine (settle_any _ _ _ _ _ _ _ _).mono ?_; rintro e w1 ⟨rfl, hb⟩; obtain ⟨s, rfl⟩ := ext_of_below hb; clear hb)
    | (go_at_call 21; with_reducible refine (debit_any _ _ _ _ _ _ _).mono ?_; rintro e w1 ⟨rfl, hb⟩; obtain ⟨s, rfl⟩ := ext_of_below hb; clear hb)
    | (go_at_call 15; with_reducible refine (credit_any _ _ _ _ _ _ _).mono ?_; rintro e w1 ⟨rfl, hb⟩; obtain ⟨s, rfl⟩ := ext_of_below hb; clear hb)
    | (go_at_call 14; with_reducible refine (alive_any _).mono ?_; rintro e w1 ⟨rfl, hb⟩; obtain ⟨s, rfl⟩ := ext_of_below hb; clear hb))
  refine wp_region_more (by kernel_rfl) (by kernel_rfl) ?_
  repeat (first | go_big_quiet_skip | quiet_step (first
    | (go_at_call 12; first | with_reducible exact more_call (free_any _ _ _ _ _ _) | exact more_call2 (free_any _ _ _ _ _ _))
    | (go_at_call 14; first | with_reducible exact more_call (alive_any _) | exact more_call2 (alive_any _))))
  refine wpQuiet_nil ?_
  rintro _ ⟨s, rfl⟩
  go_wp2_with (first
    | (go_at_call 23; with_reducible refine (hold_any _ _ _ _ _ _ _).mono ?_; rintro e w1 ⟨rfl, hb⟩; obtain ⟨s, rfl⟩ := ext_of_below hb; clear hb)
    | (go_at_call 17; with_reducible refine (settle_any _ _ _ _ _ _ _ _).mono ?_; rintro e w1 ⟨rfl, hb⟩; obtain ⟨s, rfl⟩ := ext_of_below hb; clear hb)
    | (go_at_call 21; with_reducible refine (debit_any _ _ _ _ _ _ _).mono ?_; rintro e w1 ⟨rfl, hb⟩; obtain ⟨s, rfl⟩ := ext_of_below hb; clear hb)
    | (go_at_call 15; with_reducible refine (credit_any _ _ _ _ _ _ _).mono ?_; rintro e w1 ⟨rfl, hb⟩; obtain ⟨s, rfl⟩ := ext_of_below hb; clear hb)
    | (go_at_call 14; with_reducible refine (alive_any _).mono ?_; rintro e w1 ⟨rfl, hb⟩; obtain ⟨s, rfl⟩ := ext_of_below hb; clear hb))
  refine wp_region_more (by kernel_rfl) (by kernel_rfl) ?_
  repeat (first | go_big_quiet_skip | quiet_step (first
    | (go_at_call 12; first | with_reducible exact more_call (free_any _ _ _ _ _ _) | exact more_call2 (free_any _ _ _ _ _ _))
    | (go_at_call 14; first | with_reducible exact more_call (alive_any _) | exact more_call2 (alive_any _))))
  refine wpQuiet_nil ?_
  rintro _ ⟨s, rfl⟩
  go_wp2_with (first
    | (go_at_call 23; with_reducible refine (hold_any _ _ _ _ _ _ _).mono ?_; rintro e w1 ⟨rfl, hb⟩; obtain ⟨s, rfl⟩ := ext_of_below hb; clear hb)
    | (go_at_call 17; with_reducible refine (settle_any _ _ _ _ _ _ _ _).mono ?_; rintro e w1 ⟨rfl, hb⟩; obtain ⟨s, rfl⟩ := ext_of_below hb; clear hb)
    | (go_at_call 21; with_reducible refine (debit_any _ _ _ _ _ _ _).mono ?_; rintro e w1 ⟨rfl, hb⟩; obtain ⟨s, rfl⟩ := ext_of_below hb; clear hb)
    | (go_at_call 15; with_reducible refine (credit_any _ _ _ _ _ _ _).mono ?_; rintro e w1 ⟨rfl, hb⟩; obtain ⟨s, rfl⟩ := ext_of_below hb; clear hb)
    | (go_at_call 14; with_reducible refine (alive_any _).mono ?_; rintro e w1 ⟨rfl, hb⟩; obtain ⟨s, rfl⟩ := ext_of_below hb; clear hb))
  refine wp_region_more (by kernel_rfl) (by kernel_rfl) ?_
  repeat (first | go_big_quiet_skip | quiet_step (first
    | (go_at_call 12; first | with_reducible exact more_call (free_any _ _ _ _ _ _) | exact more_call2 (free_any _ _ _ _ _ _))
    | (go_at_call 14; first | with_reducible exact more_call (alive_any _) | exact more_call2 (alive_any _))))
  refine wpQuiet_nil ?_
  rintro _ ⟨s, rfl⟩
  go_wp2_with (first
    | (go_at_call 23; with_reducible refine (hold_any _ _ _ _ _ _ _).mono ?_; rintro e w1 ⟨rfl, hb⟩; obtain ⟨s, rfl⟩ := ext_of_below hb; clear hb)
    | (go_at_call 17; with_reducible refine (settle_any _ _ _ _ _ _ _ _).mono ?_; rintro e w1 ⟨rfl, hb⟩; obtain ⟨s, rfl⟩ := ext_of_below hb; clear hb)
    | (go_at_call 21; with_reducible refine (debit_any _ _ _ _ _ _ _).mono ?_; rintro e w1 ⟨rfl, hb⟩; obtain ⟨s, rfl⟩ := ext_of_below hb; clear hb)
    | (go_at_call 15; with_reducible refine (credit_any _ _ _ _ _ _ _).mono ?_; rintro e w1 ⟨rfl, hb⟩; obtain ⟨s, rfl⟩ := ext_of_below hb; clear hb)
    | (go_at_call 14; with_reducible refine (alive_any _).mono ?_; rintro e w1 ⟨rfl, hb⟩; obtain ⟨s, rfl⟩ := ext_of_below hb; clear hb))
  go_returns
  refine ⟨rfl, ?_⟩
  repeat' (first | exact Below.refl _ _ | refine below_ext ?_ ?_ _ | refine Below.alloc ?_ ?_ _ | refine Below.setCell ?_ ?_ _ | refine Below.drew ?_ | (rw [size_ext]; refine Nat.le_add_right_of_le ?_) | go_size | (rw [World.size_alloc]; refine Nat.le_add_right_of_le ?_))

set_option maxHeartbeats 2000000 in
theorem holds_below_no (a b f h u n k : Int) (w : World) (hho : (W5.hold (W5.mk a b f h u) n).2 = 0) (h0 : k < 0) (hcr : (W5.credit (W5.mk a b f h u) n).2 ≠ 0) :
    Calls Try.prog 8 #[.agg #[.int .i64 a, .int .i64 b, .int .i64 f, .int .i64 h, .int .i64 u], .int .i64 n, .int .i64 k] w fun e w' => e = .returned (.bool true) ∧ Below w.heap.size w w' := by
  obtain ⟨hc, _, _, _, B1⟩ := hold_yes hho
  clear hho
  have hk := W5.chk_ok.1 hc
  dsimp only at hk
  obtain ⟨_, _, _, _, _, _, _, _, _, _, _⟩ := hk
  have Kh := chk_of (a := a) (b := b) (f := f) (h := h + n) (u := u) (by omega)
  have B2 := free_of Kh
  have B3 := free_of hc
  have B4 : (b - (h + n) - f != b - h - f - n) = false := by rw [bne_eq_false_iff_eq]; omega
  have B9 : IntKind.i64.wrap (b - h - f - n) = b - h - f - n := IntWalk.i64_in _ (by omega)
  have t1 : decide (0 ≤ k) = false := decide_eq_false (by omega)
  have t2 : decide (n < k) = false := decide_eq_false (by omega)
  clear Kh
  have Hh := Lib.hid hc
  clear hc
  have C1 := credit_no hcr
  have C2 : ((W5.credit (W5.mk a b f h u) n).2 != 0) = true := bne_iff_ne.2 hcr
  have hcr' := Lib.hid hcr
  clear hcr
  go_enter Try.func8, Try.ntmps8
  go_wp2_with (first
    | (go_at_call 23; with_reducible refine (hold_any _ _ _ _ _ _ _).mono ?_; rintro e w1 ⟨rfl, hb⟩; obtain ⟨s, rfl⟩ := ext_of_below hb; clear hb)
    | (go_at_call 17; with_reducible refine (settle_any _ _ _ _ _ _ _ _).mono ?_; rintro e w1 ⟨rfl, hb⟩; obtain ⟨s, rfl⟩ := ext_of_below hb; clear hb)
    | (go_at_call 21; with_reducible refine (debit_any _ _ _ _ _ _ _).mono ?_; rintro e w1 ⟨rfl, hb⟩; obtain ⟨s, rfl⟩ := ext_of_below hb; clear hb)
    | (go_at_call 15; with_reducible refine (credit_any _ _ _ _ _ _ _).mono ?_; rintro e w1 ⟨rfl, hb⟩; obtain ⟨s, rfl⟩ := ext_of_below hb; clear hb)
    | (go_at_call 14; with_reducible refine (alive_any _).mono ?_; rintro e w1 ⟨rfl, hb⟩; obtain ⟨s, rfl⟩ := ext_of_below hb; clear hb))
  refine wp_region_more (by kernel_rfl) (by kernel_rfl) ?_
  repeat (first | go_big_quiet_skip | quiet_step (first
    | (go_at_call 12; first | with_reducible exact more_call (free_any _ _ _ _ _ _) | exact more_call2 (free_any _ _ _ _ _ _))
    | (go_at_call 14; first | with_reducible exact more_call (alive_any _) | exact more_call2 (alive_any _))))
  refine wpQuiet_nil ?_
  rintro _ ⟨s, rfl⟩
  go_wp2_with (first
    | (go_at_call 23; with_reducible refine (hold_any _ _ _ _ _ _ _).mono ?_; rintro e w1 ⟨rfl, hb⟩; obtain ⟨s, rfl⟩ := ext_of_below hb; clear hb)
    | (go_at_call 17; with_reducible refine (settle_any _ _ _ _ _ _ _ _).mono ?_; rintro e w1 ⟨rfl, hb⟩; obtain ⟨s, rfl⟩ := ext_of_below hb; clear hb)
    | (go_at_call 21; with_reducible refine (debit_any _ _ _ _ _ _ _).mono ?_; rintro e w1 ⟨rfl, hb⟩; obtain ⟨s, rfl⟩ := ext_of_below hb; clear hb)
    | (go_at_call 15; with_reducible refine (credit_any _ _ _ _ _ _ _).mono ?_; rintro e w1 ⟨rfl, hb⟩; obtain ⟨s, rfl⟩ := ext_of_below hb; clear hb)
    | (go_at_call 14; with_reducible refine (alive_any _).mono ?_; rintro e w1 ⟨rfl, hb⟩; obtain ⟨s, rfl⟩ := ext_of_below hb; clear hb))
  refine wp_region_more (by kernel_rfl) (by kernel_rfl) ?_
  repeat (first | go_big_quiet_skip | quiet_step (first
    | (go_at_call 12; first | with_reducible exact more_call (free_any _ _ _ _ _ _) | exact more_call2 (free_any _ _ _ _ _ _))
    | (go_at_call 14; first | with_reducible exact more_call (alive_any _) | exact more_call2 (alive_any _))))
  refine wpQuiet_nil ?_
  rintro _ ⟨s, rfl⟩
  go_wp2_with (first
    | (go_at_call 23; with_reducible refine (hold_any _ _ _ _ _ _ _).mono ?_; rintro e w1 ⟨rfl, hb⟩; obtain ⟨s, rfl⟩ := ext_of_below hb; clear hb)
    | (go_at_call 17; with_reducible refine (settle_any _ _ _ _ _ _ _ _).mono ?_; rintro e w1 ⟨rfl, hb⟩; obtain ⟨s, rfl⟩ := ext_of_below hb; clear hb)
    | (go_at_call 21; with_reducible refine (debit_any _ _ _ _ _ _ _).mono ?_; rintro e w1 ⟨rfl, hb⟩; obtain ⟨s, rfl⟩ := ext_of_below hb; clear hb)
    | (go_at_call 15; with_reducible refine (credit_any _ _ _ _ _ _ _).mono ?_; rintro e w1 ⟨rfl, hb⟩; obtain ⟨s, rfl⟩ := ext_of_below hb; clear hb)
    | (go_at_call 14; with_reducible refine (alive_any _).mono ?_; rintro e w1 ⟨rfl, hb⟩; obtain ⟨s, rfl⟩ := ext_of_below hb; clear hb))
  go_returns
  refine ⟨rfl, ?_⟩
  repeat' (first | exact Below.refl _ _ | refine below_ext ?_ ?_ _ | refine Below.alloc ?_ ?_ _ | refine Below.setCell ?_ ?_ _ | refine Below.drew ?_ | (rw [size_ext]; refine Nat.le_add_right_of_le ?_) | go_size | (rw [World.size_alloc]; refine Nat.le_add_right_of_le ?_))

set_option maxHeartbeats 2000000 in
theorem holds_in_yes (a b f h u n k : Int) (w : World) (hho : (W5.hold (W5.mk a b f h u) n).2 = 0) (h0 : 0 ≤ k) (h1 : k ≤ n) (hcr : (W5.credit (W5.mk a b f h u) n).2 = 0) :
    Calls Try.prog 8 #[.agg #[.int .i64 a, .int .i64 b, .int .i64 f, .int .i64 h, .int .i64 u], .int .i64 n, .int .i64 k] w fun e w' => e = .returned (.bool true) ∧ Below w.heap.size w w' := by
  obtain ⟨hc, _, _, _, B1⟩ := hold_yes hho
  clear hho
  have hk := W5.chk_ok.1 hc
  dsimp only at hk
  obtain ⟨_, _, _, _, _, _, _, _, _, _, _⟩ := hk
  have Kh := chk_of (a := a) (b := b) (f := f) (h := h + n) (u := u) (by omega)
  have B2 := free_of Kh
  have B3 := free_of hc
  have B4 : (b - (h + n) - f != b - h - f - n) = false := by rw [bne_eq_false_iff_eq]; omega
  have B9 : IntKind.i64.wrap (b - h - f - n) = b - h - f - n := IntWalk.i64_in _ (by omega)
  have B5 : W5.settle ⟨a, b, f, h + n, u⟩ n k = (⟨a, b - k, f, h, u⟩, 0) := by
    unfold W5.settle
    rw [if_pos Kh, if_pos (by dsimp only; omega)]
    congr 2
    dsimp only
    omega
  have B6 : W5.debit (W5.mk a b f h u) k = (⟨a, b - k, f, h, u⟩, 0) := by
    unfold W5.debit
    rw [if_pos hc, if_pos (by omega), if_neg (by rw [B3]; omega)]
  have B7 := free_of (chk_of (a := a) (b := b - k) (f := f) (h := h) (u := u) (by omega))
  have B8 : (b - k - h - f != b - h - f - k) = false := by rw [bne_eq_false_iff_eq]; omega
  have B10 : IntKind.i64.wrap (b - h - f - k) = b - h - f - k := IntWalk.i64_in _ (by omega)
  have t1 : decide (0 ≤ k) = true := decide_eq_true h0
  have t2 : decide (k ≤ n) = true := decide_eq_true h1
  have t3 : decide (n < k) = false := decide_eq_false (by omega)
  clear Kh
  have Hh := Lib.hid hc
  clear hc
  obtain ⟨hc, _, _, _, C1⟩ := credit_yes hcr
  clear hcr
  have hk := W5.chk_ok.1 hc
  dsimp only at hk
  obtain ⟨_, _, _, _, _, _, _, _, _, _, _⟩ := hk
  have Kc := chk_of (a := a) (b := b + n) (f := f) (h := h) (u := u) (by omega)
  have C2 := free_of Kc
  have C3 : W5.debit ⟨a, b + n, f, h, u⟩ n = (⟨a, b, f, h, u⟩, 0) := by
    unfold W5.debit
    rw [if_pos Kc, if_pos (by omega), if_neg (by rw [C2]; omega)]
    congr 2
    dsimp only
    omega
  have C4 := free_of hc
  have C5 : (b + n - h - f == b - h - f + n) = true := beq_iff_eq.2 (by omega)
  have C6 : IntKind.i64.wrap (b - h - f + n) = b - h - f + n := IntWalk.i64_in _ (by omega)
  clear Kc
  have Hc := Lib.hid hc
  clear hc
  go_enter Try.func8, Try.ntmps8
  go_wp2_with (first
    | (go_at_call 23; with_reducible refine (hold_any _ _ _ _ _ _ _).mono ?_; rintro e w1 ⟨rfl, hb⟩; obtain ⟨s, rfl⟩ := ext_of_below hb; clear hb)
    | (go_at_call 17; with_reducible refine (settle_any _ _ _ _ _ _ _ _).mono ?_; rintro e w1 ⟨rfl, hb⟩; obtain ⟨s, rfl⟩ := ext_of_below hb; clear hb)
    | (go_at_call 21; with_reducible refine (debit_any _ _ _ _ _ _ _).mono ?_; rintro e w1 ⟨rfl, hb⟩; obtain ⟨s, rfl⟩ := ext_of_below hb; clear hb)
    | (go_at_call 15; with_reducible refine (credit_any _ _ _ _ _ _ _).mono ?_; rintro e w1 ⟨rfl, hb⟩; obtain ⟨s, rfl⟩ := ext_of_below hb; clear hb)
    | (go_at_call 14; with_reducible refine (alive_any _).mono ?_; rintro e w1 ⟨rfl, hb⟩; obtain ⟨s, rfl⟩ := ext_of_below hb; clear hb))
  refine wp_region_more (by kernel_rfl) (by kernel_rfl) ?_
  repeat (first | go_big_quiet_skip | quiet_step (first
    | (go_at_call 12; first | with_reducible exact more_call (free_any _ _ _ _ _ _) | exact more_call2 (free_any _ _ _ _ _ _))
    | (go_at_call 14; first | with_reducible exact more_call (alive_any _) | exact more_call2 (alive_any _))))
  refine wpQuiet_nil ?_
  rintro _ ⟨s, rfl⟩
  go_wp2_with (first
    | (go_at_call 23; with_reducible refine (hold_any _ _ _ _ _ _ _).mono ?_; rintro e w1 ⟨rfl, hb⟩; obtain ⟨s, rfl⟩ := ext_of_below hb; clear hb)
    | (go_at_call 17; with_reducible refine (settle_any _ _ _ _ _ _ _ _).mono ?_; rintro e w1 ⟨rfl, hb⟩; obtain ⟨s, rfl⟩ := ext_of_below hb; clear hb)
    | (go_at_call 21; with_reducible refine (debit_any _ _ _ _ _ _ _).mono ?_; rintro e w1 ⟨rfl, hb⟩; obtain ⟨s, rfl⟩ := ext_of_below hb; clear hb)
    | (go_at_call 15; with_reducible refine (credit_any _ _ _ _ _ _ _).mono ?_; rintro e w1 ⟨rfl, hb⟩; obtain ⟨s, rfl⟩ := ext_of_below hb; clear hb)
    | (go_at_call 14; with_reducible refine (alive_any _).mono ?_; rintro e w1 ⟨rfl, hb⟩; obtain ⟨s, rfl⟩ := ext_of_below hb; clear hb))
  refine wp_region_more (by kernel_rfl) (by kernel_rfl) ?_
  repeat (first | go_big_quiet_skip | quiet_step (first
    | (go_at_call 12; first | with_reducible exact more_call (free_any _ _ _ _ _ _) | exact more_call2 (free_any _ _ _ _ _ _))
    | (go_at_call 14; first | with_reducible exact more_call (alive_any _) | exact more_call2 (alive_any _))))
  refine wpQuiet_nil ?_
  rintro _ ⟨s, rfl⟩
  go_wp2_with (first
    | (go_at_call 23; with_reducible refine (hold_any _ _ _ _ _ _ _).mono ?_; rintro e w1 ⟨rfl, hb⟩; obtain ⟨s, rfl⟩ := ext_of_below hb; clear hb)
    | (go_at_call 17; with_reducible refine (settle_any _ _ _ _ _ _ _ _).mono ?_; rintro e w1 ⟨rfl, hb⟩; obtain ⟨s, rfl⟩ := ext_of_below hb; clear hb)
    | (go_at_call 21; with_reducible refine (debit_any _ _ _ _ _ _ _).mono ?_; rintro e w1 ⟨rfl, hb⟩; obtain ⟨s, rfl⟩ := ext_of_below hb; clear hb)
    | (go_at_call 15; with_reducible refine (credit_any _ _ _ _ _ _ _).mono ?_; rintro e w1 ⟨rfl, hb⟩; obtain ⟨s, rfl⟩ := ext_of_below hb; clear hb)
    | (go_at_call 14; with_reducible refine (alive_any _).mono ?_; rintro e w1 ⟨rfl, hb⟩; obtain ⟨s, rfl⟩ := ext_of_below hb; clear hb))
  refine wp_region_more (by kernel_rfl) (by kernel_rfl) ?_
  repeat (first | go_big_quiet_skip | quiet_step (first
    | (go_at_call 12; first | with_reducible exact more_call (free_any _ _ _ _ _ _) | exact more_call2 (free_any _ _ _ _ _ _))
    | (go_at_call 14; first | with_reducible exact more_call (alive_any _) | exact more_call2 (alive_any _))))
  refine wpQuiet_nil ?_
  rintro _ ⟨s, rfl⟩
  go_wp2_with (first
    | (go_at_call 23; with_reducible refine (hold_any _ _ _ _ _ _ _).mono ?_; rintro e w1 ⟨rfl, hb⟩; obtain ⟨s, rfl⟩ := ext_of_below hb; clear hb)
    | (go_at_call 17; with_reducible refine (settle_any _ _ _ _ _ _ _ _).mono ?_; rintro e w1 ⟨rfl, hb⟩; obtain ⟨s, rfl⟩ := ext_of_below hb; clear hb)
    | (go_at_call 21; with_reducible refine (debit_any _ _ _ _ _ _ _).mono ?_; rintro e w1 ⟨rfl, hb⟩; obtain ⟨s, rfl⟩ := ext_of_below hb; clear hb)
    | (go_at_call 15; with_reducible refine (credit_any _ _ _ _ _ _ _).mono ?_; rintro e w1 ⟨rfl, hb⟩; obtain ⟨s, rfl⟩ := ext_of_below hb; clear hb)
    | (go_at_call 14; with_reducible refine (alive_any _).mono ?_; rintro e w1 ⟨rfl, hb⟩; obtain ⟨s, rfl⟩ := ext_of_below hb; clear hb))
  go_returns
  refine ⟨rfl, ?_⟩
  repeat' (first | exact Below.refl _ _ | refine below_ext ?_ ?_ _ | refine Below.alloc ?_ ?_ _ | refine Below.setCell ?_ ?_ _ | refine Below.drew ?_ | (rw [size_ext]; refine Nat.le_add_right_of_le ?_) | go_size | (rw [World.size_alloc]; refine Nat.le_add_right_of_le ?_))

set_option maxHeartbeats 2000000 in
theorem holds_in_no (a b f h u n k : Int) (w : World) (hho : (W5.hold (W5.mk a b f h u) n).2 = 0) (h0 : 0 ≤ k) (h1 : k ≤ n) (hcr : (W5.credit (W5.mk a b f h u) n).2 ≠ 0) :
    Calls Try.prog 8 #[.agg #[.int .i64 a, .int .i64 b, .int .i64 f, .int .i64 h, .int .i64 u], .int .i64 n, .int .i64 k] w fun e w' => e = .returned (.bool true) ∧ Below w.heap.size w w' := by
  obtain ⟨hc, _, _, _, B1⟩ := hold_yes hho
  clear hho
  have hk := W5.chk_ok.1 hc
  dsimp only at hk
  obtain ⟨_, _, _, _, _, _, _, _, _, _, _⟩ := hk
  have Kh := chk_of (a := a) (b := b) (f := f) (h := h + n) (u := u) (by omega)
  have B2 := free_of Kh
  have B3 := free_of hc
  have B4 : (b - (h + n) - f != b - h - f - n) = false := by rw [bne_eq_false_iff_eq]; omega
  have B9 : IntKind.i64.wrap (b - h - f - n) = b - h - f - n := IntWalk.i64_in _ (by omega)
  have B5 : W5.settle ⟨a, b, f, h + n, u⟩ n k = (⟨a, b - k, f, h, u⟩, 0) := by
    unfold W5.settle
    rw [if_pos Kh, if_pos (by dsimp only; omega)]
    congr 2
    dsimp only
    omega
  have B6 : W5.debit (W5.mk a b f h u) k = (⟨a, b - k, f, h, u⟩, 0) := by
    unfold W5.debit
    rw [if_pos hc, if_pos (by omega), if_neg (by rw [B3]; omega)]
  have B7 := free_of (chk_of (a := a) (b := b - k) (f := f) (h := h) (u := u) (by omega))
  have B8 : (b - k - h - f != b - h - f - k) = false := by rw [bne_eq_false_iff_eq]; omega
  have B10 : IntKind.i64.wrap (b - h - f - k) = b - h - f - k := IntWalk.i64_in _ (by omega)
  have t1 : decide (0 ≤ k) = true := decide_eq_true h0
  have t2 : decide (k ≤ n) = true := decide_eq_true h1
  have t3 : decide (n < k) = false := decide_eq_false (by omega)
  clear Kh
  have Hh := Lib.hid hc
  clear hc
  have C1 := credit_no hcr
  have C2 : ((W5.credit (W5.mk a b f h u) n).2 != 0) = true := bne_iff_ne.2 hcr
  have hcr' := Lib.hid hcr
  clear hcr
  go_enter Try.func8, Try.ntmps8
  go_wp2_with (first
    | (go_at_call 23; with_reducible refine (hold_any _ _ _ _ _ _ _).mono ?_; rintro e w1 ⟨rfl, hb⟩; obtain ⟨s, rfl⟩ := ext_of_below hb; clear hb)
    | (go_at_call 17; with_reducible refine (settle_any _ _ _ _ _ _ _ _).mono ?_; rintro e w1 ⟨rfl, hb⟩; obtain ⟨s, rfl⟩ := ext_of_below hb; clear hb)
    | (go_at_call 21; with_reducible refine (debit_any _ _ _ _ _ _ _).mono ?_; rintro e w1 ⟨rfl, hb⟩; obtain ⟨s, rfl⟩ := ext_of_below hb; clear hb)
    | (go_at_call 15; with_reducible refine (credit_any _ _ _ _ _ _ _).mono ?_; rintro e w1 ⟨rfl, hb⟩; obtain ⟨s, rfl⟩ := ext_of_below hb; clear hb)
    | (go_at_call 14; with_reducible refine (alive_any _).mono ?_; rintro e w1 ⟨rfl, hb⟩; obtain ⟨s, rfl⟩ := ext_of_below hb; clear hb))
  refine wp_region_more (by kernel_rfl) (by kernel_rfl) ?_
  repeat (first | go_big_quiet_skip | quiet_step (first
    | (go_at_call 12; first | with_reducible exact more_call (free_any _ _ _ _ _ _) | exact more_call2 (free_any _ _ _ _ _ _))
    | (go_at_call 14; first | with_reducible exact more_call (alive_any _) | exact more_call2 (alive_any _))))
  refine wpQuiet_nil ?_
  rintro _ ⟨s, rfl⟩
  go_wp2_with (first
    | (go_at_call 23; with_reducible refine (hold_any _ _ _ _ _ _ _).mono ?_; rintro e w1 ⟨rfl, hb⟩; obtain ⟨s, rfl⟩ := ext_of_below hb; clear hb)
    | (go_at_call 17; with_reducible refine (settle_any _ _ _ _ _ _ _ _).mono ?_; rintro e w1 ⟨rfl, hb⟩; obtain ⟨s, rfl⟩ := ext_of_below hb; clear hb)
    | (go_at_call 21; with_reducible refine (debit_any _ _ _ _ _ _ _).mono ?_; rintro e w1 ⟨rfl, hb⟩; obtain ⟨s, rfl⟩ := ext_of_below hb; clear hb)
    | (go_at_call 15; with_reducible refine (credit_any _ _ _ _ _ _ _).mono ?_; rintro e w1 ⟨rfl, hb⟩; obtain ⟨s, rfl⟩ := ext_of_below hb; clear hb)
    | (go_at_call 14; with_reducible refine (alive_any _).mono ?_; rintro e w1 ⟨rfl, hb⟩; obtain ⟨s, rfl⟩ := ext_of_below hb; clear hb))
  refine wp_region_more (by kernel_rfl) (by kernel_rfl) ?_
  repeat (first | go_big_quiet_skip | quiet_step (first
    | (go_at_call 12; first | with_reducible exact more_call (free_any _ _ _ _ _ _) | exact more_call2 (free_any _ _ _ _ _ _))
    | (go_at_call 14; first | with_reducible exact more_call (alive_any _) | exact more_call2 (alive_any _))))
  refine wpQuiet_nil ?_
  rintro _ ⟨s, rfl⟩
  go_wp2_with (first
    | (go_at_call 23; with_reducible refine (hold_any _ _ _ _ _ _ _).mono ?_; rintro e w1 ⟨rfl, hb⟩; obtain ⟨s, rfl⟩ := ext_of_below hb; clear hb)
    | (go_at_call 17; with_reducible refine (settle_any _ _ _ _ _ _ _ _).mono ?_; rintro e w1 ⟨rfl, hb⟩; obtain ⟨s, rfl⟩ := ext_of_below hb; clear hb)
    | (go_at_call 21; with_reducible refine (debit_any _ _ _ _ _ _ _).mono ?_; rintro e w1 ⟨rfl, hb⟩; obtain ⟨s, rfl⟩ := ext_of_below hb; clear hb)
    | (go_at_call 15; with_reducible refine (credit_any _ _ _ _ _ _ _).mono ?_; rintro e w1 ⟨rfl, hb⟩; obtain ⟨s, rfl⟩ := ext_of_below hb; clear hb)
    | (go_at_call 14; with_reducible refine (alive_any _).mono ?_; rintro e w1 ⟨rfl, hb⟩; obtain ⟨s, rfl⟩ := ext_of_below hb; clear hb))
  go_returns
  refine ⟨rfl, ?_⟩
  repeat' (first | exact Below.refl _ _ | refine below_ext ?_ ?_ _ | refine Below.alloc ?_ ?_ _ | refine Below.setCell ?_ ?_ _ | refine Below.drew ?_ | (rw [size_ext]; refine Nat.le_add_right_of_le ?_) | go_size | (rw [World.size_alloc]; refine Nat.le_add_right_of_le ?_))

set_option maxHeartbeats 2000000 in
theorem holds_above_yes (a b f h u n k : Int) (w : World) (hho : (W5.hold (W5.mk a b f h u) n).2 = 0) (h0 : n < k) (hcr : (W5.credit (W5.mk a b f h u) n).2 = 0) :
    Calls Try.prog 8 #[.agg #[.int .i64 a, .int .i64 b, .int .i64 f, .int .i64 h, .int .i64 u], .int .i64 n, .int .i64 k] w fun e w' => e = .returned (.bool true) ∧ Below w.heap.size w w' := by
  obtain ⟨hc, _, _, _, B1⟩ := hold_yes hho
  clear hho
  have hk := W5.chk_ok.1 hc
  dsimp only at hk
  obtain ⟨_, _, _, _, _, _, _, _, _, _, _⟩ := hk
  have Kh := chk_of (a := a) (b := b) (f := f) (h := h + n) (u := u) (by omega)
  have B2 := free_of Kh
  have B3 := free_of hc
  have B4 : (b - (h + n) - f != b - h - f - n) = false := by rw [bne_eq_false_iff_eq]; omega
  have B9 : IntKind.i64.wrap (b - h - f - n) = b - h - f - n := IntWalk.i64_in _ (by omega)
  have B5 : W5.settle ⟨a, b, f, h + n, u⟩ n k = (W5.zero, 6) := by
    unfold W5.settle
    rw [if_pos Kh, if_neg (by dsimp only; omega)]
  have t1 : decide (0 ≤ k) = true := decide_eq_true (by omega)
  have t2 : decide (k ≤ n) = false := decide_eq_false (by omega)
  have t3 : decide (n < k) = true := decide_eq_true (by omega)
  clear Kh
  have Hh := Lib.hid hc
  clear hc
  obtain ⟨hc, _, _, _, C1⟩ := credit_yes hcr
  clear hcr
  have hk := W5.chk_ok.1 hc
  dsimp only at hk
  obtain ⟨_, _, _, _, _, _, _, _, _, _, _⟩ := hk
  have Kc := chk_of (a := a) (b := b + n) (f := f) (h := h) (u := u) (by omega)
  have C2 := free_of Kc
  have C3 : W5.debit ⟨a, b + n, f, h, u⟩ n = (⟨a, b, f, h, u⟩, 0) := by
    unfold W5.debit
    rw [if_pos Kc, if_pos (by omega), if_neg (by rw [C2]; omega)]
    congr 2
    dsimp only
    omega
  have C4 := free_of hc
  have C5 : (b + n - h - f == b - h - f + n) = true := beq_iff_eq.2 (by omega)
  have C6 : IntKind.i64.wrap (b - h - f + n) = b - h - f + n := IntWalk.i64_in _ (by omega)
  clear Kc
  have Hc := Lib.hid hc
  clear hc
  go_enter Try.func8, Try.ntmps8
  go_wp2_with (first
    | (go_at_call 23; with_reducible refine (hold_any _ _ _ _ _ _ _).mono ?_; rintro e w1 ⟨rfl, hb⟩; obtain ⟨s, rfl⟩ := ext_of_below hb; clear hb)
    | (go_at_call 17; with_reducible refine (settle_any _ _ _ _ _ _ _ _).mono ?_; rintro e w1 ⟨rfl, hb⟩; obtain ⟨s, rfl⟩ := ext_of_below hb; clear hb)
    | (go_at_call 21; with_reducible refine (debit_any _ _ _ _ _ _ _).mono ?_; rintro e w1 ⟨rfl, hb⟩; obtain ⟨s, rfl⟩ := ext_of_below hb; clear hb)
    | (go_at_call 15; with_reducible refine (credit_any _ _ _ _ _ _ _).mono ?_; rintro e w1 ⟨rfl, hb⟩; obtain ⟨s, rfl⟩ := ext_of_below hb; clear hb)
    | (go_at_call 14; with_reducible refine (alive_any _).mono ?_; rintro e w1 ⟨rfl, hb⟩; obtain ⟨s, rfl⟩ := ext_of_below hb; clear hb))
  refine wp_region_more (by kernel_rfl) (by kernel_rfl) ?_
  repeat (first | go_big_quiet_skip | quiet_step (first
    | (go_at_call 12; first | with_reducible exact more_call (free_any _ _ _ _ _ _) | exact more_call2 (free_any _ _ _ _ _ _))
    | (go_at_call 14; first | with_reducible exact more_call (alive_any _) | exact more_call2 (alive_any _))))
  refine wpQuiet_nil ?_
  rintro _ ⟨s, rfl⟩
  go_wp2_with (first
    | (go_at_call 23; with_reducible refine (hold_any _ _ _ _ _ _ _).mono ?_; rintro e w1 ⟨rfl, hb⟩; obtain ⟨s, rfl⟩ := ext_of_below hb; clear hb)
    | (go_at_call 17; with_reducible refine (settle_any _ _ _ _ _ _ _ _).mono ?_; rintro e w1 ⟨rfl, hb⟩; obtain ⟨s, rfl⟩ := ext_of_below hb; clear hb)
    | (go_at_call 21; with_reducible refine (debit_any _ _ _ _ _ _ _).mono ?_; rintro e w1 ⟨rfl, hb⟩; obtain ⟨s, rfl⟩ := ext_of_below hb; clear hb)
    | (go_at_call 15; with_reducible refine (credit_any _ _ _ _ _ _ _).mono ?_; rintro e w1 ⟨rfl, hb⟩; obtain ⟨s, rfl⟩ := ext_of_below hb; clear hb)
    | (go_at_call 14; with_reducible refine (alive_any _).mono ?_; rintro e w1 ⟨rfl, hb⟩; obtain ⟨s, rfl⟩ := ext_of_below hb; clear hb))
  refine wp_region_more (by kernel_rfl) (by kernel_rfl) ?_
  repeat (first | go_big_quiet_skip | quiet_step (first
    | (go_at_call 12; first | with_reducible exact more_call (free_any _ _ _ _ _ _) | exact more_call2 (free_any _ _ _ _ _ _))
    | (go_at_call 14; first | with_reducible exact more_call (alive_any _) | exact more_call2 (alive_any _))))
  refine wpQuiet_nil ?_
  rintro _ ⟨s, rfl⟩
  go_wp2_with (first
    | (go_at_call 23; with_reducible refine (hold_any _ _ _ _ _ _ _).mono ?_; rintro e w1 ⟨rfl, hb⟩; obtain ⟨s, rfl⟩ := ext_of_below hb; clear hb)
    | (go_at_call 17; with_reducible refine (settle_any _ _ _ _ _ _ _ _).mono ?_; rintro e w1 ⟨rfl, hb⟩; obtain ⟨s, rfl⟩ := ext_of_below hb; clear hb)
    | (go_at_call 21; with_reducible refine (debit_any _ _ _ _ _ _ _).mono ?_; rintro e w1 ⟨rfl, hb⟩; obtain ⟨s, rfl⟩ := ext_of_below hb; clear hb)
    | (go_at_call 15; with_reducible refine (credit_any _ _ _ _ _ _ _).mono ?_; rintro e w1 ⟨rfl, hb⟩; obtain ⟨s, rfl⟩ := ext_of_below hb; clear hb)
    | (go_at_call 14; with_reducible refine (alive_any _).mono ?_; rintro e w1 ⟨rfl, hb⟩; obtain ⟨s, rfl⟩ := ext_of_below hb; clear hb))
  refine wp_region_more (by kernel_rfl) (by kernel_rfl) ?_
  repeat (first | go_big_quiet_skip | quiet_step (first
    | (go_at_call 12; first | with_reducible exact more_call (free_any _ _ _ _ _ _) | exact more_call2 (free_any _ _ _ _ _ _))
    | (go_at_call 14; first | with_reducible exact more_call (alive_any _) | exact more_call2 (alive_any _))))
  refine wpQuiet_nil ?_
  rintro _ ⟨s, rfl⟩
  go_wp2_with (first
    | (go_at_call 23; with_reducible refine (hold_any _ _ _ _ _ _ _).mono ?_; rintro e w1 ⟨rfl, hb⟩; obtain ⟨s, rfl⟩ := ext_of_below hb; clear hb)
    | (go_at_call 17; with_reducible refine (settle_any _ _ _ _ _ _ _ _).mono ?_; rintro e w1 ⟨rfl, hb⟩; obtain ⟨s, rfl⟩ := ext_of_below hb; clear hb)
    | (go_at_call 21; with_reducible refine (debit_any _ _ _ _ _ _ _).mono ?_; rintro e w1 ⟨rfl, hb⟩; obtain ⟨s, rfl⟩ := ext_of_below hb; clear hb)
    | (go_at_call 15; with_reducible refine (credit_any _ _ _ _ _ _ _).mono ?_; rintro e w1 ⟨rfl, hb⟩; obtain ⟨s, rfl⟩ := ext_of_below hb; clear hb)
    | (go_at_call 14; with_reducible refine (alive_any _).mono ?_; rintro e w1 ⟨rfl, hb⟩; obtain ⟨s, rfl⟩ := ext_of_below hb; clear hb))
  go_returns
  refine ⟨rfl, ?_⟩
  repeat' (first | exact Below.refl _ _ | refine below_ext ?_ ?_ _ | refine Below.alloc ?_ ?_ _ | refine Below.setCell ?_ ?_ _ | refine Below.drew ?_ | (rw [size_ext]; refine Nat.le_add_right_of_le ?_) | go_size | (rw [World.size_alloc]; refine Nat.le_add_right_of_le ?_))

set_option maxHeartbeats 2000000 in
theorem holds_above_no (a b f h u n k : Int) (w : World) (hho : (W5.hold (W5.mk a b f h u) n).2 = 0) (h0 : n < k) (hcr : (W5.credit (W5.mk a b f h u) n).2 ≠ 0) :
    Calls Try.prog 8 #[.agg #[.int .i64 a, .int .i64 b, .int .i64 f, .int .i64 h, .int .i64 u], .int .i64 n, .int .i64 k] w fun e w' => e = .returned (.bool true) ∧ Below w.heap.size w w' := by
  obtain ⟨hc, _, _, _, B1⟩ := hold_yes hho
  clear hho
  have hk := W5.chk_ok.1 hc
  dsimp only at hk
  obtain ⟨_, _, _, _, _, _, _, _, _, _, _⟩ := hk
  have Kh := chk_of (a := a) (b := b) (f := f) (h := h + n) (u := u) (by omega)
  have B2 := free_of Kh
  have B3 := free_of hc
  have B4 : (b - (h + n) - f != b - h - f - n) = false := by rw [bne_eq_false_iff_eq]; omega
  have B9 : IntKind.i64.wrap (b - h - f - n) = b - h - f - n := IntWalk.i64_in _ (by omega)
  have B5 : W5.settle ⟨a, b, f, h + n, u⟩ n k = (W5.zero, 6) := by
    unfold W5.settle
    rw [if_pos Kh, if_neg (by dsimp only; omega)]
  have t1 : decide (0 ≤ k) = true := decide_eq_true (by omega)
  have t2 : decide (k ≤ n) = false := decide_eq_false (by omega)
  have t3 : decide (n < k) = true := decide_eq_true (by omega)
  clear Kh
  have Hh := Lib.hid hc
  clear hc
  have C1 := credit_no hcr
  have C2 : ((W5.credit (W5.mk a b f h u) n).2 != 0) = true := bne_iff_ne.2 hcr
  have hcr' := Lib.hid hcr
  clear hcr
  go_enter Try.func8, Try.ntmps8
  go_wp2_with (first
    | (go_at_call 23; with_reducible refine (hold_any _ _ _ _ _ _ _).mono ?_; rintro e w1 ⟨rfl, hb⟩; obtain ⟨s, rfl⟩ := ext_of_below hb; clear hb)
    | (go_at_call 17; with_reducible refine (settle_any _ _ _ _ _ _ _ _).mono ?_; rintro e w1 ⟨rfl, hb⟩; obtain ⟨s, rfl⟩ := ext_of_below hb; clear hb)
    | (go_at_call 21; with_reducible refine (debit_any _ _ _ _ _ _ _).mono ?_; rintro e w1 ⟨rfl, hb⟩; obtain ⟨s, rfl⟩ := ext_of_below hb; clear hb)
    | (go_at_call 15; with_reducible refine (credit_any _ _ _ _ _ _ _).mono ?_; rintro e w1 ⟨rfl, hb⟩; obtain ⟨s, rfl⟩ := ext_of_below hb; clear hb)
    | (go_at_call 14; with_reducible refine (alive_any _).mono ?_; rintro e w1 ⟨rfl, hb⟩; obtain ⟨s, rfl⟩ := ext_of_below hb; clear hb))
  refine wp_region_more (by kernel_rfl) (by kernel_rfl) ?_
  repeat (first | go_big_quiet_skip | quiet_step (first
    | (go_at_call 12; first | with_reducible exact more_call (free_any _ _ _ _ _ _) | exact more_call2 (free_any _ _ _ _ _ _))
    | (go_at_call 14; first | with_reducible exact more_call (alive_any _) | exact more_call2 (alive_any _))))
  refine wpQuiet_nil ?_
  rintro _ ⟨s, rfl⟩
  go_wp2_with (first
    | (go_at_call 23; with_reducible refine (hold_any _ _ _ _ _ _ _).mono ?_; rintro e w1 ⟨rfl, hb⟩; obtain ⟨s, rfl⟩ := ext_of_below hb; clear hb)
    | (go_at_call 17; with_reducible refine (settle_any _ _ _ _ _ _ _ _).mono ?_; rintro e w1 ⟨rfl, hb⟩; obtain ⟨s, rfl⟩ := ext_of_below hb; clear hb)
    | (go_at_call 21; with_reducible refine (debit_any _ _ _ _ _ _ _).mono ?_; rintro e w1 ⟨rfl, hb⟩; obtain ⟨s, rfl⟩ := ext_of_below hb; clear hb)
    | (go_at_call 15; with_reducible refine (credit_any _ _ _ _ _ _ _).mono ?_; rintro e w1 ⟨rfl, hb⟩; obtain ⟨s, rfl⟩ := ext_of_below hb; clear hb)
    | (go_at_call 14; with_reducible refine (alive_any _).mono ?_; rintro e w1 ⟨rfl, hb⟩; obtain ⟨s, rfl⟩ := ext_of_below hb; clear hb))
  refine wp_region_more (by kernel_rfl) (by kernel_rfl) ?_
  repeat (first | go_big_quiet_skip | quiet_step (first
    | (go_at_call 12; first | with_reducible exact more_call (free_any _ _ _ _ _ _) | exact more_call2 (free_any _ _ _ _ _ _))
    | (go_at_call 14; first | with_reducible exact more_call (alive_any _) | exact more_call2 (alive_any _))))
  refine wpQuiet_nil ?_
  rintro _ ⟨s, rfl⟩
  go_wp2_with (first
    | (go_at_call 23; with_reducible refine (hold_any _ _ _ _ _ _ _).mono ?_; rintro e w1 ⟨rfl, hb⟩; obtain ⟨s, rfl⟩ := ext_of_below hb; clear hb)
    | (go_at_call 17; with_reducible refine (settle_any _ _ _ _ _ _ _ _).mono ?_; rintro e w1 ⟨rfl, hb⟩; obtain ⟨s, rfl⟩ := ext_of_below hb; clear hb)
    | (go_at_call 21; with_reducible refine (debit_any _ _ _ _ _ _ _).mono ?_; rintro e w1 ⟨rfl, hb⟩; obtain ⟨s, rfl⟩ := ext_of_below hb; clear hb)
    | (go_at_call 15; with_reducible refine (credit_any _ _ _ _ _ _ _).mono ?_; rintro e w1 ⟨rfl, hb⟩; obtain ⟨s, rfl⟩ := ext_of_below hb; clear hb)
    | (go_at_call 14; with_reducible refine (alive_any _).mono ?_; rintro e w1 ⟨rfl, hb⟩; obtain ⟨s, rfl⟩ := ext_of_below hb; clear hb))
  go_returns
  refine ⟨rfl, ?_⟩
  repeat' (first | exact Below.refl _ _ | refine below_ext ?_ ?_ _ | refine Below.alloc ?_ ?_ _ | refine Below.setCell ?_ ?_ _ | refine Below.drew ?_ | (rw [size_ext]; refine Nat.le_add_right_of_le ?_) | go_size | (rw [World.size_alloc]; refine Nat.le_add_right_of_le ?_))

theorem walk_holds (a b f h u n k : Int) (w : World) :
    Calls Try.prog 8 #[.agg #[.int .i64 a, .int .i64 b, .int .i64 f, .int .i64 h, .int .i64 u], .int .i64 n, .int .i64 k] w fun e w' => e = .returned (.bool true) ∧ Below w.heap.size w w' := by
  by_cases hho : (W5.hold (W5.mk a b f h u) n).2 = 0 <;> by_cases hcr : (W5.credit (W5.mk a b f h u) n).2 = 0
  · rcases Int.lt_or_le k 0 with h0 | h0
    · exact holds_below_yes a b f h u n k w hho h0 hcr
    · rcases Int.lt_or_le n k with h1 | h1
      · exact holds_above_yes a b f h u n k w hho h1 hcr
      · exact holds_in_yes a b f h u n k w hho h0 h1 hcr
  · rcases Int.lt_or_le k 0 with h0 | h0
    · exact holds_below_no a b f h u n k w hho h0 hcr
    · rcases Int.lt_or_le n k with h1 | h1
      · exact holds_above_no a b f h u n k w hho h1 hcr
      · exact holds_in_no a b f h u n k w hho h0 h1 hcr
  · exact holds_no_yes a b f h u n k w hho hcr
  · exact holds_no_no a b f h u n k w hho hcr
end Go.Proofs.Ytfbodilmjkcihaa

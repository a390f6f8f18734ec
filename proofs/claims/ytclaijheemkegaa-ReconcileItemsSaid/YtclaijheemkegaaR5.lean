/-
  Contains, both.
-/
import Derived.Test.YtclaijheemkegaaR3
namespace Go.Proofs.Ytclaijheemkegaa
open Go.RowKit
set_option linter.unusedSimpArgs false
set_option linter.unusedVariables false

def validB (p q : Int) : Bool := decide (0 ≤ p ∧ p < q ∧ q ≤ 12622780800)
def contB (p q t : Int) : Bool := validB p q && decide (p ≤ t ∧ t < q)

theorem validp_any (p q : Int) (w : World) :
    Calls Try.prog 34 #[.agg #[.int .i64 p, .int .i64 q]] w fun e w' => e = .returned (.bool (validB p q)) ∧ Below w.heap.size w w' := by
  unfold validB
  go_enter Try.func34, Try.ntmps34
  go_wp2
  all_goals
    go_ret
    refine ⟨?_, ?_⟩
    · refine congrArg (fun x => Ending.returned (Value.bool x)) ?_
      rw [Bool.eq_iff_iff]
      simp only [Bool.and_eq_true, decide_eq_true_eq, Bool.false_eq_true, true_iff, false_iff]
      omega
    · repeat' (first | exact Below.refl _ _ | refine below_ext ?_ ?_ _ | refine Below.alloc ?_ ?_ _ | refine Below.setCell ?_ ?_ _ | refine Below.drew ?_ | (rw [size_ext]; refine Nat.le_add_right_of_le ?_) | go_size | (rw [World.size_alloc]; refine Nat.le_add_right_of_le ?_))
theorem validr_any (p q : Int) (w : World) :
    Calls Try.prog 35 #[.agg #[.int .i64 p, .int .i64 q]] w fun e w' => e = .returned (.bool (validB p q)) ∧ Below w.heap.size w w' := by
  unfold validB
  go_enter Try.func35, Try.ntmps35
  go_wp2
  all_goals
    go_ret
    refine ⟨?_, ?_⟩
    · refine congrArg (fun x => Ending.returned (Value.bool x)) ?_
      rw [Bool.eq_iff_iff]
      simp only [Bool.and_eq_true, decide_eq_true_eq, Bool.false_eq_true, true_iff, false_iff]
      omega
    · repeat' (first | exact Below.refl _ _ | refine below_ext ?_ ?_ _ | refine Below.alloc ?_ ?_ _ | refine Below.setCell ?_ ?_ _ | refine Below.drew ?_ | (rw [size_ext]; refine Nat.le_add_right_of_le ?_) | go_size | (rw [World.size_alloc]; refine Nat.le_add_right_of_le ?_))
theorem contp_any (p q t : Int) (w : World) :
    Calls Try.prog 30 #[.agg #[.int .i64 p, .int .i64 q], .int .i64 t] w fun e w' => e = .returned (.bool (contB p q t)) ∧ Below w.heap.size w w' := by
  unfold contB
  cases hv : validB p q
  all_goals
    go_enter Try.func30, Try.ntmps30
    go_wp2_with (first
      | (go_at_call 34; (with_reducible refine (validp_any _ _ _).mono ?_); rw [hv]; rintro e w1 ⟨rfl, hb⟩; obtain ⟨s, rfl⟩ := ext_of_below hb; clear hb))
    all_goals
      go_ret
      refine ⟨?_, ?_⟩
      · refine congrArg (fun x => Ending.returned (Value.bool x)) ?_
        rw [Bool.eq_iff_iff]
        simp only [Bool.and_eq_true, decide_eq_true_eq, Bool.false_eq_true, true_iff, false_iff, false_and, true_and]
        try omega
      · repeat' (first | exact Below.refl _ _ | refine below_ext ?_ ?_ _ | refine Below.alloc ?_ ?_ _ | refine Below.setCell ?_ ?_ _ | refine Below.drew ?_ | (rw [size_ext]; refine Nat.le_add_right_of_le ?_) | go_size | (rw [World.size_alloc]; refine Nat.le_add_right_of_le ?_))
theorem contr_any (p q t : Int) (w : World) :
    Calls Try.prog 31 #[.agg #[.int .i64 p, .int .i64 q], .int .i64 t] w fun e w' => e = .returned (.bool (contB p q t)) ∧ Below w.heap.size w w' := by
  unfold contB
  cases hv : validB p q
  all_goals
    go_enter Try.func31, Try.ntmps31
    go_wp2_with (first
      | (go_at_call 35; (with_reducible refine (validr_any _ _ _).mono ?_); rw [hv]; rintro e w1 ⟨rfl, hb⟩; obtain ⟨s, rfl⟩ := ext_of_below hb; clear hb))
    all_goals
      go_ret
      refine ⟨?_, ?_⟩
      · refine congrArg (fun x => Ending.returned (Value.bool x)) ?_
        rw [Bool.eq_iff_iff]
        simp only [Bool.and_eq_true, decide_eq_true_eq, Bool.false_eq_true, true_iff, false_iff, false_and, true_and]
        try omega
      · repeat' (first | exact Below.refl _ _ | refine below_ext ?_ ?_ _ | refine Below.alloc ?_ ?_ _ | refine Below.setCell ?_ ?_ _ | refine Below.drew ?_ | (rw [size_ext]; refine Nat.le_add_right_of_le ?_) | go_size | (rw [World.size_alloc]; refine Nat.le_add_right_of_le ?_))
end Go.Proofs.Ytclaijheemkegaa

/-
  What is wrong with an agreement alone; what two periods have in common.
-/
import Derived.Test.YtmodghiokoiipaaGreatJe
namespace Go.Proofs.YtmodghiokoiipaaGreat
open Go.RowKit
set_option linter.unusedSimpArgs false
set_option linter.unusedVariables false

def meetB (f1 t1 f2 t2 : Int) : Bool := validB f1 t1 && (validB f2 t2 && decide (max f1 f2 < min t1 t2))
set_option maxRecDepth 100000 in
set_option maxHeartbeats 4000000 in
theorem inter_any (f1 t1 f2 t2 : Int) (w : World) :
    Calls Tryz.prog 28 #[.agg #[.int .i64 f1, .int .i64 t1], .agg #[.int .i64 f2, .int .i64 t2]] w fun e w' => e = .returned (.tuple #[if meetB f1 t1 f2 t2 then .agg #[.int .i64 (max f1 f2), .int .i64 (min t1 t2)] else .agg #[.int .i64 0, .int .i64 0], .bool (meetB f1 t1 f2 t2)]) ∧ Below w.heap.size w w' := by
  have HV := Lib.hid (fun W => validp_any f1 t1 W)
  have HW := Lib.hid (fun W => validp_any f2 t2 W)
  obtain ⟨M, hM, hM2⟩ : ∃ M, max f1 f2 = M ∧ ((f1 ≤ f2 ∧ M = f2) ∨ (f2 < f1 ∧ M = f1)) := ⟨_, rfl, by omega⟩
  obtain ⟨N, hN, hN2⟩ : ∃ N, min t1 t2 = N ∧ ((t1 ≤ t2 ∧ N = t1) ∨ (t2 < t1 ∧ N = t2)) := ⟨_, rfl, by omega⟩
  unfold meetB
  rw [hM, hN]
  cases hv : validB f1 t1
  · rw [hv] at HV
    simp only [Bool.false_and, Bool.false_eq_true, if_false]
    clear hM hN
    rcases hM2 with ⟨m1, rfl⟩ | ⟨m1, rfl⟩ <;> rcases hN2 with ⟨n1, rfl⟩ | ⟨n1, rfl⟩
    all_goals
      go_enter Tryz.func28, Tryz.ntmps28
      go_wp2_with (go_at_call 13; (with_reducible refine (HV.out _).mono ?_); rintro e w1 ⟨rfl, hb⟩; obtain ⟨s, rfl⟩ := ext_of_below hb; clear hb)
      all_goals
        refine bodyPost_ret (by simp [results, Tryz.results28, go_sem]; first | done | rfl) rfl ?_
        refine ⟨by first | rfl | (rw [show f1 = M by omega]), ?_⟩
        repeat' (first | exact Below.refl _ _ | refine below_ext ?_ ?_ _ | refine Below.alloc ?_ ?_ _ | refine Below.setCell ?_ ?_ _ | refine Below.drew ?_ | (rw [size_ext]; refine Nat.le_add_right_of_le ?_) | go_size | (rw [World.size_alloc]; refine Nat.le_add_right_of_le ?_))
  · rw [hv] at HV
    cases hw : validB f2 t2
    · rw [hw] at HW
      simp only [Bool.false_and, Bool.true_and, Bool.false_eq_true, if_false]
      clear hM hN
      rcases hM2 with ⟨m1, rfl⟩ | ⟨m1, rfl⟩ <;> rcases hN2 with ⟨n1, rfl⟩ | ⟨n1, rfl⟩
      all_goals
        go_enter Tryz.func28, Tryz.ntmps28
        go_wp2_with (first
          | (go_at_call 13; (with_reducible refine (HV.out _).mono ?_); rintro e w1 ⟨rfl, hb⟩; obtain ⟨s, rfl⟩ := ext_of_below hb; clear hb)
          | (go_at_call 13; (with_reducible refine (HW.out _).mono ?_); rintro e w1 ⟨rfl, hb⟩; obtain ⟨s, rfl⟩ := ext_of_below hb; clear hb))
        all_goals
          refine bodyPost_ret (by simp [results, Tryz.results28, go_sem]; first | done | rfl) rfl ?_
          refine ⟨by first | rfl | (rw [show f1 = M by omega]), ?_⟩
          repeat' (first | exact Below.refl _ _ | refine below_ext ?_ ?_ _ | refine Below.alloc ?_ ?_ _ | refine Below.setCell ?_ ?_ _ | refine Below.drew ?_ | (rw [size_ext]; refine Nat.le_add_right_of_le ?_) | go_size | (rw [World.size_alloc]; refine Nat.le_add_right_of_le ?_))
    · rw [hw] at HW
      by_cases hx : M < N
      · simp only [Bool.true_and, decide_eq_true hx, if_true]
        clear hM hN
        rcases hM2 with ⟨m1, rfl⟩ | ⟨m1, rfl⟩ <;> rcases hN2 with ⟨n1, rfl⟩ | ⟨n1, rfl⟩
        all_goals
          go_enter Tryz.func28, Tryz.ntmps28
          go_wp2_with (first
            | (go_at_call 13; (with_reducible refine (HV.out _).mono ?_); rintro e w1 ⟨rfl, hb⟩; obtain ⟨s, rfl⟩ := ext_of_below hb; clear hb)
            | (go_at_call 13; (with_reducible refine (HW.out _).mono ?_); rintro e w1 ⟨rfl, hb⟩; obtain ⟨s, rfl⟩ := ext_of_below hb; clear hb))
          all_goals
            refine bodyPost_ret (by simp [results, Tryz.results28, go_sem]; first | done | rfl) rfl ?_
            refine ⟨by first | rfl | (rw [show f1 = M by omega]), ?_⟩
            repeat' (first | exact Below.refl _ _ | refine below_ext ?_ ?_ _ | refine Below.alloc ?_ ?_ _ | refine Below.setCell ?_ ?_ _ | refine Below.drew ?_ | (rw [size_ext]; refine Nat.le_add_right_of_le ?_) | go_size | (rw [World.size_alloc]; refine Nat.le_add_right_of_le ?_))
      · simp only [Bool.true_and, decide_eq_false hx, Bool.false_eq_true, if_false]
        clear hM hN
        rcases hM2 with ⟨m1, rfl⟩ | ⟨m1, rfl⟩ <;> rcases hN2 with ⟨n1, rfl⟩ | ⟨n1, rfl⟩
        all_goals
          go_enter Tryz.func28, Tryz.ntmps28
          go_wp2_with (first
            | (go_at_call 13; (with_reducible refine (HV.out _).mono ?_); rintro e w1 ⟨rfl, hb⟩; obtain ⟨s, rfl⟩ := ext_of_below hb; clear hb)
            | (go_at_call 13; (with_reducible refine (HW.out _).mono ?_); rintro e w1 ⟨rfl, hb⟩; obtain ⟨s, rfl⟩ := ext_of_below hb; clear hb))
          all_goals
            refine bodyPost_ret (by simp [results, Tryz.results28, go_sem]; first | done | rfl) rfl ?_
            refine ⟨by first | rfl | (rw [show f1 = M by omega]), ?_⟩
            repeat' (first | exact Below.refl _ _ | refine below_ext ?_ ?_ _ | refine Below.alloc ?_ ?_ _ | refine Below.setCell ?_ ?_ _ | refine Below.drew ?_ | (rw [size_ext]; refine Nat.le_add_right_of_le ?_) | go_size | (rw [World.size_alloc]; refine Nat.le_add_right_of_le ?_))
def fltF (p k f t : Int) (st : List St) (cap : Int) : Int := if p < 1 ∨ 999 < p then 6 else if k < 1 ∨ 5 ≤ k then 7 else if validB f t = false then 15 else if stF st ≠ 0 then stF st else if cap < 0 ∨ 1125899906842624 < cap then 6 else 0
set_option maxRecDepth 100000 in
set_option maxHeartbeats 4000000 in
theorem fault_any (p k : Int) (ib : Bool) (f t : Int) (A : Option Addr) (c : Nat) (st : List St) (cap : Int) (w : World) (h : Sts w A st) (hm : st.length ≤ maxLen) :
    Calls Tryz.prog 27 #[.agg #[.int .i64 p, .int .i64 k, .bool ib, .int .i64 f, .int .i64 t, .slice A st.length c, .int .i64 cap]] w fun e w' => e = .returned (.int .i64 (fltF p k f t st cap)) ∧ Below w.heap.size w w' := by
  have HS := Lib.hid (fun W (hb : Below w.heap.size w W) => steps_any st A c W (h.below hb) hm)
  have HV := Lib.hid (fun W => validp_any f t W)
  clear h
  unfold fltF
  by_cases h1 : p < 1 ∨ 999 < p
  · rw [if_pos h1]
    rcases h1 with h1 | h1
    all_goals
      go_enter Tryz.func27, Tryz.ntmps27
      go_wp2_with fail
      go_ret
      refine ⟨rfl, ?_⟩
      repeat' (first | exact Below.refl _ _ | refine below_ext ?_ ?_ _ | refine Below.alloc ?_ ?_ _ | refine Below.setCell ?_ ?_ _ | refine Below.drew ?_ | (rw [size_ext]; refine Nat.le_add_right_of_le ?_) | go_size | (rw [World.size_alloc]; refine Nat.le_add_right_of_le ?_))
  rw [if_neg h1]
  have p1 : 1 ≤ p := by omega
  have p2 : p ≤ 999 := by omega
  clear h1
  by_cases h2 : k < 1 ∨ 5 ≤ k
  · rw [if_pos h2]
    rcases h2 with h2 | h2
    all_goals
      go_enter Tryz.func27, Tryz.ntmps27
      go_wp2_with fail
      go_ret
      refine ⟨rfl, ?_⟩
      repeat' (first | exact Below.refl _ _ | refine below_ext ?_ ?_ _ | refine Below.alloc ?_ ?_ _ | refine Below.setCell ?_ ?_ _ | refine Below.drew ?_ | (rw [size_ext]; refine Nat.le_add_right_of_le ?_) | go_size | (rw [World.size_alloc]; refine Nat.le_add_right_of_le ?_))
  rw [if_neg h2]
  have k1 : 1 ≤ k := by omega
  have k2 : k < 5 := by omega
  clear h2
  generalize validB f t = vb at HV ⊢
  cases vb
  · rw [if_pos rfl]
    go_enter Tryz.func27, Tryz.ntmps27
    go_wp2_with (go_at_call 13; (with_reducible refine (HV.out _).mono ?_); rintro e w1 ⟨rfl, hb⟩; obtain ⟨s, rfl⟩ := ext_of_below hb; clear hb)
    go_ret
    refine ⟨rfl, ?_⟩
    repeat' (first | exact Below.refl _ _ | refine below_ext ?_ ?_ _ | refine Below.alloc ?_ ?_ _ | refine Below.setCell ?_ ?_ _ | refine Below.drew ?_ | (rw [size_ext]; refine Nat.le_add_right_of_le ?_) | go_size | (rw [World.size_alloc]; refine Nat.le_add_right_of_le ?_))
  rw [if_neg (by decide)]
  generalize stF st = sf at HS ⊢
  by_cases h3 : sf = 0
  · subst h3
    rw [if_neg (by decide)]
    by_cases h4 : cap < 0 ∨ 1125899906842624 < cap
    · rw [if_pos h4]
      rcases h4 with h4 | h4
      all_goals
        go_enter Tryz.func27, Tryz.ntmps27
        go_wp2_with (first
          | (go_at_call 13; (with_reducible refine (HV.out _).mono ?_); rintro e w1 ⟨rfl, hb⟩; obtain ⟨s, rfl⟩ := ext_of_below hb; clear hb)
          | (go_at_call 44; (with_reducible refine (HS.out _ ?_).mono ?_); (· repeat' (first | exact Below.refl _ _ | refine below_ext ?_ ?_ _ | refine Below.alloc ?_ ?_ _ | refine Below.setCell ?_ ?_ _ | refine Below.drew ?_ | (rw [size_ext]; refine Nat.le_add_right_of_le ?_) | go_size | (rw [World.size_alloc]; refine Nat.le_add_right_of_le ?_))); rintro e w1 ⟨rfl, hb⟩; obtain ⟨s, rfl⟩ := ext_of_below hb; clear hb))
        go_ret
        refine ⟨rfl, ?_⟩
        repeat' (first | exact Below.refl _ _ | refine below_ext ?_ ?_ _ | refine Below.alloc ?_ ?_ _ | refine Below.setCell ?_ ?_ _ | refine Below.drew ?_ | (rw [size_ext]; refine Nat.le_add_right_of_le ?_) | go_size | (rw [World.size_alloc]; refine Nat.le_add_right_of_le ?_))
    · rw [if_neg h4]
      have c1 : 0 ≤ cap := by omega
      have c2 : cap ≤ 1125899906842624 := by omega
      clear h4
      go_enter Tryz.func27, Tryz.ntmps27
      go_wp2_with (first
        | (go_at_call 13; (with_reducible refine (HV.out _).mono ?_); rintro e w1 ⟨rfl, hb⟩; obtain ⟨s, rfl⟩ := ext_of_below hb; clear hb)
        | (go_at_call 44; (with_reducible refine (HS.out _ ?_).mono ?_); (· repeat' (first | exact Below.refl _ _ | refine below_ext ?_ ?_ _ | refine Below.alloc ?_ ?_ _ | refine Below.setCell ?_ ?_ _ | refine Below.drew ?_ | (rw [size_ext]; refine Nat.le_add_right_of_le ?_) | go_size | (rw [World.size_alloc]; refine Nat.le_add_right_of_le ?_))); rintro e w1 ⟨rfl, hb⟩; obtain ⟨s, rfl⟩ := ext_of_below hb; clear hb))
      go_ret
      refine ⟨rfl, ?_⟩
      repeat' (first | exact Below.refl _ _ | refine below_ext ?_ ?_ _ | refine Below.alloc ?_ ?_ _ | refine Below.setCell ?_ ?_ _ | refine Below.drew ?_ | (rw [size_ext]; refine Nat.le_add_right_of_le ?_) | go_size | (rw [World.size_alloc]; refine Nat.le_add_right_of_le ?_))
  · rw [if_pos h3]
    have h3' : (sf == 0) = false := by simpa using h3
    clear h3
    go_enter Tryz.func27, Tryz.ntmps27
    go_wp2_with (first
      | (go_at_call 13; (with_reducible refine (HV.out _).mono ?_); rintro e w1 ⟨rfl, hb⟩; obtain ⟨s, rfl⟩ := ext_of_below hb; clear hb)
      | (go_at_call 44; (with_reducible refine (HS.out _ ?_).mono ?_); (· repeat' (first | exact Below.refl _ _ | refine below_ext ?_ ?_ _ | refine Below.alloc ?_ ?_ _ | refine Below.setCell ?_ ?_ _ | refine Below.drew ?_ | (rw [size_ext]; refine Nat.le_add_right_of_le ?_) | go_size | (rw [World.size_alloc]; refine Nat.le_add_right_of_le ?_))); rintro e w1 ⟨rfl, hb⟩; obtain ⟨s, rfl⟩ := ext_of_below hb; clear hb))
    go_ret
    refine ⟨rfl, ?_⟩
    repeat' (first | exact Below.refl _ _ | refine below_ext ?_ ?_ _ | refine Below.alloc ?_ ?_ _ | refine Below.setCell ?_ ?_ _ | refine Below.drew ?_ | (rw [size_ext]; refine Nat.le_add_right_of_le ?_) | go_size | (rw [World.size_alloc]; refine Nat.le_add_right_of_le ?_))
end Go.Proofs.YtmodghiokoiipaaGreat

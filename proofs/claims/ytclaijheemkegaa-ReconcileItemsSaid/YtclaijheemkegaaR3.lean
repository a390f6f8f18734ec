/-
  Agree, and the comparisons of equal lists.
-/
import Derived.Test.YtclaijheemkegaaR2
namespace Go.Proofs.Ytclaijheemkegaa
open Go.RowKit
set_option linter.unusedSimpArgs false
set_option linter.unusedVariables false

theorem drewN_more (w : World) (n : Nat) : w.drewN n = ext w ⟨[], w.drawn + n⟩ := by simp [World.drewN, ext]
/-- Two items have the same ends. -/
def endsB (x y : It) : Bool := decide (x.a.toList = y.a.toList ∧ x.b.toList = y.b.toList ∧ x.kind = y.kind)
def agreeB (x y : It) (slack : Int) : Bool := endsB x y && nearB x.start y.start slack

set_option maxRecDepth 100000 in
set_option maxHeartbeats 2000000 in
theorem agree_any (xa xb : ByteArray) (xk xs xu : Int) (ya yb : ByteArray) (yk ys yu slack : Int) (w : World) (hx : fits xs) (hy : fits ys) (hs : fits slack) :
    Calls Try.prog 33 #[.agg #[.string xa, .string xb, .int .i64 xk, .int .i64 xs, .int .i64 xu], .agg #[.string ya, .string yb, .int .i64 yk, .int .i64 ys, .int .i64 yu], .int .i64 slack] w fun e w' => e = .returned (.bool (agreeB ⟨xa, xb, xk, xs, xu⟩ ⟨ya, yb, yk, ys, yu⟩ slack)) ∧ Below w.heap.size w w' := by
  unfold agreeB endsB nearB
  unfold fits at *
  obtain ⟨a1, a2⟩ := hx
  obtain ⟨b1, b2⟩ := hy
  obtain ⟨s1, s2⟩ := hs
  dsimp only
  by_cases h : xa.toList = ya.toList ∧ xb.toList = yb.toList ∧ xk = yk ∧ 0 ≤ slack
  · obtain ⟨h1, h2, h3, h4⟩ := h
    subst h3
    have h4' : ¬ slack < 0 := by omega
    rw [decide_eq_true (p := xa.toList = ya.toList ∧ xb.toList = yb.toList ∧ xk = xk) ⟨h1, h2, rfl⟩, Bool.true_and]
    go_enter Try.func33, Try.ntmps33
    go_wp2
    go_quiet (fail)
    rw [drewN_more]
    go_wp2
    all_goals
      go_ret
      refine ⟨?_, ?_⟩
      · refine congrArg (fun x => Ending.returned (Value.bool x)) ?_
        rw [Bool.eq_iff_iff]
        simp only [Bool.and_eq_true, decide_eq_true_eq, Bool.false_eq_true, true_iff, false_iff]
        go_arith
      · repeat' (first | with_reducible exact HBW.out | with_reducible exact Below.refl _ _ | with_reducible refine below_ext ?_ ?_ _ | with_reducible refine Below.alloc ?_ ?_ _ | with_reducible refine Below.setCell ?_ ?_ _ | with_reducible refine Below.drew ?_ | (simp; omega) | (simp; done) | (simp [go_sem]; omega) | (simp [go_sem]; done) | omega)
  · have E : (decide (xa.toList = ya.toList ∧ xb.toList = yb.toList ∧ xk = yk) && decide (0 ≤ slack ∧ xs - ys ≤ slack ∧ ys - xs ≤ slack)) = false := by
      rw [Bool.eq_false_iff]
      intro hh
      rw [Bool.and_eq_true, decide_eq_true_eq, decide_eq_true_eq] at hh
      exact h ⟨hh.1.1, hh.1.2.1, hh.1.2.2, hh.2.1⟩
    rw [E]
    clear E
    go_enter Try.func33, Try.ntmps33
    go_wp2
    all_goals first
      | (go_ret; refine ⟨rfl, ?_⟩; repeat' (first | exact Below.refl _ _ | refine below_ext ?_ ?_ _ | refine Below.alloc ?_ ?_ _ | refine Below.setCell ?_ ?_ _ | refine Below.drew ?_ | (rw [size_ext]; refine Nat.le_add_right_of_le ?_) | go_size | (rw [World.size_alloc]; refine Nat.le_add_right_of_le ?_)))
      | (exfalso; exact h ⟨by assumption, by assumption, by assumption, by omega⟩)
end Go.Proofs.Ytclaijheemkegaa

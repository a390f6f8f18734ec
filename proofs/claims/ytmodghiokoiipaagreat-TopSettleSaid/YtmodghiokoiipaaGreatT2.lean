/-
  Comparing, usable usages, what an agreement is about.
-/
import Derived.Test.YtmodghiokoiipaaGreatT1
namespace Go.Proofs.YtmodghiokoiipaaGreat
open Go.RowKit
set_option linter.unusedSimpArgs false
set_option linter.unusedVariables false

def cmpI (a b : Int) : Int := if a < b then -1 else if b < a then 1 else 0
theorem compare_any (a b : Int) (w : World) :
    Calls Tryz.prog 32 #[.int .i64 a, .int .i64 b] w fun e w' => e = .returned (.int .i64 (cmpI a b)) ∧ Below w.heap.size w w' := by
  unfold cmpI
  by_cases h1 : a < b
  · rw [if_pos h1]
    go_enter Tryz.func32, Tryz.ntmps32
    go_wp2_with (go_at_call 47; (with_reducible refine (nan_any _ _).mono ?_); rintro e w1 ⟨rfl, hb⟩; obtain ⟨s, rfl⟩ := ext_of_below hb; clear hb)
    go_ret
    refine ⟨rfl, ?_⟩
    repeat' (first | exact Below.refl _ _ | refine below_ext ?_ ?_ _ | refine Below.alloc ?_ ?_ _ | refine Below.setCell ?_ ?_ _ | refine Below.drew ?_ | (rw [size_ext]; refine Nat.le_add_right_of_le ?_) | go_size | (rw [World.size_alloc]; refine Nat.le_add_right_of_le ?_))
  · by_cases h2 : b < a
    · rw [if_neg h1, if_pos h2]
      go_enter Tryz.func32, Tryz.ntmps32
      go_wp2_with (go_at_call 47; (with_reducible refine (nan_any _ _).mono ?_); rintro e w1 ⟨rfl, hb⟩; obtain ⟨s, rfl⟩ := ext_of_below hb; clear hb)
      go_ret
      refine ⟨rfl, ?_⟩
      repeat' (first | exact Below.refl _ _ | refine below_ext ?_ ?_ _ | refine Below.alloc ?_ ?_ _ | refine Below.setCell ?_ ?_ _ | refine Below.drew ?_ | (rw [size_ext]; refine Nat.le_add_right_of_le ?_) | go_size | (rw [World.size_alloc]; refine Nat.le_add_right_of_le ?_))
    · rw [if_neg h1, if_neg h2]
      go_enter Tryz.func32, Tryz.ntmps32
      go_wp2_with (go_at_call 47; (with_reducible refine (nan_any _ _).mono ?_); rintro e w1 ⟨rfl, hb⟩; obtain ⟨s, rfl⟩ := ext_of_below hb; clear hb)
      go_ret
      refine ⟨rfl, ?_⟩
      repeat' (first | exact Below.refl _ _ | refine below_ext ?_ ?_ _ | refine Below.alloc ?_ ?_ _ | refine Below.setCell ?_ ?_ _ | refine Below.drew ?_ | (rw [size_ext]; refine Nat.le_add_right_of_le ?_) | go_size | (rw [World.size_alloc]; refine Nat.le_add_right_of_le ?_))
/-- An agreement, its cells as a value. -/
def Ag.val (x : Ag) : Value := .agg #[.int .i64 x.p, .int .i64 x.k, .bool x.ib, .int .i64 x.f, .int .i64 x.t, .slice x.A x.st.length x.c, .int .i64 x.cap]
theorem of_any (x : Ag) (w : World) :
    Calls Tryz.prog 29 #[.agg #[.int .i64 x.p, .int .i64 x.k, .bool x.ib, .int .i64 x.f, .int .i64 x.t, .slice x.A x.st.length x.c, .int .i64 x.cap]] w fun e w' => e = .returned (.agg #[.int .i64 x.p, .int .i64 x.k, .bool x.ib]) ∧ Below w.heap.size w w' := by
  go_enter Tryz.func29, Tryz.ntmps29
  go_wp2
  refine bodyPost_ret (by simp [results, Tryz.results29, go_sem]; first | done | rfl) rfl ?_
  refine ⟨rfl, ?_⟩
  repeat' (first | exact Below.refl _ _ | refine below_ext ?_ ?_ _ | refine Below.alloc ?_ ?_ _ | refine Below.setCell ?_ ?_ _ | refine Below.drew ?_ | (rw [size_ext]; refine Nat.le_add_right_of_le ?_) | go_size | (rw [World.size_alloc]; refine Nat.le_add_right_of_le ?_))
def alike (x y : Ag) : Bool := decide (x.p = y.p ∧ x.k = y.k ∧ x.ib = y.ib)
set_option maxHeartbeats 2000000 in
theorem alike_any (x y : Ag) (w : World) :
    Calls Tryz.prog 23 #[.agg #[.int .i64 x.p, .int .i64 x.k, .bool x.ib, .int .i64 x.f, .int .i64 x.t, .slice x.A x.st.length x.c, .int .i64 x.cap], .agg #[.int .i64 y.p, .int .i64 y.k, .bool y.ib, .int .i64 y.f, .int .i64 y.t, .slice y.A y.st.length y.c, .int .i64 y.cap]] w fun e w' => RB e (fun _ => True) ∧ Below w.heap.size w w' := by
  by_cases h1 : x.p = y.p
  · by_cases h2 : x.k = y.k
    all_goals
      go_enter Tryz.func23, Tryz.ntmps23
      go_wp2
      go_ret
      refine ⟨rb_mk trivial, ?_⟩
      repeat' (first | exact Below.refl _ _ | refine below_ext ?_ ?_ _ | refine Below.alloc ?_ ?_ _ | refine Below.setCell ?_ ?_ _ | refine Below.drew ?_ | (rw [size_ext]; refine Nat.le_add_right_of_le ?_) | go_size | (rw [World.size_alloc]; refine Nat.le_add_right_of_le ?_))
  · go_enter Tryz.func23, Tryz.ntmps23
    go_wp2
    go_ret
    refine ⟨rb_mk trivial, ?_⟩
    repeat' (first | exact Below.refl _ _ | refine below_ext ?_ ?_ _ | refine Below.alloc ?_ ?_ _ | refine Below.setCell ?_ ?_ _ | refine Below.drew ?_ | (rw [size_ext]; refine Nat.le_add_right_of_le ?_) | go_size | (rw [World.size_alloc]; refine Nat.le_add_right_of_le ?_))
def okUnits (n : Int) (b : Bool) : Prop := b = true → 0 ≤ n ∧ n ≤ 1099511627776
set_option maxHeartbeats 4000000 in
set_option maxRecDepth 100000 in
/-- A usage that is usable has units. -/
theorem usable_any (x : Ug) (w : World) :
    Calls Tryz.prog 6 #[.agg #[.int .i64 x.id, .int .i64 x.k, .int .i64 x.ac, .int .i64 x.su, .string x.a, .string x.b, .int .i64 x.s, .int .i64 x.n, .int .i64 x.tr, .bool x.ib, .int .i64 x.so, .int .i64 x.se]] w fun e w' => RB e (okUnits x.n) ∧ Below w.heap.size w w' := by
  go_enter Tryz.func6, Tryz.ntmps6
  go_wp2
  all_goals
    go_ret
    refine ⟨rb_mk ?_, ?_⟩
    · intro h
      first
        | (cases h; done)
        | omega
        | (simp at *; omega)
    · repeat' (first | exact Below.refl _ _ | refine below_ext ?_ ?_ _ | refine Below.alloc ?_ ?_ _ | refine Below.setCell ?_ ?_ _ | refine Below.drew ?_ | (rw [size_ext]; refine Nat.le_add_right_of_le ?_) | go_size | (rw [World.size_alloc]; refine Nat.le_add_right_of_le ?_))
end Go.Proofs.YtmodghiokoiipaaGreat

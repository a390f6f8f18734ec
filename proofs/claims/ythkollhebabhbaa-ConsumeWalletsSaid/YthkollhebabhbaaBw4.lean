/-
  The walks of the reference's Usable, and of the two comparisons of buckets.
-/
import Derived.Test.YthkollhebabhbaaBw3
namespace Go.Proofs.Ythkollhebabhbaa
open Go.RowKit
set_option linter.unusedSimpArgs false

set_option maxHeartbeats 2000000 in
theorem rusable_any (x : Bk) (A : Option Addr) (c : Nat) (account sub kind : Int) (zone : ByteArray) (family : Bool) (t : Int) (w : World) (hn : x.zones.length ≤ 100) (hz : StrsAt w A x.zones) :
    Calls Try.prog 69 #[.agg #[.int .i64 x.acc, .int .i64 x.sub, .string x.prod, .int .i64 x.idx, .int .i64 x.kind, .slice A x.zones.length c, .int .i64 x.frm, .int .i64 x.til, .int .i64 x.units, .int .i64 x.left, .int .i64 x.prio, .bool x.shared], .int .i64 account, .int .i64 sub, .int .i64 kind, .string zone, .bool family, .int .i64 t] w fun e w' => e = .returned (.bool (x.usable account sub kind zone family t)) ∧ Below w.heap.size w w' := by
  obtain ⟨ac, sb, pr, ix, kd, zs, fr, tl, un, lf, po, sh⟩ := x
  dsimp only at *
  have Hz := Lib.hid hz
  clear hz
  go_enter Try.func69, Try.ntmps69
  go_wp2_with (first
    | (go_at_call 82; with_reducible refine (rpcon_any _ _ _ _).mono ?_; rintro e w1 ⟨rfl, hb⟩; obtain ⟨s, rfl⟩ := ext_of_below hb; clear hb)
    | (go_at_call 83; with_reducible refine (has_any _ _ _ _ _ (by assumption) ((Hz.out.alloc _).ext _)).mono ?_; rintro e w' ⟨rfl, rfl⟩))
  all_goals
    go_ret
    refine ⟨ret_bool ?_, ?_⟩
    · simp [Bk.usable, *]
      try omega
      try (cases zs <;> simp_all)
      try (intro hz0; exfalso; omega)
    · repeat' (first | exact Below.refl _ _ | refine below_ext ?_ ?_ _ | refine Below.alloc ?_ ?_ _ | refine Below.setCell ?_ ?_ _ | refine Below.drew ?_ | (rw [size_ext]; refine Nat.le_add_right_of_le ?_) | go_size | (rw [World.size_alloc]; refine Nat.le_add_right_of_le ?_))

set_option maxHeartbeats 2000000 in
theorem rbefore_any (x y : Bk) (A B : Option Addr) (c d : Nat) (w : World) :
    Calls Try.prog 81 #[.agg #[.int .i64 x.acc, .int .i64 x.sub, .string x.prod, .int .i64 x.idx, .int .i64 x.kind, .slice A x.zones.length c, .int .i64 x.frm, .int .i64 x.til, .int .i64 x.units, .int .i64 x.left, .int .i64 x.prio, .bool x.shared], .agg #[.int .i64 y.acc, .int .i64 y.sub, .string y.prod, .int .i64 y.idx, .int .i64 y.kind, .slice B y.zones.length d, .int .i64 y.frm, .int .i64 y.til, .int .i64 y.units, .int .i64 y.left, .int .i64 y.prio, .bool y.shared]] w fun e w' => e = .returned (.bool (x.before y)) ∧ Below w.heap.size w w' := by
  obtain ⟨ac, sb, pr, ix, kd, zs, fr, tl, un, lf, po, sh⟩ := x
  obtain ⟨ac', sb', pr', ix', kd', zs', fr', tl', un', lf', po', sh'⟩ := y
  dsimp only
  go_enter Try.func81, Try.ntmps81
  go_wp2_with (fail)
  all_goals
    go_ret
    refine ⟨ret_bool ?_, ?_⟩
    · simp only [bne_iff_ne, ne_eq, bne_eq_false_iff_eq, Bool.not_eq_true', Bool.not_eq_false', beq_iff_eq, beq_eq_false_iff_ne] at *
      simp [Bk.before, *]
    · repeat' (first | exact Below.refl _ _ | refine below_ext ?_ ?_ _ | refine Below.alloc ?_ ?_ _ | refine Below.setCell ?_ ?_ _ | refine Below.drew ?_ | (rw [size_ext]; refine Nat.le_add_right_of_le ?_) | go_size | (rw [World.size_alloc]; refine Nat.le_add_right_of_le ?_))

theorem cmp_ne {a b : Int} : (cmp a b != 0) = decide (a ≠ b) := by
  unfold cmp
  split
  · simp; omega
  · split <;> simp <;> omega
theorem cmp_lt {a b : Int} : decide (cmp a b < 0) = decide (a < b) := by
  unfold cmp
  split
  · simp [*]
  · split <;> simp [*]
set_option maxHeartbeats 2000000 in
theorem earlier_any (x y : Bk) (A B : Option Addr) (c d : Nat) (w : World) :
    Calls Try.prog 79 #[.agg #[.int .i64 x.acc, .int .i64 x.sub, .string x.prod, .int .i64 x.idx, .int .i64 x.kind, .slice A x.zones.length c, .int .i64 x.frm, .int .i64 x.til, .int .i64 x.units, .int .i64 x.left, .int .i64 x.prio, .bool x.shared], .agg #[.int .i64 y.acc, .int .i64 y.sub, .string y.prod, .int .i64 y.idx, .int .i64 y.kind, .slice B y.zones.length d, .int .i64 y.frm, .int .i64 y.til, .int .i64 y.units, .int .i64 y.left, .int .i64 y.prio, .bool y.shared]] w fun e w' => e = .returned (.bool (x.before y)) ∧ Below w.heap.size w w' := by
  obtain ⟨ac, sb, pr, ix, kd, zs, fr, tl, un, lf, po, sh⟩ := x
  obtain ⟨ac', sb', pr', ix', kd', zs', fr', tl', un', lf', po', sh'⟩ := y
  dsimp only
  go_enter Try.func79, Try.ntmps79
  go_wp2_with (go_at_call 94; with_reducible refine (compare_any _ _ _).mono ?_; rintro e w' ⟨rfl, rfl⟩)
  all_goals
    go_ret
    refine ⟨ret_bool ?_, ?_⟩
    · simp only [cmp_ne, cmp_lt, decide_eq_true_eq, decide_eq_false_iff_not, ne_eq, Decidable.not_not, bne_iff_ne, bne_eq_false_iff_eq, Bool.not_eq_true', Bool.not_eq_false', beq_iff_eq, beq_eq_false_iff_ne] at *
      simp [Bk.before, *]
    · repeat' (first | exact Below.refl _ _ | refine below_ext ?_ ?_ _ | refine Below.alloc ?_ ?_ _ | refine Below.setCell ?_ ?_ _ | refine Below.drew ?_ | (rw [size_ext]; refine Nat.le_add_right_of_le ?_) | go_size | (rw [World.size_alloc]; refine Nat.le_add_right_of_le ?_))
end Go.Proofs.Ythkollhebabhbaa

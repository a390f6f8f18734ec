/-
  The walk of BucketChecks.
-/
import Derived.Test.YthhpdpcingapgaaBw12
import Derived.Test.YthhpdpcingapgaaOpenB
namespace Go.Proofs.Ythhpdpcingapgaa
open Go.RowKit
set_option linter.unusedSimpArgs false

set_option maxHeartbeats 2000000 in
theorem walk_bucketChecks (x : Bk) (A : Option Addr) (c : Nat) (w : World) (hz : StrsAt w A x.zones) (hF : x.Fits) :
    Calls Try.prog 3 #[.agg #[.int .i64 x.acc, .int .i64 x.sub, .string x.prod, .int .i64 x.idx, .int .i64 x.kind, .slice A x.zones.length c, .int .i64 x.frm, .int .i64 x.til, .int .i64 x.units, .int .i64 x.left, .int .i64 x.prio, .bool x.shared]] w fun e w' => e = .returned (.bool true) ∧ Below w.heap.size w w' := by
  have Hz := Lib.hid hz
  clear hz
  have hm := hF.zones
  clear hF
  unfold maxLen at hm
  by_cases h70 : x.zones.length ≤ 70
  · have hg : decide ((70 : Int) < (x.zones.length : Int)) = false := by simp; omega
    go_enter Try.func3, Try.ntmps3
    go_wp2_with fail
    refine wp_region_more (by kernel_rfl) (by kernel_rfl) ?_
    repeat (first | go_big_quiet_skip | quiet_step (first
      | (go_at_call 11; first | with_reducible exact more_call (bcheck_any x A c _ (by omega) ((Hz.out.alloc _).ext _)) | exact more_call2 (bcheck_any x A c _ (by omega) ((Hz.out.alloc _).ext _)))
      | (go_at_call 12; first | with_reducible exact more_call (rbcheck_any x A c _ (by omega) ((Hz.out.alloc _).ext _)) | exact more_call2 (rbcheck_any x A c _ (by omega) ((Hz.out.alloc _).ext _)))
      | (go_at_call 13; first | with_reducible exact more_call (alive_any _) | exact more_call2 (alive_any _))))
    refine wpQuiet_nil ?_
    rintro _ ⟨s, rfl⟩
    go_wp2
    go_ret
    refine ⟨rfl, ?_⟩
    repeat' (first | exact Below.refl _ _ | refine below_ext ?_ ?_ _ | refine Below.alloc ?_ ?_ _ | refine Below.setCell ?_ ?_ _ | refine Below.drew ?_ | (rw [size_ext]; refine Nat.le_add_right_of_le ?_) | go_size | (rw [World.size_alloc]; refine Nat.le_add_right_of_le ?_))
  · have hg : decide ((70 : Int) < (x.zones.length : Int)) = true := by simp; omega
    go_enter Try.func3, Try.ntmps3
    go_wp2_with fail
    refine wp_region_more (by kernel_rfl) (by kernel_rfl) ?_
    repeat (first | go_big_quiet_skip | quiet_step (first
      | (go_at_call 13; first | with_reducible exact more_call (alive_any _) | exact more_call2 (alive_any _))))
    refine wpQuiet_nil ?_
    rintro _ ⟨s, rfl⟩
    go_wp2
    go_ret
    refine ⟨rfl, ?_⟩
    repeat' (first | exact Below.refl _ _ | refine below_ext ?_ ?_ _ | refine Below.alloc ?_ ?_ _ | refine Below.setCell ?_ ?_ _ | refine Below.drew ?_ | (rw [size_ext]; refine Nat.le_add_right_of_le ?_) | go_size | (rw [World.size_alloc]; refine Nat.le_add_right_of_le ?_))

set_option maxHeartbeats 2000000 in
theorem walk_bucketUsable (x : Bk) (A : Option Addr) (c : Nat) (account sub kind : Int) (zone : ByteArray) (family : Bool) (t n : Int) (w : World) (hz : StrsAt w A x.zones) (hF : x.Fits) :
    Calls Try.prog 4 #[.agg #[.int .i64 x.acc, .int .i64 x.sub, .string x.prod, .int .i64 x.idx, .int .i64 x.kind, .slice A x.zones.length c, .int .i64 x.frm, .int .i64 x.til, .int .i64 x.units, .int .i64 x.left, .int .i64 x.prio, .bool x.shared], .agg #[.int .i64 account, .int .i64 sub, .int .i64 kind, .string zone, .bool family, .int .i64 t, .int .i64 n]] w fun e w' => e = .returned (.bool true) ∧ Below w.heap.size w w' := by
  have Hz := Lib.hid hz
  clear hz
  have hm := hF.zones
  clear hF
  unfold maxLen at hm
  by_cases h6 : x.zones.length ≤ 6
  · have hg : decide ((6 : Int) < (x.zones.length : Int)) = false := by simp; omega
    go_enter Try.func4, Try.ntmps4
    go_wp2_with fail
    refine wp_region_more (by kernel_rfl) (by kernel_rfl) ?_
    repeat (first | go_big_quiet_skip | quiet_step (first
      | (go_at_call 14; first | with_reducible exact more_call (usable_any x A c _ _ _ _ _ _ _ (by omega) (((Hz.out.alloc _).alloc _).ext _)) | exact more_call2 (usable_any x A c _ _ _ _ _ _ _ (by omega) (((Hz.out.alloc _).alloc _).ext _)))
      | (go_at_call 15; first | with_reducible exact more_call (rusable_any x A c _ _ _ _ _ _ _ (by omega) (((Hz.out.alloc _).alloc _).ext _)) | exact more_call2 (rusable_any x A c _ _ _ _ _ _ _ (by omega) (((Hz.out.alloc _).alloc _).ext _)))
      | (go_at_call 13; first | with_reducible exact more_call (alive_any _) | exact more_call2 (alive_any _))))
    refine wpQuiet_nil ?_
    rintro _ ⟨s, rfl⟩
    go_wp2
    go_ret
    refine ⟨rfl, ?_⟩
    repeat' (first | exact Below.refl _ _ | refine below_ext ?_ ?_ _ | refine Below.alloc ?_ ?_ _ | refine Below.setCell ?_ ?_ _ | refine Below.drew ?_ | (rw [size_ext]; refine Nat.le_add_right_of_le ?_) | go_size | (rw [World.size_alloc]; refine Nat.le_add_right_of_le ?_))
  · have hg : decide ((6 : Int) < (x.zones.length : Int)) = true := by simp; omega
    go_enter Try.func4, Try.ntmps4
    go_wp2_with (go_at_call 13; with_reducible refine (alive_any _).mono ?_; rintro e w1 ⟨rfl, hb⟩; obtain ⟨s, rfl⟩ := ext_of_below hb; clear hb)
    go_ret
    refine ⟨rfl, ?_⟩
    repeat' (first | exact Below.refl _ _ | refine below_ext ?_ ?_ _ | refine Below.alloc ?_ ?_ _ | refine Below.setCell ?_ ?_ _ | refine Below.drew ?_ | (rw [size_ext]; refine Nat.le_add_right_of_le ?_) | go_size | (rw [World.size_alloc]; refine Nat.le_add_right_of_le ?_))
end Go.Proofs.Ythhpdpcingapgaa

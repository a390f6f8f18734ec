/-
  The walks of Check, the program's and the reference's.
-/
import Derived.Test.YthhpdpcingapgaaBw4
namespace Go.Proofs.Ythhpdpcingapgaa
open Go.RowKit
set_option linter.unusedSimpArgs false

/-- What Check does from the zones on. -/
noncomputable def Bk.late (b : Bk) : Int :=
  if b.zones.all nameB = false then 8
  else if pvalB b.frm b.til = false then 15
  else if b.units < 0 ∨ 2199023255552 < b.units ∨ b.left < 0 ∨ b.units < b.left then 6
  else 0

set_option maxHeartbeats 2000000 in
theorem bcheck_any (x : Bk) (A : Option Addr) (c : Nat) (w : World) (hn : x.zones.length ≤ 100) (hz : StrsAt w A x.zones) :
    Calls Try.prog 11 #[.agg #[.int .i64 x.acc, .int .i64 x.sub, .string x.prod, .int .i64 x.idx, .int .i64 x.kind, .slice A x.zones.length c, .int .i64 x.frm, .int .i64 x.til, .int .i64 x.units, .int .i64 x.left, .int .i64 x.prio, .bool x.shared]] w fun e w' => e = .returned (.int .i64 x.chk) ∧ Below w.heap.size w w' := by
  obtain ⟨ac, sb, pr, ix, kd, zs, fr, tl, un, lf, po, sh⟩ := x
  dsimp only at *
  have Hz := Lib.hid hz
  clear hz
  go_enter Try.func11, Try.ntmps11
  go_wp2_with (go_at_call 29; with_reducible refine (name_any _ _).mono ?_; rintro e w' ⟨rfl, rfl⟩)
  all_goals first
    | (go_ret
       refine ⟨ret_int ?_, ?_⟩
       · try simp only [Bool.not_eq_true', Bool.not_eq_false'] at *
         unfold Bk.chk
         dsimp only
         (repeat' split) <;> first | rfl | (exfalso; omega) | (exfalso; simp_all; done)
       · repeat' (first | exact Below.refl _ _ | refine below_ext ?_ ?_ _ | refine Below.alloc ?_ ?_ _ | refine Below.setCell ?_ ?_ _ | refine Below.drew ?_ | (rw [size_ext]; refine Nat.le_add_right_of_le ?_) | go_size | (rw [World.size_alloc]; refine Nat.le_add_right_of_le ?_)))
    | skip
  have E1 : Hid (Bk.chk ⟨ac, sb, pr, ix, kd, zs, fr, tl, un, lf, po, sh⟩ = Bk.late ⟨ac, sb, pr, ix, kd, zs, fr, tl, un, lf, po, sh⟩) := by
    simp only [Bool.not_eq_true', Bool.not_eq_false'] at *
    unfold Hid Bk.chk
    dsimp only
    rw [if_neg (by omega), if_neg (by simp_all), if_neg (by omega), if_neg (by omega), if_neg (by omega)]
    rfl
  go_loop [55] (fun i => ∃ k : Nat, k ≤ zs.length ∧ i = .int .i64 k ∧ Hid (∀ (j : Nat) (s : ByteArray), zs[j]? = some s → j < k → nameB s = true)) (fun i => zs.length - (intOf i).toNat)
  case atStart => exact ⟨0, Nat.zero_le _, rfl, fun j s _ h => absurd h (by omega)⟩
  case round =>
    obtain ⟨k, hk, rfl, hall⟩ := hrel
    by_cases hlt : k < zs.length
    · obtain ⟨s0, hs⟩ : ∃ s, zs[k]? = some s := ⟨_, List.getElem?_eq_getElem hlt⟩
      obtain ⟨b, o, rfl, hb, hc⟩ := Hz.out k s0 hs
      have Hs := Lib.hid hs
      clear hs
      cases he : nameB s0
      · have E2 : Hid (Bk.late ⟨ac, sb, pr, ix, kd, zs, fr, tl, un, lf, po, sh⟩ = 8) := by
          unfold Hid Bk.late
          rw [if_pos]
          rw [List.all_eq_false]
          exact ⟨s0, List.mem_of_getElem? Hs.out, by rw [he]; exact Bool.false_ne_true⟩
        go_wp2_with (go_at_call 29; with_reducible refine (name_any _ _).mono ?_; rintro e w' ⟨rfl, rfl⟩)
        go_ret
        refine ⟨ret_int (by rw [E1.out, E2.out]), ?_⟩
        repeat' (first | exact Below.refl _ _ | refine below_ext ?_ ?_ _ | refine Below.alloc ?_ ?_ _ | refine Below.setCell ?_ ?_ _ | refine Below.drew ?_ | (rw [size_ext]; refine Nat.le_add_right_of_le ?_) | go_size | (rw [World.size_alloc]; refine Nat.le_add_right_of_le ?_))
      · go_wp2_with (go_at_call 29; with_reducible refine (name_any _ _).mono ?_; rintro e w' ⟨rfl, rfl⟩)
        go_round
        case rel => exact ⟨k + 1, by omega, by go_num, fun j u hu hj => by
                      rcases Nat.lt_succ_iff_lt_or_eq.1 hj with h | h
                      · exact hall.out j u hu h
                      · subst h
                        rw [Hs.out] at hu
                        cases hu
                        exact he⟩
        case measure => simp [intOf]; omega
    · have hall' : zs.all nameB = true := by
        rw [List.all_eq_true]
        intro s hs
        obtain ⟨j, hj⟩ := List.mem_iff_getElem?.1 hs
        have hjl : j < zs.length := (List.getElem?_eq_some_iff.1 hj).1
        exact hall.out j s hj (by omega)
      have E2 : Hid (Bk.late ⟨ac, sb, pr, ix, kd, zs, fr, tl, un, lf, po, sh⟩ = if pvalB fr tl = false then 15 else if un < 0 ∨ 2199023255552 < un ∨ lf < 0 ∨ un < lf then 6 else 0) := by
        unfold Hid Bk.late
        rw [if_neg (by rw [hall']; simp)]
      clear hall'
      go_wp2_with (go_at_call 30; with_reducible refine (pval_any _ _ _).mono ?_; rintro e w1 ⟨rfl, hb⟩; obtain ⟨s, rfl⟩ := ext_of_below hb; clear hb)
      all_goals
        go_ret
        refine ⟨ret_int ?_, ?_⟩
        · rw [E1.out, E2.out]
          try simp only [Bool.not_eq_true', Bool.not_eq_false'] at *
          (repeat' split) <;> first | rfl | (exfalso; omega) | (exfalso; simp_all; done)
        · repeat' (first | exact Below.refl _ _ | refine below_ext ?_ ?_ _ | refine Below.alloc ?_ ?_ _ | refine Below.setCell ?_ ?_ _ | refine Below.drew ?_ | (rw [size_ext]; refine Nat.le_add_right_of_le ?_) | go_size | (rw [World.size_alloc]; refine Nat.le_add_right_of_le ?_))

set_option maxHeartbeats 2000000 in
theorem rbcheck_any (x : Bk) (A : Option Addr) (c : Nat) (w : World) (hn : x.zones.length ≤ 100) (hz : StrsAt w A x.zones) :
    Calls Try.prog 12 #[.agg #[.int .i64 x.acc, .int .i64 x.sub, .string x.prod, .int .i64 x.idx, .int .i64 x.kind, .slice A x.zones.length c, .int .i64 x.frm, .int .i64 x.til, .int .i64 x.units, .int .i64 x.left, .int .i64 x.prio, .bool x.shared]] w fun e w' => e = .returned (.int .i64 x.chk) ∧ Below w.heap.size w w' := by
  obtain ⟨ac, sb, pr, ix, kd, zs, fr, tl, un, lf, po, sh⟩ := x
  dsimp only at *
  have Hz := Lib.hid hz
  clear hz
  go_enter Try.func12, Try.ntmps12
  go_wp2_with (go_at_call 31; with_reducible refine (rname_any _ _).mono ?_; rintro e w' ⟨rfl, rfl⟩)
  all_goals first
    | (go_ret
       refine ⟨ret_int ?_, ?_⟩
       · try simp only [Bool.not_eq_true', Bool.not_eq_false'] at *
         unfold Bk.chk
         dsimp only
         (repeat' split) <;> first | rfl | (exfalso; omega) | (exfalso; simp_all; done)
       · repeat' (first | exact Below.refl _ _ | refine below_ext ?_ ?_ _ | refine Below.alloc ?_ ?_ _ | refine Below.setCell ?_ ?_ _ | refine Below.drew ?_ | (rw [size_ext]; refine Nat.le_add_right_of_le ?_) | go_size | (rw [World.size_alloc]; refine Nat.le_add_right_of_le ?_)))
    | skip
  have E1 : Hid (Bk.chk ⟨ac, sb, pr, ix, kd, zs, fr, tl, un, lf, po, sh⟩ = Bk.late ⟨ac, sb, pr, ix, kd, zs, fr, tl, un, lf, po, sh⟩) := by
    simp only [Bool.not_eq_true', Bool.not_eq_false'] at *
    unfold Hid Bk.chk
    dsimp only
    rw [if_neg (by omega), if_neg (by simp_all), if_neg (by omega), if_neg (by omega), if_neg (by omega)]
    rfl
  go_loop [3] (fun i => ∃ k : Nat, k ≤ zs.length ∧ i = .int .i64 k ∧ Hid (∀ (j : Nat) (s : ByteArray), zs[j]? = some s → j < k → nameB s = true)) (fun i => zs.length - (intOf i).toNat)
  case atStart => exact ⟨0, Nat.zero_le _, rfl, fun j s _ h => absurd h (by omega)⟩
  case round =>
    obtain ⟨k, hk, rfl, hall⟩ := hrel
    by_cases hlt : k < zs.length
    · obtain ⟨s0, hs⟩ : ∃ s, zs[k]? = some s := ⟨_, List.getElem?_eq_getElem hlt⟩
      obtain ⟨b, o, rfl, hb, hc⟩ := Hz.out k s0 hs
      have Hs := Lib.hid hs
      clear hs
      cases he : nameB s0
      · have E2 : Hid (Bk.late ⟨ac, sb, pr, ix, kd, zs, fr, tl, un, lf, po, sh⟩ = 8) := by
          unfold Hid Bk.late
          rw [if_pos]
          rw [List.all_eq_false]
          exact ⟨s0, List.mem_of_getElem? Hs.out, by rw [he]; exact Bool.false_ne_true⟩
        go_wp2_with (go_at_call 31; with_reducible refine (rname_any _ _).mono ?_; rintro e w' ⟨rfl, rfl⟩)
        go_ret
        refine ⟨ret_int (by rw [E1.out, E2.out]), ?_⟩
        repeat' (first | exact Below.refl _ _ | refine below_ext ?_ ?_ _ | refine Below.alloc ?_ ?_ _ | refine Below.setCell ?_ ?_ _ | refine Below.drew ?_ | (rw [size_ext]; refine Nat.le_add_right_of_le ?_) | go_size | (rw [World.size_alloc]; refine Nat.le_add_right_of_le ?_))
      · go_wp2_with (go_at_call 31; with_reducible refine (rname_any _ _).mono ?_; rintro e w' ⟨rfl, rfl⟩)
        go_round
        case rel => exact ⟨k + 1, by omega, by go_num, fun j u hu hj => by
                      rcases Nat.lt_succ_iff_lt_or_eq.1 hj with h | h
                      · exact hall.out j u hu h
                      · subst h
                        rw [Hs.out] at hu
                        cases hu
                        exact he⟩
        case measure => simp [intOf]; omega
    · have hall' : zs.all nameB = true := by
        rw [List.all_eq_true]
        intro s hs
        obtain ⟨j, hj⟩ := List.mem_iff_getElem?.1 hs
        have hjl : j < zs.length := (List.getElem?_eq_some_iff.1 hj).1
        exact hall.out j s hj (by omega)
      have E2 : Hid (Bk.late ⟨ac, sb, pr, ix, kd, zs, fr, tl, un, lf, po, sh⟩ = if pvalB fr tl = false then 15 else if un < 0 ∨ 2199023255552 < un ∨ lf < 0 ∨ un < lf then 6 else 0) := by
        unfold Hid Bk.late
        rw [if_neg (by rw [hall']; simp)]
      clear hall'
      go_wp2_with (go_at_call 32; with_reducible refine (rpval_any _ _ _).mono ?_; rintro e w1 ⟨rfl, hb⟩; obtain ⟨s, rfl⟩ := ext_of_below hb; clear hb)
      all_goals
        go_ret
        refine ⟨ret_int ?_, ?_⟩
        · rw [E1.out, E2.out]
          try simp only [Bool.not_eq_true', Bool.not_eq_false'] at *
          (repeat' split) <;> first | rfl | (exfalso; omega) | (exfalso; simp_all; done)
        · repeat' (first | exact Below.refl _ _ | refine below_ext ?_ ?_ _ | refine Below.alloc ?_ ?_ _ | refine Below.setCell ?_ ?_ _ | refine Below.drew ?_ | (rw [size_ext]; refine Nat.le_add_right_of_le ?_) | go_size | (rw [World.size_alloc]; refine Nat.le_add_right_of_le ?_))

end Go.Proofs.Ythhpdpcingapgaa

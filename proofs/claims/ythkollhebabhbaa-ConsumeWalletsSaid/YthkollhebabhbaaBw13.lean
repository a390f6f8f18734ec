/-
  The walks of SameOne, Same (at equal lists) and Few.
-/
import Derived.Test.YthkollhebabhbaaBw9
import Derived.BigQuiet
namespace Go.Proofs.Ythkollhebabhbaa
open Go.RowKit
set_option linter.unusedSimpArgs false

theorem drewN_ext (w : World) (n : Nat) : w.drewN n = ext w ⟨[], w.drawn + n⟩ := by simp [World.drewN, ext]

theorem ext_nil (w : World) : w = ext w ⟨[], w.drawn⟩ := by simp [ext]
set_option maxHeartbeats 2000000 in
theorem sameone_any (x : Bk) (A A' : Option Addr) (c c' : Nat) (w : World) (hn : x.zones.length ≤ 1000) (h : StrsAt w A x.zones) (h' : StrsAt w A' x.zones) :
    Calls Try.prog 57 #[.agg #[.int .i64 x.acc, .int .i64 x.sub, .string x.prod, .int .i64 x.idx, .int .i64 x.kind, .slice A x.zones.length c, .int .i64 x.frm, .int .i64 x.til, .int .i64 x.units, .int .i64 x.left, .int .i64 x.prio, .bool x.shared], .agg #[.int .i64 x.acc, .int .i64 x.sub, .string x.prod, .int .i64 x.idx, .int .i64 x.kind, .slice A' x.zones.length c', .int .i64 x.frm, .int .i64 x.til, .int .i64 x.units, .int .i64 x.left, .int .i64 x.prio, .bool x.shared]] w fun e w' => e = .returned (.bool true) ∧ Below w.heap.size w w' := by
  obtain ⟨ac, sb, pr, ix, kd, zs, fr, tl, un, lf, po, sh⟩ := x
  dsimp only at *
  have H := Lib.hid h
  have H' := Lib.hid h'
  clear h h'
  go_enter Try.func57, Try.ntmps57
  go_wp2
  go_loopw [5] (fun i wr => ∃ (k : Nat) (s : More), k ≤ zs.length ∧ i = .int .i64 k ∧ wr = ext ((w.alloc (Obj.cells #[.int .i64 (⟨ac, sb, pr, ix, kd, zs, fr, tl, un, lf, po, sh⟩ : Bk).acc, .int .i64 (⟨ac, sb, pr, ix, kd, zs, fr, tl, un, lf, po, sh⟩ : Bk).sub, .string (⟨ac, sb, pr, ix, kd, zs, fr, tl, un, lf, po, sh⟩ : Bk).prod, .int .i64 (⟨ac, sb, pr, ix, kd, zs, fr, tl, un, lf, po, sh⟩ : Bk).idx, .int .i64 (⟨ac, sb, pr, ix, kd, zs, fr, tl, un, lf, po, sh⟩ : Bk).kind, .slice A (⟨ac, sb, pr, ix, kd, zs, fr, tl, un, lf, po, sh⟩ : Bk).zones.length c, .int .i64 (⟨ac, sb, pr, ix, kd, zs, fr, tl, un, lf, po, sh⟩ : Bk).frm, .int .i64 (⟨ac, sb, pr, ix, kd, zs, fr, tl, un, lf, po, sh⟩ : Bk).til, .int .i64 (⟨ac, sb, pr, ix, kd, zs, fr, tl, un, lf, po, sh⟩ : Bk).units, .int .i64 (⟨ac, sb, pr, ix, kd, zs, fr, tl, un, lf, po, sh⟩ : Bk).left, .int .i64 (⟨ac, sb, pr, ix, kd, zs, fr, tl, un, lf, po, sh⟩ : Bk).prio, .bool (⟨ac, sb, pr, ix, kd, zs, fr, tl, un, lf, po, sh⟩ : Bk).shared] 91)).alloc (Obj.cells #[.int .i64 (⟨ac, sb, pr, ix, kd, zs, fr, tl, un, lf, po, sh⟩ : Bk).acc, .int .i64 (⟨ac, sb, pr, ix, kd, zs, fr, tl, un, lf, po, sh⟩ : Bk).sub, .string (⟨ac, sb, pr, ix, kd, zs, fr, tl, un, lf, po, sh⟩ : Bk).prod, .int .i64 (⟨ac, sb, pr, ix, kd, zs, fr, tl, un, lf, po, sh⟩ : Bk).idx, .int .i64 (⟨ac, sb, pr, ix, kd, zs, fr, tl, un, lf, po, sh⟩ : Bk).kind, .slice A' (⟨ac, sb, pr, ix, kd, zs, fr, tl, un, lf, po, sh⟩ : Bk).zones.length c', .int .i64 (⟨ac, sb, pr, ix, kd, zs, fr, tl, un, lf, po, sh⟩ : Bk).frm, .int .i64 (⟨ac, sb, pr, ix, kd, zs, fr, tl, un, lf, po, sh⟩ : Bk).til, .int .i64 (⟨ac, sb, pr, ix, kd, zs, fr, tl, un, lf, po, sh⟩ : Bk).units, .int .i64 (⟨ac, sb, pr, ix, kd, zs, fr, tl, un, lf, po, sh⟩ : Bk).left, .int .i64 (⟨ac, sb, pr, ix, kd, zs, fr, tl, un, lf, po, sh⟩ : Bk).prio, .bool (⟨ac, sb, pr, ix, kd, zs, fr, tl, un, lf, po, sh⟩ : Bk).shared] 91)) s) (fun i _ => zs.length - (intOf i).toNat)
  case atStart => exact ⟨0, ⟨[], _⟩, Nat.zero_le _, rfl, ext_nil _⟩
  case round =>
    obtain ⟨k, s, hk, rfl, rfl⟩ := hrel
    by_cases hlt : k < zs.length
    · obtain ⟨z, hz⟩ : ∃ z, zs[k]? = some z := ⟨_, List.getElem?_eq_getElem hlt⟩
      obtain ⟨b, o, rfl, hb, x0⟩ := H.out k z hz
      obtain ⟨b', o', rfl, hb', y0⟩ := H'.out k z hz
      clear hz
      go_wp2
      go_quiet (fail)
      rw [drewN_ext]
      go_wp2
      go_roundw
      case rel => exact ⟨k + 1, _, by omega, by go_num, rfl⟩
      case measure => simp [intOf]; omega
    · go_wp2
      go_ret
      refine ⟨rfl, ?_⟩
      repeat' (first | exact Below.refl _ _ | refine below_ext ?_ ?_ _ | refine Below.alloc ?_ ?_ _ | refine Below.setCell ?_ ?_ _ | refine Below.drew ?_ | (rw [size_ext]; refine Nat.le_add_right_of_le ?_) | go_size | (rw [World.size_alloc]; refine Nat.le_add_right_of_le ?_))

set_option maxHeartbeats 2000000 in
theorem samebks_any (xs : List Bk) (A A' : Option Addr) (c c' : Nat) (w : World) (hn : xs.length ≤ 100000) (hz : ∀ x ∈ xs, x.zones.length ≤ 1000) (h : Bks w A xs) (h' : Bks w A' xs) :
    Calls Try.prog 32 #[.slice A xs.length c, .slice A' xs.length c'] w fun e w' => e = .returned (.bool true) ∧ Below w.heap.size w w' := by
  have H := Lib.hid h
  have H' := Lib.hid h'
  have HZ := Lib.hid hz
  clear h h' hz
  go_enter Try.func32, Try.ntmps32
  go_wp2
  go_loopw [5] (fun i wr => ∃ k : Nat, k ≤ xs.length ∧ i = .int .i64 k ∧ Below w.heap.size w wr) (fun i _ => xs.length - (intOf i).toNat)
  case atStart => exact ⟨0, Nat.zero_le _, rfl, Below.refl _ _⟩
  case round =>
    obtain ⟨k, hk, rfl, hbw⟩ := hrel
    by_cases hlt : k < xs.length
    · obtain ⟨x, hx⟩ : ∃ s, xs[k]? = some s := ⟨_, List.getElem?_eq_getElem hlt⟩
      have hsz := hbw.size
      obtain ⟨b, o, za, zc, rfl, hb, x0, x1, x2, x3, x4, x5, x6, x7, x8, x9, x10, x11, hzs, hzc⟩ := bk_cells (H.out.below hbw) hx
      obtain ⟨b', o', za', zc', rfl, hb', y0, y1, y2, y3, y4, y5, y6, y7, y8, y9, y10, y11, hzs', hzc'⟩ := bk_cells (H'.out.below hbw) hx
      have hxm := HZ.out x (List.mem_of_getElem? hx)
      have HS := Lib.hid hzs
      have HS' := Lib.hid hzs'
      clear hx hzs hzs' hzc hzc'
      go_wp2
      refine wp_region_more (by kernel_rfl) (by kernel_rfl) ?_
      repeat (first | go_big_quiet_skip | quiet_step (first
        | (go_at_call 57; first | with_reducible exact more_call (sameone_any x za za' zc zc' _ hxm (HS.out.ext _) (HS'.out.ext _)) | exact more_call2 (sameone_any x za za' zc zc' _ hxm (HS.out.ext _) (HS'.out.ext _)))))
      refine wpQuiet_nil ?_
      rintro _ ⟨s, rfl⟩
      go_wp2
      go_roundw
      case rel => exact ⟨k + 1, by omega, by go_num, below_ext hbw hbw.size _⟩
      case measure => simp [intOf]; omega
    · go_wp2
      go_ret
      exact ⟨rfl, hbw⟩

def fewB (xs : List Bk) : Bool := decide (xs.length ≤ 12) && xs.all fun x => decide (x.zones.length ≤ 6)
set_option maxHeartbeats 2000000 in
theorem few_any (xs : List Bk) (A : Option Addr) (c : Nat) (w : World) (hn : xs.length ≤ maxLen) (hz : ∀ x ∈ xs, x.zones.length ≤ maxLen) (h : Bks w A xs) :
    Calls Try.prog 25 #[.slice A xs.length c] w fun e w' => e = .returned (.bool (fewB xs)) ∧ Below w.heap.size w w' := by
  have H := Lib.hid h
  have HZ := Lib.hid hz
  clear h hz
  unfold maxLen at hn
  by_cases h12 : xs.length ≤ 12
  · go_enter Try.func25, Try.ntmps25
    go_wp2
    go_loop [3] (fun i => ∃ k : Nat, k ≤ xs.length ∧ i = .int .i64 k ∧ Hid (∀ (j : Nat) (x : Bk), xs[j]? = some x → j < k → x.zones.length ≤ 6)) (fun i => xs.length - (intOf i).toNat)
    case atStart => exact ⟨0, Nat.zero_le _, rfl, fun j s _ h => absurd h (by omega)⟩
    case round =>
      obtain ⟨k, hk, rfl, hall⟩ := hrel
      by_cases hlt : k < xs.length
      · obtain ⟨x, hx⟩ : ∃ s, xs[k]? = some s := ⟨_, List.getElem?_eq_getElem hlt⟩
        obtain ⟨b, o, za, zc, rfl, hb, x0, x1, x2, x3, x4, x5, x6, x7, x8, x9, x10, x11, hzs, hzc⟩ := bk_cells H.out hx
        have hxm := HZ.out x (List.mem_of_getElem? hx)
        unfold maxLen at hxm
        have HX := Lib.hid hx
        clear hx hzs hzc
        by_cases h6 : x.zones.length ≤ 6
        · go_wp2
          go_round
          case rel =>
            refine ⟨k + 1, by omega, by go_num, fun j y hy hj => ?_⟩
            rcases Nat.lt_succ_iff_lt_or_eq.1 hj with h | h
            · exact hall.out j y hy h
            · subst h
              rw [HX.out] at hy
              cases hy
              exact h6
          case measure => simp [intOf]; omega
        · go_wp2
          go_ret
          refine ⟨ret_bool (Eq.symm ?_), Below.refl _ _⟩
          rw [fewB, Bool.and_eq_false_iff]
          right
          rw [List.all_eq_false]
          exact ⟨x, List.mem_of_getElem? HX.out, by simpa using h6⟩
      · go_wp2
        go_ret
        refine ⟨ret_bool (Eq.symm ?_), Below.refl _ _⟩
        rw [fewB, Bool.and_eq_true, List.all_eq_true]
        refine ⟨by simpa using h12, fun x hx => ?_⟩
        obtain ⟨j, hj⟩ := List.mem_iff_getElem?.1 hx
        have hjl : j < xs.length := (List.getElem?_eq_some_iff.1 hj).1
        simpa using hall.out j x hj (by omega)
  · go_enter Try.func25, Try.ntmps25
    go_wp2
    go_ret
    exact ⟨ret_bool (by simp [fewB, h12]), Below.refl _ _⟩
end Go.Proofs.Ythkollhebabhbaa

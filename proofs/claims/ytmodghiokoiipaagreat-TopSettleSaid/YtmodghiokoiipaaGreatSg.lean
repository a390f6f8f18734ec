/-
  The reference's check of a list of agreements: it hands back a number.
-/
import Derived.Test.YtmodghiokoiipaaGreatSf
namespace Go.Proofs.YtmodghiokoiipaaGreat
open Go.RowKit
set_option linter.unusedSimpArgs false
set_option linter.unusedVariables false

theorem one_take (zs : List Ag) (m : Nat) (A : Option Addr) (c : Nat) (p k : Int) (ib : Bool) (f t : Int) (B : Option Addr) (st : List St) (d : Nat) (cap : Int) (w : World) (h : Ags w A zs) (hn : m ≤ zs.length) (hm : m ≤ 4096) (hst : Sts w B st) (hl : st.length ≤ maxLen) :
    Calls Tryz.prog 8 #[.slice A m c, .agg #[.int .i64 p, .int .i64 k, .bool ib, .int .i64 f, .int .i64 t, .slice B st.length d, .int .i64 cap]] w (RN w) := by
  have hl2 : (zs.take m).length = m := by rw [List.length_take]; omega
  have := one_any (zs.take m) A c p k ib f t B st d cap w (h.take m) (by omega) hst hl
  rw [hl2] at this
  exact this
set_option maxRecDepth 100000 in
set_option maxHeartbeats 4000000 in
theorem rcheck_any (zs : List Ag) (A : Option Addr) (c : Nat) (w : World) (hz : Ags w A zs) (hzc : zs.length ≤ c) (hzl : zs.length ≤ 4096) (hst : AgS w zs) (hsl : ∀ x ∈ zs, x.st.length ≤ maxLen) :
    Calls Tryz.prog 4 #[.slice A zs.length c] w (RN w) := by
  have HZ := Lib.hid hz
  have HST := Lib.hid hst
  have HSL := Lib.hid hsl
  clear hz hst hsl
  go_enter Tryz.func4, Tryz.ntmps4
  go_wp2
  go_loopw [3] (fun i wr => ∃ m : Nat, m ≤ zs.length ∧ i = .int .i64 m ∧ Hid (Below w.heap.size w wr)) (fun i _ => zs.length - (intOf i).toNat)
  case atStart => exact ⟨0, Nat.zero_le _, rfl, Below.refl _ _⟩
  case round =>
    obtain ⟨m, hm, rfl, HB⟩ := hrel
    have hsr := HB.out.size
    by_cases hlt : m < zs.length
    · obtain ⟨x, hx⟩ : ∃ s, zs[m]? = some s := ⟨_, List.getElem?_eq_getElem hlt⟩
      obtain ⟨b, o, rfl, hb, x0, x1, x2, x3, x4, x5, x6⟩ := ags_cells HZ.out hx
      have hmem := List.mem_of_getElem? hx
      have HX := Lib.hid (HST.out x hmem)
      have hxl := HSL.out x hmem
      replace x0 := keepL HB.out hb x0
      replace x1 := keepL HB.out hb x1
      replace x2 := keepL HB.out hb x2
      replace x3 := keepL HB.out hb x3
      replace x4 := keepL HB.out hb x4
      replace x5 := keepL HB.out hb x5
      replace x6 := keepL HB.out hb x6
      clear hx hmem
      obtain ⟨xp, xk, xib, xf, xt, xA, xc, xst, xcap⟩ := x
      dsimp only at x0 x1 x2 x3 x4 x5 x6 HX hxl
      have hbr : b < wr.heap.size := by omega
      obtain ⟨hn1, hn2, hn3, hn4⟩ : (m : Int) < (zs.length : Int) ∧ (0 : Int) ≤ (m : Int) ∧ (m : Int) ≤ (c : Int) ∧ m ≤ c := by omega
      go_wp2_with fail
      go_region_held3 (fun w' => w'.cell? ⟨b, o + m * 7, none⟩ = some (.int .i64 xp) ∧ w'.cell? ⟨b, o + m * 7 + 1, none⟩ = some (.int .i64 xk) ∧ w'.cell? ⟨b, o + m * 7 + 2, none⟩ = some (.bool xib) ∧ w'.cell? ⟨b, o + m * 7 + 3, none⟩ = some (.int .i64 xf) ∧ w'.cell? ⟨b, o + m * 7 + 4, none⟩ = some (.int .i64 xt) ∧ w'.cell? ⟨b, o + m * 7 + 5, none⟩ = some (.slice xA xst.length xc) ∧ w'.cell? ⟨b, o + m * 7 + 6, none⟩ = some (.int .i64 xcap))
        ((with_reducible refine ⟨keepL (W := wr) ?_ hbr x0, keepL (W := wr) ?_ hbr x1, keepL (W := wr) ?_ hbr x2, keepL (W := wr) ?_ hbr x3, keepL (W := wr) ?_ hbr x4, keepL (W := wr) ?_ hbr x5, keepL (W := wr) ?_ hbr x6⟩ <;> (repeat' (first | exact Below.refl _ _ | refine below_ext ?_ ?_ _ | refine Below.alloc ?_ ?_ _ | refine Below.setCell ?_ ?_ _ | refine Below.drew ?_ | (rw [size_ext]; refine Nat.le_add_right_of_le ?_) | go_size | (rw [World.size_alloc]; refine Nat.le_add_right_of_le ?_)))))
        ((go_at_call 8; (with_reducible refine (one_take zs m _ _ xp xk xib xf xt xA xst xc xcap _ (HZ.out.below ?_) (by omega) (by omega) (HX.out.below ?_) hxl).mono ?_); (· repeat' (first | with_reducible exact HB.out | with_reducible exact Below.refl _ _ | with_reducible refine below_ext ?_ ?_ _ | with_reducible refine Below.alloc ?_ ?_ _ | with_reducible refine Below.setCell ?_ ?_ _ | with_reducible refine Below.drew ?_ | (have := HB.out.size; simp only [size_ext, World.size_alloc, World.size_setCell, World.size_drew]; omega) | exact Nat.le_trans HB.out.size (by go_size) | (have := HB.out.size; simp; omega) | (have := HB.out.size; simp [go_sem]; omega) | (have := HB.out.size; simp [go_sem]; done) | (simp; done) | omega)); (· repeat' (first | with_reducible exact HB.out | with_reducible exact Below.refl _ _ | with_reducible refine below_ext ?_ ?_ _ | with_reducible refine Below.alloc ?_ ?_ _ | with_reducible refine Below.setCell ?_ ?_ _ | with_reducible refine Below.drew ?_ | (have := HB.out.size; simp only [size_ext, World.size_alloc, World.size_setCell, World.size_drew]; omega) | exact Nat.le_trans HB.out.size (by go_size) | (have := HB.out.size; simp; omega) | (have := HB.out.size; simp [go_sem]; omega) | (have := HB.out.size; simp [go_sem]; done) | (simp; done) | omega)); rintro e1 w1 ⟨n, rfl, hb1⟩; obtain ⟨s1, rfl⟩ := ext_of_below hb1; clear hb1))
      by_cases hn0 : n = 0
      · subst hn0
        go_wp2
        go_roundw
        case rel => exact ⟨m + 1, by omega, by go_num, Lib.hid (by repeat' (first | with_reducible exact HB.out | with_reducible exact Below.refl _ _ | with_reducible refine below_ext ?_ ?_ _ | with_reducible refine Below.alloc ?_ ?_ _ | with_reducible refine Below.setCell ?_ ?_ _ | with_reducible refine Below.drew ?_ | (have := HB.out.size; simp only [size_ext, World.size_alloc, World.size_setCell, World.size_drew]; omega) | exact Nat.le_trans HB.out.size (by go_size) | (have := HB.out.size; simp; omega) | (have := HB.out.size; simp [go_sem]; omega) | (have := HB.out.size; simp [go_sem]; done) | (simp; done) | omega))⟩
        case measure => simp [intOf]; omega
      · have hn0' : (n == 0) = false := by simpa using hn0
        go_wp2
        try rw [Exit.noGoto_ret]
        go_ret
        exact rn_mk (by repeat' (first | with_reducible exact HB.out | with_reducible exact Below.refl _ _ | with_reducible refine below_ext ?_ ?_ _ | with_reducible refine Below.alloc ?_ ?_ _ | with_reducible refine Below.setCell ?_ ?_ _ | with_reducible refine Below.drew ?_ | (have := HB.out.size; simp only [size_ext, World.size_alloc, World.size_setCell, World.size_drew]; omega) | exact Nat.le_trans HB.out.size (by go_size) | (have := HB.out.size; simp; omega) | (have := HB.out.size; simp [go_sem]; omega) | (have := HB.out.size; simp [go_sem]; done) | (simp; done) | omega))
    · obtain rfl : m = zs.length := by omega
      go_wp2
      go_ret
      exact rn_mk HB.out
end Go.Proofs.YtmodghiokoiipaaGreat

/-
  The reference's check of agreements: it hands back a number.
-/
import Derived.Test.YtmodghiokoiipaaGreatSe
namespace Go.Proofs.YtmodghiokoiipaaGreat
open Go.RowKit
set_option linter.unusedSimpArgs false
set_option linter.unusedVariables false

theorem alike_at (p k : Int) (ib : Bool) (f t : Int) (A : Option Addr) (n c : Nat) (cap : Int) (p' k' : Int) (ib' : Bool) (f' t' : Int) (A' : Option Addr) (n' c' : Nat) (cap' : Int) (w : World) :
    Calls Tryz.prog 23 #[.agg #[.int .i64 p, .int .i64 k, .bool ib, .int .i64 f, .int .i64 t, .slice A n c, .int .i64 cap], .agg #[.int .i64 p', .int .i64 k', .bool ib', .int .i64 f', .int .i64 t', .slice A' n' c', .int .i64 cap']] w fun e w' => RB e (fun _ => True) ∧ Below w.heap.size w w' := by
  have := alike_any ⟨p, k, ib, f, t, A, c, List.replicate n ⟨0, 0, 0⟩, cap⟩ ⟨p', k', ib', f', t', A', c', List.replicate n' ⟨0, 0, 0⟩, cap'⟩ w
  simpa only [List.length_replicate] using this
theorem gen_world {p : World → Prop} {W0 W : World} (hb : Below W0.heap.size W0 W) (h : ∀ W', Below W0.heap.size W0 W' → p W') : p W := h W hb
set_option maxRecDepth 100000 in
set_option maxHeartbeats 4000000 in
theorem one_any (pre : List Ag) (A : Option Addr) (c : Nat) (p k : Int) (ib : Bool) (f t : Int) (B : Option Addr) (st : List St) (d : Nat) (cap : Int) (w : World) (h : Ags w A pre) (hn : pre.length ≤ 4096) (hst : Sts w B st) (hl : st.length ≤ maxLen) :
    Calls Tryz.prog 8 #[.slice A pre.length c, .agg #[.int .i64 p, .int .i64 k, .bool ib, .int .i64 f, .int .i64 t, .slice B st.length d, .int .i64 cap]] w (RN w) := by
  have H := Lib.hid h
  have HV := Lib.hid (fun W => validr_any f t W)
  have HS := Lib.hid (fun W (hb : Below w.heap.size w W) => rsteps_any st B d W (hst.below hb) hl)
  clear h hst hl
  by_cases hp : p < 1 ∨ 999 < p
  · rcases hp with h1 | h1
    all_goals
      go_enter Tryz.func8, Tryz.ntmps8
      go_wp2
      all_goals
        go_ret
        exact rn_mk (by repeat' (first | exact Below.refl _ _ | refine below_ext ?_ ?_ _ | refine Below.alloc ?_ ?_ _ | refine Below.setCell ?_ ?_ _ | refine Below.drew ?_ | (rw [size_ext]; refine Nat.le_add_right_of_le ?_) | go_size | (rw [World.size_alloc]; refine Nat.le_add_right_of_le ?_)))
  obtain ⟨p1, p2⟩ : ¬ p < 1 ∧ ¬ 999 < p := by omega
  by_cases hk : k < 1 ∨ 5 ≤ k
  · rcases hk with h1 | h1
    all_goals
      go_enter Tryz.func8, Tryz.ntmps8
      go_wp2
      all_goals
        go_ret
        exact rn_mk (by repeat' (first | exact Below.refl _ _ | refine below_ext ?_ ?_ _ | refine Below.alloc ?_ ?_ _ | refine Below.setCell ?_ ?_ _ | refine Below.drew ?_ | (rw [size_ext]; refine Nat.le_add_right_of_le ?_) | go_size | (rw [World.size_alloc]; refine Nat.le_add_right_of_le ?_)))
  obtain ⟨k1, k2⟩ : ¬ k < 1 ∧ ¬ 5 ≤ k := by omega
  cases hv : validB f t
  · rw [hv] at HV
    go_enter Tryz.func8, Tryz.ntmps8
    go_wp2_with (go_at_call 20; (with_reducible refine (HV.out _).mono ?_); rintro e w1 ⟨rfl, hb⟩; obtain ⟨s, rfl⟩ := ext_of_below hb; clear hb)
    go_ret
    exact rn_mk (by repeat' (first | exact Below.refl _ _ | refine below_ext ?_ ?_ _ | refine Below.alloc ?_ ?_ _ | refine Below.setCell ?_ ?_ _ | refine Below.drew ?_ | (rw [size_ext]; refine Nat.le_add_right_of_le ?_) | go_size | (rw [World.size_alloc]; refine Nat.le_add_right_of_le ?_)))
  rw [hv] at HV
  by_cases hc : cap < 0 ∨ 1125899906842624 < cap
  · rcases hc with h1 | h1
    all_goals
      go_enter Tryz.func8, Tryz.ntmps8
      go_wp2_with (first
        | (go_at_call 20; (with_reducible refine (HV.out _).mono ?_); rintro e w1 ⟨rfl, hb⟩; obtain ⟨s, rfl⟩ := ext_of_below hb; clear hb)
        | (go_at_call 21; (with_reducible refine (HS.out _ ?_).mono ?_); (· repeat' (first | exact Below.refl _ _ | refine below_ext ?_ ?_ _ | refine Below.alloc ?_ ?_ _ | refine Below.setCell ?_ ?_ _ | refine Below.drew ?_ | (rw [size_ext]; refine Nat.le_add_right_of_le ?_) | go_size | (rw [World.size_alloc]; refine Nat.le_add_right_of_le ?_))); rintro e w1 ⟨n, rfl, hb⟩; obtain ⟨s2, rfl⟩ := ext_of_below hb; clear hb; by_cases hn0 : n = 0))
      all_goals
        go_wp2
        all_goals
          go_ret
          exact rn_mk (by repeat' (first | exact Below.refl _ _ | refine below_ext ?_ ?_ _ | refine Below.alloc ?_ ?_ _ | refine Below.setCell ?_ ?_ _ | refine Below.drew ?_ | (rw [size_ext]; refine Nat.le_add_right_of_le ?_) | go_size | (rw [World.size_alloc]; refine Nat.le_add_right_of_le ?_)))
  obtain ⟨c1, c2⟩ : ¬ cap < 0 ∧ ¬ 1125899906842624 < cap := by omega
  go_enter Tryz.func8, Tryz.ntmps8
  go_wp2_with (first
    | (go_at_call 20; (with_reducible refine (HV.out _).mono ?_); rintro e w1 ⟨rfl, hb⟩; obtain ⟨s, rfl⟩ := ext_of_below hb; clear hb)
    | (go_at_call 21; (with_reducible refine (HS.out _ ?_).mono ?_); (· repeat' (first | exact Below.refl _ _ | refine below_ext ?_ ?_ _ | refine Below.alloc ?_ ?_ _ | refine Below.setCell ?_ ?_ _ | refine Below.drew ?_ | (rw [size_ext]; refine Nat.le_add_right_of_le ?_) | go_size | (rw [World.size_alloc]; refine Nat.le_add_right_of_le ?_))); rintro e w1 ⟨n, rfl, hb⟩; have HB1 := Lib.hid (Below.trans (B := w.heap.size) (a := w) (by repeat' (first | exact Below.refl _ _ | refine below_ext ?_ ?_ _ | refine Below.alloc ?_ ?_ _ | refine Below.setCell ?_ ?_ _ | refine Below.drew ?_ | (rw [size_ext]; refine Nat.le_add_right_of_le ?_) | go_size | (rw [World.size_alloc]; refine Nat.le_add_right_of_le ?_))) (hb.mono (by simp only [size_ext, World.size_alloc]; omega))); have hsz := hb.size; simp only [size_ext, World.size_alloc] at hsz; obtain ⟨b0, -⟩ := bcell hb; have y0 : w1.cell? ⟨w.heap.size, 0, none⟩ = some (.int .i64 p) := (b0 _ _ (by simp [go_sem])).trans (by simp [go_sem]); have y1 : w1.cell? ⟨w.heap.size, 1, none⟩ = some (.int .i64 k) := (b0 _ _ (by simp [go_sem])).trans (by simp [go_sem]); have y2 : w1.cell? ⟨w.heap.size, 2, none⟩ = some (.bool ib) := (b0 _ _ (by simp [go_sem])).trans (by simp [go_sem]); have y3 : w1.cell? ⟨w.heap.size, 3, none⟩ = some (.int .i64 f) := (b0 _ _ (by simp [go_sem])).trans (by simp [go_sem]); have y4 : w1.cell? ⟨w.heap.size, 4, none⟩ = some (.int .i64 t) := (b0 _ _ (by simp [go_sem])).trans (by simp [go_sem]); have y5 : w1.cell? ⟨w.heap.size, 5, none⟩ = some (.slice B st.length d) := (b0 _ _ (by simp [go_sem])).trans (by simp [go_sem]); have y6 : w1.cell? ⟨w.heap.size, 6, none⟩ = some (.int .i64 cap) := (b0 _ _ (by simp [go_sem])).trans (by simp [go_sem]); clear b0 hb; by_cases hn0 : n = 0))
  · go_wp2
    go_loopw [6] (fun i wr => ∃ m : Nat, m ≤ pre.length ∧ i = .int .i64 m ∧ Hid (Below w1.heap.size w1 wr)) (fun i _ => pre.length - (intOf i).toNat)
    case atStart => exact ⟨0, Nat.zero_le _, rfl, Below.refl _ _⟩
    case round =>
      obtain ⟨m, hm, rfl, HB⟩ := hrel
      have hsr := HB.out.size
      have HBW := Lib.hid (HB1.out.trans (HB.out.mono HB1.out.size))
      by_cases hlt : m < pre.length
      · obtain ⟨x, hx⟩ : ∃ s, pre[m]? = some s := ⟨_, List.getElem?_eq_getElem hlt⟩
        obtain ⟨b, o, rfl, hb, x0, x1, x2, x3, x4, x5, x6⟩ := ags_cells H.out hx
        replace x0 := keepL HBW.out hb x0
        replace x1 := keepL HBW.out hb x1
        replace x2 := keepL HBW.out hb x2
        replace x3 := keepL HBW.out hb x3
        replace x4 := keepL HBW.out hb x4
        replace x5 := keepL HBW.out hb x5
        replace x6 := keepL HBW.out hb x6
        obtain ⟨xp, xk, xib, xf, xt, xA, xc, xst, xcap⟩ := x
        dsimp only at x0 x1 x2 x3 x4 x5 x6
        have hbr : b < wr.heap.size := by omega
        have hwr : w.heap.size < wr.heap.size := by omega
        have hw1 : w.heap.size < w1.heap.size := by omega
        replace y0 := keepL HB.out hw1 y0
        replace y1 := keepL HB.out hw1 y1
        replace y2 := keepL HB.out hw1 y2
        replace y3 := keepL HB.out hw1 y3
        replace y4 := keepL HB.out hw1 y4
        replace y5 := keepL HB.out hw1 y5
        replace y6 := keepL HB.out hw1 y6
        obtain ⟨hn1, hn2⟩ : (m : Int) < (pre.length : Int) ∧ (0 : Int) ≤ (m : Int) := by omega
        clear hx
        go_wp2_with fail
        go_region_held3 (fun w' => w'.cell? ⟨b, o + m * 7 + 3, none⟩ = some (.int .i64 xf) ∧ w'.cell? ⟨b, o + m * 7 + 3 + 1, none⟩ = some (.int .i64 xt) ∧ w'.cell? ⟨w.heap.size, 3, none⟩ = some (.int .i64 f) ∧ w'.cell? ⟨w.heap.size, 4, none⟩ = some (.int .i64 t))
          ((with_reducible refine ⟨keepL (W := wr) ?_ hbr x3, keepL (W := wr) ?_ hbr x4, keepL (W := wr) ?_ hwr y3, keepL (W := wr) ?_ hwr y4⟩ <;> (repeat' (first | exact Below.refl _ _ | refine below_ext ?_ ?_ _ | refine Below.alloc ?_ ?_ _ | refine Below.setCell ?_ ?_ _ | refine Below.drew ?_ | (rw [size_ext]; refine Nat.le_add_right_of_le ?_) | go_size | (rw [World.size_alloc]; refine Nat.le_add_right_of_le ?_)))))
          ((go_at_call 22; (with_reducible refine (isect_any xf xt f t _).mono ?_); rintro e1 w2 ⟨f2, t2, ok, rfl, hb2⟩; obtain ⟨s3, rfl⟩ := ext_of_below hb2; clear hb2))
        all_goals
          refine gen_world (W0 := wr) ?_ ?_
          · repeat' (first | exact Below.refl _ _ | refine below_ext ?_ ?_ _ | refine Below.alloc ?_ ?_ _ | refine Below.setCell ?_ ?_ _ | refine Below.drew ?_ | (rw [size_ext]; refine Nat.le_add_right_of_le ?_) | go_size | (rw [World.size_alloc]; refine Nat.le_add_right_of_le ?_))
          rintro W3 hB3
          have HB3 := Lib.hid hB3
          have hs3 := hB3.size
          have hb3 : b < W3.heap.size := by omega
          have hw3 : w.heap.size < W3.heap.size := by omega
          clear hB3
          replace x0 := keepL HB3.out hbr x0
          replace x1 := keepL HB3.out hbr x1
          replace x2 := keepL HB3.out hbr x2
          replace x3 := keepL HB3.out hbr x3
          replace x4 := keepL HB3.out hbr x4
          replace x5 := keepL HB3.out hbr x5
          replace x6 := keepL HB3.out hbr x6
          replace y0 := keepL HB3.out hwr y0
          replace y1 := keepL HB3.out hwr y1
          replace y2 := keepL HB3.out hwr y2
          replace y3 := keepL HB3.out hwr y3
          replace y4 := keepL HB3.out hwr y4
          replace y5 := keepL HB3.out hwr y5
          replace y6 := keepL HB3.out hwr y6
          have HBV := Lib.hid (HB.out.trans (HB3.out.mono HB.out.size))
          have HBU := Lib.hid (HBW.out.trans (HB3.out.mono HBW.out.size))
          cases ok
          · go_wp2_with fail
            go_quiet (fail)
            rw [drewN_more]
            go_wp2
            go_roundw
            case rel => exact ⟨m + 1, by omega, by go_num, Lib.hid (below_ext HBV.out HBV.out.size _)⟩
            case measure => simp [intOf]; omega
          · go_wp2_with fail
            go_region_held3 (fun w' => w'.cell? ⟨b, o + m * 7, none⟩ = some (.int .i64 xp) ∧ w'.cell? ⟨b, o + m * 7 + 1, none⟩ = some (.int .i64 xk) ∧ w'.cell? ⟨b, o + m * 7 + 2, none⟩ = some (.bool xib) ∧ w'.cell? ⟨b, o + m * 7 + 3, none⟩ = some (.int .i64 xf) ∧ w'.cell? ⟨b, o + m * 7 + 4, none⟩ = some (.int .i64 xt) ∧ w'.cell? ⟨b, o + m * 7 + 5, none⟩ = some (.slice xA xst.length xc) ∧ w'.cell? ⟨b, o + m * 7 + 6, none⟩ = some (.int .i64 xcap) ∧ w'.cell? ⟨w.heap.size, 0, none⟩ = some (.int .i64 p) ∧ w'.cell? ⟨w.heap.size, 1, none⟩ = some (.int .i64 k) ∧ w'.cell? ⟨w.heap.size, 2, none⟩ = some (.bool ib) ∧ w'.cell? ⟨w.heap.size, 3, none⟩ = some (.int .i64 f) ∧ w'.cell? ⟨w.heap.size, 4, none⟩ = some (.int .i64 t) ∧ w'.cell? ⟨w.heap.size, 5, none⟩ = some (.slice B st.length d) ∧ w'.cell? ⟨w.heap.size, 6, none⟩ = some (.int .i64 cap))
              ((with_reducible refine ⟨keepL (W := W3) ?_ hb3 x0, keepL (W := W3) ?_ hb3 x1, keepL (W := W3) ?_ hb3 x2, keepL (W := W3) ?_ hb3 x3, keepL (W := W3) ?_ hb3 x4, keepL (W := W3) ?_ hb3 x5, keepL (W := W3) ?_ hb3 x6, keepL (W := W3) ?_ hw3 y0, keepL (W := W3) ?_ hw3 y1, keepL (W := W3) ?_ hw3 y2, keepL (W := W3) ?_ hw3 y3, keepL (W := W3) ?_ hw3 y4, keepL (W := W3) ?_ hw3 y5, keepL (W := W3) ?_ hw3 y6⟩ <;> (repeat' (first | exact Below.refl _ _ | refine below_ext ?_ ?_ _ | refine Below.alloc ?_ ?_ _ | refine Below.setCell ?_ ?_ _ | refine Below.drew ?_ | (rw [size_ext]; refine Nat.le_add_right_of_le ?_) | go_size | (rw [World.size_alloc]; refine Nat.le_add_right_of_le ?_)))))
              ((go_at_call 23; (with_reducible refine (alike_at xp xk xib xf xt xA xst.length xc xcap p k ib f t B st.length d cap _).mono ?_); rintro e1 w4 ⟨⟨q, rfl, -⟩, hb4⟩; obtain ⟨s4, rfl⟩ := ext_of_below hb4; clear hb4))
            cases q
            · go_wp2
              go_roundw
              case rel => exact ⟨m + 1, by omega, by go_num, Lib.hid (below_ext HBV.out HBV.out.size _)⟩
              case measure => simp [intOf]; omega
            · go_wp2
              try rw [Exit.noGoto_ret]
              go_ret
              exact rn_mk (below_ext HBU.out HBU.out.size _)
      · obtain rfl : m = pre.length := by omega
        go_wp2
        go_ret
        exact rn_mk HBW.out
  · have hn0' : (n == 0) = false := by simpa using hn0
    go_wp2
    go_ret
    exact rn_mk HB1.out
end Go.Proofs.YtmodghiokoiipaaGreat

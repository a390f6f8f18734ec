/-
  TopSettle, walked.
-/
import Derived.Test.YtmodghiokoiipaaGreatSk
namespace Go.Proofs.YtmodghiokoiipaaGreat
open Go.RowKit
set_option linter.unusedSimpArgs false
set_option linter.unusedVariables false

def RT (w : World) (e : Ending) (w' : World) : Prop := e = .returned (.bool true) ∧ Below w.heap.size w w'
set_option maxRecDepth 100000 in
set_option maxHeartbeats 16000000 in
theorem top_any (zs : List Ag) (us : List Ug) (cs : List Int) (A A2 A3 : Option Addr) (c c2 c3 : Nat) (w : World) (hz : Ags w A zs) (hzn : A = none → zs.length = 0 ∧ c = 0) (hzc : zs.length ≤ c) (hzm : zs.length ≤ maxLen) (hst : AgS w zs) (hsl : ∀ x ∈ zs, x.st.length ≤ maxLen)
    (hu : Ugs w A2 us) (hun : A2 = none → us.length = 0 ∧ c2 = 0) (hum : us.length ≤ maxLen) (hsz : ∀ x ∈ us, x.a.size ≤ maxLen ∧ x.b.size ≤ maxLen) (hc : Nts w A3 cs) (hcm : cs.length ≤ maxLen) :
    Calls Tryz.prog 3 #[.slice A zs.length c, .slice A2 us.length c2, .slice A3 cs.length c3] w (RT w) := by
  simp only [maxLen] at hzm hum hcm
  by_cases hz20 : (20 : Int) < zs.length
  · --<a0
    clear hz hst hu hc
    go_enter Tryz.func3, Tryz.ntmps3
    go_wp2_with (go_at_call 5; (with_reducible refine (awake _).mono ?_); rintro e w1 ⟨rfl, hb⟩; obtain ⟨s, rfl⟩ := ext_of_below hb; clear hb)
    go_ret
    exact ⟨rfl, by repeat' (first | exact Below.refl _ _ | refine below_ext ?_ ?_ _ | refine Below.alloc ?_ ?_ _ | refine Below.setCell ?_ ?_ _ | refine Below.drew ?_ | (rw [size_ext]; refine Nat.le_add_right_of_le ?_) | go_size | (rw [World.size_alloc]; refine Nat.le_add_right_of_le ?_))⟩
    -->a0
  by_cases hu20 : (20 : Int) < us.length
  · --<a1
    clear hz hst hu hc
    go_enter Tryz.func3, Tryz.ntmps3
    go_wp2_with (go_at_call 5; (with_reducible refine (awake _).mono ?_); rintro e w1 ⟨rfl, hb⟩; obtain ⟨s, rfl⟩ := ext_of_below hb; clear hb)
    go_ret
    exact ⟨rfl, by repeat' (first | exact Below.refl _ _ | refine below_ext ?_ ?_ _ | refine Below.alloc ?_ ?_ _ | refine Below.setCell ?_ ?_ _ | refine Below.drew ?_ | (rw [size_ext]; refine Nat.le_add_right_of_le ?_) | go_size | (rw [World.size_alloc]; refine Nat.le_add_right_of_le ?_))⟩
    -->a1
  obtain ⟨i0, hi0, hz0, hz1, hz2⟩ := info_parts info_ag
  obtain ⟨j0, hj0, hy0, hy1, hy2⟩ := info_parts info_ug
  have HCH := Lib.hid (rcheck_any zs A c w hz hzc (by omega) hst hsl)
  have HZ := Lib.hid hz
  have HAN := Lib.hid hzn
  have HST := Lib.hid hst
  have HSL := Lib.hid hsl
  have HU := Lib.hid hu
  have HUN := Lib.hid hun
  have HC := Lib.hid hc
  have HSZ := Lib.hid hsz
  clear hz hzn hst hsl hu hun hc hsz
  go_enter Tryz.func3, Tryz.ntmps3
  go_wp2_with (go_at_call 4; (with_reducible refine HCH.out.mono ?_); rintro e w1 ⟨n, rfl, hb⟩; have HB1 := Lib.hid hb; have HBW := Lib.hid hb; clear hb HCH; by_cases hn0 : n = 0)
  · have hsz1 := HB1.out.size
    subst hn0
    go_wp2
    refine gen_world2 (fun W => Mon W w1.heap.size ∧ UgV W (w1.heap.size + 1) (.slice (some ⟨w1.heap.size + 1, 0, none⟩) 0 0) [] ∧ Below w.heap.size w W ∧ w1.heap.size + 1 < W.heap.size) ?_ ?_
    · refine ⟨(Mon.made w1 _).alloc _, ?_, (HB1.out.alloc hsz1 _).alloc (by rw [World.size_alloc]; omega) _, by simp [go_sem]⟩
      have := own_lit0 (w1.alloc (.cells #[.int .i64 0, .int .i64 2678400] 29)) (w1.heap.size + 1) 12 UgT (by simp [go_sem])
      rw [World.size_alloc] at this
      exact this
    rintro W2 ⟨hmo, hug, hbw, hw2⟩
    have HMO := Lib.hid hmo
    have HUG := Lib.hid hug
    have HBW2 := Lib.hid hbw
    clear hmo hug hbw HB1 HBW
    go_loopw [8, 9] (fun v i wr => ∃ (k : Nat) (ps : List Ug) (vA : Option Addr) (vc : Nat), k ≤ us.length ∧ i = .int .i64 k ∧ v = .slice vA ps.length vc ∧ ps.length ≤ 2 * k ∧ Hid (partsF (us.take k) cs = ps) ∧ Hid (UgV wr (w1.heap.size + 1) (.slice vA ps.length vc) ps) ∧ Hid (Below (w1.heap.size + 1) W2 wr) ∧ Hid (∀ u ∈ us.take k, 0 ≤ u.n ∧ u.n ≤ 1099511627776)) (fun _ i _ => us.length - (intOf i).toNat)
    case atStart => exact ⟨0, [], some ⟨w1.heap.size + 1, 0, none⟩, 0, Nat.zero_le _, rfl, rfl, Nat.le_refl _, rfl, HUG.out, Below.refl _ _, fun u hu => by simp at hu⟩
    case round =>
      obtain ⟨k, ps, vA, vc, hk, rfl, rfl, hpl, HPS, HO, HB, HN⟩ := hrel
      have hszr := HB.out.size
      have HBW := Lib.hid (HBW2.out.trans (HB.out.mono (by omega)))
      by_cases hlt : k < us.length
      · obtain ⟨x, hx⟩ : ∃ s, us[k]? = some s := ⟨_, List.getElem?_eq_getElem hlt⟩
        obtain ⟨b, o, rfl, hb, y0, y1, y2, y3, y4, y5, y6, y7, y8, y9, y10, y11⟩ := ugs_cells HU.out hx
        have hbr : b < wr.heap.size := Nat.lt_of_lt_of_le hb HBW.out.size
        have hsx := HSZ.out x (List.mem_of_getElem? hx)
        have HS1 := Lib.hid (partsF_snoc hx cs)
        have HT1 := Lib.hid (take_snoc hx)
        replace y0 := keepL HBW.out hb y0
        replace y1 := keepL HBW.out hb y1
        replace y2 := keepL HBW.out hb y2
        replace y3 := keepL HBW.out hb y3
        replace y4 := keepL HBW.out hb y4
        replace y5 := keepL HBW.out hb y5
        replace y6 := keepL HBW.out hb y6
        replace y7 := keepL HBW.out hb y7
        replace y8 := keepL HBW.out hb y8
        replace y9 := keepL HBW.out hb y9
        replace y10 := keepL HBW.out hb y10
        replace y11 := keepL HBW.out hb y11
        clear hx
        obtain ⟨xid, xk, xac, xsu, xa, xb, xs, xn, xtr, xib, xso, xse⟩ := x
        dsimp only at y0 y1 y2 y3 y4 y5 y6 y7 y8 y9 y10 y11 hsx
        simp only [maxLen] at hsx
        obtain ⟨hsa, hsb⟩ := hsx
        by_cases hla : (20 : Int) < xa.size
        · --<b0
          go_wp2_with (first | (go_at_call 6; (with_reducible refine (usable_any ⟨xid, xk, xac, xsu, xa, xb, xs, xn, xtr, xib, xso, xse⟩ _).mono ?_); rintro e w3 ⟨⟨q, rfl, hq⟩, hb3⟩; obtain ⟨s3, rfl⟩ := ext_of_below hb3; clear hb3; cases q) | (go_at_call 5; (with_reducible refine (awake _).mono ?_); rintro e w1 ⟨rfl, hb⟩; obtain ⟨s, rfl⟩ := ext_of_below hb; clear hb))
          all_goals
            go_wp2_with (go_at_call 5; (with_reducible refine (awake _).mono ?_); rintro e w1 ⟨rfl, hb⟩; obtain ⟨s, rfl⟩ := ext_of_below hb; clear hb)
            try rw [Exit.noGoto_ret]
            go_ret
            exact ⟨rfl, by repeat' (first | with_reducible exact HBW.out | with_reducible exact Below.refl _ _ | with_reducible refine below_ext ?_ ?_ _ | with_reducible refine Below.alloc ?_ ?_ _ | with_reducible refine Below.setCell ?_ ?_ _ | with_reducible refine Below.drew ?_ | (simp; omega) | (simp; done) | (simp [go_sem]; omega) | (simp [go_sem]; done) | omega)⟩
          -->b0
        by_cases hlb : (20 : Int) < xb.size
        · --<b1
          go_wp2_with (first | (go_at_call 6; (with_reducible refine (usable_any ⟨xid, xk, xac, xsu, xa, xb, xs, xn, xtr, xib, xso, xse⟩ _).mono ?_); rintro e w3 ⟨⟨q, rfl, hq⟩, hb3⟩; obtain ⟨s3, rfl⟩ := ext_of_below hb3; clear hb3; cases q) | (go_at_call 5; (with_reducible refine (awake _).mono ?_); rintro e w1 ⟨rfl, hb⟩; obtain ⟨s, rfl⟩ := ext_of_below hb; clear hb))
          all_goals
            go_wp2_with (go_at_call 5; (with_reducible refine (awake _).mono ?_); rintro e w1 ⟨rfl, hb⟩; obtain ⟨s, rfl⟩ := ext_of_below hb; clear hb)
            try rw [Exit.noGoto_ret]
            go_ret
            exact ⟨rfl, by repeat' (first | with_reducible exact HBW.out | with_reducible exact Below.refl _ _ | with_reducible refine below_ext ?_ ?_ _ | with_reducible refine Below.alloc ?_ ?_ _ | with_reducible refine Below.setCell ?_ ?_ _ | with_reducible refine Below.drew ?_ | (simp; omega) | (simp; done) | (simp [go_sem]; omega) | (simp [go_sem]; done) | omega)⟩
          -->b1
        by_cases hkc : k < cs.length
        · obtain ⟨m, hmk⟩ : ∃ m, cs[k]? = some m := ⟨_, List.getElem?_eq_getElem hkc⟩
          obtain ⟨b3, o3, rfl, hb3, z0⟩ := nt_cell HC.out hmk
          have hb3r : b3 < wr.heap.size := Nat.lt_of_lt_of_le hb3 HBW.out.size
          replace z0 := keepL HBW.out hb3 z0
          have hd1 : decide (k < cs.length) = true := decide_eq_true hkc
          obtain ⟨hn1, hn2, hn3⟩ : (k : Int) < (cs.length : Int) ∧ (0 : Int) ≤ (k : Int) ∧ (k : Int) < (us.length : Int) := by omega
          by_cases hm0 : 0 < m
          · have hd2 : decide (0 < m) = true := decide_eq_true hm0
            by_cases hmn : m < xn
            · --<c0
              have hd3 : decide (m < xn) = true := decide_eq_true hmn
              have HS2 := Lib.hid (HS1.out.trans (by rw [hmk, cut1_yes hm0 hmn, HPS.out]))
              clear hmk
              go_wp2_with (go_at_call 6; (with_reducible refine (usable_any ⟨xid, xk, xac, xsu, xa, xb, xs, xn, xtr, xib, xso, xse⟩ _).mono ?_); rintro e w3 ⟨⟨q, rfl, hq⟩, hb3⟩; obtain ⟨s3, rfl⟩ := ext_of_below hb3; clear hb3; cases q)
              · go_wp2_with (go_at_call 5; (with_reducible refine (awake _).mono ?_); rintro e w1 ⟨rfl, hb⟩; obtain ⟨s, rfl⟩ := ext_of_below hb; clear hb)
                try rw [Exit.noGoto_ret]
                go_ret
                exact ⟨rfl, by repeat' (first | with_reducible exact HBW.out | with_reducible exact Below.refl _ _ | with_reducible refine below_ext ?_ ?_ _ | with_reducible refine Below.alloc ?_ ?_ _ | with_reducible refine Below.setCell ?_ ?_ _ | with_reducible refine Below.drew ?_ | (simp; omega) | (simp; done) | (simp [go_sem]; omega) | (simp [go_sem]; done) | omega)⟩
              have hun := hq rfl
              try dsimp only at hun
              go_wp2_with fail
              go_quiet (fail)
              rw [drewN_cat]
              refine gen_world2 (fun W => Below wr.heap.size wr W ∧ Blk W wr.heap.size [.int .i64 xid, .int .i64 xk, .int .i64 xac, .int .i64 xsu, .string xa, .string xb, .int .i64 xs, .int .i64 xn, .int .i64 xtr, .bool xib, .int .i64 xso, .int .i64 xse]) ?_ ?_
              · exact ⟨by repeat' (first | exact Below.refl _ _ | refine below_ext ?_ ?_ _ | refine Below.alloc ?_ ?_ _ | refine Below.setCell ?_ ?_ _ | refine Below.drew ?_ | (rw [size_ext]; refine Nat.le_add_right_of_le ?_) | go_size | (rw [World.size_alloc]; refine Nat.le_add_right_of_le ?_)), (Blk.made12 wr _ rfl _ _ _ _ _ _ _ _ _ _ _ _ _).ext _⟩
              rintro W3 ⟨hb4, hu4⟩
              have HB4 := Lib.hid hb4
              have HU4 := Lib.hid hu4
              have hs4 := hb4.size
              obtain ⟨⟨x0, x1, x2, x3, x4, x5, x6, x7, x8, x9, x10, x11⟩, xf, xl⟩ := blk12 hu4
              have HO4 := Lib.hid (HO.out.below hb4)
              have HO4lt := Lib.hid (fun q e => (World.ownsRow.lt HO.out.own q e).2)
              clear hb4 hu4 hq y0 y1 y2 y3 y4 y5 y6 y7 y8 y9 y10 y11
              have HB5 := Lib.hid (HB.out.trans (HB4.out.mono (by omega)))
              have z4 := keepL HB4.out hb3r z0
              have hb34 : b3 < W3.heap.size := by omega
              have hwx : IntKind.i64.wrap (xn - m) = xn - m := by simp (disch := omega) only [IntWalk.i64_in]
              go_wp2_with fail
              refine gen_world2 (fun W => Below W3.heap.size W3 W ∧ Blk W W3.heap.size [.int .i64 xid, .int .i64 xk, .int .i64 xac, .int .i64 xsu, .string xa, .string xb, .int .i64 xs, .int .i64 m, .int .i64 xtr, .bool xib, .int .i64 xso, .int .i64 xse]) ?_ ?_
              · exact ⟨by repeat' (first | exact Below.refl _ _ | refine below_ext ?_ ?_ _ | refine Below.alloc ?_ ?_ _ | refine Below.setCell ?_ ?_ _ | refine Below.drew ?_ | (rw [size_ext]; refine Nat.le_add_right_of_le ?_) | go_size | (rw [World.size_alloc]; refine Nat.le_add_right_of_le ?_)), Blk.made12 W3 _ rfl _ _ _ _ _ _ _ _ _ _ _ _ _⟩
              rintro W4 ⟨hb5, hv5⟩
              have HB6 := Lib.hid hb5
              have HV5 := Lib.hid hv5
              have HU5 := Lib.hid (HU4.out.below hb5)
              have hs5 := hb5.size
              obtain ⟨⟨v0, v1, v2, v3, v4, v5, v6, v7, v8, v9, v10, v11⟩, vf, vl⟩ := blk12 hv5
              obtain ⟨⟨x0, x1, x2, x3, x4, x5, x6, x7, x8, x9, x10, x11⟩, xf, -⟩ := blk12 HU5.out
              replace z4 := keepL HB6.out hb34 z4
              have hb35 : b3 < W4.heap.size := by omega
              have xl5 : wr.heap.size < W4.heap.size := by omega
              have HO5 := Lib.hid (HO4.out.below hb5)
              clear hb5 hv5
              go_still_tail 8, (by kernel_rfl)
              go_upto_region 15 with fail
              refine gen_world2 (fun W => Below wr.heap.size wr W ∧ Blk W wr.heap.size [.int .i64 xid, .int .i64 xk, .int .i64 xac, .int .i64 xsu, .string xa, .string xb, .int .i64 xs, .int .i64 (xn - m), .int .i64 xtr, .bool xib, .int .i64 xso, .int .i64 xse] ∧ Blk W W3.heap.size [.int .i64 xid, .int .i64 xk, .int .i64 xac, .int .i64 xsu, .string xa, .string xb, .int .i64 xs, .int .i64 m, .int .i64 xtr, .bool xib, .int .i64 xso, .int .i64 xse] ∧ UgV W (w1.heap.size + 1) (.slice vA ps.length vc) ps) ?_ ?_
              · have hkq : Kq wr.heap.size W4 (W4.setCell ⟨wr.heap.size, 7, none⟩ (.int .i64 (xn - m))) := (Kq.refl _ _).set
                refine ⟨Below.drew (((HB4.out.trans (HB6.out.mono hs4))).setCell (p := ⟨wr.heap.size, 7, none⟩) (Nat.le_refl _) _), (HU5.out.set (j := 7) (by simp) _).below (Below.drew (Below.refl _ _)), (HV5.out.kq hkq (by omega)).below (Below.drew (Below.refl _ _)), ?_⟩
                exact UgV.below (World.ownsRow.kept HO5.out.own hkq.toGrown (.inr (fun e => by have := (World.ownsRow.lt HO.out.own _ e).2; omega))) (Below.drew (Below.refl _ _))
              rintro W6 ⟨hb7, hu7, hv7, ho7⟩
              have HB7 := Lib.hid hb7
              have HU7 := Lib.hid hu7
              have HO7 := Lib.hid ho7
              have hs7 := hb7.size
              have HB8 := Lib.hid (HB.out.trans (HB7.out.mono (by omega)))
              obtain ⟨⟨v0, v1, v2, v3, v4, v5, v6, v7, v8, v9, v10, v11⟩, vf, vl⟩ := blk12 hv7
              clear hb7 hu7 hv7 ho7 x0 x1 x2 x3 x4 x5 x6 x7 x8 x9 x10 x11 xf xl xl5 hs4 hs5 hb34 hb35 HB4 HU4 HB5 HO4 HO4lt HB6 HV5 HU5 HO5
              go_wp2_with (first
                | (at_builtin; refine wpList_append_own _ rfl _ _ _ rfl (w1.heap.size + 1) UgT j0 _ 12 112 Tryz.underlying23 hj0 hy0 hy1 hy2 rfl (by decide) _ (ps).length ((ps).flatMap Ug.cells) rfl (World.ownsRow.alloc HO7.out.own _) ⟨W6.heap.size, 0, none⟩ 1 1 [.int .i64 xid, .int .i64 xk, .int .i64 xac, .int .i64 xsu, .string xa, .string xb, .int .i64 xs, .int .i64 m, .int .i64 xtr, .bool xib, .int .i64 xso, .int .i64 xse] rfl rfl (cells_new _ rfl) (ug_one1 (⟨xid, xk, xac, xsu, xa, xb, xs, m, xtr, xib, xso, xse⟩ : Ug)) (by simp only [maxLen]; first | omega | (simp; omega)) (by first | omega | (simp; omega)) (by simp [go_sem]; omega) ?_; intro v8 w8 hown8 hg8 hnil8; clear hnil8; obtain ⟨vA8, vc8, rfl, -⟩ := own_form hown8; have HO8 := Lib.hid (UgV.snoc (x := (⟨xid, xk, xac, xsu, xa, xb, xs, m, xtr, xib, xso, xse⟩ : Ug)) hown8 rfl); have HB9 := Lib.hid (below_grown (B := w1.heap.size + 1) ((HB8.out.alloc (by omega) _)) hg8 (by simp [go_sem]; omega) (fun q e => (World.ownsRow.lt HO7.out.own q e).1)); have HU9 := Lib.hid (Blk.grown (HU7.out.alloc _) hg8 (fun e => by have := (World.ownsRow.lt HO.out.own _ e.symm).2; omega)); obtain ⟨⟨x0, x1, x2, x3, x4, x5, x6, x7, x8, x9, x10, x11⟩, xf, xl⟩ := blk12 HU9.out; have hs9 := HB9.out.size; clear hown8 hg8)
                | (at_builtin; refine wpList_append_own _ rfl _ _ _ rfl (w1.heap.size + 1) UgT j0 _ 12 112 Tryz.underlying23 hj0 hy0 hy1 hy2 rfl (by decide) _ ((ps ++ [(⟨xid, xk, xac, xsu, xa, xb, xs, m, xtr, xib, xso, xse⟩ : Ug)])).length (((ps ++ [(⟨xid, xk, xac, xsu, xa, xb, xs, m, xtr, xib, xso, xse⟩ : Ug)])).flatMap Ug.cells) rfl (World.ownsRow.alloc HO8.out.own _) ⟨w8.heap.size, 0, none⟩ 1 1 [.int .i64 xid, .int .i64 xk, .int .i64 xac, .int .i64 xsu, .string xa, .string xb, .int .i64 xs, .int .i64 (xn - m), .int .i64 xtr, .bool xib, .int .i64 xso, .int .i64 xse] rfl rfl (cells_new _ rfl) (ug_one1 (⟨xid, xk, xac, xsu, xa, xb, xs, (xn - m), xtr, xib, xso, xse⟩ : Ug)) (by simp only [maxLen]; first | omega | (simp; omega)) (by first | omega | (simp; omega)) (by simp [go_sem]; omega) ?_; intro v10 w10 hown10 hg10 hnil10; clear hnil10; obtain ⟨vA10, vc10, rfl, -⟩ := own_form hown10; have HO10 := Lib.hid (UgV.snoc (x := (⟨xid, xk, xac, xsu, xa, xb, xs, (xn - m), xtr, xib, xso, xse⟩ : Ug)) hown10 rfl); have HB10 := Lib.hid (below_grown (B := w1.heap.size + 1) ((HB9.out.alloc (by omega) _)) hg10 (by simp [go_sem]; omega) (fun q e => (World.ownsRow.lt HO8.out.own q e).1)); clear hown10 hg10))
              go_roundw
              case rel =>
                refine ⟨k + 1, ps ++ [(⟨xid, xk, xac, xsu, xa, xb, xs, m, xtr, xib, xso, xse⟩ : Ug)] ++ [(⟨xid, xk, xac, xsu, xa, xb, xs, (xn - m), xtr, xib, xso, xse⟩ : Ug)], vA10, vc10, by omega, by go_num, by simp, by simp; omega, Lib.hid (by rw [HS2.out]; simp), by simpa using HO10, HB10.out, fun u hu => ?_⟩
                rw [HT1.out] at hu
                rcases List.mem_append.1 hu with hu | hu
                · exact HN.out u hu
                · rw [List.mem_singleton.1 hu]
                  exact hun
              case measure => simp [intOf]; omega
              -->c0
            · --<c1
              have hd3 : decide (m < xn) = false := decide_eq_false hmn
              have HS2 := Lib.hid (HS1.out.trans (by rw [hmk, cut1_no (fun q e => by cases e; exact fun h => hmn h.2), HPS.out]))
              clear hmk
              go_wp2_with (go_at_call 6; (with_reducible refine (usable_any ⟨xid, xk, xac, xsu, xa, xb, xs, xn, xtr, xib, xso, xse⟩ _).mono ?_); rintro e w3 ⟨⟨q, rfl, hq⟩, hb3⟩; obtain ⟨s3, rfl⟩ := ext_of_below hb3; clear hb3; cases q)
              · go_wp2_with (go_at_call 5; (with_reducible refine (awake _).mono ?_); rintro e w1 ⟨rfl, hb⟩; obtain ⟨s, rfl⟩ := ext_of_below hb; clear hb)
                try rw [Exit.noGoto_ret]
                go_ret
                exact ⟨rfl, by repeat' (first | with_reducible exact HBW.out | with_reducible exact Below.refl _ _ | with_reducible refine below_ext ?_ ?_ _ | with_reducible refine Below.alloc ?_ ?_ _ | with_reducible refine Below.setCell ?_ ?_ _ | with_reducible refine Below.drew ?_ | (simp; omega) | (simp; done) | (simp [go_sem]; omega) | (simp [go_sem]; done) | omega)⟩
              have hun := hq rfl
              try dsimp only at hun
              go_wp2_with fail
              go_quiet (fail)
              rw [drewN_cat]
              refine gen_world2 (fun W => Below wr.heap.size wr W ∧ Blk W wr.heap.size [.int .i64 xid, .int .i64 xk, .int .i64 xac, .int .i64 xsu, .string xa, .string xb, .int .i64 xs, .int .i64 xn, .int .i64 xtr, .bool xib, .int .i64 xso, .int .i64 xse]) ?_ ?_
              · exact ⟨by repeat' (first | exact Below.refl _ _ | refine below_ext ?_ ?_ _ | refine Below.alloc ?_ ?_ _ | refine Below.setCell ?_ ?_ _ | refine Below.drew ?_ | (rw [size_ext]; refine Nat.le_add_right_of_le ?_) | go_size | (rw [World.size_alloc]; refine Nat.le_add_right_of_le ?_)), (Blk.made12 wr _ rfl _ _ _ _ _ _ _ _ _ _ _ _ _).ext _⟩
              rintro W3 ⟨hb4, hu4⟩
              have HB4 := Lib.hid hb4
              have HU4 := Lib.hid hu4
              have hs4 := hb4.size
              obtain ⟨⟨x0, x1, x2, x3, x4, x5, x6, x7, x8, x9, x10, x11⟩, xf, xl⟩ := blk12 hu4
              have HO4 := Lib.hid (HO.out.below hb4)
              have HO4lt := Lib.hid (fun q e => (World.ownsRow.lt HO.out.own q e).2)
              clear hb4 hu4 hq y0 y1 y2 y3 y4 y5 y6 y7 y8 y9 y10 y11
              have HB5 := Lib.hid (HB.out.trans (HB4.out.mono (by omega)))
              go_wp2_with (at_builtin; refine wpList_append_own _ rfl _ _ _ rfl (w1.heap.size + 1) UgT j0 _ 12 112 Tryz.underlying23 hj0 hy0 hy1 hy2 rfl (by decide) _ (ps).length ((ps).flatMap Ug.cells) rfl (World.ownsRow.alloc HO4.out.own _) ⟨W3.heap.size, 0, none⟩ 1 1 [.int .i64 xid, .int .i64 xk, .int .i64 xac, .int .i64 xsu, .string xa, .string xb, .int .i64 xs, .int .i64 xn, .int .i64 xtr, .bool xib, .int .i64 xso, .int .i64 xse] rfl rfl (cells_new _ rfl) (ug_one1 (⟨xid, xk, xac, xsu, xa, xb, xs, xn, xtr, xib, xso, xse⟩ : Ug)) (by simp only [maxLen]; first | omega | (simp; omega)) (by first | omega | (simp; omega)) (by simp [go_sem]; omega) ?_; intro v6 w6 hown6 hg6 hnil6; clear hnil6; obtain ⟨vA6, vc6, rfl, -⟩ := own_form hown6; have HO6 := Lib.hid (UgV.snoc (x := (⟨xid, xk, xac, xsu, xa, xb, xs, xn, xtr, xib, xso, xse⟩ : Ug)) hown6 rfl); have HB6 := Lib.hid (below_grown (B := w1.heap.size + 1) ((HB5.out.alloc (by omega) _)) hg6 (by simp [go_sem]; omega) (fun q e => (World.ownsRow.lt HO4.out.own q e).1)); clear hown6 hg6)
              go_roundw
              case rel => exact ⟨k + 1, ps ++ [(⟨xid, xk, xac, xsu, xa, xb, xs, xn, xtr, xib, xso, xse⟩ : Ug)], vA6, vc6, by omega, by go_num, by simp, by simp; omega, HS2.out, by simpa using HO6, HB6.out, fun u hu => by rw [HT1.out] at hu; rcases List.mem_append.1 hu with hu | hu; (· exact HN.out u hu); (· rw [List.mem_singleton.1 hu]; exact hun)⟩
              case measure => simp [intOf]; omega
              -->c1
          · --<c2
            have hd2 : decide (0 < m) = false := decide_eq_false hm0
            have HS2 := Lib.hid (HS1.out.trans (by rw [hmk, cut1_no (fun q e => by cases e; exact fun h => hm0 h.1), HPS.out]))
            clear hmk
            go_wp2_with (go_at_call 6; (with_reducible refine (usable_any ⟨xid, xk, xac, xsu, xa, xb, xs, xn, xtr, xib, xso, xse⟩ _).mono ?_); rintro e w3 ⟨⟨q, rfl, hq⟩, hb3⟩; obtain ⟨s3, rfl⟩ := ext_of_below hb3; clear hb3; cases q)
            · go_wp2_with (go_at_call 5; (with_reducible refine (awake _).mono ?_); rintro e w1 ⟨rfl, hb⟩; obtain ⟨s, rfl⟩ := ext_of_below hb; clear hb)
              try rw [Exit.noGoto_ret]
              go_ret
              exact ⟨rfl, by repeat' (first | with_reducible exact HBW.out | with_reducible exact Below.refl _ _ | with_reducible refine below_ext ?_ ?_ _ | with_reducible refine Below.alloc ?_ ?_ _ | with_reducible refine Below.setCell ?_ ?_ _ | with_reducible refine Below.drew ?_ | (simp; omega) | (simp; done) | (simp [go_sem]; omega) | (simp [go_sem]; done) | omega)⟩
            have hun := hq rfl
            try dsimp only at hun
            go_wp2_with fail
            go_quiet (fail)
            rw [drewN_cat]
            refine gen_world2 (fun W => Below wr.heap.size wr W ∧ Blk W wr.heap.size [.int .i64 xid, .int .i64 xk, .int .i64 xac, .int .i64 xsu, .string xa, .string xb, .int .i64 xs, .int .i64 xn, .int .i64 xtr, .bool xib, .int .i64 xso, .int .i64 xse]) ?_ ?_
            · exact ⟨by repeat' (first | exact Below.refl _ _ | refine below_ext ?_ ?_ _ | refine Below.alloc ?_ ?_ _ | refine Below.setCell ?_ ?_ _ | refine Below.drew ?_ | (rw [size_ext]; refine Nat.le_add_right_of_le ?_) | go_size | (rw [World.size_alloc]; refine Nat.le_add_right_of_le ?_)), (Blk.made12 wr _ rfl _ _ _ _ _ _ _ _ _ _ _ _ _).ext _⟩
            rintro W3 ⟨hb4, hu4⟩
            have HB4 := Lib.hid hb4
            have HU4 := Lib.hid hu4
            have hs4 := hb4.size
            obtain ⟨⟨x0, x1, x2, x3, x4, x5, x6, x7, x8, x9, x10, x11⟩, xf, xl⟩ := blk12 hu4
            have HO4 := Lib.hid (HO.out.below hb4)
            have HO4lt := Lib.hid (fun q e => (World.ownsRow.lt HO.out.own q e).2)
            clear hb4 hu4 hq y0 y1 y2 y3 y4 y5 y6 y7 y8 y9 y10 y11
            have HB5 := Lib.hid (HB.out.trans (HB4.out.mono (by omega)))
            go_wp2_with (at_builtin; refine wpList_append_own _ rfl _ _ _ rfl (w1.heap.size + 1) UgT j0 _ 12 112 Tryz.underlying23 hj0 hy0 hy1 hy2 rfl (by decide) _ (ps).length ((ps).flatMap Ug.cells) rfl (World.ownsRow.alloc HO4.out.own _) ⟨W3.heap.size, 0, none⟩ 1 1 [.int .i64 xid, .int .i64 xk, .int .i64 xac, .int .i64 xsu, .string xa, .string xb, .int .i64 xs, .int .i64 xn, .int .i64 xtr, .bool xib, .int .i64 xso, .int .i64 xse] rfl rfl (cells_new _ rfl) (ug_one1 (⟨xid, xk, xac, xsu, xa, xb, xs, xn, xtr, xib, xso, xse⟩ : Ug)) (by simp only [maxLen]; first | omega | (simp; omega)) (by first | omega | (simp; omega)) (by simp [go_sem]; omega) ?_; intro v6 w6 hown6 hg6 hnil6; clear hnil6; obtain ⟨vA6, vc6, rfl, -⟩ := own_form hown6; have HO6 := Lib.hid (UgV.snoc (x := (⟨xid, xk, xac, xsu, xa, xb, xs, xn, xtr, xib, xso, xse⟩ : Ug)) hown6 rfl); have HB6 := Lib.hid (below_grown (B := w1.heap.size + 1) ((HB5.out.alloc (by omega) _)) hg6 (by simp [go_sem]; omega) (fun q e => (World.ownsRow.lt HO4.out.own q e).1)); clear hown6 hg6)
            go_roundw
            case rel => exact ⟨k + 1, ps ++ [(⟨xid, xk, xac, xsu, xa, xb, xs, xn, xtr, xib, xso, xse⟩ : Ug)], vA6, vc6, by omega, by go_num, by simp, by simp; omega, HS2.out, by simpa using HO6, HB6.out, fun u hu => by rw [HT1.out] at hu; rcases List.mem_append.1 hu with hu | hu; (· exact HN.out u hu); (· rw [List.mem_singleton.1 hu]; exact hun)⟩
            case measure => simp [intOf]; omega
            -->c2
        · --<c3
          have hd1 : decide (k < cs.length) = false := decide_eq_false hkc
          have hn3 : (k : Int) < (us.length : Int) := by omega
          have HS2 := Lib.hid (HS1.out.trans (by rw [List.getElem?_eq_none (by omega), cut1_no (fun q e => by cases e), HPS.out]))
          go_wp2_with (go_at_call 6; (with_reducible refine (usable_any ⟨xid, xk, xac, xsu, xa, xb, xs, xn, xtr, xib, xso, xse⟩ _).mono ?_); rintro e w3 ⟨⟨q, rfl, hq⟩, hb3⟩; obtain ⟨s3, rfl⟩ := ext_of_below hb3; clear hb3; cases q)
          · go_wp2_with (go_at_call 5; (with_reducible refine (awake _).mono ?_); rintro e w1 ⟨rfl, hb⟩; obtain ⟨s, rfl⟩ := ext_of_below hb; clear hb)
            try rw [Exit.noGoto_ret]
            go_ret
            exact ⟨rfl, by repeat' (first | with_reducible exact HBW.out | with_reducible exact Below.refl _ _ | with_reducible refine below_ext ?_ ?_ _ | with_reducible refine Below.alloc ?_ ?_ _ | with_reducible refine Below.setCell ?_ ?_ _ | with_reducible refine Below.drew ?_ | (simp; omega) | (simp; done) | (simp [go_sem]; omega) | (simp [go_sem]; done) | omega)⟩
          have hun := hq rfl
          try dsimp only at hun
          go_wp2_with fail
          go_quiet (fail)
          rw [drewN_cat]
          refine gen_world2 (fun W => Below wr.heap.size wr W ∧ Blk W wr.heap.size [.int .i64 xid, .int .i64 xk, .int .i64 xac, .int .i64 xsu, .string xa, .string xb, .int .i64 xs, .int .i64 xn, .int .i64 xtr, .bool xib, .int .i64 xso, .int .i64 xse]) ?_ ?_
          · exact ⟨by repeat' (first | exact Below.refl _ _ | refine below_ext ?_ ?_ _ | refine Below.alloc ?_ ?_ _ | refine Below.setCell ?_ ?_ _ | refine Below.drew ?_ | (rw [size_ext]; refine Nat.le_add_right_of_le ?_) | go_size | (rw [World.size_alloc]; refine Nat.le_add_right_of_le ?_)), (Blk.made12 wr _ rfl _ _ _ _ _ _ _ _ _ _ _ _ _).ext _⟩
          rintro W3 ⟨hb4, hu4⟩
          have HB4 := Lib.hid hb4
          have HU4 := Lib.hid hu4
          have hs4 := hb4.size
          obtain ⟨⟨x0, x1, x2, x3, x4, x5, x6, x7, x8, x9, x10, x11⟩, xf, xl⟩ := blk12 hu4
          have HO4 := Lib.hid (HO.out.below hb4)
          have HO4lt := Lib.hid (fun q e => (World.ownsRow.lt HO.out.own q e).2)
          clear hb4 hu4 hq y0 y1 y2 y3 y4 y5 y6 y7 y8 y9 y10 y11
          have HB5 := Lib.hid (HB.out.trans (HB4.out.mono (by omega)))
          go_wp2_with (at_builtin; refine wpList_append_own _ rfl _ _ _ rfl (w1.heap.size + 1) UgT j0 _ 12 112 Tryz.underlying23 hj0 hy0 hy1 hy2 rfl (by decide) _ (ps).length ((ps).flatMap Ug.cells) rfl (World.ownsRow.alloc HO4.out.own _) ⟨W3.heap.size, 0, none⟩ 1 1 [.int .i64 xid, .int .i64 xk, .int .i64 xac, .int .i64 xsu, .string xa, .string xb, .int .i64 xs, .int .i64 xn, .int .i64 xtr, .bool xib, .int .i64 xso, .int .i64 xse] rfl rfl (cells_new _ rfl) (ug_one1 (⟨xid, xk, xac, xsu, xa, xb, xs, xn, xtr, xib, xso, xse⟩ : Ug)) (by simp only [maxLen]; first | omega | (simp; omega)) (by first | omega | (simp; omega)) (by simp [go_sem]; omega) ?_; intro v6 w6 hown6 hg6 hnil6; clear hnil6; obtain ⟨vA6, vc6, rfl, -⟩ := own_form hown6; have HO6 := Lib.hid (UgV.snoc (x := (⟨xid, xk, xac, xsu, xa, xb, xs, xn, xtr, xib, xso, xse⟩ : Ug)) hown6 rfl); have HB6 := Lib.hid (below_grown (B := w1.heap.size + 1) ((HB5.out.alloc (by omega) _)) hg6 (by simp [go_sem]; omega) (fun q e => (World.ownsRow.lt HO4.out.own q e).1)); clear hown6 hg6)
          go_roundw
          case rel => exact ⟨k + 1, ps ++ [(⟨xid, xk, xac, xsu, xa, xb, xs, xn, xtr, xib, xso, xse⟩ : Ug)], vA6, vc6, by omega, by go_num, by simp, by simp; omega, HS2.out, by simpa using HO6, HB6.out, fun u hu => by rw [HT1.out] at hu; rcases List.mem_append.1 hu with hu | hu; (· exact HN.out u hu); (· rw [List.mem_singleton.1 hu]; exact hun)⟩
          case measure => simp [intOf]; omega
          -->c3
      · --<d
        obtain rfl : k = us.length := by omega
        have HPS2 := Lib.hid (show partsF us cs = ps by have := HPS.out; rwa [List.take_length] at this)
        have HN2 := Lib.hid (show ∀ u ∈ us, 0 ≤ u.n ∧ u.n ≤ 1099511627776 by have := HN.out; rwa [List.take_length] at this)
        have HM2 := Lib.hid (HMO.out.ofBelow HB.out (Nat.lt_succ_self _))
        have HB0 := HBW
        have hzl : zs.length ≤ 20 := by omega
        have HU8 : Hid (Ugs wr vA ps) := by
          obtain ⟨A_, c_, e_, h_⟩ := HO.out.ugs
          simp only [Value.slice.injEq, true_and] at e_
          obtain ⟨rfl, rfl⟩ := e_
          exact h_
        clear HMO HUG HBW2 HPS HO HB HN HBW
        go_wp2_with fail
        refine region_genS (S := [114, 108, 111, 113, 115, 112, 106, 109, 107, 110, 12, 13, 105]) 124 (fun f w' => FinV w' wr.heap.size (f 12) (stmF zs us) ∧ f 13 = .int .i64 (stmF zs us).err ∧ Below wr.heap.size wr w') ?_ (by simp) ?_
        · rintro f1 W7 ⟨hf12, hf13, hf⟩
          obtain ⟨q1, p1, fr1, t1, x1, e12, hq1, hblk1, hoc1⟩ := hf12
          have HM2 := Lib.hid (HM2.out.below hf)
          have HU8 := Lib.hid (HU8.out.below hf)
          have HB0 := Lib.hid (HB0.out.trans (hf.mono HB0.out.size))
          have HK1 := Lib.hid hblk1
          have HC1 := Lib.hid hoc1
          have E12 := Lib.hid e12
          have E13 := Lib.hid hf13
          have hs7 := hf.size
          clear hf hblk1 hoc1 e12 hf13
          simp only [TS, List.mapIdx_toArray, List.mapIdx_cons, List.mapIdx_nil]
          go_wp2_with fail
          rw [E12.out, E13.out]
          refine region_genS (S := [123, 119, 122, 124, 121, 117, 118, 120, 14, 15, 116]) 124 (fun f w' => FinV w' W7.heap.size (f 14) (stmF zs ps) ∧ f 15 = .int .i64 (stmF zs ps).err ∧ Below W7.heap.size W7 w') ?_ (by simp) ?_
          · rintro f2 W8 ⟨hf14, hf15, hf2⟩
            obtain ⟨q2, p2, fr2, t2, x2, e14, hq2, hblk2, hoc2⟩ := hf14
            obtain ⟨s1, s2, s3, s4⟩ := stm_same zs us cs HN2.out
            rw [HPS2.out] at s1 s2 s3 s4
            rw [s1] at hf15
            rw [s2] at hblk2
            have HMST := Lib.hid (fun x hx => stm_most zs us x hx)
            obtain ⟨C1, k1, rfl, -⟩ := own_form HC1.out
            obtain ⟨C2, k2, rfl, -⟩ := own_form hoc2
            rw [s3] at hblk2
            have HC1 := Lib.hid (OC.below HC1.out hf2)
            have HK1 := Lib.hid (HK1.out.below hf2)
            have HC2 := Lib.hid hoc2
            have HK2 := Lib.hid hblk2
            have HS4 := Lib.hid s4
            have HS3 := Lib.hid s3
            have HB8 := Lib.hid (HB0.out.trans (hf2.mono HB0.out.size))
            have E14 := Lib.hid e14
            have E15 := Lib.hid hf15
            clear hf2 hblk2 hoc2 e14 hf15 s1 s2 s3 s4 HU8 HM2 HB0 E12 E13
            simp only [TS, List.mapIdx_toArray, List.mapIdx_cons, List.mapIdx_nil]
            generalize stmF zs ps = S2 at *
            generalize stmF zs us = S1 at *
            have n3 := (HK1.out.2 3 _ rfl).1
            have n4 := (HK1.out.2 4 _ rfl).1
            have o3 := (HK2.out.2 3 _ rfl).1
            have o4 := (HK2.out.2 4 _ rfl).1
            have q1l := HK1.out.1
            have hcl := own_len HC1.out
            simp only [maxLen] at hcl
            have q2l := HK2.out.1
            have e14 := E14.out
            have e15 := E15.out
            go_wp2
            go_loopw [16] (fun i wr => ∃ k : Nat, k ≤ S1.cs.length ∧ i = .int .i64 k ∧ Hid (Below W8.heap.size W8 wr)) (fun i _ => S1.cs.length - (intOf i).toNat)
            case atStart => exact ⟨0, Nat.zero_le _, rfl, Below.refl _ _⟩
            case round =>
              obtain ⟨k, hk, rfl, HB⟩ := hrel
              have hszr := HB.out.size
              have HBW := Lib.hid (HB8.out.trans (HB.out.mono HB8.out.size))
              have q1r : q1 < wr.heap.size := by omega
              have q2r : q2 < wr.heap.size := by omega
              have n3 := keepL HB.out q1l n3
              have o3 := keepL HB.out q2l o3
              by_cases hlt : k < S1.cs.length
              · --<f
                obtain ⟨x, hx⟩ : ∃ s, S1.cs[k]? = some s := ⟨_, List.getElem?_eq_getElem hlt⟩
                obtain ⟨y, hy⟩ : ∃ s, S2.cs[k]? = some s := ⟨_, List.getElem?_eq_getElem (by rw [HS3.out]; exact hlt)⟩
                have hxy := HS4.out k x y hx hy
                have HM := Lib.hid (HMST.out x (List.mem_of_getElem? hx))
                obtain ⟨g1, c1_, e1_, g1l, a0, a1, a2, a3, a4⟩ := oc_at HC1.out hx
                obtain ⟨g2, c2_, e2_, g2l, b0, b1, b2, b3, b4⟩ := oc_at HC2.out hy
                simp only [Value.slice.injEq, true_and] at e1_ e2_
                obtain ⟨rfl, rfl⟩ := e1_
                obtain ⟨rfl, rfl⟩ := e2_
                clear hx hy
                obtain ⟨xk, xib, xc, xu, xa⟩ := x
                obtain ⟨yk, yib, yc, yu, ya⟩ := y
                obtain ⟨h1_, h2_, h3_, h4_, hle⟩ := hxy
                dsimp only at h1_ h2_ h3_ h4_ hle a0 a1 a2 a3 a4 b0 b1 b2 b3 b4 HM
                subst h1_ h2_ h3_ h4_
                replace a0 := keepL HB.out g1l a0
                replace a1 := keepL HB.out g1l a1
                replace a2 := keepL HB.out g1l a2
                replace a3 := keepL HB.out g1l a3
                replace a4 := keepL HB.out g1l a4
                replace b0 := keepL HB.out g2l b0
                replace b1 := keepL HB.out g2l b1
                replace b2 := keepL HB.out g2l b2
                replace b3 := keepL HB.out g2l b3
                replace b4 := keepL HB.out g2l b4
                have g1r : g1 < wr.heap.size := by omega
                have g2r : g2 < wr.heap.size := by omega
                obtain ⟨hn1, hn2⟩ : (k : Int) < (S1.cs.length : Int) ∧ (0 : Int) ≤ (k : Int) := by omega
                go_wp2_with fail
                go_region_held3 (fun w' => w'.cell? ⟨q1, 3, none⟩ = some (.slice (some ⟨g1, 0, none⟩) S1.cs.length k1) ∧ w'.cell? ⟨q2, 3, none⟩ = some (.slice (some ⟨g2, 0, none⟩) S1.cs.length k2) ∧ w'.cell? ⟨g1, k * 5, none⟩ = some (.int .i64 xk) ∧ w'.cell? ⟨g1, k * 5 + 1, none⟩ = some (.bool xib) ∧ w'.cell? ⟨g1, k * 5 + 2, none⟩ = some (.int .i64 xc) ∧ w'.cell? ⟨g1, k * 5 + 3, none⟩ = some (.int .i64 xu) ∧ w'.cell? ⟨g1, k * 5 + 4, none⟩ = some (.int .i64 xa) ∧ w'.cell? ⟨g2, k * 5, none⟩ = some (.int .i64 xk) ∧ w'.cell? ⟨g2, k * 5 + 1, none⟩ = some (.bool xib) ∧ w'.cell? ⟨g2, k * 5 + 2, none⟩ = some (.int .i64 yc) ∧ w'.cell? ⟨g2, k * 5 + 3, none⟩ = some (.int .i64 xu) ∧ w'.cell? ⟨g2, k * 5 + 4, none⟩ = some (.int .i64 xa))
                  ((with_reducible refine ⟨keepL (W := wr) ?_ q1r n3, keepL (W := wr) ?_ q2r o3, keepL (W := wr) ?_ g1r a0, keepL (W := wr) ?_ g1r a1, keepL (W := wr) ?_ g1r a2, keepL (W := wr) ?_ g1r a3, keepL (W := wr) ?_ g1r a4, keepL (W := wr) ?_ g2r b0, keepL (W := wr) ?_ g2r b1, keepL (W := wr) ?_ g2r b2, keepL (W := wr) ?_ g2r b3, keepL (W := wr) ?_ g2r b4⟩ <;> (repeat' (first | exact Below.refl _ _ | refine below_ext ?_ ?_ _ | refine Below.alloc ?_ ?_ _ | refine Below.setCell ?_ ?_ _ | refine Below.drew ?_ | (rw [size_ext]; refine Nat.le_add_right_of_le ?_) | go_size | (rw [World.size_alloc]; refine Nat.le_add_right_of_le ?_)))))
                  (fail)
                · --<h1
                  refine gen_world2 (fun W => Below wr.heap.size wr W ∧ Blk W (wr.heap.size) [.int .i64 xk, .bool xib, .int .i64 xc, .int .i64 xu, .int .i64 xa] ∧ Blk W (wr.heap.size + 1) [.int .i64 xk, .bool xib, .int .i64 yc, .int .i64 xu, .int .i64 xa]) ?_ ?_
                  · exact ⟨by repeat' (first | exact Below.refl _ _ | refine below_ext ?_ ?_ _ | refine Below.alloc ?_ ?_ _ | refine Below.setCell ?_ ?_ _ | refine Below.drew ?_ | (rw [size_ext]; refine Nat.le_add_right_of_le ?_) | go_size | (rw [World.size_alloc]; refine Nat.le_add_right_of_le ?_)), ((Blk.made5 wr _ _ _ _ _ _).alloc _).below (Below.drew (Below.refl _ _)), (Blk.made5' wr _ _ _ _ _ _ _).below (Below.drew (Below.refl _ _))⟩
                  rintro W9 ⟨hb9, hm9, hp9⟩
                  have HB9 := Lib.hid hb9
                  have hs9 := hb9.size
                  have HBA := Lib.hid (HB.out.trans (HB9.out.mono HB.out.size))
                  have HBB := Lib.hid (HBW.out.trans (HB9.out.mono HBW.out.size))
                  have ml := hm9.1
                  clear hb9
                  have m0 := (hm9.2 0 _ rfl).1
                  have m1 := (hm9.2 1 _ rfl).1
                  have m2 := (hm9.2 2 _ rfl).1
                  have m3 := (hm9.2 3 _ rfl).1
                  have m4 := (hm9.2 4 _ rfl).1
                  have p0 := (hp9.2 0 _ rfl).1
                  have p1 := (hp9.2 1 _ rfl).1
                  have p2 := (hp9.2 2 _ rfl).1
                  have p3 := (hp9.2 3 _ rfl).1
                  have p4 := (hp9.2 4 _ rfl).1
                  have pl := hp9.1
                  clear hm9 hp9 a0 a1 a2 a3 a4 b0 b1 b2 b3 b4 n3 o3
                  go_wp2
                  go_loopw [19, 20] (fun mv j w3 => ∃ (i : Nat) (mm : Int), i ≤ zs.length ∧ j = .int .i64 i ∧ mv = .int .i64 mm ∧ Hid (mostF ⟨xk, xib, xc, xu, xa⟩ (zs.take i) = mm) ∧ Hid (Below W9.heap.size W9 w3)) (fun _ j _ => zs.length - (intOf j).toNat)
                  case atStart => exact ⟨0, 0, Nat.zero_le _, rfl, rfl, rfl, Below.refl _ _⟩
                  case round =>
                    obtain ⟨i, mm, hi, rfl, rfl, hmm, HB3⟩ := hrel
                    have hs3 := HB3.out.size
                    have HBC := Lib.hid (HBB.out.trans (HB3.out.mono HBB.out.size))
                    replace m0 := keepL HB3.out ml m0
                    replace m1 := keepL HB3.out ml m1
                    replace m2 := keepL HB3.out ml m2
                    replace m3 := keepL HB3.out ml m3
                    replace m4 := keepL HB3.out ml m4
                    have ml3 := Nat.lt_of_lt_of_le ml hs3
                    by_cases hlt2 : i < zs.length
                    · obtain ⟨z, hz⟩ : ∃ s, zs[i]? = some s := ⟨_, List.getElem?_eq_getElem hlt2⟩
                      obtain ⟨b, o, rfl, hb, x0, x1, x2, x3, x4, x5, x6⟩ := ags_cells HZ.out hz
                      replace x0 := keepL HBC.out hb x0
                      replace x1 := keepL HBC.out hb x1
                      replace x2 := keepL HBC.out hb x2
                      replace x5 := keepL HBC.out hb x5
                      replace x6 := keepL HBC.out hb x6
                      have hms := Lib.hid (show mostF ⟨xk, xib, xc, xu, xa⟩ (zs.take (i + 1)) = mostS ⟨xk, xib, xc, xu, xa⟩ mm z by rw [take_snoc hz, mostF_snoc, hmm.out])
                      have hbr : b < wr.heap.size := Nat.lt_of_lt_of_le hb HBC.out.size
                      obtain ⟨hi1, hi2⟩ : (i : Int) < (zs.length : Int) ∧ (0 : Int) ≤ (i : Int) := by omega
                      clear hz x3 x4
                      obtain ⟨zp, zk, zib, zf, zt, zA, zc, zst, zcap⟩ := z
                      dsimp only at x0 x1 x2 x5 x6 hms
                      by_cases c1 : zp = 7
                      · have e1 : (zp == 7) = true := by simpa using c1
                        by_cases c2 : zk = xk
                        · have e2 : (zk == xk) = true := by simpa using c2
                          by_cases c3 : zib = xib
                          · have hyes := Lib.hid (show mostF ⟨xk, xib, xc, xu, xa⟩ (zs.take (i + 1)) = max (if zcap = 0 then 1125899906842624 else mm) zcap by rw [hms.out]; unfold mostS; rw [if_pos ⟨c1, c2, c3⟩])
                            subst c3
                            clear hms
                            by_cases c4 : zcap = 0
                            · subst c4
                              have hy2 := Lib.hid (show mostF ⟨xk, zib, xc, xu, xa⟩ (zs.take (i + 1)) = 1125899906842624 by rw [hyes.out, if_pos rfl]; omega)
                              go_wp2_with fail
                              go_quiet (fail)
                              rw [drewN_ext']
                              go_wp2
                              go_roundw
                              case rel => exact ⟨i + 1, 1125899906842624, by omega, by go_num, rfl, hy2.out, Lib.hid (below_ext HB3.out HB3.out.size _)⟩
                              case measure => simp [intOf]; omega
                            · have e4 : (zcap == 0) = false := by simpa using c4
                              by_cases c5 : mm < zcap
                              · have hy2 := Lib.hid (show mostF ⟨xk, zib, xc, xu, xa⟩ (zs.take (i + 1)) = zcap by rw [hyes.out, if_neg c4]; omega)
                                clear hyes
                                go_wp2_with fail
                                go_quiet (fail)
                                rw [drewN_ext']
                                go_wp2
                                go_roundw
                                case rel => exact ⟨i + 1, zcap, by omega, by go_num, rfl, hy2.out, Lib.hid (below_ext HB3.out HB3.out.size _)⟩
                                case measure => simp [intOf]; omega
                              · have hy2 := Lib.hid (show mostF ⟨xk, zib, xc, xu, xa⟩ (zs.take (i + 1)) = mm by rw [hyes.out, if_neg c4]; omega)
                                clear hyes
                                go_wp2_with fail
                                go_quiet (fail)
                                rw [drewN_ext']
                                go_wp2
                                go_roundw
                                case rel => exact ⟨i + 1, mm, by omega, by go_num, rfl, hy2.out, Lib.hid (below_ext HB3.out HB3.out.size _)⟩
                                case measure => simp [intOf]; omega
                          · have e3 : (zib == xib) = false := by simpa using c3
                            have e3' : decide (zib = xib) = false := decide_eq_false c3
                            have hno := Lib.hid (show mostF ⟨xk, xib, xc, xu, xa⟩ (zs.take (i + 1)) = mm by rw [hms.out]; unfold mostS; rw [if_neg (fun h => c3 h.2.2)])
                            go_wp2_with fail
                            go_quiet (fail)
                            rw [drewN_ext']
                            go_wp2
                            go_roundw
                            case rel => exact ⟨i + 1, mm, by omega, by go_num, rfl, hno.out, Lib.hid (below_ext HB3.out HB3.out.size _)⟩
                            case measure => simp [intOf]; omega
                        · have e2 : (zk == xk) = false := by simpa using c2
                          have hno := Lib.hid (show mostF ⟨xk, xib, xc, xu, xa⟩ (zs.take (i + 1)) = mm by rw [hms.out]; unfold mostS; rw [if_neg (fun h => c2 h.2.1)])
                          go_wp2_with fail
                          go_quiet (fail)
                          rw [drewN_ext']
                          go_wp2
                          go_roundw
                          case rel => exact ⟨i + 1, mm, by omega, by go_num, rfl, hno.out, Lib.hid (below_ext HB3.out HB3.out.size _)⟩
                          case measure => simp [intOf]; omega
                      · have e1 : (zp == 7) = false := by simpa using c1
                        have hno := Lib.hid (show mostF ⟨xk, xib, xc, xu, xa⟩ (zs.take (i + 1)) = mm by rw [hms.out]; unfold mostS; rw [if_neg (fun h => c1 h.1)])
                        go_wp2_with fail
                        go_quiet (fail)
                        rw [drewN_ext']
                        go_wp2
                        go_roundw
                        case rel => exact ⟨i + 1, mm, by omega, by go_num, rfl, hno.out, Lib.hid (below_ext HB3.out HB3.out.size _)⟩
                        case measure => simp [intOf]; omega
                    · obtain rfl : i = zs.length := by omega
                      have hmx : mostF ⟨xk, xib, xc, xu, xa⟩ zs = mm := by have := hmm.out; rwa [List.take_length] at this
                      obtain ⟨hx0, hx1⟩ := HM.out
                      rw [hmx] at hx1
                      try dsimp only at hx0 hx1
                      clear hmx
                      go_wp2
                      go_roundw
                      case rel => exact ⟨k + 1, by omega, by go_num, Lib.hid (HBA.out.trans (HB3.out.mono HBA.out.size))⟩
                      case measure => simp [intOf]; omega
                  -->h1
                · --<h2
                  refine gen_world2 (fun W => Below wr.heap.size wr W ∧ Blk W (wr.heap.size + 1) [.int .i64 xk, .bool xib, .int .i64 xc, .int .i64 xu, .int .i64 xa] ∧ Blk W (wr.heap.size) [.int .i64 xk, .bool xib, .int .i64 yc, .int .i64 xu, .int .i64 xa]) ?_ ?_
                  · exact ⟨by repeat' (first | exact Below.refl _ _ | refine below_ext ?_ ?_ _ | refine Below.alloc ?_ ?_ _ | refine Below.setCell ?_ ?_ _ | refine Below.drew ?_ | (rw [size_ext]; refine Nat.le_add_right_of_le ?_) | go_size | (rw [World.size_alloc]; refine Nat.le_add_right_of_le ?_)), (Blk.made5' wr _ _ _ _ _ _ _).below (Below.drew (Below.refl _ _)), ((Blk.made5 wr _ _ _ _ _ _).alloc _).below (Below.drew (Below.refl _ _))⟩
                  rintro W9 ⟨hb9, hm9, hp9⟩
                  have HB9 := Lib.hid hb9
                  have hs9 := hb9.size
                  have HBA := Lib.hid (HB.out.trans (HB9.out.mono HB.out.size))
                  have HBB := Lib.hid (HBW.out.trans (HB9.out.mono HBW.out.size))
                  have ml := hm9.1
                  clear hb9
                  have m0 := (hm9.2 0 _ rfl).1
                  have m1 := (hm9.2 1 _ rfl).1
                  have m2 := (hm9.2 2 _ rfl).1
                  have m3 := (hm9.2 3 _ rfl).1
                  have m4 := (hm9.2 4 _ rfl).1
                  have p0 := (hp9.2 0 _ rfl).1
                  have p1 := (hp9.2 1 _ rfl).1
                  have p2 := (hp9.2 2 _ rfl).1
                  have p3 := (hp9.2 3 _ rfl).1
                  have p4 := (hp9.2 4 _ rfl).1
                  have pl := hp9.1
                  clear hm9 hp9 a0 a1 a2 a3 a4 b0 b1 b2 b3 b4 n3 o3
                  go_wp2
                  go_loopw [19, 20] (fun mv j w3 => ∃ (i : Nat) (mm : Int), i ≤ zs.length ∧ j = .int .i64 i ∧ mv = .int .i64 mm ∧ Hid (mostF ⟨xk, xib, xc, xu, xa⟩ (zs.take i) = mm) ∧ Hid (Below W9.heap.size W9 w3)) (fun _ j _ => zs.length - (intOf j).toNat)
                  case atStart => exact ⟨0, 0, Nat.zero_le _, rfl, rfl, rfl, Below.refl _ _⟩
                  case round =>
                    obtain ⟨i, mm, hi, rfl, rfl, hmm, HB3⟩ := hrel
                    have hs3 := HB3.out.size
                    have HBC := Lib.hid (HBB.out.trans (HB3.out.mono HBB.out.size))
                    replace m0 := keepL HB3.out ml m0
                    replace m1 := keepL HB3.out ml m1
                    replace m2 := keepL HB3.out ml m2
                    replace m3 := keepL HB3.out ml m3
                    replace m4 := keepL HB3.out ml m4
                    have ml3 := Nat.lt_of_lt_of_le ml hs3
                    by_cases hlt2 : i < zs.length
                    · obtain ⟨z, hz⟩ : ∃ s, zs[i]? = some s := ⟨_, List.getElem?_eq_getElem hlt2⟩
                      obtain ⟨b, o, rfl, hb, x0, x1, x2, x3, x4, x5, x6⟩ := ags_cells HZ.out hz
                      replace x0 := keepL HBC.out hb x0
                      replace x1 := keepL HBC.out hb x1
                      replace x2 := keepL HBC.out hb x2
                      replace x5 := keepL HBC.out hb x5
                      replace x6 := keepL HBC.out hb x6
                      have hms := Lib.hid (show mostF ⟨xk, xib, xc, xu, xa⟩ (zs.take (i + 1)) = mostS ⟨xk, xib, xc, xu, xa⟩ mm z by rw [take_snoc hz, mostF_snoc, hmm.out])
                      have hbr : b < wr.heap.size := Nat.lt_of_lt_of_le hb HBC.out.size
                      obtain ⟨hi1, hi2⟩ : (i : Int) < (zs.length : Int) ∧ (0 : Int) ≤ (i : Int) := by omega
                      clear hz x3 x4
                      obtain ⟨zp, zk, zib, zf, zt, zA, zc, zst, zcap⟩ := z
                      dsimp only at x0 x1 x2 x5 x6 hms
                      by_cases c1 : zp = 7
                      · have e1 : (zp == 7) = true := by simpa using c1
                        by_cases c2 : zk = xk
                        · have e2 : (zk == xk) = true := by simpa using c2
                          by_cases c3 : zib = xib
                          · have hyes := Lib.hid (show mostF ⟨xk, xib, xc, xu, xa⟩ (zs.take (i + 1)) = max (if zcap = 0 then 1125899906842624 else mm) zcap by rw [hms.out]; unfold mostS; rw [if_pos ⟨c1, c2, c3⟩])
                            subst c3
                            clear hms
                            by_cases c4 : zcap = 0
                            · subst c4
                              have hy2 := Lib.hid (show mostF ⟨xk, zib, xc, xu, xa⟩ (zs.take (i + 1)) = 1125899906842624 by rw [hyes.out, if_pos rfl]; omega)
                              go_wp2_with fail
                              go_quiet (fail)
                              rw [drewN_ext']
                              go_wp2
                              go_roundw
                              case rel => exact ⟨i + 1, 1125899906842624, by omega, by go_num, rfl, hy2.out, Lib.hid (below_ext HB3.out HB3.out.size _)⟩
                              case measure => simp [intOf]; omega
                            · have e4 : (zcap == 0) = false := by simpa using c4
                              by_cases c5 : mm < zcap
                              · have hy2 := Lib.hid (show mostF ⟨xk, zib, xc, xu, xa⟩ (zs.take (i + 1)) = zcap by rw [hyes.out, if_neg c4]; omega)
                                clear hyes
                                go_wp2_with fail
                                go_quiet (fail)
                                rw [drewN_ext']
                                go_wp2
                                go_roundw
                                case rel => exact ⟨i + 1, zcap, by omega, by go_num, rfl, hy2.out, Lib.hid (below_ext HB3.out HB3.out.size _)⟩
                                case measure => simp [intOf]; omega
                              · have hy2 := Lib.hid (show mostF ⟨xk, zib, xc, xu, xa⟩ (zs.take (i + 1)) = mm by rw [hyes.out, if_neg c4]; omega)
                                clear hyes
                                go_wp2_with fail
                                go_quiet (fail)
                                rw [drewN_ext']
                                go_wp2
                                go_roundw
                                case rel => exact ⟨i + 1, mm, by omega, by go_num, rfl, hy2.out, Lib.hid (below_ext HB3.out HB3.out.size _)⟩
                                case measure => simp [intOf]; omega
                          · have e3 : (zib == xib) = false := by simpa using c3
                            have e3' : decide (zib = xib) = false := decide_eq_false c3
                            have hno := Lib.hid (show mostF ⟨xk, xib, xc, xu, xa⟩ (zs.take (i + 1)) = mm by rw [hms.out]; unfold mostS; rw [if_neg (fun h => c3 h.2.2)])
                            go_wp2_with fail
                            go_quiet (fail)
                            rw [drewN_ext']
                            go_wp2
                            go_roundw
                            case rel => exact ⟨i + 1, mm, by omega, by go_num, rfl, hno.out, Lib.hid (below_ext HB3.out HB3.out.size _)⟩
                            case measure => simp [intOf]; omega
                        · have e2 : (zk == xk) = false := by simpa using c2
                          have hno := Lib.hid (show mostF ⟨xk, xib, xc, xu, xa⟩ (zs.take (i + 1)) = mm by rw [hms.out]; unfold mostS; rw [if_neg (fun h => c2 h.2.1)])
                          go_wp2_with fail
                          go_quiet (fail)
                          rw [drewN_ext']
                          go_wp2
                          go_roundw
                          case rel => exact ⟨i + 1, mm, by omega, by go_num, rfl, hno.out, Lib.hid (below_ext HB3.out HB3.out.size _)⟩
                          case measure => simp [intOf]; omega
                      · have e1 : (zp == 7) = false := by simpa using c1
                        have hno := Lib.hid (show mostF ⟨xk, xib, xc, xu, xa⟩ (zs.take (i + 1)) = mm by rw [hms.out]; unfold mostS; rw [if_neg (fun h => c1 h.1)])
                        go_wp2_with fail
                        go_quiet (fail)
                        rw [drewN_ext']
                        go_wp2
                        go_roundw
                        case rel => exact ⟨i + 1, mm, by omega, by go_num, rfl, hno.out, Lib.hid (below_ext HB3.out HB3.out.size _)⟩
                        case measure => simp [intOf]; omega
                    · obtain rfl : i = zs.length := by omega
                      have hmx : mostF ⟨xk, xib, xc, xu, xa⟩ zs = mm := by have := hmm.out; rwa [List.take_length] at this
                      obtain ⟨hx0, hx1⟩ := HM.out
                      rw [hmx] at hx1
                      try dsimp only at hx0 hx1
                      clear hmx
                      go_wp2
                      go_roundw
                      case rel => exact ⟨k + 1, by omega, by go_num, Lib.hid (HBA.out.trans (HB3.out.mono HBA.out.size))⟩
                      case measure => simp [intOf]; omega
                  -->h2
                -->f
              · --<g
                obtain rfl : k = S1.cs.length := by omega
                go_wp2_with (go_at_call 5; (with_reducible refine (awake _).mono ?_); rintro e w1 ⟨rfl, hb⟩; obtain ⟨s, rfl⟩ := ext_of_below hb; clear hb)
                go_ret
                exact ⟨rfl, by repeat' (first | with_reducible exact HBW.out | with_reducible exact Below.refl _ _ | with_reducible refine below_ext ?_ ?_ _ | with_reducible refine Below.alloc ?_ ?_ _ | with_reducible refine Below.setCell ?_ ?_ _ | with_reducible refine Below.drew ?_ | (simp; omega) | (simp; done) | (simp [go_sem]; omega) | (simp [go_sem]; done) | omega)⟩
                -->g
          · --<r18
            intro T Q' hT hTs hQ
            have hT0 : T[0]? = some (.slice (A) zs.length c) := (hT 0 rfl).trans (by rfl)
            have hT8 : T[8]? = some (.slice (vA) ps.length vc) := (hT 8 rfl).trans (by rfl)
            have hT7 : T[7]? = some (.pointer (some ⟨w1.heap.size, 0, none⟩)) := (hT 7 rfl).trans (by rfl)
            clear hT
            refine region_posts (S := [123, 119, 122, 124, 121, 117, 118, 120, 14, 15, 116]) 12 rfl (by kernel_rfl) (by kernel_rfl) (by kernel_rfl) (fun w => Below W7.heap.size W7 w) (P18 W7.heap.size (stmF zs ps) zs ps (A) c (vA) vc) (fun i w w' => RSt w w' ∧ ((i = 8 ∨ i = 11) → w' = w)) (Below.drew (Below.refl _ _)) ?_ ?_ (fun f w hp hw => hQ f w ⟨hp 10 (by decide), hp 11 (by decide), hw⟩)
            · intro i j oi oj hi hj hij hdep f f' w w' hf hs hp
              have hlti : i < 12 := (Array.getElem?_eq_some_iff.1 hi).1
              have hltj : j < 12 := (Array.getElem?_eq_some_iff.1 hj).1
              have hc : j = 0 ∨ j = 1 ∨ j = 2 ∨ j = 3 ∨ j = 4 ∨ j = 5 ∨ j = 6 ∨ j = 7 ∨ j = 8 ∨ j = 9 ∨ j = 10 ∨ j = 11 := by omega
              rcases hc with rfl | rfl | rfl | rfl | rfl | rfl | rfl | rfl | rfl | rfl | rfl | rfl
              all_goals
                simp only [List.getElem?_toArray, List.getElem?_cons_zero, List.getElem?_cons_succ, Option.some.injEq] at hj
                subst hj
              · exact P18.stab (fun d hd => hf 0 _ rfl (Ne.symm hij) d hd) (fun h => absurd h (by decide)) hs.1 (fun h => absurd h (by decide)) hp
              · exact P18.stab (fun d hd => hf 1 _ rfl (Ne.symm hij) d hd) (fun h => absurd h (by decide)) hs.1 (fun h => absurd h (by decide)) hp
              · exact P18.stab (fun d hd => hf 2 _ rfl (Ne.symm hij) d hd) (fun h => absurd h (by decide)) hs.1 (fun h => absurd h (by decide)) hp
              · exact P18.stab (fun d hd => hf 3 _ rfl (Ne.symm hij) d hd) (fun h => absurd h (by decide)) hs.1 (fun h => absurd h (by decide)) hp
              · exact P18.stab (fun d hd => hf 4 _ rfl (Ne.symm hij) d hd) (fun h => absurd h (by decide)) hs.1 (fun h => absurd h (by decide)) hp
              · exact P18.stab (fun d hd => hf 5 _ rfl (Ne.symm hij) d hd) (fun h => absurd h (by decide)) hs.1 (fun h => absurd h (by decide)) hp
              · exact P18.stab (fun d hd => hf 6 _ rfl (Ne.symm hij) d hd) (fun h => absurd h (by decide)) hs.1 (fun h => absurd h (by decide)) hp
              · exact P18.stab (fun d hd => hf 7 _ rfl (Ne.symm hij) d hd) (fun h => absurd h (by decide)) hs.1 (fun h => absurd h (by decide)) hp
              · exact P18.stab (fun d hd => hf 8 _ rfl (Ne.symm hij) d hd) (fun h => absurd h (by decide)) hs.1 (fun h => absurd h (by decide)) hp
              · exact P18.stab (fun d hd => hf 9 _ rfl (Ne.symm hij) d hd) (fun h => absurd h (by decide)) hs.1 (fun h => absurd h (by decide)) hp
              · have hn : i ≠ 9 := fun h => hdep { on := 9, ground := Ground.data } (by simp) (by rfl) h.symm
                have hm : i = 8 ∨ i = 11 := by
                  have h0 : i ≠ 0 := fun h => hdep { on := 0, ground := Ground.phase } (by simp) (by rfl) h.symm
                  have h1 : i ≠ 1 := fun h => hdep { on := 1, ground := Ground.phase } (by simp) (by rfl) h.symm
                  have h2 : i ≠ 2 := fun h => hdep { on := 2, ground := Ground.phase } (by simp) (by rfl) h.symm
                  have h3 : i ≠ 3 := fun h => hdep { on := 3, ground := Ground.phase } (by simp) (by rfl) h.symm
                  have h4 : i ≠ 4 := fun h => hdep { on := 4, ground := Ground.phase } (by simp) (by rfl) h.symm
                  have h5 : i ≠ 5 := fun h => hdep { on := 5, ground := Ground.phase } (by simp) (by rfl) h.symm
                  have h6 : i ≠ 6 := fun h => hdep { on := 6, ground := Ground.phase } (by simp) (by rfl) h.symm
                  have h7 : i ≠ 7 := fun h => hdep { on := 7, ground := Ground.phase } (by simp) (by rfl) h.symm
                  omega
                exact P18.stab (fun d hd => hf 10 _ rfl (Ne.symm hij) d hd) (fun _ => hf 9 _ rfl (Ne.symm hn) 14 rfl) hs.1 (fun _ => hs.2 hm) hp
              · exact P18.stab (fun d hd => hf 11 _ rfl (Ne.symm hij) d hd) (fun h => absurd h (by decide)) hs.1 (fun h => absurd h (by decide)) hp
            · intro i o_ ho f w hdep hw
              have hlti : i < 12 := (Array.getElem?_eq_some_iff.1 ho).1
              have hB := hw.size
              have qq0 : (TS [123, 119, 122, 124, 121, 117, 118, 120, 14, 15, 116] T f)[0]? = some (.slice (A) zs.length c) := (TS_old T f 0 rfl).trans hT0
              have qq8 : (TS [123, 119, 122, 124, 121, 117, 118, 120, 14, 15, 116] T f)[8]? = some (.slice (vA) ps.length vc) := (TS_old T f 8 rfl).trans hT8
              have qq7 : (TS [123, 119, 122, 124, 121, 117, 118, 120, 14, 15, 116] T f)[7]? = some (.pointer (some ⟨w1.heap.size, 0, none⟩)) := (TS_old T f 7 rfl).trans hT7
              have q123 : (TS [123, 119, 122, 124, 121, 117, 118, 120, 14, 15, 116] T f)[123]? = some (f 123) := TS_get T f 123 rfl (by omega)
              have q119 : (TS [123, 119, 122, 124, 121, 117, 118, 120, 14, 15, 116] T f)[119]? = some (f 119) := TS_get T f 119 rfl (by omega)
              have q122 : (TS [123, 119, 122, 124, 121, 117, 118, 120, 14, 15, 116] T f)[122]? = some (f 122) := TS_get T f 122 rfl (by omega)
              have q124 : (TS [123, 119, 122, 124, 121, 117, 118, 120, 14, 15, 116] T f)[124]? = some (f 124) := TS_get T f 124 rfl (by omega)
              have q121 : (TS [123, 119, 122, 124, 121, 117, 118, 120, 14, 15, 116] T f)[121]? = some (f 121) := TS_get T f 121 rfl (by omega)
              have q117 : (TS [123, 119, 122, 124, 121, 117, 118, 120, 14, 15, 116] T f)[117]? = some (f 117) := TS_get T f 117 rfl (by omega)
              have q118 : (TS [123, 119, 122, 124, 121, 117, 118, 120, 14, 15, 116] T f)[118]? = some (f 118) := TS_get T f 118 rfl (by omega)
              have q120 : (TS [123, 119, 122, 124, 121, 117, 118, 120, 14, 15, 116] T f)[120]? = some (f 120) := TS_get T f 120 rfl (by omega)
              have q14 : (TS [123, 119, 122, 124, 121, 117, 118, 120, 14, 15, 116] T f)[14]? = some (f 14) := TS_get T f 14 rfl (by omega)
              have q15 : (TS [123, 119, 122, 124, 121, 117, 118, 120, 14, 15, 116] T f)[15]? = some (f 15) := TS_get T f 15 rfl (by omega)
              have q116 : (TS [123, 119, 122, 124, 121, 117, 118, 120, 14, 15, 116] T f)[116]? = some (f 116) := TS_get T f 116 rfl (by omega)
              have m0 := keepL hw HM2.out.1 HM2.out.2.1
              have m1 := keepL hw HM2.out.1 HM2.out.2.2
              have HW := Lib.hid hw
              have hMw : w1.heap.size < w.heap.size := Nat.lt_of_lt_of_le HM2.out.1 hB
              clear hw hT0 hT8 hT7
              have hc : i = 0 ∨ i = 1 ∨ i = 2 ∨ i = 3 ∨ i = 4 ∨ i = 5 ∨ i = 6 ∨ i = 7 ∨ i = 8 ∨ i = 9 ∨ i = 10 ∨ i = 11 := by omega
              rcases hc with rfl | rfl | rfl | rfl | rfl | rfl | rfl | rfl | rfl | rfl | rfl | rfl
              all_goals
                simp only [List.getElem?_toArray, List.getElem?_cons_zero, List.getElem?_cons_succ, Option.some.injEq] at ho
                subst ho
              · --<r18op0
                refine wpOp_step rfl (fun K hK => ?_)
                go_simp
                rw [TS_set T f 117 _ rfl]
                exact hK _ _ ⟨_, rfl, fun _ hd => upd_ne hd, by show LitV _ _ _ _ (upd f 117 _ 117); rw [upd_self]; exact LitV.new _ _ _ _ hB, ⟨RSt.of_below (Below.alloc (Below.refl _ _) (Nat.le_refl _) _), fun h => absurd h (by decide)⟩, Below.alloc HW.out hB _⟩
                -->r18op0
              · --<r18op1
                refine wpOp_step rfl (fun K hK => ?_)
                go_simp
                rw [TS_set T f 118 _ rfl]
                exact hK _ _ ⟨_, rfl, fun _ hd => upd_ne hd, by show upd f 118 _ 118 = _; rw [upd_self], ⟨RSt.refl _, fun _ => rfl⟩, HW.out⟩
                -->r18op1
              · --<r18op2
                have d0_ : LitV _ _ _ _ (f 117) := hdep { on := 0, ground := Ground.data } (by simp) (by rfl)
                have d1_ : f 118 = _ := hdep { on := 1, ground := Ground.data } (by simp) (by rfl)
                obtain ⟨g, g0, o0⟩ := d0_
                rw [g0] at q117
                rw [d1_] at q118
                refine wpOp_step rfl (fun K hK => ?_)
                refine step_append_lit (by rfl) _ _ _ (by rfl) W7.heap.size AgT i0 _ 7 72 Tryz.underlying22 hi0 hz0 hz1 hz2 rfl (by decide) g (by simp [Act.eval, q117]) o0 (A) zs.length c (zs.flatMap Ag.cells) (by simp [Act.eval, q118]) HAN.out (flat_len cells7' zs) (recs_news' cells7' (by decide) (HZ.out.below (HB0.out.trans (HW.out.mono HB0.out.size)))) (flat_one ag_one zs) (by simp only [maxLen]; omega) (by omega) hB ?_
                intro v1 w1 hown1 hg1 hnn
                have hb1 : Below w.heap.size w w1 := below_grown (Below.refl w.heap.size w) hg1 (Nat.le_refl _) (fun k e => by cases e)
                show K ⟨(TS [123, 119, 122, 124, 121, 117, 118, 120, 14, 15, 116] T f).setIfInBounds 119 v1, []⟩ w1
                rw [TS_set T f 119 _ rfl]
                exact hK _ _ ⟨_, rfl, fun _ hd => upd_ne hd, by show AgV _ _ (upd f 119 _ 119) _; rw [upd_self]; exact AgV.mk' hown1 hnn, ⟨RSt.of_below hb1, fun h => absurd h (by decide)⟩, HW.out.trans (hb1.mono hB)⟩
                -->r18op2
              · --<r18op3
                refine wpOp_step rfl (fun K hK => ?_)
                go_simp
                rw [TS_set T f 120 _ rfl]
                exact hK _ _ ⟨_, rfl, fun _ hd => upd_ne hd, by show upd f 120 _ 120 = _; rw [upd_self], ⟨RSt.refl _, fun _ => rfl⟩, HW.out⟩
                -->r18op3
              · --<r18op4
                refine wpOp_step rfl (fun K hK => ?_)
                go_simp
                rw [TS_set T f 121 _ rfl]
                exact hK _ _ ⟨_, rfl, fun _ hd => upd_ne hd, by show upd f 121 _ 121 = _; rw [upd_self], ⟨RSt.refl _, fun _ => rfl⟩, HW.out⟩
                -->r18op4
              · --<r18op5
                have d0_ : AgV _ _ (f 119) _ := hdep { on := 2, ground := Ground.data } (by simp) (by rfl)
                have d1_ : f 120 = _ := hdep { on := 3, ground := Ground.data } (by simp) (by rfl)
                have d2_ : f 121 = _ := hdep { on := 4, ground := Ground.data } (by simp) (by rfl)
                obtain ⟨D_, k_, e0_, hk_, hz_⟩ := d0_.ags
                rw [e0_] at q119
                rw [d1_] at q120
                rw [d2_] at q121
                have HS_ := Lib.hid (statement_any zs ps D_ k_ vc (vA) w hz_ hk_ (HST.out.below (HB0.out.trans (HW.out.mono HB0.out.size))) HSL.out (HU8.out.below HW.out) hzl (by omega))
                clear hz_ d0_ d1_ d2_
                refine wpOp_step rfl (fun K hK => ?_)
                go_simp
                refine HS_.out.mono ?_
                rintro e w4 h4
                obtain ⟨v4, rfl, ht4, hb4⟩ := stR_tup h4 hB
                dsimp only
                rw [TS_set T f 122 _ rfl]
                exact hK _ _ ⟨_, rfl, fun _ hd => upd_ne hd, by show TupV _ _ (upd f 122 _ 122) _; rw [upd_self]; exact ht4, ⟨RSt.of_below hb4, fun h => absurd h (by decide)⟩, HW.out.trans (hb4.mono hB)⟩
                -->r18op5
              · --<r18op6
                have d0_ : TupV _ _ (f 122) _ := hdep { on := 5, ground := Ground.data } (by simp) (by rfl)
                refine wpOp_step rfl (fun K hK => ?_)
                go_simp
                rw [TS_set T f 116 _ rfl]
                exact hK _ _ ⟨_, rfl, fun _ hd => upd_ne hd, by show TupV _ _ (upd f 116 _ 116) _; rw [upd_self]; exact d0_, ⟨RSt.refl _, fun _ => rfl⟩, HW.out⟩
                -->r18op6
              · --<r18op7
                have d0_ : TupV _ _ (f 116) _ := hdep { on := 6, ground := Ground.data } (by simp) (by rfl)
                obtain ⟨p_, f_, t_, x_, e0_, o0_⟩ := d0_
                rw [e0_] at q116
                refine wpOp_step rfl (fun K hK => ?_)
                go_simp
                rw [TS_set T f 123 _ rfl]
                exact hK _ _ ⟨_, rfl, fun _ hd => upd_ne hd, by show AggV _ _ (upd f 123 _ 123) _; rw [upd_self]; exact ⟨p_, f_, t_, x_, rfl, o0_⟩, ⟨RSt.refl _, fun _ => rfl⟩, HW.out⟩
                -->r18op7
              · --<r18op8
                have d0_ : TupV _ _ (f 116) _ := hdep { on := 6, ground := Ground.data } (by simp) (by rfl)
                obtain ⟨p_, f_, t_, x_, e0_, o0_⟩ := d0_
                rw [e0_] at q116
                refine wpOp_step rfl (fun K hK => ?_)
                go_simp
                rw [TS_set T f 124 _ rfl]
                exact hK _ _ ⟨_, rfl, fun _ hd => upd_ne hd, by show upd f 124 _ 124 = _; rw [upd_self], ⟨RSt.refl _, fun _ => rfl⟩, HW.out⟩
                -->r18op8
              · --<r18op9
                refine wpOp_step rfl (fun K hK => ?_)
                go_simp
                rw [TS_set T f 14 _ rfl]
                exact hK _ _ ⟨_, rfl, fun _ hd => upd_ne hd, by show PtrV _ _ (upd f 14 _ 14); rw [upd_self]; exact ⟨_, rfl, hB, SBk.new _ _ _ _ _ _⟩, ⟨RSt.of_below (Below.alloc (Below.refl _ _) (Nat.le_refl _) _), fun h => absurd h (by decide)⟩, Below.alloc HW.out hB _⟩
                -->r18op9
              · --<r18op10
                have d0_ : PtrV _ _ (f 14) := hdep { on := 9, ground := Ground.data } (by simp) (by rfl)
                have d1_ : AggV _ _ (f 123) _ := hdep { on := 7, ground := Ground.data } (by simp) (by rfl)
                obtain ⟨q_, e0_, hq_, hs_⟩ := d0_
                obtain ⟨p_, f_, t_, x_, e1_, o1_⟩ := d1_
                obtain ⟨xA_, xc_, rfl, -⟩ := own_form o1_
                have e0k := Lib.hid e0_
                rw [e0_] at q14
                rw [e1_] at q123
                have HS_ := Lib.hid hs_
                obtain ⟨c0_, c1_, c2_, c3_, c4_, hh_⟩ := hs_
                have hb_ := blk_of hh_
                have ql_ := hb_.1
                obtain ⟨k0_, l0_⟩ := hb_.2 0 _ rfl
                obtain ⟨k1_, l1_⟩ := hb_.2 1 _ rfl
                obtain ⟨k2_, l2_⟩ := hb_.2 2 _ rfl
                obtain ⟨k3_, l3_⟩ := hb_.2 3 _ rfl
                obtain ⟨k4_, l4_⟩ := hb_.2 4 _ rfl
                clear hh_ hb_ e0_ e1_
                refine wpOp_step rfl (fun K hK => ?_)
                go_simp
                exact hK _ _ ⟨f, rfl, fun _ _ => rfl, ⟨q_, p_, f_, t_, _, e0k.out, hq_, st_blk HS_.out _ _ _ _ _, o1_.rs (st_rs HS_.out _ _ _ _ _)⟩, ⟨st_rs HS_.out _ _ _ _ _, fun h => absurd h (by decide)⟩, st_below HW.out hq_ _ _ _ _ _⟩
                -->r18op10
              · --<r18op11
                have d0_ : f 124 = _ := hdep { on := 8, ground := Ground.data } (by simp) (by rfl)
                rw [d0_] at q124
                refine wpOp_step rfl (fun K hK => ?_)
                go_simp
                rw [TS_set T f 15 _ rfl]
                exact hK _ _ ⟨_, rfl, fun _ hd => upd_ne hd, by show upd f 15 _ 15 = _; rw [upd_self], ⟨RSt.refl _, fun _ => rfl⟩, HW.out⟩
                -->r18op11
            -->r18
        · --<r17
          intro T Q' hT hTs hQ
          have hT0 : T[0]? = some (.slice (A) zs.length c) := (hT 0 rfl).trans (by rfl)
          have hT1 : T[1]? = some (.slice (A2) us.length c2) := (hT 1 rfl).trans (by rfl)
          have hT7 : T[7]? = some (.pointer (some ⟨w1.heap.size, 0, none⟩)) := (hT 7 rfl).trans (by rfl)
          clear hT
          refine region_posts (S := [114, 108, 111, 113, 115, 112, 106, 109, 107, 110, 12, 13, 105]) 14 rfl (by kernel_rfl) (by kernel_rfl) (by kernel_rfl) (fun w => Below wr.heap.size wr w) (P17 wr.heap.size (stmF zs us) zs us (A) c (A2) c2) (fun i w w' => RSt w w' ∧ ((i = 10 ∨ i = 13) → w' = w)) (Below.drew (Below.refl _ _)) ?_ ?_ (fun f w hp hw => hQ f w ⟨hp 12 (by decide), hp 13 (by decide), hw⟩)
          · intro i j oi oj hi hj hij hdep f f' w w' hf hs hp
            have hlti : i < 14 := (Array.getElem?_eq_some_iff.1 hi).1
            have hltj : j < 14 := (Array.getElem?_eq_some_iff.1 hj).1
            have hc : j = 0 ∨ j = 1 ∨ j = 2 ∨ j = 3 ∨ j = 4 ∨ j = 5 ∨ j = 6 ∨ j = 7 ∨ j = 8 ∨ j = 9 ∨ j = 10 ∨ j = 11 ∨ j = 12 ∨ j = 13 := by omega
            rcases hc with rfl | rfl | rfl | rfl | rfl | rfl | rfl | rfl | rfl | rfl | rfl | rfl | rfl | rfl
            all_goals
              simp only [List.getElem?_toArray, List.getElem?_cons_zero, List.getElem?_cons_succ, Option.some.injEq] at hj
              subst hj
            · exact P17.stab (fun d hd => hf 0 _ rfl (Ne.symm hij) d hd) (fun h => absurd h (by decide)) hs.1 (fun h => absurd h (by decide)) hp
            · exact P17.stab (fun d hd => hf 1 _ rfl (Ne.symm hij) d hd) (fun h => absurd h (by decide)) hs.1 (fun h => absurd h (by decide)) hp
            · exact P17.stab (fun d hd => hf 2 _ rfl (Ne.symm hij) d hd) (fun h => absurd h (by decide)) hs.1 (fun h => absurd h (by decide)) hp
            · exact P17.stab (fun d hd => hf 3 _ rfl (Ne.symm hij) d hd) (fun h => absurd h (by decide)) hs.1 (fun h => absurd h (by decide)) hp
            · exact P17.stab (fun d hd => hf 4 _ rfl (Ne.symm hij) d hd) (fun h => absurd h (by decide)) hs.1 (fun h => absurd h (by decide)) hp
            · exact P17.stab (fun d hd => hf 5 _ rfl (Ne.symm hij) d hd) (fun h => absurd h (by decide)) hs.1 (fun h => absurd h (by decide)) hp
            · exact P17.stab (fun d hd => hf 6 _ rfl (Ne.symm hij) d hd) (fun h => absurd h (by decide)) hs.1 (fun h => absurd h (by decide)) hp
            · exact P17.stab (fun d hd => hf 7 _ rfl (Ne.symm hij) d hd) (fun h => absurd h (by decide)) hs.1 (fun h => absurd h (by decide)) hp
            · exact P17.stab (fun d hd => hf 8 _ rfl (Ne.symm hij) d hd) (fun h => absurd h (by decide)) hs.1 (fun h => absurd h (by decide)) hp
            · exact P17.stab (fun d hd => hf 9 _ rfl (Ne.symm hij) d hd) (fun h => absurd h (by decide)) hs.1 (fun h => absurd h (by decide)) hp
            · exact P17.stab (fun d hd => hf 10 _ rfl (Ne.symm hij) d hd) (fun h => absurd h (by decide)) hs.1 (fun h => absurd h (by decide)) hp
            · exact P17.stab (fun d hd => hf 11 _ rfl (Ne.symm hij) d hd) (fun h => absurd h (by decide)) hs.1 (fun h => absurd h (by decide)) hp
            · have hn : i ≠ 11 := fun h => hdep { on := 11, ground := Ground.data } (by simp) (by rfl) h.symm
              have hm : i = 10 ∨ i = 13 := by
                have h0 : i ≠ 0 := fun h => hdep { on := 0, ground := Ground.phase } (by simp) (by rfl) h.symm
                have h1 : i ≠ 1 := fun h => hdep { on := 1, ground := Ground.phase } (by simp) (by rfl) h.symm
                have h2 : i ≠ 2 := fun h => hdep { on := 2, ground := Ground.phase } (by simp) (by rfl) h.symm
                have h3 : i ≠ 3 := fun h => hdep { on := 3, ground := Ground.phase } (by simp) (by rfl) h.symm
                have h4 : i ≠ 4 := fun h => hdep { on := 4, ground := Ground.phase } (by simp) (by rfl) h.symm
                have h5 : i ≠ 5 := fun h => hdep { on := 5, ground := Ground.phase } (by simp) (by rfl) h.symm
                have h6 : i ≠ 6 := fun h => hdep { on := 6, ground := Ground.phase } (by simp) (by rfl) h.symm
                have h7 : i ≠ 7 := fun h => hdep { on := 7, ground := Ground.phase } (by simp) (by rfl) h.symm
                have h8 : i ≠ 8 := fun h => hdep { on := 8, ground := Ground.phase } (by simp) (by rfl) h.symm
                have h9 : i ≠ 9 := fun h => hdep { on := 9, ground := Ground.phase } (by simp) (by rfl) h.symm
                omega
              exact P17.stab (fun d hd => hf 12 _ rfl (Ne.symm hij) d hd) (fun _ => hf 11 _ rfl (Ne.symm hn) 12 rfl) hs.1 (fun _ => hs.2 hm) hp
            · exact P17.stab (fun d hd => hf 13 _ rfl (Ne.symm hij) d hd) (fun h => absurd h (by decide)) hs.1 (fun h => absurd h (by decide)) hp
          · intro i o_ ho f w hdep hw
            have hlti : i < 14 := (Array.getElem?_eq_some_iff.1 ho).1
            have hB := hw.size
            have qq0 : (TS [114, 108, 111, 113, 115, 112, 106, 109, 107, 110, 12, 13, 105] T f)[0]? = some (.slice (A) zs.length c) := (TS_old T f 0 rfl).trans hT0
            have qq1 : (TS [114, 108, 111, 113, 115, 112, 106, 109, 107, 110, 12, 13, 105] T f)[1]? = some (.slice (A2) us.length c2) := (TS_old T f 1 rfl).trans hT1
            have qq7 : (TS [114, 108, 111, 113, 115, 112, 106, 109, 107, 110, 12, 13, 105] T f)[7]? = some (.pointer (some ⟨w1.heap.size, 0, none⟩)) := (TS_old T f 7 rfl).trans hT7
            have q114 : (TS [114, 108, 111, 113, 115, 112, 106, 109, 107, 110, 12, 13, 105] T f)[114]? = some (f 114) := TS_get T f 114 rfl (by omega)
            have q108 : (TS [114, 108, 111, 113, 115, 112, 106, 109, 107, 110, 12, 13, 105] T f)[108]? = some (f 108) := TS_get T f 108 rfl (by omega)
            have q111 : (TS [114, 108, 111, 113, 115, 112, 106, 109, 107, 110, 12, 13, 105] T f)[111]? = some (f 111) := TS_get T f 111 rfl (by omega)
            have q113 : (TS [114, 108, 111, 113, 115, 112, 106, 109, 107, 110, 12, 13, 105] T f)[113]? = some (f 113) := TS_get T f 113 rfl (by omega)
            have q115 : (TS [114, 108, 111, 113, 115, 112, 106, 109, 107, 110, 12, 13, 105] T f)[115]? = some (f 115) := TS_get T f 115 rfl (by omega)
            have q112 : (TS [114, 108, 111, 113, 115, 112, 106, 109, 107, 110, 12, 13, 105] T f)[112]? = some (f 112) := TS_get T f 112 rfl (by omega)
            have q106 : (TS [114, 108, 111, 113, 115, 112, 106, 109, 107, 110, 12, 13, 105] T f)[106]? = some (f 106) := TS_get T f 106 rfl (by omega)
            have q109 : (TS [114, 108, 111, 113, 115, 112, 106, 109, 107, 110, 12, 13, 105] T f)[109]? = some (f 109) := TS_get T f 109 rfl (by omega)
            have q107 : (TS [114, 108, 111, 113, 115, 112, 106, 109, 107, 110, 12, 13, 105] T f)[107]? = some (f 107) := TS_get T f 107 rfl (by omega)
            have q110 : (TS [114, 108, 111, 113, 115, 112, 106, 109, 107, 110, 12, 13, 105] T f)[110]? = some (f 110) := TS_get T f 110 rfl (by omega)
            have q12 : (TS [114, 108, 111, 113, 115, 112, 106, 109, 107, 110, 12, 13, 105] T f)[12]? = some (f 12) := TS_get T f 12 rfl (by omega)
            have q13 : (TS [114, 108, 111, 113, 115, 112, 106, 109, 107, 110, 12, 13, 105] T f)[13]? = some (f 13) := TS_get T f 13 rfl (by omega)
            have q105 : (TS [114, 108, 111, 113, 115, 112, 106, 109, 107, 110, 12, 13, 105] T f)[105]? = some (f 105) := TS_get T f 105 rfl (by omega)
            have m0 := keepL hw HM2.out.1 HM2.out.2.1
            have m1 := keepL hw HM2.out.1 HM2.out.2.2
            have HW := Lib.hid hw
            have hMw : w1.heap.size < w.heap.size := Nat.lt_of_lt_of_le HM2.out.1 hB
            clear hw hT0 hT1 hT7
            have hc : i = 0 ∨ i = 1 ∨ i = 2 ∨ i = 3 ∨ i = 4 ∨ i = 5 ∨ i = 6 ∨ i = 7 ∨ i = 8 ∨ i = 9 ∨ i = 10 ∨ i = 11 ∨ i = 12 ∨ i = 13 := by omega
            rcases hc with rfl | rfl | rfl | rfl | rfl | rfl | rfl | rfl | rfl | rfl | rfl | rfl | rfl | rfl
            all_goals
              simp only [List.getElem?_toArray, List.getElem?_cons_zero, List.getElem?_cons_succ, Option.some.injEq] at ho
              subst ho
            · --<r17op0
              refine wpOp_step rfl (fun K hK => ?_)
              go_simp
              rw [TS_set T f 106 _ rfl]
              exact hK _ _ ⟨_, rfl, fun _ hd => upd_ne hd, by show LitV _ _ _ _ (upd f 106 _ 106); rw [upd_self]; exact LitV.new _ _ _ _ hB, ⟨RSt.of_below (Below.alloc (Below.refl _ _) (Nat.le_refl _) _), fun h => absurd h (by decide)⟩, Below.alloc HW.out hB _⟩
              -->r17op0
            · --<r17op1
              refine wpOp_step rfl (fun K hK => ?_)
              go_simp
              rw [TS_set T f 107 _ rfl]
              exact hK _ _ ⟨_, rfl, fun _ hd => upd_ne hd, by show upd f 107 _ 107 = _; rw [upd_self], ⟨RSt.refl _, fun _ => rfl⟩, HW.out⟩
              -->r17op1
            · --<r17op2
              have d0_ : LitV _ _ _ _ (f 106) := hdep { on := 0, ground := Ground.data } (by simp) (by rfl)
              have d1_ : f 107 = _ := hdep { on := 1, ground := Ground.data } (by simp) (by rfl)
              obtain ⟨g, g0, o0⟩ := d0_
              rw [g0] at q106
              rw [d1_] at q107
              refine wpOp_step rfl (fun K hK => ?_)
              refine step_append_lit (by rfl) _ _ _ (by rfl) wr.heap.size AgT i0 _ 7 72 Tryz.underlying22 hi0 hz0 hz1 hz2 rfl (by decide) g (by simp [Act.eval, q106]) o0 (A) zs.length c (zs.flatMap Ag.cells) (by simp [Act.eval, q107]) HAN.out (flat_len cells7' zs) (recs_news' cells7' (by decide) (HZ.out.below (HB0.out.trans (HW.out.mono HB0.out.size)))) (flat_one ag_one zs) (by simp only [maxLen]; omega) (by omega) hB ?_
              intro v1 w1 hown1 hg1 hnn
              have hb1 : Below w.heap.size w w1 := below_grown (Below.refl w.heap.size w) hg1 (Nat.le_refl _) (fun k e => by cases e)
              show K ⟨(TS [114, 108, 111, 113, 115, 112, 106, 109, 107, 110, 12, 13, 105] T f).setIfInBounds 108 v1, []⟩ w1
              rw [TS_set T f 108 _ rfl]
              exact hK _ _ ⟨_, rfl, fun _ hd => upd_ne hd, by show AgV _ _ (upd f 108 _ 108) _; rw [upd_self]; exact AgV.mk' hown1 hnn, ⟨RSt.of_below hb1, fun h => absurd h (by decide)⟩, HW.out.trans (hb1.mono hB)⟩
              -->r17op2
            · --<r17op3
              refine wpOp_step rfl (fun K hK => ?_)
              go_simp
              rw [TS_set T f 109 _ rfl]
              exact hK _ _ ⟨_, rfl, fun _ hd => upd_ne hd, by show LitV _ _ _ _ (upd f 109 _ 109); rw [upd_self]; exact LitV.new _ _ _ _ hB, ⟨RSt.of_below (Below.alloc (Below.refl _ _) (Nat.le_refl _) _), fun h => absurd h (by decide)⟩, Below.alloc HW.out hB _⟩
              -->r17op3
            · --<r17op4
              refine wpOp_step rfl (fun K hK => ?_)
              go_simp
              rw [TS_set T f 110 _ rfl]
              exact hK _ _ ⟨_, rfl, fun _ hd => upd_ne hd, by show upd f 110 _ 110 = _; rw [upd_self], ⟨RSt.refl _, fun _ => rfl⟩, HW.out⟩
              -->r17op4
            · --<r17op5
              have d0_ : LitV _ _ _ _ (f 109) := hdep { on := 3, ground := Ground.data } (by simp) (by rfl)
              have d1_ : f 110 = _ := hdep { on := 4, ground := Ground.data } (by simp) (by rfl)
              obtain ⟨g, g0, o0⟩ := d0_
              rw [g0] at q109
              rw [d1_] at q110
              refine wpOp_step rfl (fun K hK => ?_)
              refine step_append_lit (by rfl) _ _ _ (by rfl) wr.heap.size UgT j0 _ 12 112 Tryz.underlying23 hj0 hy0 hy1 hy2 rfl (by decide) g (by simp [Act.eval, q109]) o0 (A2) us.length c2 (us.flatMap Ug.cells) (by simp [Act.eval, q110]) HUN.out (flat_len cells12 us) (recs_news' cells12 (by decide) (HU.out.below (HB0.out.trans (HW.out.mono HB0.out.size)))) (ug_one us) (by simp only [maxLen]; omega) (by omega) hB ?_
              intro v1 w1 hown1 hg1 hnn
              have hb1 : Below w.heap.size w w1 := below_grown (Below.refl w.heap.size w) hg1 (Nat.le_refl _) (fun k e => by cases e)
              show K ⟨(TS [114, 108, 111, 113, 115, 112, 106, 109, 107, 110, 12, 13, 105] T f).setIfInBounds 111 v1, []⟩ w1
              rw [TS_set T f 111 _ rfl]
              exact hK _ _ ⟨_, rfl, fun _ hd => upd_ne hd, by show UgV _ _ (upd f 111 _ 111) _; rw [upd_self]; exact hown1, ⟨RSt.of_below hb1, fun h => absurd h (by decide)⟩, HW.out.trans (hb1.mono hB)⟩
              -->r17op5
            · --<r17op6
              refine wpOp_step rfl (fun K hK => ?_)
              go_simp
              rw [TS_set T f 112 _ rfl]
              exact hK _ _ ⟨_, rfl, fun _ hd => upd_ne hd, by show upd f 112 _ 112 = _; rw [upd_self], ⟨RSt.refl _, fun _ => rfl⟩, HW.out⟩
              -->r17op6
            · --<r17op7
              have d0_ : AgV _ _ (f 108) _ := hdep { on := 2, ground := Ground.data } (by simp) (by rfl)
              have d1_ : UgV _ _ (f 111) _ := hdep { on := 5, ground := Ground.data } (by simp) (by rfl)
              have d2_ : f 112 = _ := hdep { on := 6, ground := Ground.data } (by simp) (by rfl)
              obtain ⟨D_, k_, e0_, hk_, hz_⟩ := d0_.ags
              obtain ⟨A_, c_, e1_, hu_⟩ := d1_.ugs
              rw [e0_] at q108
              rw [e1_] at q111
              rw [d2_] at q112
              have HS_ := Lib.hid (statement_any zs us D_ k_ c_ A_ w hz_ hk_ (HST.out.below (HB0.out.trans (HW.out.mono HB0.out.size))) HSL.out hu_ hzl (by omega))
              clear hz_ hu_ d0_ d1_ d2_
              refine wpOp_step rfl (fun K hK => ?_)
              go_simp
              refine HS_.out.mono ?_
              rintro e w4 h4
              obtain ⟨v4, rfl, ht4, hb4⟩ := stR_tup h4 hB
              dsimp only
              rw [TS_set T f 113 _ rfl]
              exact hK _ _ ⟨_, rfl, fun _ hd => upd_ne hd, by show TupV _ _ (upd f 113 _ 113) _; rw [upd_self]; exact ht4, ⟨RSt.of_below hb4, fun h => absurd h (by decide)⟩, HW.out.trans (hb4.mono hB)⟩
              -->r17op7
            · --<r17op8
              have d0_ : TupV _ _ (f 113) _ := hdep { on := 7, ground := Ground.data } (by simp) (by rfl)
              refine wpOp_step rfl (fun K hK => ?_)
              go_simp
              rw [TS_set T f 105 _ rfl]
              exact hK _ _ ⟨_, rfl, fun _ hd => upd_ne hd, by show TupV _ _ (upd f 105 _ 105) _; rw [upd_self]; exact d0_, ⟨RSt.refl _, fun _ => rfl⟩, HW.out⟩
              -->r17op8
            · --<r17op9
              have d0_ : TupV _ _ (f 105) _ := hdep { on := 8, ground := Ground.data } (by simp) (by rfl)
              obtain ⟨p_, f_, t_, x_, e0_, o0_⟩ := d0_
              rw [e0_] at q105
              refine wpOp_step rfl (fun K hK => ?_)
              go_simp
              rw [TS_set T f 114 _ rfl]
              exact hK _ _ ⟨_, rfl, fun _ hd => upd_ne hd, by show AggV _ _ (upd f 114 _ 114) _; rw [upd_self]; exact ⟨p_, f_, t_, x_, rfl, o0_⟩, ⟨RSt.refl _, fun _ => rfl⟩, HW.out⟩
              -->r17op9
            · --<r17op10
              have d0_ : TupV _ _ (f 105) _ := hdep { on := 8, ground := Ground.data } (by simp) (by rfl)
              obtain ⟨p_, f_, t_, x_, e0_, o0_⟩ := d0_
              rw [e0_] at q105
              refine wpOp_step rfl (fun K hK => ?_)
              go_simp
              rw [TS_set T f 115 _ rfl]
              exact hK _ _ ⟨_, rfl, fun _ hd => upd_ne hd, by show upd f 115 _ 115 = _; rw [upd_self], ⟨RSt.refl _, fun _ => rfl⟩, HW.out⟩
              -->r17op10
            · --<r17op11
              refine wpOp_step rfl (fun K hK => ?_)
              go_simp
              rw [TS_set T f 12 _ rfl]
              exact hK _ _ ⟨_, rfl, fun _ hd => upd_ne hd, by show PtrV _ _ (upd f 12 _ 12); rw [upd_self]; exact ⟨_, rfl, hB, SBk.new _ _ _ _ _ _⟩, ⟨RSt.of_below (Below.alloc (Below.refl _ _) (Nat.le_refl _) _), fun h => absurd h (by decide)⟩, Below.alloc HW.out hB _⟩
              -->r17op11
            · --<r17op12
              have d0_ : PtrV _ _ (f 12) := hdep { on := 11, ground := Ground.data } (by simp) (by rfl)
              have d1_ : AggV _ _ (f 114) _ := hdep { on := 9, ground := Ground.data } (by simp) (by rfl)
              obtain ⟨q_, e0_, hq_, hs_⟩ := d0_
              obtain ⟨p_, f_, t_, x_, e1_, o1_⟩ := d1_
              obtain ⟨xA_, xc_, rfl, -⟩ := own_form o1_
              have e0k := Lib.hid e0_
              rw [e0_] at q12
              rw [e1_] at q114
              have HS_ := Lib.hid hs_
              obtain ⟨c0_, c1_, c2_, c3_, c4_, hh_⟩ := hs_
              have hb_ := blk_of hh_
              have ql_ := hb_.1
              obtain ⟨k0_, l0_⟩ := hb_.2 0 _ rfl
              obtain ⟨k1_, l1_⟩ := hb_.2 1 _ rfl
              obtain ⟨k2_, l2_⟩ := hb_.2 2 _ rfl
              obtain ⟨k3_, l3_⟩ := hb_.2 3 _ rfl
              obtain ⟨k4_, l4_⟩ := hb_.2 4 _ rfl
              clear hh_ hb_ e0_ e1_
              refine wpOp_step rfl (fun K hK => ?_)
              go_simp
              exact hK _ _ ⟨f, rfl, fun _ _ => rfl, ⟨q_, p_, f_, t_, _, e0k.out, hq_, st_blk HS_.out _ _ _ _ _, o1_.rs (st_rs HS_.out _ _ _ _ _)⟩, ⟨st_rs HS_.out _ _ _ _ _, fun h => absurd h (by decide)⟩, st_below HW.out hq_ _ _ _ _ _⟩
              -->r17op12
            · --<r17op13
              have d0_ : f 115 = _ := hdep { on := 10, ground := Ground.data } (by simp) (by rfl)
              rw [d0_] at q115
              refine wpOp_step rfl (fun K hK => ?_)
              go_simp
              rw [TS_set T f 13 _ rfl]
              exact hK _ _ ⟨_, rfl, fun _ hd => upd_ne hd, by show upd f 13 _ 13 = _; rw [upd_self], ⟨RSt.refl _, fun _ => rfl⟩, HW.out⟩
              -->r17op13
          -->r17
        -->d
  · --<e
    have hn0' : (n == 0) = false := by simpa using hn0
    have hsz1 := HB1.out.size
    go_wp2_with (go_at_call 5; (with_reducible refine (awake _).mono ?_); rintro e w1 ⟨rfl, hb⟩; obtain ⟨s, rfl⟩ := ext_of_below hb; clear hb)
    go_ret
    exact ⟨rfl, by repeat' (first | with_reducible exact HBW.out | with_reducible exact Below.refl _ _ | with_reducible refine below_ext ?_ ?_ _ | with_reducible refine Below.alloc ?_ ?_ _ | with_reducible refine Below.setCell ?_ ?_ _ | with_reducible refine Below.drew ?_ | (simp; omega) | (simp; done) | (simp [go_sem]; omega) | (simp [go_sem]; done) | omega)⟩
    -->e
end Go.Proofs.YtmodghiokoiipaaGreat

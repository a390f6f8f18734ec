/-
  The walk of the program's Compare.
-/
import Derived.Test.YtclaijheemkegaaRi
namespace Go.Proofs.Ytclaijheemkegaa
open Go.RowKit
set_option linter.unusedSimpArgs false
set_option linter.unusedVariables false
attribute [local go_sem] alloc_add n_add

theorem heap_new {w : World} {o : Obj} {N : Nat} (h : N = w.heap.size) : (w.alloc o).heap[N]? = some o := by
  subst h
  exact (MapKept.heap_alloc w _).1
theorem heap_old {w : World} {o x : Obj} {N : Nat} (h : N < w.heap.size) (hx : w.heap[N]? = some x) : (w.alloc o).heap[N]? = some x := (Below.heap_alloc w o N h).trans hx
set_option maxRecDepth 100000 in
set_option maxHeartbeats 8000000 in
theorem comp_any (xs ts : List It) (slack : Int) (Ax At : Option Addr) (cx ct : Nat) (w : World) (hx : Its w Ax xs) (ht : Its w At ts) (hxl : xs.length ≤ 24) (htl : ts.length ≤ 24) (hsl : fits slack) (hwx : Wide xs) (hwt : Wide ts) :
    Calls Try.prog 11 #[.slice Ax xs.length cx, .slice At ts.length ct, .int .i64 slack] w (CmpR (cmp xs ts slack) w) := by
  have HX := Lib.hid hx
  have HT := Lib.hid ht
  have HWX := Lib.hid hwx
  have HWT := Lib.hid hwt
  have HSL := Lib.hid hsl
  have hmx := make_bools xs.length hxl
  have hmt := make_bools ts.length htl
  have hmm := fun W => run_makeMap (P := Try.prog) 51 W
  obtain ⟨i0, hi0, hz0, hz1, hz2⟩ := info_parts info_int
  clear hx ht hwx hwt hsl
  unfold CmpR
  go_enter Try.func11, Try.ntmps11
  go_upto_region 1 with fail
  go_cut [7] (fun s7 wx => ∃ Mp D L R : Nat, s7 = .pointer (some ⟨Mp, 0, none⟩) ∧ Mch wx Mp Ax At xs.length cx ts.length ct slack D L R ∧ OwnBs wx w.heap.size L (List.replicate xs.length false) ∧ OwnBs wx w.heap.size R (List.replicate ts.length false) ∧ L ≠ R ∧ Mp ≠ L ∧ Mp ≠ R ∧ D ≠ L ∧ D ≠ R ∧ D ≠ Mp ∧ w.heap.size < Mp ∧ w.heap.size < L ∧ w.heap.size < R ∧ w.heap.size < D ∧ Grp wx wx.heap.size D 0 ts 0 ∧ Below w.heap.size w wx ∧
    Box4 wx w.heap.size (.slice none 0 0) (.slice none 0 0) (.slice none 0 0) (.slice none 0 0))
  case first =>
    --<first
    go_region_held3 (fun w' => True) (trivial) (fail)
    all_goals
      go_wp2_with fail
      go_meet
      refine cstart (w := w) (by simp) rfl (by repeat (first | exact heap_new (by simp) | refine heap_old (by simp) ?_)) (by repeat (first | exact heap_new (by simp) | refine heap_old (by simp) ?_)) (by repeat (first | exact heap_new (by simp) | refine heap_old (by simp) ?_)) ?_ hxl htl (by omega) (by omega) (by omega) (by omega)
      repeat' (first | exact Below.refl _ _ | refine below_ext ?_ ?_ _ | refine Below.alloc ?_ ?_ _ | refine Below.setCell ?_ ?_ _ | refine Below.drew ?_ | (rw [size_ext]; refine Nat.le_add_right_of_le ?_) | go_size | (rw [World.size_alloc]; refine Nat.le_add_right_of_le ?_))
    -->first
  case rest =>
    obtain ⟨Mp, D, L, R, rfl, hM, oL, oR, hLR, hML, hMR, hDL, hDR, hDM, hwM, hwL, hwR, hwD, hG, hbw, hBx⟩ := hcut
    have HM := Lib.hid hM
    have HL := Lib.hid oL
    have HR := Lib.hid oR
    have HG0 := Lib.hid hG
    have HB := Lib.hid hbw
    have HBX := Lib.hid hBx
    have hMl := hM.lt
    have hDl := hG.lt.2
    have hLl := oL.lt.2
    have hRl := oR.lt.2
    have hww : w.heap.size < wc.heap.size := by omega
    clear hM oL oR hG hbw hBx
    go_wp2
    go_loopw [26] (fun i wr => ∃ k : Nat, k ≤ ts.length ∧ i = .int .i64 k ∧ Grp wr wc.heap.size D k ts k ∧ Kp D D wc wr) (fun i _ => ts.length - (intOf i).toNat)
    case atStart => exact ⟨0, Nat.zero_le _, rfl, HG0.out, Kp.refl _⟩
    case round =>
      --<round
      obtain ⟨k, hk, rfl, hg, hkp⟩ := hrel
      have HG := Lib.hid hg
      have HKP := Lib.hid hkp
      have hsz := hkp.size
      clear hg hkp
      by_cases hlt : k < ts.length
      · obtain ⟨y, hyk⟩ : ∃ s, ts[k]? = some s := ⟨_, List.getElem?_eq_getElem hlt⟩
        have HYK := Lib.hid hyk
        have HWY := Lib.hid (HWT.out y (List.mem_of_getElem? hyk))
        clear hyk
        have HBB := Lib.hid (HKP.out.toBelow HB.out (by omega) (by omega) (by omega))
        obtain ⟨bx, ox, rfl, hbx, x0, x1, x2, x3, x4⟩ := its_cells (HT.out.below HBB.out) HYK.out
        have c3 : wr.cell? ⟨Mp, 3, none⟩ = some (.map (some D)) := (HKP.out.cell HM.out.lt (fun e => hDM e.symm) (fun e => hDM e.symm)).trans HM.out.c3
        have hMlt : Mp < wr.heap.size := by omega
        obtain ⟨xa, xb, xk, xs', xn⟩ := y
        dsimp only at x0 x1 x2 x3 x4
        go_upto_region 5 with fail
        obtain ⟨W1, s0, hW, hE⟩ := start_ext (wr.alloc (Obj.cells #[.string xa, .string xb, .int .i64 xk, .int .i64 xs', .int .i64 xn] 47))
        rw [hW]
        clear hW
        have hs1 : W1.heap.size = wr.heap.size + 1 := by rw [hE]; simp
        have d3 : W1.cell? ⟨Mp, 3, none⟩ = some (.map (some D)) := by rw [hE]; simp [go_sem, c3, hMlt]
        have y0 : W1.cell? ⟨wr.heap.size, 0, none⟩ = some (.string xa) := by rw [hE]; simp [go_sem]
        have y1 : W1.cell? ⟨wr.heap.size, 1, none⟩ = some (.string xb) := by rw [hE]; simp [go_sem]
        have y2 : W1.cell? ⟨wr.heap.size, 2, none⟩ = some (.int .i64 xk) := by rw [hE]; simp [go_sem]
        have y3 : W1.cell? ⟨wr.heap.size, 3, none⟩ = some (.int .i64 xs') := by rw [hE]; simp [go_sem]
        have y4 : W1.cell? ⟨wr.heap.size, 4, none⟩ = some (.int .i64 xn) := by rw [hE]; simp [go_sem]
        have hB1 : W1.heap[wr.heap.size]? = some (.cells #[.string xa, .string xb, .int .i64 xk, .int .i64 xs', .int .i64 xn] 47) := by rw [hE]; exact heap_new rfl
        have HH1 : Hid (Held W1 Mp D wr.heap.size xa xb xk xs' xn) := ⟨d3, y0, y1, y2, y3, y4⟩
        have HG1 := Lib.hid (show Grp W1 wc.heap.size D k ts k by rw [hE]; exact HG.out.below (Below.alloc (Below.refl _ _) (Nat.le_refl _) _))
        have HK1 := Lib.hid (show Kp D D wc W1 by rw [hE]; exact HKP.out.alloc _)
        have hMlt1 : Mp < W1.heap.size := by omega
        have hylt1 : wr.heap.size < W1.heap.size := by omega
        have hkb : k < maxLen := by simp only [maxLen]; omega
        have HB1 := Lib.hid hB1
        clear hB1
        clear hE c3 x0 x1 x2 x3 x4 HG HKP hMlt
        --<reg5
        go_region_held3 (fun w' => w'.cell? ⟨Mp, 3, none⟩ = some (.map (some D)) ∧ w'.cell? ⟨wr.heap.size, 0, none⟩ = some (.string xa) ∧ w'.cell? ⟨wr.heap.size, 1, none⟩ = some (.string xb) ∧ w'.cell? ⟨wr.heap.size, 2, none⟩ = some (.int .i64 xk) ∧ w'.cell? ⟨wr.heap.size, 3, none⟩ = some (.int .i64 xs') ∧ w'.cell? ⟨wr.heap.size, 4, none⟩ = some (.int .i64 xn))
          (first | assumption | (refine ⟨?_, ?_, ?_, ?_, ?_, ?_⟩ <;> simp [go_sem, d3, y0, y1, y2, y3, y4, hMlt1, hylt1]) | go_keep)
          ((first
            | (go_at_call 22; (with_reducible refine (of_ext xa xb xk xs' xn W1 _).mono ?_); rintro e w1 ⟨s2, rfl, rfl, hle⟩; obtain ⟨va, la, hra, hoa, hla, hba⟩ := HG1.out.look2 s2 (y := ⟨xa, xb, xk, xs', xn⟩) hkb (by omega) HYK.out HWY.out.2.2.2.1 HWY.out.2.2.2.2 HWY.out.1 HK1.out rfl HH1.out HB1.out hMl hsz hDM; obtain ⟨vb, lb, hrb, hob, hlb, hbb⟩ := HG1.out.look2 (s2.add (.cells #[.int .i64 (k : Int)] 3)) (y := ⟨xa, xb, xk, xs', xn⟩) hkb (by omega) HYK.out HWY.out.2.2.2.1 HWY.out.2.2.2.2 HWY.out.1 HK1.out rfl HH1.out HB1.out hMl hsz hDM; have HOA := Lib.hid hoa; have HBA := Lib.hid hba; have HOB := Lib.hid hob; have HBB := Lib.hid hbb; clear hoa hba hob hbb)
            | (refine step_append_lies _ (by rfl) _ _ _ (by rfl) wc.heap.size 3 i0 _ 1 8 Try.underlying26 hi0 hz0 hz1 hz2 rfl (by omega) va la.length (la.flatMap ntCells) (by rfl) ?_ _ 1 _ (ntCells (k : Int)) (by rfl) rfl ?_ (nt_one _) (by omega) ?_ ?_ ?_ _ rfl ?_; (· exact HOA.out); (· exact (news_one (cell_le (by first | exact More.le_refl _ | assumption | exact More.le_trans (by assumption) (by assumption)) (by first | rfl | omega | (simp only [n_draw]; done) | (simp only [n_draw]; omega))))); (· (simp only [maxLen]; omega)); (· omega); (· (rw [size_ext]; omega)); intro g cap w6 ho6 hg6 hat6 hlt6; obtain ⟨w2, hru, hG2, hK2, hH6, hH2⟩ := HBA.out _ (.inl rfl) g cap w6 ho6 hg6 hat6; have HG2 := Lib.hid hG2; have HK2 := Lib.hid hK2; clear hG2 hK2 ho6 hg6 hat6)
            | (refine step_append_lies _ (by rfl) _ _ _ (by rfl) wc.heap.size 3 i0 _ 1 8 Try.underlying26 hi0 hz0 hz1 hz2 rfl (by omega) va la.length (la.flatMap ntCells) (by rfl) ?_ _ 1 _ (ntCells (k : Int)) (by rfl) rfl ?_ (nt_one _) (by omega) ?_ ?_ ?_ _ rfl ?_; (· exact (OwnNts.add HOA.out _)); (· exact (news_one (cell_le (by first | exact More.le_refl _ | assumption | exact More.le_trans (by assumption) (by assumption)) (by first | rfl | omega | (simp only [n_draw]; done) | (simp only [n_draw]; omega))))); (· (simp only [maxLen]; omega)); (· omega); (· (rw [size_ext]; omega)); intro g cap w6 ho6 hg6 hat6 hlt6; obtain ⟨w2, hru, hG2, hK2, hH6, hH2⟩ := HBA.out _ (.inr ⟨_, (alloc_add _ _ _).symm⟩) g cap w6 ho6 hg6 hat6; have HG2 := Lib.hid hG2; have HK2 := Lib.hid hK2; clear hG2 hK2 ho6 hg6 hat6)
            | (refine step_append_lies _ (by rfl) _ _ _ (by rfl) wc.heap.size 3 i0 _ 1 8 Try.underlying26 hi0 hz0 hz1 hz2 rfl (by omega) vb lb.length (lb.flatMap ntCells) (by rfl) ?_ _ 1 _ (ntCells (k : Int)) (by rfl) rfl ?_ (nt_one _) (by omega) ?_ ?_ ?_ _ rfl ?_; (· exact HOB.out); (· exact (news_one (cell_le (by first | exact More.le_refl _ | assumption | exact More.le_trans (by assumption) (by assumption)) (by first | rfl | omega | (simp only [n_draw]; done) | (simp only [n_draw]; omega))))); (· (simp only [maxLen]; omega)); (· omega); (· (rw [size_ext]; omega)); intro g cap w6 ho6 hg6 hat6 hlt6; obtain ⟨w2, hru, hG2, hK2, hH6, hH2⟩ := HBB.out _ (.inl rfl) g cap w6 ho6 hg6 hat6; have HG2 := Lib.hid hG2; have HK2 := Lib.hid hK2; clear hG2 hK2 ho6 hg6 hat6)))
        all_goals
          go_wp2
          go_roundw
          case rel => exact ⟨k + 1, by omega, by go_num, HG2.out, HK2.out⟩
          case measure => simp [intOf]; omega
        -->reg5
      · obtain rfl : k = ts.length := by omega
        have HB1 := Lib.hid (HKP.out.toBelow HB.out (by omega) (by omega) (by omega))
        have HM1 := Lib.hid (HM.out.kp HKP.out (fun e => hDM e.symm) (fun e => hDM e.symm))
        have HL1 := Lib.hid (HL.out.block (HKP.out.block L hLl (fun e => hDL e.symm) (fun e => hDL e.symm)))
        have HR1 := Lib.hid (HR.out.block (HKP.out.block R hRl (fun e => hDR e.symm) (fun e => hDR e.symm)))
        have HBX1 := Lib.hid (HBX.out.kp HKP.out (by omega) (by omega))
        have hrw : w.heap.size ≤ wr.heap.size := by omega
        have hrw1 : w.heap.size + 1 ≤ wr.heap.size := by omega
        clear HKP HM HL HR HBX HG0 HB
        go_wp2_with fail
        refine (pass_any xs ts slack true (List.replicate xs.length false) (List.replicate ts.length false) Ax At cx ct L R D Mp wc.heap.size ts.length w wr HB1.out HX.out HT.out HL1.out HR1.out hLR HM1.out hML hMR HG.out (by simp only [maxLen]; omega) (by simp) (by simp) hxl htl HSL.out HWX.out HWT.out).mono ?_
        rintro e w3 ⟨v1, rfl, o1, m1, u1, k1⟩
        have hpl := passN_len xs ts slack true (List.replicate xs.length false) (List.replicate ts.length false) xs.length
        have hs1 : wr.heap.size ≤ w3.heap.size := k1.size
        have HM3 := Lib.hid (HM1.out.kp k1 hML hMR)
        have HG3 := Lib.hid (HG.out.kp k1 HL1.out HR1.out)
        have HBX3 := Lib.hid (HBX1.out.kp k1 (by omega) (by omega))
        have HB3 := Lib.hid (k1.toBelow HB1.out hrw (by omega) (by omega))
        have o1 : OwnPrs w3 (w.heap.size + 1) v1 (cmp xs ts slack).pairs := own_mono o1 hrw1
        obtain ⟨A1, q1, rfl, -⟩ := o1.form
        have HP1 := Lib.hid o1
        have HL3 := Lib.hid m1
        have HR3 := Lib.hid u1
        clear HM1 HG HBX1 HB1 HL1 HR1 o1 m1 u1 k1
        have hp1 : passN xs ts slack true (List.replicate xs.length false) (List.replicate ts.length false) xs.length = p1 xs ts slack := rfl
        rw [hp1] at HL3 HR3 hpl
        clear hp1
        go_wp2_with fail
        refine (pass_any xs ts slack false (p1 xs ts slack).mine (p1 xs ts slack).used Ax At cx ct L R D Mp wc.heap.size ts.length w w3 HB3.out HX.out HT.out HL3.out HR3.out hLR HM3.out hML hMR HG3.out (by simp only [maxLen]; omega) (by rw [hpl.1]; simp) (by rw [hpl.2]; simp) hxl htl HSL.out HWX.out HWT.out).mono ?_
        rintro e w5 ⟨v2, rfl, o2, m2, u2, k2⟩
        have hpl2 := passN_len xs ts slack false (p1 xs ts slack).mine (p1 xs ts slack).used xs.length
        have hs2 : w3.heap.size ≤ w5.heap.size := k2.size
        have HM5 := Lib.hid (HM3.out.kp k2 hML hMR)
        have HBX5 := Lib.hid (HBX3.out.kp k2 (by omega) (by omega))
        have HB5 := Lib.hid (k2.toBelow HB3.out (by omega) (by omega) (by omega))
        have HP1' := Lib.hid (k2.keep HP1.out HL3.out HR3.out (by decide))
        have o2 : OwnPrs w5 (w.heap.size + 1) v2 (cmp xs ts slack).differ := own_mono o2 (by omega)
        obtain ⟨A2, q2, rfl, -⟩ := o2.form
        have HP2 := Lib.hid o2
        have HL5 := Lib.hid m2
        have HR5 := Lib.hid u2
        clear HM3 HG3 HBX3 HB3 HL3 HR3 HP1 o2 m2 u2 k2
        have hp2 : passN xs ts slack false (p1 xs ts slack).mine (p1 xs ts slack).used xs.length = p2 xs ts slack := rfl
        rw [hp2] at HL5 HR5 hpl2
        clear hp2
        have hl1 : (p2 xs ts slack).mine.length = xs.length := by rw [hpl2.1, hpl.1]; simp
        have hl2 : (p2 xs ts slack).used.length = ts.length := by rw [hpl2.2, hpl.2]; simp
        clear hpl hpl2
        obtain ⟨hMlt, -, -, -, -, c4, c5⟩ := HM5.out
        obtain ⟨hOlt, b0, b1, b2, b3, f0, f1, f2, f3⟩ := HBX5.out
        have hMO : ¬ Mp = w.heap.size := by omega
        have hOM : ¬ w.heap.size = Mp := by omega
        go_upto_region 9 with fail
        obtain ⟨W1, s0, hW, hE⟩ := start_ext w5
        rw [hW]
        clear hW
        subst hE
        go_region_held3 (fun w' => w'.cell? ⟨Mp, 4, none⟩ = some (.slice (some ⟨L, 0, none⟩) xs.length xs.length) ∧ w'.cell? ⟨Mp, 5, none⟩ = some (.slice (some ⟨R, 0, none⟩) ts.length ts.length))
          (first | assumption | (refine ⟨?_, ?_⟩ <;> simp [go_sem, c4, c5, hMlt, hMO, hOM, hOlt]) | go_keep)
          ((first
            | (go_at_call 24; (with_reducible refine (open_ext (p2 xs ts slack).mine L xs.length xs.length W1 _ hl1 (by omega) HL5.out).mono ?_); rintro e w1 ⟨s3, A3, q3, rfl, o3, rfl, hle3⟩; have HN3 := Lib.hid o3; clear o3)
            | (go_at_call 24; (with_reducible refine (open_ext (p2 xs ts slack).used R ts.length ts.length W1 _ hl2 (by omega) HR5.out).mono ?_); rintro e w1 ⟨s4, A4, q4, rfl, o4, rfl, hle4⟩; have HN4 := Lib.hid o4; clear o4)))
        all_goals
          go_wp2_with fail
          refine bodyPost_ret (by simp [results, Try.results11, go_sem, hOlt, b0, b1, b2, b3]; first | done | rfl) rfl ?_
          have hs5 : w.heap.size + 1 ≤ W1.heap.size := by omega
          refine ⟨_, _, _, _, rfl, ?_, ?_, ?_, ?_, ?_⟩
          · exact own_mono (own_low4 (own_below HP1'.out (below_ext (Below.refl _ _) (Nat.le_refl _) s4)) (by omega) hOlt) (by omega)
          · exact own_mono (own_low4 (own_below HP2.out (below_ext (Below.refl _ _) (Nat.le_refl _) s4)) (by omega) hOlt) (by omega)
          · exact own_mono (own_low4 (HN3.out.le (by first | assumption | exact More.draw_le (by assumption))) (by omega) hOlt) (by omega)
          · exact own_mono (own_low4 HN4.out (by omega) hOlt) (by omega)
          · exact below_ext (Below.setCell (Below.setCell (Below.setCell (Below.setCell HB5.out (p := ⟨w.heap.size, 0, none⟩) (Nat.le_refl _) _) (p := ⟨w.heap.size, 1, none⟩) (Nat.le_refl _) _) (p := ⟨w.heap.size, 2, none⟩) (Nat.le_refl _) _) (p := ⟨w.heap.size, 3, none⟩) (Nat.le_refl _) _) (by simp; omega) s4
      -->round
end Go.Proofs.Ytclaijheemkegaa

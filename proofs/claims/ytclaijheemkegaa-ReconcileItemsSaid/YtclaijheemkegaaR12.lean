/-
  The walk of a pass of the program.
-/
import Derived.Test.YtclaijheemkegaaRg
import Derived.BigQuiet
import Derived.Deep.RegionHeld3
import Derived.Deep.DeepCutAuto
namespace Go.Proofs.Ytclaijheemkegaa
open Go.RowKit
set_option linter.unusedSimpArgs false
set_option linter.unusedVariables false

/-- The matcher's cells. -/
structure Mch (w : World) (Mp : Nat) (Ax At : Option Addr) (n cx m ct : Nat) (slack : Int) (D L R : Nat) : Prop where
  lt : Mp < w.heap.size
  c0 : w.cell? ⟨Mp, 0, none⟩ = some (.slice Ax n cx)
  c1 : w.cell? ⟨Mp, 1, none⟩ = some (.slice At m ct)
  c2 : w.cell? ⟨Mp, 2, none⟩ = some (.int .i64 slack)
  c3 : w.cell? ⟨Mp, 3, none⟩ = some (.map (some D))
  c4 : w.cell? ⟨Mp, 4, none⟩ = some (.slice (some ⟨L, 0, none⟩) n n)
  c5 : w.cell? ⟨Mp, 5, none⟩ = some (.slice (some ⟨R, 0, none⟩) m m)
theorem Mch.kp {M U : Nat} {w w' : World} {Mp : Nat} {Ax At : Option Addr} {n cx m ct : Nat} {slack : Int} {D L R : Nat} (h : Mch w Mp Ax At n cx m ct slack D L R) (k : Kp M U w w') (h1 : Mp ≠ M) (h2 : Mp ≠ U) : Mch w' Mp Ax At n cx m ct slack D L R :=
  ⟨Nat.lt_of_lt_of_le h.lt k.size, (k.cell h.lt h1 h2).trans h.c0, (k.cell h.lt h1 h2).trans h.c1, (k.cell h.lt h1 h2).trans h.c2, (k.cell h.lt h1 h2).trans h.c3, (k.cell h.lt h1 h2).trans h.c4, (k.cell h.lt h1 h2).trans h.c5⟩

theorem OwnBs.of_own {w : World} {B L n : Nat} {l : List Bool} (hl : n = l.length) (h : w.ownsRow B 4 1 (.slice (some ⟨L, 0, none⟩) n n) n (l.map Value.bool)) : OwnBs w B L l := by
  subst hl
  exact h
theorem endsN_mem {x : It} {ts : List It} {eN : List Nat} (h : eN = endsN x ts ts.length) {j p : Nat} (hp : eN[j]? = some p) : p < ts.length ∧ ∃ y, ts[p]? = some y ∧ endsB x y = true := by
  subst h
  have hm := List.mem_of_getElem? hp
  refine ⟨endsN_lt x ts _ p hm, ?_⟩
  unfold endsN at hm
  have h2 := (List.mem_filter.1 hm).2
  cases hy : ts[p]? with
  | none => rw [hy] at h2; cases h2
  | some y =>
    rw [hy] at h2
    exact ⟨y, rfl, h2⟩
theorem pick_ends' (x : It) (slack : Int) (ex : Bool) (ts : List It) (used : List Bool) : pick x slack ex ts used = (endsN x ts ts.length).find? (canB x slack ex ts used) := pick_ends x slack ex ts used
theorem pick_ends_none {x : It} {slack : Int} {ex : Bool} {ts : List It} {used : List Bool} {eN : List Nat} (h : eN = endsN x ts ts.length) (hc : ∀ (q p : Nat), eN[q]? = some p → canB x slack ex ts used p = false) : pick x slack ex ts used = none := by
  rw [pick_ends', ← h, List.find?_eq_none]
  intro p hp
  obtain ⟨q, hq⟩ := List.getElem?_of_mem hp
  simp [hc q p hq]
theorem pick_ends_at {x : It} {slack : Int} {ex : Bool} {ts : List It} {used : List Bool} {eN : List Nat} (h : eN = endsN x ts ts.length) {j p : Nat} (hj : eN[j]? = some p) (hc : canB x slack ex ts used p = true) (ho : ∀ (q p' : Nat), q < j → eN[q]? = some p' → canB x slack ex ts used p' = false) : pick x slack ex ts used = some p := by
  rw [pick_ends', ← h, List.find?_eq_some_iff_getElem]
  obtain ⟨hl, he⟩ := List.getElem?_eq_some_iff.1 hj
  refine ⟨hc, j, hl, he, fun q hq => ?_⟩
  simp [ho q _ hq (List.getElem?_eq_getElem (by omega))]

set_option maxRecDepth 100000 in
set_option maxHeartbeats 4000000 in
theorem pass_any (xs ts : List It) (slack : Int) (ex : Bool) (mine used : List Bool) (Ax At : Option Addr) (cx ct : Nat) (L R D Mp base n : Nat) (w0 w : World) (hb0 : Below w0.heap.size w0 w) (hx : Its w0 Ax xs) (ht : Its w0 At ts) (hL : OwnBs w w0.heap.size L mine) (hR : OwnBs w w0.heap.size R used) (hLR : L ≠ R)
    (hM : Mch w Mp Ax At xs.length cx ts.length ct slack D L R) (hML : Mp ≠ L) (hMR : Mp ≠ R) (hG : Grp w base D n ts ts.length) (hn : n < maxLen)
    (hm : mine.length = xs.length) (hu : used.length = ts.length) (hxl : xs.length ≤ 24) (htl : ts.length ≤ 24) (hsl : fits slack) (hwx : Wide xs) (hwt : Wide ts) :
    Calls Try.prog 23 #[.pointer (some ⟨Mp, 0, none⟩), .bool ex] w (PassR (passN xs ts slack ex mine used xs.length) w0.heap.size L R w) := by
  obtain ⟨i0, hi0, hz0, hz1, hz2⟩ := info_parts info_pair
  have HX := Lib.hid hx
  have HT := Lib.hid ht
  have HB0 := Lib.hid hb0
  have HWX := Lib.hid hwx
  have HWT := Lib.hid hwt
  have HL := Lib.hid hL
  have HR := Lib.hid hR
  have HSL := Lib.hid hsl
  have HMC := Lib.hid hM
  have HG := Lib.hid hG
  have hL1 := hL.lt
  have hR1 := hR.lt
  have hM1 := hM.lt
  have hRL : ¬ R = L := fun e => hLR e.symm
  have hLR' : ¬ L = R := hLR
  have c0 := hM.c0
  clear hx ht hb0 hwx hwt hL hR hsl hLR hM hG
  unfold PassR
  go_enter Try.func23, Try.ntmps23
  go_wp2
  go_step3
  go_wp2
  go_step3
  go_wp2
  clear c0
  go_loopw [5, 16] (fun vo i wr => ∃ k : Nat, k ≤ xs.length ∧ i = .int .i64 k ∧ OwnPrs wr w.heap.size vo (passN xs ts slack ex mine used k).out ∧ OwnBs wr w0.heap.size L (passN xs ts slack ex mine used k).mine ∧ OwnBs wr w0.heap.size R (passN xs ts slack ex mine used k).used ∧ Kp L R w wr) (fun _ i _ => xs.length - (intOf i).toNat)
  case atStart => exact ⟨0, Nat.zero_le _, rfl, OwnPrs.nil _ _, HL.out, HR.out, Kp.refl _⟩
  case round =>
    obtain ⟨wo, hwo⟩ : ∃ wo, wo = wr := ⟨_, rfl⟩
    subst hwo
    obtain ⟨k, hk, rfl, ho, hom, hou, hkp⟩ := hrel
    have HO := Lib.hid ho
    have HOM := Lib.hid hom
    have HOU := Lib.hid hou
    have HKP := Lib.hid hkp
    have hsz := hkp.size
    clear ho hom hou hkp
    by_cases hlt : k < xs.length
    · obtain ⟨x, hxk⟩ : ∃ s, xs[k]? = some s := ⟨_, List.getElem?_eq_getElem hlt⟩
      have HXK := Lib.hid hxk
      have HWXX := Lib.hid (HWX.out x (List.mem_of_getElem? hxk))
      have HN := Lib.hid (pass_next (ts := ts) (slack := slack) (ex := ex) (mine := mine) (used := used) hxk)
      have hpl := pass_out xs ts slack ex mine used k
      have hl := passN_len xs ts slack ex mine used k
      clear hxk
      generalize hP : passN xs ts slack ex mine used k = s at *
      obtain ⟨A5, q5, rfl, -⟩ := HO.out.form
      have hml : s.mine.length = xs.length := by omega
      have hul : s.used.length = ts.length := by omega
      obtain ⟨m0, hm0⟩ : ∃ b, s.mine[k]? = some b := ⟨_, List.getElem?_eq_getElem (by omega)⟩
      have HM0 := Lib.hid hm0
      obtain ⟨xm, fm⟩ := HOM.out.at hm0
      clear hm0 hl hP
      have HMC2 := Lib.hid (HMC.out.kp HKP.out hML hMR)
      obtain ⟨hMlt, c0, c1, c2, c3, c4, c5⟩ := HMC2.out
      have hLlt : L < wo.heap.size := by omega
      have hRlt : R < wo.heap.size := by omega
      have HBB := Lib.hid (HKP.out.toBelow HB0.out HB0.out.size hL1.1 hR1.1)
      obtain ⟨bx, ox, rfl, hbx, x0, x1, x2, x3, x4⟩ := its_cells (HX.out.below HBB.out) HXK.out
      cases m0
      · obtain ⟨xa, xb, xk, xs', xn⟩ := x
        dsimp only at x0 x1 x2 x3 x4
        have HGR := Lib.hid (HG.out.kp HKP.out HL.out HR.out)
        go_upto_region 6 with fail
        go_region_held3 (fun w' => w'.cell? ⟨Mp, 3, none⟩ = some (.map (some D)) ∧ w'.cell? ⟨wo.heap.size, 0, none⟩ = some (.string xa) ∧ w'.cell? ⟨wo.heap.size, 1, none⟩ = some (.string xb) ∧ w'.cell? ⟨wo.heap.size, 2, none⟩ = some (.int .i64 xk) ∧ w'.cell? ⟨wo.heap.size, 3, none⟩ = some (.int .i64 xs') ∧ w'.cell? ⟨wo.heap.size, 4, none⟩ = some (.int .i64 xn))
          (first | (refine ⟨?_, ?_, ?_, ?_, ?_, ?_⟩ <;> simp [go_sem, c3, hMlt]) | go_keep)
          ((first
            | (go_at_call 22; (with_reducible refine (of_any xa xb xk xs' xn _).mono ?_); rintro e w1 ⟨rfl, hb⟩; obtain ⟨s1, rfl⟩ := ext_of_below hb; clear hb; have HKW := Lib.hid ((((Kp.refl (M := L) (U := R) wo).alloc (Obj.cells #[.string xa, .string xb, .int .i64 xk, .int .i64 xs', .int .i64 xn] 47)).step (Below.drew (Below.refl _ _))).ext s1); obtain ⟨vl, hrun, hvo, hvl, hvb⟩ := Grp.look (HGR.out.kp HKW.out HOM.out HOU.out) (y := ⟨xa, xb, xk, xs', xn⟩) hn (by omega) HWXX.out.2.2.2.1 HWXX.out.2.2.2.2 HWXX.out.1; clear hvb hvl; obtain ⟨zl, hzl⟩ : ∃ zl, zl = natI (endsN ⟨xa, xb, xk, xs', xn⟩ ts ts.length) := ⟨_, rfl⟩; rw [← hzl] at hvo; obtain ⟨Av, cv, rfl, hvn⟩ := hvo.form; unfold keyV at hrun; have HV := Lib.hid hvn; have HZ := Lib.hid hzl; have HVO := Lib.hid hvo; clear hvn hzl hvo)))
        have hW1b : Below wo.heap.size wo (ext (wo.alloc (Obj.cells #[.string xa, .string xb, .int .i64 xk, .int .i64 xs', .int .i64 xn] 47)).drew s1) := below_ext (Below.drew (Below.alloc (Below.refl _ _) (Nat.le_refl _) _)) (by simp) s1
        have hW1c : ∀ i u, (It.cells ⟨xa, xb, xk, xs', xn⟩)[i]? = some u → (ext (wo.alloc (Obj.cells #[.string xa, .string xb, .int .i64 xk, .int .i64 xs', .int .i64 xn] 47)).drew s1).cell? ⟨wo.heap.size, i, none⟩ = some u := by
          intro i u hu
          have hi : i < 5 := (List.getElem?_eq_some_iff.1 hu).1
          rw [← hu]
          match i, hi with
          | 0, _ | 1, _ | 2, _ | 3, _ | 4, _ => simp [go_sem, It.cells]
        have hW1s : wo.heap.size < (ext (wo.alloc (Obj.cells #[.string xa, .string xb, .int .i64 xk, .int .i64 xs', .int .i64 xn] 47)).drew s1).heap.size := by simp [go_sem]
        clear hrun HVO HKW
        generalize ext (wo.alloc (Obj.cells #[.string xa, .string xb, .int .i64 xk, .int .i64 xs', .int .i64 xn] 47)).drew s1 = W1 at *
        obtain ⟨eN, hE⟩ : ∃ eN, eN = endsN ⟨xa, xb, xk, xs', xn⟩ ts ts.length := ⟨_, rfl⟩
        have hZ := HZ.out
        rw [← hE] at hZ
        have HE := Lib.hid hE
        have HZZ := Lib.hid hZ
        have HZL : Hid (zl.length = eN.length) := by unfold Hid; rw [hZ]; simp [natI]
        have hzb : zl.length ≤ 24 := by
          have h1 := endsN_len ⟨xa, xb, xk, xs', xn⟩ ts ts.length
          rw [← hE] at h1
          have h2 := HZL.out
          omega
        clear HZ hE hZ
        have HW1C := Lib.hid hW1c
        have HW1B := Lib.hid hW1b
        clear hW1c hW1b x0 x1 x2 x3 x4
        go_wp2_with fail
        go_loopw [5, 36] (fun vo i wq => ∃ j : Nat, j ≤ zl.length ∧ i = .int .i64 j ∧ vo = .slice A5 s.out.length q5 ∧ (∀ (q p : Nat), q < j → eN[q]? = some p → canB ⟨xa, xb, xk, xs', xn⟩ slack ex ts s.used p = false) ∧ Below W1.heap.size W1 wq) (fun _ i _ => zl.length - (intOf i).toNat)
        case atStart => exact ⟨0, Nat.zero_le _, rfl, rfl, fun q p hq => by omega, Below.refl _ _⟩
        case round =>
          obtain ⟨j, hj, rfl, rfl, hcan, hq1⟩ := hrel
          have HCAN := Lib.hid hcan
          have HQ1 := Lib.hid hq1
          have HQ := Lib.hid (HW1B.out.trans (hq1.mono (Nat.le_of_lt hW1s)))
          have hsq := hq1.size
          clear hcan hq1
          by_cases hjl : j < zl.length
          · obtain ⟨p, hep⟩ : ∃ p, eN[j]? = some p := ⟨_, List.getElem?_eq_getElem (by have := HZL.out; omega)⟩
            have hzp : zl[j]? = some (p : Int) := by rw [HZZ.out]; simp [natI, hep]
            have hpm := endsN_mem HE.out hep
            obtain ⟨hpl2, y, hyp, hends⟩ := hpm
            obtain ⟨b, o, rfl, hb, z0⟩ := nts_cells (HV.out.below HQ1.out) hzp
            obtain ⟨u0, hu0⟩ : ∃ b, s.used[p]? = some b := ⟨_, List.getElem?_eq_getElem (by omega)⟩
            obtain ⟨xu, fu⟩ := (HOU.out.below HQ.out).at hu0
            obtain ⟨xm', fm'⟩ := (HOM.out.below HQ.out).at HM0.out
            have HC := Lib.hid (can_at (x := ⟨xa, xb, xk, xs', xn⟩) (slack := slack) (ex := ex) hyp hu0)
            have HWY := Lib.hid (HWT.out y (List.mem_of_getElem? hyp))
            obtain ⟨bt, ot, rfl, hbt, y0, y1, y2, y3, y4⟩ := its_cells (HT.out.below (HBB.out.trans (HQ.out.mono (by have := HBB.out.size; omega)))) hyp
            have e3 := (HQ1.out.cell (p := ⟨wo.heap.size, 3, none⟩) hW1s).trans (HW1C.out 3 _ rfl)
            have e4 := (HQ1.out.cell (p := ⟨wo.heap.size, 4, none⟩) hW1s).trans (HW1C.out 4 _ rfl)
            have g1 := (HQ.out.cell (p := ⟨Mp, 1, none⟩) hMlt).trans c1
            have g2 := (HQ.out.cell (p := ⟨Mp, 2, none⟩) hMlt).trans c2
            have g4 := (HQ.out.cell (p := ⟨Mp, 4, none⟩) hMlt).trans c4
            have g5 := (HQ.out.cell (p := ⟨Mp, 5, none⟩) hMlt).trans c5
            obtain ⟨ya, yb, yk, ys', yn⟩ := y
            have HNR : Hid (∀ W, Calls Try.prog 32 #[.int .i64 xs', .int .i64 ys', .int .i64 slack] W fun e w' => e = .returned (.bool (nearB xs' ys' slack)) ∧ Below W.heap.size W w') := fun W => near_any xs' ys' slack W HWXX.out.2.1 HWY.out.2.1 HSL.out
            unfold fitB agreeB at HC
            rw [hends, Bool.true_and] at HC
            dsimp only at HC y0 y1 y2 y3 y4
            generalize nearB xs' ys' slack = nr at *
            have HEP := Lib.hid hep
            have HU0 := Lib.hid hu0
            clear hep hzp hyp hends hu0 c0 c1 c2 c3 c4 c5
            have k1 : wo.heap.size < wr.heap.size := by omega
            have k2 : ¬ wo.heap.size = wr.heap.size := by omega
            have k3 : Mp < wr.heap.size := by omega
            have k4 : ¬ Mp = wr.heap.size := by omega
            have k5 : L < wr.heap.size := by omega
            have k6 : ¬ L = wr.heap.size := by omega
            have k7 : R < wr.heap.size := by omega
            have k8 : ¬ R = wr.heap.size := by omega
            have k9 : ¬ b = wr.heap.size := by omega
            have k10 : ¬ bt = wr.heap.size := by omega
            have m4 : ¬ Mp = L := hML
            have m5 : ¬ Mp = R := hMR
            have m6 : ¬ L = Mp := fun e => hML e.symm
            have m7 : ¬ R = Mp := fun e => hMR e.symm
            have l1 : wo.heap.size < wr.heap.size + 1 := by omega
            have l3 : Mp < wr.heap.size + 1 := by omega
            have l5 : L < wr.heap.size + 1 := by omega
            have l7 : R < wr.heap.size + 1 := by omega
            cases u0
            · cases nr
              · --<n1
                go_wp2_with fail
                refine wp_region_more (by kernel_rfl) (by kernel_rfl) ?_
                repeat (first | go_big_quiet_skip | quiet_step (first
                  | (go_at_call 32; first | with_reducible exact more_call2 (HNR.out _) | with_reducible exact more_call (HNR.out _))))
                refine wpQuiet_nil ?_
                rintro _ ⟨s4, rfl⟩
                go_wp2_with fail
                go_roundw
                case rel =>
                  refine ⟨j + 1, by omega, by go_num, rfl, fun q p' hq hp' => ?_, below_ext (HQ1.out.alloc HQ1.out.size _) (by simp; omega) s4⟩
                  by_cases hqj : q < j
                  · exact HCAN.out q p' hqj hp'
                  · obtain rfl : q = j := by omega
                    obtain rfl : p = p' := Option.some.inj (HEP.out.symm.trans hp')
                    rw [HC.out]
                    rfl
                case measure => simp [intOf]; omega
                -->n1
              · cases ex
                · --<t1
                  have HS : Hid (stepP slack false ts k ⟨xa, xb, xk, xs', xn⟩ s = ⟨s.out ++ [((k : Int), (p : Int))], s.mine.set k true, s.used.set p true⟩) := step_some HM0.out (pick_ends_at HE.out HEP.out (by rw [HC.out]; rfl) (fun q p' hq hp' => HCAN.out q p' hq hp'))
                  go_wp2_with fail
                  refine wp_region_more (by kernel_rfl) (by kernel_rfl) ?_
                  repeat (first | go_big_quiet_skip | quiet_step (first
                    | (go_at_call 32; first | with_reducible exact more_call2 (HNR.out _) | with_reducible exact more_call (HNR.out _))))
                  refine wpQuiet_nil ?_
                  rintro _ ⟨s4, rfl⟩
                  go_wp2_with fail
                  go_region_held3 (fun w' => w'.cell? ⟨Mp, 4, none⟩ = some (.slice (some ⟨L, 0, none⟩) xs.length xs.length) ∧ w'.cell? ⟨Mp, 5, none⟩ = some (.slice (some ⟨R, 0, none⟩) ts.length ts.length)) (first | (refine ⟨?_, ?_⟩ <;> simp [go_sem, g4, g5, k3, k4, m4, m5]) | go_keep) (fail)
                  have hol : s.out.length ≤ 24 := by omega
                  have HOMQ := HOM.out.below HQ.out
                  have HOUQ := HOU.out.below HQ.out
                  have HKS := Lib.hid (Kp.set (Kp.set (Kp.refl (M := L) (U := R) wr) (k := L) (j := k) (v := .bool true) (.inl rfl)) (k := R) (j := p) (v := .bool true) (.inr rfl))
                  have HOS := Lib.hid (HKS.out.keep (own_below HO.out HQ.out) HOMQ HOUQ (by decide))
                  have HOMS := Lib.hid ((HOMQ.stored k true).1.other (j := p) (u := .bool true) hLR')
                  have HOUS := Lib.hid (OwnBs.stored (HOUQ.other (j := k) (u := .bool true) hRL) p true).1
                  have HKW := Lib.hid ((HKP.out.step HQ.out).trans HKS.out)
                  clear HOMQ HOUQ HKS
                  go_wp2_with (at_builtin; refine wpList_append_own _ rfl _ _ _ rfl w.heap.size 37 i0 _ 2 16 Try.underlying25 hi0 hz0 hz1 hz2 rfl (by omega) _ s.out.length (s.out.flatMap prCells) rfl (World.ownsRow.alloc (own_below (World.ownsRow.alloc HOS.out _) (below_ext (Below.refl _ _) (Nat.le_refl _) s4.draw)) _) ⟨wr.heap.size + 1 + s4.n, 0, none⟩ 1 1 (prCells ((k : Int), (p : Int))) rfl rfl (cells_new _ (by simp [go_sem])) (pr_one _) (by simp only [maxLen]; omega) (by omega) (by simp [go_sem]; omega) ?_; intro v6 w6 hown6 hg6 hnil6; clear hnil6; have HO6 := Lib.hid hown6; have HG6 := Lib.hid hg6; have HOM6 := Lib.hid (own_grown (World.ownsRow.alloc (own_below (World.ownsRow.alloc HOMS.out _) (below_ext (Below.refl _ _) (Nat.le_refl _) s4.draw)) _) (World.ownsRow.alloc (own_below (World.ownsRow.alloc HOS.out _) (below_ext (Below.refl _ _) (Nat.le_refl _) s4.draw)) _) (by decide) hg6); have HOU6 := Lib.hid (own_grown (World.ownsRow.alloc (own_below (World.ownsRow.alloc HOUS.out _) (below_ext (Below.refl _ _) (Nat.le_refl _) s4.draw)) _) (World.ownsRow.alloc (own_below (World.ownsRow.alloc HOS.out _) (below_ext (Below.refl _ _) (Nat.le_refl _) s4.draw)) _) (by decide) hg6); clear hown6 hg6)
                  go_roundw
                  case rel =>
                    refine ⟨k + 1, by omega, by go_num, ?_, ?_, ?_, ?_⟩
                    · rw [HN.out, HS.out]
                      unfold OwnPrs
                      rw [List.length_append, List.flatMap_append]
                      simpa using HO6.out
                    · rw [HN.out, HS.out]
                      exact OwnBs.of_own (by simp) HOM6.out
                    · rw [HN.out, HS.out]
                      exact OwnBs.of_own (by simp) HOU6.out
                    · exact Kp.grown (((HKW.out.alloc _).ext _).alloc _) HG6.out (fun i hi => (World.ownsRow.lt HO.out i hi).1)
                  case measure => simp [intOf]; omega
                  -->t1
                · by_cases hun : xn = yn
                  · subst hun
                    --<t2
                    have HS : Hid (stepP slack true ts k ⟨xa, xb, xk, xs', xn⟩ s = ⟨s.out ++ [((k : Int), (p : Int))], s.mine.set k true, s.used.set p true⟩) := step_some HM0.out (pick_ends_at HE.out HEP.out (by rw [HC.out]; simp) (fun q p' hq hp' => HCAN.out q p' hq hp'))
                    go_wp2_with fail
                    refine wp_region_more (by kernel_rfl) (by kernel_rfl) ?_
                    repeat (first | go_big_quiet_skip | quiet_step (first
                      | (go_at_call 32; first | with_reducible exact more_call2 (HNR.out _) | with_reducible exact more_call (HNR.out _))))
                    refine wpQuiet_nil ?_
                    rintro _ ⟨s4, rfl⟩
                    go_wp2_with fail
                    go_region_held3 (fun w' => w'.cell? ⟨Mp, 4, none⟩ = some (.slice (some ⟨L, 0, none⟩) xs.length xs.length) ∧ w'.cell? ⟨Mp, 5, none⟩ = some (.slice (some ⟨R, 0, none⟩) ts.length ts.length)) (first | (refine ⟨?_, ?_⟩ <;> simp [go_sem, g4, g5, k3, k4, m4, m5]) | go_keep) (fail)
                    have hol : s.out.length ≤ 24 := by omega
                    have HOMQ := HOM.out.below HQ.out
                    have HOUQ := HOU.out.below HQ.out
                    have HKS := Lib.hid (Kp.set (Kp.set (Kp.refl (M := L) (U := R) wr) (k := L) (j := k) (v := .bool true) (.inl rfl)) (k := R) (j := p) (v := .bool true) (.inr rfl))
                    have HOS := Lib.hid (HKS.out.keep (own_below HO.out HQ.out) HOMQ HOUQ (by decide))
                    have HOMS := Lib.hid ((HOMQ.stored k true).1.other (j := p) (u := .bool true) hLR')
                    have HOUS := Lib.hid (OwnBs.stored (HOUQ.other (j := k) (u := .bool true) hRL) p true).1
                    have HKW := Lib.hid ((HKP.out.step HQ.out).trans HKS.out)
                    clear HOMQ HOUQ HKS
                    go_wp2_with (at_builtin; refine wpList_append_own _ rfl _ _ _ rfl w.heap.size 37 i0 _ 2 16 Try.underlying25 hi0 hz0 hz1 hz2 rfl (by omega) _ s.out.length (s.out.flatMap prCells) rfl (World.ownsRow.alloc (own_below (World.ownsRow.alloc HOS.out _) (below_ext (Below.refl _ _) (Nat.le_refl _) s4.draw)) _) ⟨wr.heap.size + 1 + s4.n, 0, none⟩ 1 1 (prCells ((k : Int), (p : Int))) rfl rfl (cells_new _ (by simp [go_sem])) (pr_one _) (by simp only [maxLen]; omega) (by omega) (by simp [go_sem]; omega) ?_; intro v6 w6 hown6 hg6 hnil6; clear hnil6; have HO6 := Lib.hid hown6; have HG6 := Lib.hid hg6; have HOM6 := Lib.hid (own_grown (World.ownsRow.alloc (own_below (World.ownsRow.alloc HOMS.out _) (below_ext (Below.refl _ _) (Nat.le_refl _) s4.draw)) _) (World.ownsRow.alloc (own_below (World.ownsRow.alloc HOS.out _) (below_ext (Below.refl _ _) (Nat.le_refl _) s4.draw)) _) (by decide) hg6); have HOU6 := Lib.hid (own_grown (World.ownsRow.alloc (own_below (World.ownsRow.alloc HOUS.out _) (below_ext (Below.refl _ _) (Nat.le_refl _) s4.draw)) _) (World.ownsRow.alloc (own_below (World.ownsRow.alloc HOS.out _) (below_ext (Below.refl _ _) (Nat.le_refl _) s4.draw)) _) (by decide) hg6); clear hown6 hg6)
                    go_roundw
                    case rel =>
                      refine ⟨k + 1, by omega, by go_num, ?_, ?_, ?_, ?_⟩
                      · rw [HN.out, HS.out]
                        unfold OwnPrs
                        rw [List.length_append, List.flatMap_append]
                        simpa using HO6.out
                      · rw [HN.out, HS.out]
                        exact OwnBs.of_own (by simp) HOM6.out
                      · rw [HN.out, HS.out]
                        exact OwnBs.of_own (by simp) HOU6.out
                      · exact Kp.grown (((HKW.out.alloc _).ext _).alloc _) HG6.out (fun i hi => (World.ownsRow.lt HO.out i hi).1)
                    case measure => simp [intOf]; omega
                    -->t2
                  · have hunB : (xn == yn) = false := beq_eq_false_iff_ne.2 hun
                    --<n2
                    go_wp2_with fail
                    refine wp_region_more (by kernel_rfl) (by kernel_rfl) ?_
                    repeat (first | go_big_quiet_skip | quiet_step (first
                      | (go_at_call 32; first | with_reducible exact more_call2 (HNR.out _) | with_reducible exact more_call (HNR.out _))))
                    refine wpQuiet_nil ?_
                    rintro _ ⟨s4, rfl⟩
                    go_wp2_with fail
                    go_roundw
                    case rel =>
                      refine ⟨j + 1, by omega, by go_num, rfl, fun q p' hq hp' => ?_, below_ext (HQ1.out.alloc HQ1.out.size _) (by simp; omega) s4⟩
                      by_cases hqj : q < j
                      · exact HCAN.out q p' hqj hp'
                      · obtain rfl : q = j := by omega
                        obtain rfl : p = p' := Option.some.inj (HEP.out.symm.trans hp')
                        rw [HC.out]
                        simp [hun]
                    case measure => simp [intOf]; omega
                    -->n2
            · --<n3
              go_wp2_with fail
              refine wp_region_more (by kernel_rfl) (by kernel_rfl) ?_
              repeat (first | go_big_quiet_skip | quiet_step (first
                | (go_at_call 32; first | with_reducible exact more_call2 (HNR.out _) | with_reducible exact more_call (HNR.out _))))
              refine wpQuiet_nil ?_
              rintro _ ⟨s4, rfl⟩
              go_wp2_with fail
              go_roundw
              case rel =>
                refine ⟨j + 1, by omega, by go_num, rfl, fun q p' hq hp' => ?_, below_ext (HQ1.out.alloc HQ1.out.size _) (by simp; omega) s4⟩
                by_cases hqj : q < j
                · exact HCAN.out q p' hqj hp'
                · obtain rfl : q = j := by omega
                  obtain rfl : p = p' := Option.some.inj (HEP.out.symm.trans hp')
                  rw [HC.out]
                  rfl
              case measure => simp [intOf]; omega
              -->n3
          · have HS : Hid (stepP slack ex ts k ⟨xa, xb, xk, xs', xn⟩ s = s) := step_none (pick_ends_none HE.out fun q p hp => HCAN.out q p (by have := (List.getElem?_eq_some_iff.1 hp).1; have := HZL.out; omega) hp)
            go_wp2
            go_roundw
            case rel => exact ⟨k + 1, by omega, by go_num, by rw [HN.out, HS.out]; exact own_below HO.out HQ.out, by rw [HN.out, HS.out]; exact HOM.out.below HQ.out, by rw [HN.out, HS.out]; exact HOU.out.below HQ.out, HKP.out.step HQ.out⟩
            case measure => simp [intOf]; omega
      · go_wp2
        go_roundw
        case rel => exact ⟨k + 1, by omega, by go_num, by rw [HN.out, step_skip HM0.out]; exact own_below HO.out (Below.alloc (Below.refl _ _) (Nat.le_refl _) _), by rw [HN.out, step_skip HM0.out]; exact HOM.out.below (Below.alloc (Below.refl _ _) (Nat.le_refl _) _), by rw [HN.out, step_skip HM0.out]; exact HOU.out.below (Below.alloc (Below.refl _ _) (Nat.le_refl _) _), HKP.out.alloc _⟩
        case measure => simp [intOf]; omega
    · obtain rfl : k = xs.length := by omega
      go_wp2
      try rw [Exit.noGoto_ret]
      go_ret
      exact ⟨_, rfl, HO.out, HOM.out, HOU.out, HKP.out⟩
end Go.Proofs.Ytclaijheemkegaa

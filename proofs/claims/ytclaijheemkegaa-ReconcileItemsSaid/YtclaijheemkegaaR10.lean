/-
  The walk of a pass of the reference.
-/
import Derived.Test.YtclaijheemkegaaRp
import Derived.BigQuiet
namespace Go.Proofs.Ytclaijheemkegaa
open Go.RowKit
set_option linter.unusedSimpArgs false
set_option linter.unusedVariables false

/-- What a pass leaves. -/
def PassR (s : Ps) (B M U : Nat) (w : World) (e : Ending) (w' : World) : Prop := ∃ v, e = .returned v ∧ OwnPrs w' w.heap.size v s.out ∧ OwnBs w' B M s.mine ∧ OwnBs w' B U s.used ∧ Kp M U w w'
/-- The numbers of an item are numbers of the machine. -/
def InIt (x : It) : Prop := fits x.kind ∧ fits x.start ∧ fits x.units ∧ x.a.size ≤ maxLen ∧ x.b.size ≤ maxLen
def Wide (xs : List It) : Prop := ∀ x ∈ xs, InIt x

set_option maxRecDepth 100000 in
set_option maxHeartbeats 4000000 in
theorem rpass_any (xs ts : List It) (slack : Int) (ex : Bool) (mine used : List Bool) (Ax At : Option Addr) (cx ct : Nat) (M U : Nat) (w0 w : World) (hb0 : Below w0.heap.size w0 w) (hx : Its w0 Ax xs) (ht : Its w0 At ts) (hM : OwnBs w w0.heap.size M mine) (hU : OwnBs w w0.heap.size U used) (hMU : M ≠ U)
    (hm : mine.length = xs.length) (hu : used.length = ts.length) (hxl : xs.length ≤ 24) (htl : ts.length ≤ 24) (hsl : fits slack) (hwx : Wide xs) (hwt : Wide ts) :
    Calls Try.prog 25 #[.slice Ax xs.length cx, .slice At ts.length ct, .int .i64 slack, .bool ex, .slice (some ⟨M, 0, none⟩) mine.length mine.length, .slice (some ⟨U, 0, none⟩) used.length used.length] w (PassR (passN xs ts slack ex mine used xs.length) w0.heap.size M U w) := by
  obtain ⟨i0, hi0, hz0, hz1, hz2⟩ := info_parts info_pair
  have HX := Lib.hid hx
  have HT := Lib.hid ht
  have HB0 := Lib.hid hb0
  have HWX := Lib.hid hwx
  have HWT := Lib.hid hwt
  have HM := Lib.hid hM
  have HU := Lib.hid hU
  have HSL := Lib.hid hsl
  have hM1 := hM.lt
  have hU1 := hU.lt
  have hUM : ¬ U = M := fun e => hMU e.symm
  have hMU' : ¬ M = U := hMU
  clear hx ht hb0 hwx hwt hM hU hsl hMU
  rw [hm, hu]
  unfold PassR
  go_enter Try.func25, Try.ntmps25
  go_wp2
  go_loopw [13, 14] (fun vo i wr => ∃ k : Nat, k ≤ xs.length ∧ i = .int .i64 k ∧ OwnPrs wr w.heap.size vo (passN xs ts slack ex mine used k).out ∧ OwnBs wr w0.heap.size M (passN xs ts slack ex mine used k).mine ∧ OwnBs wr w0.heap.size U (passN xs ts slack ex mine used k).used ∧ Kp M U w wr) (fun _ i _ => xs.length - (intOf i).toNat)
  case atStart => exact ⟨0, Nat.zero_le _, rfl, OwnPrs.nil _ _, HM.out, HU.out, Kp.refl _⟩
  case round =>
    obtain ⟨k, hk, rfl, ho, hom, hou, hkp⟩ := hrel
    have HO := Lib.hid ho
    have HOM := Lib.hid hom
    have HOU := Lib.hid hou
    have HKP := Lib.hid hkp
    have hsz := hkp.size
    clear ho hom hou hkp
    by_cases hlt : k < xs.length
    · obtain ⟨x, hxk⟩ : ∃ s, xs[k]? = some s := ⟨_, List.getElem?_eq_getElem hlt⟩
      have HXK := Lib.hid hxk
      have HWXX := Lib.hid (HWX.out x (List.mem_of_getElem? hxk))
      have HN := Lib.hid (pass_next (ts := ts) (slack := slack) (ex := ex) (mine := mine) (used := used) hxk)
      have hpl := pass_out xs ts slack ex mine used k
      have hl := passN_len xs ts slack ex mine used k
      clear hxk
      generalize hP : passN xs ts slack ex mine used k = s at *
      have hml : s.mine.length = xs.length := by omega
      have hul : s.used.length = ts.length := by omega
      obtain ⟨m0, hm0⟩ : ∃ b, s.mine[k]? = some b := ⟨_, List.getElem?_eq_getElem (by omega)⟩
      have HM0 := Lib.hid hm0
      clear hm0 hl hP
      go_wp2
      go_loopw [13, 15] (fun vo i wq => ∃ (j : Nat) (st : Ps) (mk : Bool), j ≤ ts.length ∧ i = .int .i64 j ∧ st.mine[k]? = some mk ∧ ((mk = false ∧ st = s ∧ ∀ q, q < j → canB x slack ex ts s.used q = false) ∨ (mk = true ∧ st = stepP slack ex ts k x s)) ∧ OwnPrs wq w.heap.size vo st.out ∧ OwnBs wq w0.heap.size M st.mine ∧ OwnBs wq w0.heap.size U st.used ∧ Kp M U w wq) (fun _ i _ => ts.length - (intOf i).toNat)
      case atStart =>
        refine ⟨0, s, m0, Nat.zero_le _, rfl, HM0.out, ?_, HO.out, HOM.out, HOU.out, HKP.out⟩
        cases m0
        · exact .inl ⟨rfl, rfl, fun q hq => by omega⟩
        · exact .inr ⟨rfl, (step_skip HM0.out).symm⟩
      case round =>
        clear HO HOM HOU HKP hsz
        obtain ⟨j, st, mk, hj, rfl, hmk, hcase, ho, hom, hou, hkp⟩ := hrel
        have HO := Lib.hid ho
        have HOM := Lib.hid hom
        have HOU := Lib.hid hou
        have HKP := Lib.hid hkp
        have hsz := hkp.size
        obtain ⟨xm, fm⟩ := hom.at hmk
        have HMK := Lib.hid hmk
        have HCASE := Lib.hid hcase
        clear ho hom hou hkp hmk hcase
        by_cases hjl : j < ts.length
        · cases mk
          · have hst : st = s := by
              rcases HCASE.out with ⟨_, h, _⟩ | ⟨h, _⟩
              · exact h
              · cases h
            have HCAN : Hid (∀ q, q < j → canB x slack ex ts s.used q = false) := by
              rcases HCASE.out with ⟨_, _, h⟩ | ⟨h, _⟩
              · exact h
              · cases h
            subst hst
            clear HCASE
            have hMlt : M < wr.heap.size := by omega
            have hUlt : U < wr.heap.size := by omega
            have HBB := Lib.hid (HKP.out.toBelow HB0.out HB0.out.size hM1.1 hU1.1)
            obtain ⟨y, hyj⟩ : ∃ s, ts[j]? = some s := ⟨_, List.getElem?_eq_getElem hjl⟩
            obtain ⟨u0, hu0⟩ : ∃ b, st.used[j]? = some b := ⟨_, List.getElem?_eq_getElem (by omega)⟩
            obtain ⟨xu, fu⟩ := HOU.out.at hu0
            have HC := Lib.hid (can_at (x := x) (slack := slack) (ex := ex) hyj hu0)
            have HWY := Lib.hid (HWT.out y (List.mem_of_getElem? hyj))
            obtain ⟨bx, ox, rfl, hbx, x0, x1, x2, x3, x4⟩ := its_cells (HX.out.below HBB.out) HXK.out
            obtain ⟨bt, ot, rfl, hbt, y0, y1, y2, y3, y4⟩ := its_cells (HT.out.below HBB.out) hyj
            obtain ⟨xa, xb, xk, xs', xn⟩ := x
            obtain ⟨ya, yb, yk, ys', yn⟩ := y
            have HAG : Hid (∀ W, Calls Try.prog 33 #[.agg #[.string xa, .string xb, .int .i64 xk, .int .i64 xs', .int .i64 xn], .agg #[.string ya, .string yb, .int .i64 yk, .int .i64 ys', .int .i64 yn], .int .i64 slack] W fun e w' => e = .returned (.bool (agreeB ⟨xa, xb, xk, xs', xn⟩ ⟨ya, yb, yk, ys', yn⟩ slack)) ∧ Below W.heap.size W w') := fun W => agree_any xa xb xk xs' xn ya yb yk ys' yn slack W HWXX.out.2.1 HWY.out.2.1 HSL.out
            unfold fitB at HC
            dsimp only at HC x0 x1 x2 x3 x4 y0 y1 y2 y3 y4
            generalize agreeB ⟨xa, xb, xk, xs', xn⟩ ⟨ya, yb, yk, ys', yn⟩ slack = ag at *
            have HYJ := Lib.hid hyj
            have HU0 := Lib.hid hu0
            clear hyj hu0

            cases u0
            · cases ag
              · --<n1
                go_wp2_with fail
                refine wp_region_more (by kernel_rfl) (by kernel_rfl) ?_
                repeat (first | go_big_quiet_skip | quiet_step (first
                  | (go_at_call 33; first | with_reducible exact more_call2 (HAG.out _) | with_reducible exact more_call (HAG.out _))))
                refine wpQuiet_nil ?_
                rintro _ ⟨s4, rfl⟩
                go_wp2_with fail
                go_roundw
                case rel =>
                  refine ⟨j + 1, st, false, by omega, by go_num, HMK.out, .inl ⟨rfl, rfl, fun q hq => ?_⟩, own_below HO.out (below_ext (Below.refl _ _) (Nat.le_refl _) s4), HOM.out.below (below_ext (Below.refl _ _) (Nat.le_refl _) s4), HOU.out.below (below_ext (Below.refl _ _) (Nat.le_refl _) s4), HKP.out.ext s4⟩
                  by_cases hqj : q < j
                  · exact HCAN.out q hqj
                  · obtain rfl : q = j := by omega
                    rw [HC.out]
                    rfl
                case measure => simp [intOf]; omega
                -->n1
              · cases ex
                · --<t1
                  have HS : Hid (stepP slack false ts k ⟨xa, xb, xk, xs', xn⟩ st = ⟨st.out ++ [((k : Int), (j : Int))], st.mine.set k true, st.used.set j true⟩) := step_some HMK.out (pick_at hjl (by rw [HC.out]; rfl) HCAN.out)
                  have hol : st.out.length ≤ 24 := by omega
                  go_wp2_with fail
                  refine wp_region_more (by kernel_rfl) (by kernel_rfl) ?_
                  repeat (first | go_big_quiet_skip | quiet_step (first
                    | (go_at_call 33; first | with_reducible exact more_call2 (HAG.out _) | with_reducible exact more_call (HAG.out _))))
                  refine wpQuiet_nil ?_
                  rintro _ ⟨s4, rfl⟩
                  go_wp2_with (at_builtin; refine wpList_append_own _ rfl _ _ _ rfl w.heap.size 37 i0 _ 2 16 Try.underlying25 hi0 hz0 hz1 hz2 rfl (by omega) _ st.out.length (st.out.flatMap prCells) rfl (World.ownsRow.alloc (own_below HO.out (below_ext (Below.refl _ _) (Nat.le_refl _) s4)) _) ⟨wr.heap.size + s4.n, 0, none⟩ 1 1 (prCells ((k : Int), (j : Int))) rfl rfl (cells_new _ (by simp [go_sem])) (pr_one _) (by simp only [maxLen]; omega) (by omega) (by simp [go_sem]; omega) ?_; intro v6 w6 hown6 hg6 hnil6; clear hnil6; have HO6 := Lib.hid hown6; have HG6 := Lib.hid hg6; have HOM6 := Lib.hid (own_grown (World.ownsRow.alloc (own_below HOM.out (below_ext (Below.refl _ _) (Nat.le_refl _) s4)) _) (World.ownsRow.alloc (own_below HO.out (below_ext (Below.refl _ _) (Nat.le_refl _) s4)) _) (by decide) hg6); have HOU6 := Lib.hid (own_grown (World.ownsRow.alloc (own_below HOU.out (below_ext (Below.refl _ _) (Nat.le_refl _) s4)) _) (World.ownsRow.alloc (own_below HO.out (below_ext (Below.refl _ _) (Nat.le_refl _) s4)) _) (by decide) hg6); have q1 := OwnBs.at HOM6.out HMK.out; have q2 := OwnBs.at HOU6.out HU0.out; obtain ⟨q3, q4⟩ := q1; obtain ⟨q5, q6⟩ := q2; clear hown6 hg6)
                  go_roundw
                  case rel =>
                    refine ⟨j + 1, stepP slack false ts k ⟨xa, xb, xk, xs', xn⟩ st, true, by omega, by go_num, ?_, .inr ⟨rfl, rfl⟩, ?_, ?_, ?_, ?_⟩
                    · rw [HS.out]
                      dsimp only
                      rw [List.getElem?_set_self (by omega)]
                    · rw [HS.out]
                      unfold OwnPrs
                      rw [List.length_append, List.flatMap_append]
                      refine Kp.keep (Kp.set (Kp.set (Kp.refl _) (.inl rfl)) (.inr rfl)) ?_ HOM6.out HOU6.out (by decide)
                      simpa using HO6.out
                    · rw [HS.out]
                      exact OwnBs.other (OwnBs.stored HOM6.out k true).1 hMU'
                    · rw [HS.out]
                      exact (OwnBs.stored (OwnBs.other HOU6.out hUM) j true).1
                    · exact Kp.set (Kp.set (Kp.grown ((HKP.out.ext s4).alloc _) HG6.out (fun i hi => (World.ownsRow.lt HO.out i hi).1)) (.inl rfl)) (.inr rfl)
                  case measure => simp [intOf]; omega
                  -->t1
                · by_cases hun : xn = yn
                  · subst hun
                    --<t2
                    have HS : Hid (stepP slack true ts k ⟨xa, xb, xk, xs', xn⟩ st = ⟨st.out ++ [((k : Int), (j : Int))], st.mine.set k true, st.used.set j true⟩) := step_some HMK.out (pick_at hjl (by rw [HC.out]; simp) HCAN.out)
                    have hol : st.out.length ≤ 24 := by omega
                    go_wp2_with fail
                    refine wp_region_more (by kernel_rfl) (by kernel_rfl) ?_
                    repeat (first | go_big_quiet_skip | quiet_step (first
                      | (go_at_call 33; first | with_reducible exact more_call2 (HAG.out _) | with_reducible exact more_call (HAG.out _))))
                    refine wpQuiet_nil ?_
                    rintro _ ⟨s4, rfl⟩
                    go_wp2_with (at_builtin; refine wpList_append_own _ rfl _ _ _ rfl w.heap.size 37 i0 _ 2 16 Try.underlying25 hi0 hz0 hz1 hz2 rfl (by omega) _ st.out.length (st.out.flatMap prCells) rfl (World.ownsRow.alloc (own_below HO.out (below_ext (Below.refl _ _) (Nat.le_refl _) s4)) _) ⟨wr.heap.size + s4.n, 0, none⟩ 1 1 (prCells ((k : Int), (j : Int))) rfl rfl (cells_new _ (by simp [go_sem])) (pr_one _) (by simp only [maxLen]; omega) (by omega) (by simp [go_sem]; omega) ?_; intro v6 w6 hown6 hg6 hnil6; clear hnil6; have HO6 := Lib.hid hown6; have HG6 := Lib.hid hg6; have HOM6 := Lib.hid (own_grown (World.ownsRow.alloc (own_below HOM.out (below_ext (Below.refl _ _) (Nat.le_refl _) s4)) _) (World.ownsRow.alloc (own_below HO.out (below_ext (Below.refl _ _) (Nat.le_refl _) s4)) _) (by decide) hg6); have HOU6 := Lib.hid (own_grown (World.ownsRow.alloc (own_below HOU.out (below_ext (Below.refl _ _) (Nat.le_refl _) s4)) _) (World.ownsRow.alloc (own_below HO.out (below_ext (Below.refl _ _) (Nat.le_refl _) s4)) _) (by decide) hg6); have q1 := OwnBs.at HOM6.out HMK.out; have q2 := OwnBs.at HOU6.out HU0.out; obtain ⟨q3, q4⟩ := q1; obtain ⟨q5, q6⟩ := q2; clear hown6 hg6)
                    go_roundw
                    case rel =>
                      refine ⟨j + 1, stepP slack true ts k ⟨xa, xb, xk, xs', xn⟩ st, true, by omega, by go_num, ?_, .inr ⟨rfl, rfl⟩, ?_, ?_, ?_, ?_⟩
                      · rw [HS.out]
                        dsimp only
                        rw [List.getElem?_set_self (by omega)]
                      · rw [HS.out]
                        unfold OwnPrs
                        rw [List.length_append, List.flatMap_append]
                        refine Kp.keep (Kp.set (Kp.set (Kp.refl _) (.inl rfl)) (.inr rfl)) ?_ HOM6.out HOU6.out (by decide)
                        simpa using HO6.out
                      · rw [HS.out]
                        exact OwnBs.other (OwnBs.stored HOM6.out k true).1 hMU'
                      · rw [HS.out]
                        exact (OwnBs.stored (OwnBs.other HOU6.out hUM) j true).1
                      · exact Kp.set (Kp.set (Kp.grown ((HKP.out.ext s4).alloc _) HG6.out (fun i hi => (World.ownsRow.lt HO.out i hi).1)) (.inl rfl)) (.inr rfl)
                    case measure => simp [intOf]; omega
                    -->t2
                  · have hunB : (xn == yn) = false := beq_eq_false_iff_ne.2 hun
                    --<n2
                    go_wp2_with fail
                    refine wp_region_more (by kernel_rfl) (by kernel_rfl) ?_
                    repeat (first | go_big_quiet_skip | quiet_step (first
                      | (go_at_call 33; first | with_reducible exact more_call2 (HAG.out _) | with_reducible exact more_call (HAG.out _))))
                    refine wpQuiet_nil ?_
                    rintro _ ⟨s4, rfl⟩
                    go_wp2_with fail
                    go_roundw
                    case rel =>
                      refine ⟨j + 1, st, false, by omega, by go_num, HMK.out, .inl ⟨rfl, rfl, fun q hq => ?_⟩, own_below HO.out (below_ext (Below.refl _ _) (Nat.le_refl _) s4), HOM.out.below (below_ext (Below.refl _ _) (Nat.le_refl _) s4), HOU.out.below (below_ext (Below.refl _ _) (Nat.le_refl _) s4), HKP.out.ext s4⟩
                      by_cases hqj : q < j
                      · exact HCAN.out q hqj
                      · obtain rfl : q = j := by omega
                        rw [HC.out]
                        simp [hun]
                    case measure => simp [intOf]; omega
                    -->n2
            · --<n3
              go_wp2_with fail
              refine wp_region_more (by kernel_rfl) (by kernel_rfl) ?_
              repeat (first | go_big_quiet_skip | quiet_step (first
                | (go_at_call 33; first | with_reducible exact more_call2 (HAG.out _) | with_reducible exact more_call (HAG.out _))))
              refine wpQuiet_nil ?_
              rintro _ ⟨s4, rfl⟩
              go_wp2_with fail
              go_roundw
              case rel =>
                refine ⟨j + 1, st, false, by omega, by go_num, HMK.out, .inl ⟨rfl, rfl, fun q hq => ?_⟩, own_below HO.out (below_ext (Below.refl _ _) (Nat.le_refl _) s4), HOM.out.below (below_ext (Below.refl _ _) (Nat.le_refl _) s4), HOU.out.below (below_ext (Below.refl _ _) (Nat.le_refl _) s4), HKP.out.ext s4⟩
                by_cases hqj : q < j
                · exact HCAN.out q hqj
                · obtain rfl : q = j := by omega
                  rw [HC.out]
                  rfl
              case measure => simp [intOf]; omega
              -->n3
          · go_wp2
            go_roundw
            have HS : Hid (st = passN xs ts slack ex mine used (k + 1)) := by
              rw [Hid, HN.out]
              rcases HCASE.out with ⟨h, _⟩ | ⟨_, h⟩
              · cases h
              · exact h
            case rel => exact ⟨k + 1, by omega, by go_num, by rw [← HS.out]; exact HO.out, by rw [← HS.out]; exact HOM.out, by rw [← HS.out]; exact HOU.out, HKP.out⟩
            case measure => simp [intOf]; omega
        · have HS : Hid (st = passN xs ts slack ex mine used (k + 1)) := by
            unfold Hid
            rw [HN.out]
            rcases HCASE.out with ⟨_, h1, h2⟩ | ⟨_, h⟩
            · rw [step_none (pick_none fun q hq => h2 q (by omega))]
              exact h1
            · exact h
          go_wp2
          go_roundw
          case rel => exact ⟨k + 1, by omega, by go_num, by rw [← HS.out]; exact HO.out, by rw [← HS.out]; exact HOM.out, by rw [← HS.out]; exact HOU.out, HKP.out⟩
          case measure => simp [intOf]; omega
    · obtain rfl : k = xs.length := by omega
      go_wp2
      go_ret
      exact ⟨_, rfl, HO.out, HOM.out, HOU.out, HKP.out⟩
end Go.Proofs.Ytclaijheemkegaa

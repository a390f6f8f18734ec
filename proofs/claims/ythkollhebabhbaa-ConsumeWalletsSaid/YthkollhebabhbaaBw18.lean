/-
  The walk of Give.
-/
import Derived.Test.YthkollhebabhbaaBw17
import Derived.Test.YthkollhebabhbaaBw10
import Derived.Test.YthkollhebabhbaaOpenL
import Derived.StillTailTactics
namespace Go.Proofs.Ythkollhebabhbaa
open Go.RowKit
set_option linter.unusedSimpArgs false

def GivePost (ts : List Tk) (xs : List Bk) (w : World) (e : Ending) (w' : World) : Prop := ∃ v, e = .returned (.tuple #[v, .int .i64 (give ts xs).2]) ∧ OwnBks w' w.heap.size v (give ts xs).1 ∧ Below w.heap.size w w'

theorem drop_tk {ts : List Tk} {j : Nat} {t : Tk} (h : ts[j]? = some t) : ts.drop j = t :: ts.drop (j + 1) := by
  obtain ⟨h1, h2⟩ := List.getElem?_eq_some_iff.1 h
  rw [List.drop_eq_getElem_cons h1, h2]
theorem give_neg {t : Tk} {ts : List Tk} {outs : List Bk} (h : t.units < 0) : give (t :: ts) outs = ([], 6) := by simp [give, h]
theorem give_none {t : Tk} {ts : List Tk} {outs : List Bk} (h0 : 0 ≤ t.units) (hf : fnd t outs = none) : give (t :: ts) outs = ([], 11) := by simp [give, hf, show ¬ t.units < 0 by omega]
theorem give_no {t : Tk} {ts : List Tk} {outs : List Bk} {k : Nat} {x : Bk} (h0 : 0 ≤ t.units) (hf : fnd t outs = some k) (hx : outs[k]? = some x) (h : ¬ x.left + t.units ≤ x.units) : give (t :: ts) outs = ([], 6) := by
  simp only [give, hf, getD_at hx, if_neg h, if_neg (show ¬ t.units < 0 by omega)]
theorem give_ok {t : Tk} {ts : List Tk} {outs : List Bk} {k : Nat} {x : Bk} (h0 : 0 ≤ t.units) (hf : fnd t outs = some k) (hx : outs[k]? = some x) (h : x.left + t.units ≤ x.units) : give (t :: ts) outs = give ts (outs.set k (x.withLeft (x.left + t.units))) := by
  simp only [give, hf, getD_at hx, if_pos h, if_neg (show ¬ t.units < 0 by omega)]

set_option maxRecDepth 100000 in
set_option maxHeartbeats 4000000 in
theorem give_any (ts : List Tk) (xs : List Bk) (A A' : Option Addr) (c c' : Nat) (w : World) (hxl : xs.length ≤ 1000) (htl : ts.length ≤ 1000) (hzn : ∀ x ∈ xs, x.zones.length ≤ 100) (hxs : Bks w A xs) (hts : Tks w A' ts)
    (hfx : ∀ x ∈ xs, fits x.left ∧ fits x.units) (hft : ∀ t ∈ ts, fits t.units) :
    Calls Try.prog 34 #[.slice A xs.length c, .slice A' ts.length c'] w (GivePost ts xs w) := by
  have Hx := Lib.hid hxs
  have Hzn := Lib.hid hzn
  have HT := Lib.hid hts
  have HFX := Lib.hid hfx
  have HFT := Lib.hid hft
  clear hxs hzn hts hfx hft
  unfold GivePost
  go_enter Try.func34, Try.ntmps34
  go_wp2_with fail
  refine (clones_any xs A c w hxl Hzn.out Hx.out).mono ?_
  rintro e w1 ⟨v1, rfl, own1, hb1⟩
  obtain ⟨A1, c1, rfl, _, _⟩ := own1.form
  have HO1 := Lib.hid own1
  have HB1 := Lib.hid hb1
  have hsz1 := hb1.size
  clear own1 hb1
  go_wp2_with fail
  go_loopw [16] (fun i wr => ∃ (j : Nat) (outs : List Bk), j ≤ ts.length ∧ i = .int .i64 (j : Int) ∧ OwnBks wr w.heap.size (.slice A1 xs.length c1) outs ∧ outs.length = xs.length ∧ give (ts.drop j) outs = give ts xs ∧ Below w.heap.size w wr ∧ (∀ x ∈ outs, fits x.left ∧ fits x.units)) (fun i _ => ts.length - (intOf i).toNat)
  case atStart => exact ⟨0, xs, Nat.zero_le _, rfl, HO1.out, rfl, rfl, HB1.out, HFX.out⟩
  case round =>
    obtain ⟨j, outs, hj, rfl, hob, hol, hgv, hbw, hfo⟩ := hrel
    have HOB := Lib.hid hob
    have HGV := Lib.hid hgv
    have HB := Lib.hid hbw
    have HOL := Lib.hid hol
    have HFO := Lib.hid hfo
    have hsz := hbw.size
    clear hob hgv hbw hol hfo
    by_cases hlt : j < ts.length
    · obtain ⟨t, ht⟩ : ∃ t, ts[j]? = some t := ⟨_, List.getElem?_eq_getElem hlt⟩
      obtain ⟨g2, o2, rfl, hg2, t0, t1, t2, t3, t4⟩ := tks_cells (HT.out.below HB.out) ht
      have HTT := Lib.hid ht
      clear ht
      have htu := HFT.out t (List.mem_of_getElem? HTT.out)
      unfold fits at htu
      obtain ⟨htl1, htl2⟩ := htu
      by_cases hneg : t.units < 0
      · have E : Hid (give ts xs = ([], 6)) := by
          unfold Hid
          rw [← HGV.out, drop_tk HTT.out, give_neg hneg]
        go_wp2_with fail
        go_ret2
        refine ⟨.slice none 0 0, by rw [E.out]; rfl, by rw [E.out]; exact OwnBks.nil _ _, HB.out.alloc hsz _⟩
      · have hpos : 0 ≤ t.units := by omega
        clear hneg
        go_wp2_with fail
        go_loopw [9, 25] (fun a i wq => ∃ (k : Nat) (s : More), k ≤ xs.length ∧ a = .int .i64 (-1) ∧ i = .int .i64 (k : Int) ∧ wq = ext (wr.alloc (Obj.cells #[.int .i64 t.sub, .string t.prod, .int .i64 t.idx, .int .i64 t.frm, .int .i64 t.units] 86)) s ∧ Hid (∀ (j : Nat) (c : Bk), j < k → outs[j]? = some c → c.isOf t = false)) (fun _ i _ => xs.length - (intOf i).toNat)
        case atStart => exact ⟨0, _, Nat.zero_le _, rfl, rfl, ext_nil _, fun j c h => absurd h (by omega)⟩
        case round =>
          obtain ⟨k, s, hk, rfl, rfl, rfl, hall⟩ := hrel
          by_cases hkl : k < xs.length
          · obtain ⟨x, hx⟩ : ∃ s, outs[k]? = some s := ⟨_, List.getElem?_eq_getElem (by rw [HOL.out]; exact hkl)⟩
            obtain ⟨g, rfl, hgw, hgl⟩ := HOB.out.some_ (by rw [HOL.out]; omega)
            obtain ⟨A9, c9, hv9, hbs, _⟩ := HOB.out.form
            simp only [Value.slice.injEq] at hv9
            obtain ⟨rfl, -, rfl⟩ := hv9
            obtain ⟨b, o, za, zc, hA, hb, x0, x1, x2, x3, x4, x5, x6, x7, x8, x9, x10, x11, hzs, hzc⟩ := bk_cells hbs hx
            simp only [Option.some.injEq, Addr.mk.injEq, and_true] at hA
            obtain ⟨rfl, rfl⟩ := hA
            simp only [Nat.zero_add] at x0 x1 x2 x3 x4 x5 x6 x7 x8 x9 x10 x11
            have HX := Lib.hid hx
            clear hx hzs hzc hbs
            have hkb : (k : Int) < (xs.length : Int) := by omega
            cases e1 : (x.sub == t.sub)
            case' true => cases e2 : (x.prod.toList == t.prod.toList)
            case' true.true => cases e3 : (x.idx == t.idx)
            case' true.true.true => cases e4 : (x.frm == t.frm)
            case true.true.true.true =>
              have hyes := isOf_yes e1 e2 e3 e4
              have HYES := Lib.hid hyes
              clear hyes
              go_wp2_with fail
              refine wp_region_more (by kernel_rfl) (by kernel_rfl) ?_
              repeat (first | go_big_quiet_skip | quiet_step (first
                | (go_at_call 59; first | with_reducible exact more_call (of_any x za zc _) | exact more_call2 (of_any x za zc _))))
              refine wpQuiet_nil ?_
              rintro _ ⟨s2, rfl⟩
              rw [alloc_ext, ext_ext]
              generalize More.cat ⟨s.L ++ [_], s.d⟩ s2 = s3
              have hfnd := fnd_at HX.out HYES.out hall.out
              have HFND := Lib.hid hfnd
              obtain ⟨⟨f1, f2⟩, f3, f4⟩ := HFO.out x (List.mem_of_getElem? HX.out)
              clear hfnd e1 e2 e3 e4
              have hk0 : ¬ (k : Int) < 0 := by omega
              go_wp2_with fail
              by_cases hfit : x.left + t.units ≤ x.units
              · have hfb : decide (x.left + t.units ≤ x.units) = true := decide_eq_true hfit
                refine wp_region_more (by kernel_rfl) (by kernel_rfl) ?_
                repeat (first | go_big_quiet_skip | quiet_step (first
                  | (go_at_call 60; first | with_reducible exact more_call (same_below (fits_any _ _ _ _ f1 f2 hpos htl2 f4)) | exact more_call2 (same_below (fits_any _ _ _ _ f1 f2 hpos htl2 f4)))))
                refine wpQuiet_nil ?_
                rintro _ ⟨s4, rfl⟩
                rw [ext_ext]
                go_wp2_with fail
                obtain ⟨_, hfz⟩ := HOB.out.left_at HX.out
                obtain ⟨hob2, hgr2⟩ := HOB.out.stored HX.out (x.left + t.units)
                have hba2 : Below (wr.setCell ⟨g, k * 12 + 9, none⟩ (.int .i64 (x.left + t.units))).heap.size (wr.setCell ⟨g, k * 12 + 9, none⟩ (.int .i64 (x.left + t.units))) ((wr.setCell ⟨g, k * 12 + 9, none⟩ (.int .i64 (x.left + t.units))).alloc (Obj.cells #[.int .i64 t.sub, .string t.prod, .int .i64 t.idx, .int .i64 t.frm, .int .i64 t.units] 86)) := (Below.refl _ _).alloc (Nat.le_refl _) _
                have HOB2 := Lib.hid (hob2.below hba2)
                have HB2 := Lib.hid ((HB.out.setCell (p := ⟨g, k * 12 + 9, none⟩) hgw (.int .i64 (x.left + t.units))).trans (hba2.mono (by simpa using hsz)))
                have HFIT := Lib.hid hfit
                clear hob2 hgr2 hba2 hfb
                go_still_tail 10, (by kernel_rfl)
                go_wp2_with fail
                go_roundw
                case rel =>
                  refine ⟨j + 1, outs.set k (x.withLeft (x.left + t.units)), by omega, by go_num, HOB2.out.below (below_ext (Below.refl _ _) (Nat.le_refl _) _), by rw [List.length_set]; exact HOL.out, ?_, below_ext HB2.out HB2.out.size _, fun y hy => ?_⟩
                  · rw [← HGV.out, drop_tk HTT.out, give_ok hpos HFND.out HX.out HFIT.out]
                  · rcases List.mem_or_eq_of_mem_set hy with hy | rfl
                    · exact HFO.out y hy
                    · have h1 : 0 ≤ t.units := hpos
                      have h2 : x.left + t.units ≤ x.units := HFIT.out
                      exact ⟨⟨by rw [Bk.left_with]; omega, by rw [Bk.left_with]; omega⟩, f3, f4⟩
                case measure => simp [intOf]; omega
              · have hfb : decide (x.left + t.units ≤ x.units) = false := decide_eq_false hfit
                have E : Hid (give ts xs = ([], 6)) := by
                  unfold Hid
                  rw [← HGV.out, drop_tk HTT.out, give_no hpos HFND.out HX.out hfit]
                refine wp_region_more (by kernel_rfl) (by kernel_rfl) ?_
                repeat (first | go_big_quiet_skip | quiet_step (first
                  | (go_at_call 60; first | with_reducible exact more_call (same_below (fits_any _ _ _ _ f1 f2 hpos htl2 f4)) | exact more_call2 (same_below (fits_any _ _ _ _ f1 f2 hpos htl2 f4)))))
                refine wpQuiet_nil ?_
                rintro _ ⟨s4, rfl⟩
                rw [ext_ext]
                go_wp2_with fail
                go_ret2
                exact ⟨.slice none 0 0, by rw [E.out]; rfl, by rw [E.out]; exact OwnBks.nil _ _, below_ext (HB.out.alloc hsz _) (by simp; omega) _⟩
            all_goals
              have hno : x.isOf t = false := isOf_no (by simp [*])
              have HNO := Lib.hid hno
              clear hno
              go_wp2_with fail
              refine wp_region_more (by kernel_rfl) (by kernel_rfl) ?_
              repeat (first | go_big_quiet_skip | quiet_step (first
                | (go_at_call 59; first | with_reducible exact more_call (of_any x za zc _) | exact more_call2 (of_any x za zc _))))
              refine wpQuiet_nil ?_
              rintro _ ⟨s2, rfl⟩
              rw [alloc_ext, ext_ext]
              generalize More.cat ⟨s.L ++ [_], s.d⟩ s2 = s3
              go_wp2_with fail
              go_roundw
              case rel =>
                refine ⟨k + 1, s3, by omega, rfl, by go_num, rfl, fun j c hj hc => ?_⟩
                rcases Nat.lt_succ_iff_lt_or_eq.1 hj with h | h
                · exact hall.out j c h hc
                · subst h
                  rw [HX.out] at hc
                  cases hc
                  exact HNO.out
              case measure => simp [intOf]; omega
          · have hkn : k = xs.length := by omega
            have hfn : fnd t outs = none := fnd_none fun j c hc => hall.out j c (by rw [hkn, ← HOL.out]; exact (List.getElem?_eq_some_iff.1 hc).1) hc
            have E : Hid (give ts xs = ([], 11)) := by
              unfold Hid
              rw [← HGV.out, drop_tk HTT.out, give_none hpos hfn]
            clear hkn hfn
            go_wp2_with fail
            go_ret2
            exact ⟨.slice none 0 0, by rw [E.out]; rfl, by rw [E.out]; exact OwnBks.nil _ _, below_ext (HB.out.alloc hsz _) (by simp; omega) _⟩
    · have hje : j = ts.length := by omega
      have E : Hid (give ts xs = (outs, 0)) := by
        unfold Hid
        rw [← HGV.out, hje, List.drop_length]
        rfl
      clear hje
      go_wp2_with fail
      go_ret2
      exact ⟨_, by rw [E.out]; rfl, by rw [E.out]; exact HOB.out, HB.out⟩
end Go.Proofs.Ythkollhebabhbaa

/-
  The walk of the reference's Give.
-/
import Derived.Test.YthkollhebabhbaaBw18
namespace Go.Proofs.Ythkollhebabhbaa
open Go.RowKit
set_option linter.unusedSimpArgs false

theorem room_of {l u : Int} (h1 : -9223372036854775808 ≤ l) (h2 : l ≤ u) (h3 : u ≤ 9223372036854775807) : ∃ r, IntKind.i64.wrap (u - l) = r ∧ (r = u - l ∨ (r < 0 ∧ 9223372036854775807 < u - l)) := by
  refine ⟨_, rfl, ?_⟩
  rw [IntKind.wrap_i64]
  omega

set_option maxRecDepth 100000 in
set_option maxHeartbeats 4000000 in
theorem rgive_any (ts : List Tk) (xs : List Bk) (A A' : Option Addr) (c c' : Nat) (w : World) (hxl : xs.length ≤ 1000) (htl : ts.length ≤ 1000) (hzn : ∀ x ∈ xs, x.zones.length ≤ 100) (hxs : Bks w A xs) (hts : Tks w A' ts)
    (hfx : ∀ x ∈ xs, fits x.left ∧ fits x.units) (hft : ∀ t ∈ ts, fits t.units) :
    Calls Try.prog 36 #[.slice A xs.length c, .slice A' ts.length c'] w (GivePost ts xs w) := by
  have Hx := Lib.hid hxs
  have Hzn := Lib.hid hzn
  have HT := Lib.hid hts
  have HFX := Lib.hid hfx
  have HFT := Lib.hid hft
  clear hxs hzn hts hfx hft
  unfold GivePost
  go_enter Try.func36, Try.ntmps36
  go_wp2_with fail
  refine (copies_any xs A c w hxl Hzn.out Hx.out).mono ?_
  rintro e w1 ⟨v1, rfl, own1, hb1⟩
  obtain ⟨A1, c1, rfl, _, _⟩ := own1.form
  have HO1 := Lib.hid own1
  have HB1 := Lib.hid hb1
  have hsz1 := hb1.size
  clear own1 hb1
  go_wp2_with fail
  go_loopw [7] (fun i wr => ∃ (j : Nat) (outs : List Bk), j ≤ ts.length ∧ i = .int .i64 (j : Int) ∧ OwnBks wr w.heap.size (.slice A1 xs.length c1) outs ∧ outs.length = xs.length ∧ give (ts.drop j) outs = give ts xs ∧ Below w.heap.size w wr ∧ (∀ x ∈ outs, fits x.left ∧ fits x.units)) (fun i _ => ts.length - (intOf i).toNat)
  case atStart => exact ⟨0, xs, Nat.zero_le _, rfl, HO1.out, rfl, rfl, HB1.out, HFX.out⟩
  case round =>
    obtain ⟨j, outs, hj, rfl, hob, hol, hgv, hbw, hfo⟩ := hrel
    have HOB := Lib.hid hob
    have HGV := Lib.hid hgv
    have HB := Lib.hid hbw
    have HOL := Lib.hid hol
    have HFO := Lib.hid hfo
    have hsz := hbw.size
    clear hob hgv hbw hol hfo
    by_cases hlt : j < ts.length
    · obtain ⟨t, ht⟩ : ∃ t, ts[j]? = some t := ⟨_, List.getElem?_eq_getElem hlt⟩
      obtain ⟨g2, o2, rfl, hg2, t0, t1, t2, t3, t4⟩ := tks_cells (HT.out.below HB.out) ht
      have HTT := Lib.hid ht
      clear ht
      have htu := HFT.out t (List.mem_of_getElem? HTT.out)
      unfold fits at htu
      obtain ⟨htl1, htl2⟩ := htu
      by_cases hneg : t.units < 0
      · have E : Hid (give ts xs = ([], 6)) := by
          unfold Hid
          rw [← HGV.out, drop_tk HTT.out, give_neg hneg]
        go_wp2_with fail
        go_ret2
        refine ⟨.slice none 0 0, by rw [E.out]; rfl, by rw [E.out]; exact OwnBks.nil _ _, HB.out.alloc hsz _⟩
      · have hpos : 0 ≤ t.units := by omega
        clear hneg
        have hbo : Bks wr A1 outs := by
          obtain ⟨A9, c9, hv9, hbs, _⟩ := HOB.out.form
          simp only [Value.slice.injEq] at hv9
          rw [hv9.1]
          exact hbs
        have HBO := Lib.hid hbo
        clear hbo
        have hol1 : outs.length ≤ 100000 := by rw [HOL.out]; omega
        have hsl : ∀ W, Calls Try.prog 50 #[.slice A1 xs.length c1, .agg #[.int .i64 t.sub, .string t.prod, .int .i64 t.idx, .int .i64 t.frm, .int .i64 t.units]] (Go.Proofs.Ythkollhebabhbaa.ext (wr.alloc (Obj.cells #[.int .i64 t.sub, .string t.prod, .int .i64 t.idx, .int .i64 t.frm, .int .i64 t.units] 86)) W) fun e w' => e = .returned (.int .i64 (fndI t outs)) ∧ Below (Go.Proofs.Ythkollhebabhbaa.ext (wr.alloc (Obj.cells #[.int .i64 t.sub, .string t.prod, .int .i64 t.idx, .int .i64 t.frm, .int .i64 t.units] 86)) W).heap.size (Go.Proofs.Ythkollhebabhbaa.ext (wr.alloc (Obj.cells #[.int .i64 t.sub, .string t.prod, .int .i64 t.idx, .int .i64 t.frm, .int .i64 t.units] 86)) W) w' := fun W => by
          rw [← HOL.out]
          exact find_any t outs A1 c1 _ hol1 ((HBO.out.alloc _).ext _)
        have HSL := Lib.hid hsl
        clear hsl
        rcases hfn : fnd t outs with _ | k
        · have hfi : fndI t outs = -1 := by unfold fndI; rw [hfn]
          have E : Hid (give ts xs = ([], 11)) := by
            unfold Hid
            rw [← HGV.out, drop_tk HTT.out, give_none hpos hfn]
          rw [hfi] at HSL
          clear hfn hfi
          go_wp2_with fail
          rw [ext_nil (wr.alloc _)]
          refine (HSL.out _).mono ?_
          rintro e w1 ⟨rfl, hb⟩; obtain ⟨s, rfl⟩ := ext_of_below hb; clear hb
          go_wp2_with fail
          go_ret2
          exact ⟨.slice none 0 0, by rw [E.out]; rfl, by rw [E.out]; exact OwnBks.nil _ _, below_ext (HB.out.alloc hsz _) (by simp; omega) _⟩
        · have hfi : fndI t outs = (k : Int) := by unfold fndI; rw [hfn]
          obtain ⟨x, hx, hyes⟩ := fnd_some hfn
          have hkl : k < xs.length := by rw [← HOL.out]; exact (List.getElem?_eq_some_iff.1 hx).1
          rw [hfi] at HSL
          have HFND := Lib.hid hfn
          obtain ⟨g, rfl, hgw, hgl⟩ := HOB.out.some_ (by rw [HOL.out]; omega)
          obtain ⟨b, o, za, zc, hA, hb, x0, x1, x2, x3, x4, x5, x6, x7, x8, x9, x10, x11, hzs, hzc⟩ := bk_cells HBO.out hx
          simp only [Option.some.injEq, Addr.mk.injEq, and_true] at hA
          obtain ⟨rfl, rfl⟩ := hA
          simp only [Nat.zero_add] at x0 x1 x2 x3 x4 x5 x6 x7 x8 x9 x10 x11
          have HX := Lib.hid hx
          obtain ⟨⟨f1, f2⟩, f3, f4⟩ := HFO.out x (List.mem_of_getElem? HX.out)
          clear hfn hfi hx hzs hzc hyes
          have hkb : (k : Int) < (xs.length : Int) := by omega
          have hk0 : ¬ (k : Int) < 0 := by omega
          go_wp2_with fail
          rw [ext_nil (wr.alloc _)]
          refine (HSL.out _).mono ?_
          rintro e w1 ⟨rfl, hb⟩; obtain ⟨s, rfl⟩ := ext_of_below hb; clear hb
          rw [ext_ext]
          generalize More.cat _ s = s3
          go_wp2_with fail
          by_cases hlu : x.units < x.left
          · have hb1 : decide (x.units < x.left) = true := decide_eq_true hlu
            refine wp_region_more (by kernel_rfl) (by kernel_rfl) ?_
            repeat (first | go_big_quiet_skip | quiet_step (fail))
            refine wpQuiet_nil ?_
            rintro _ ⟨s4, rfl⟩
            rw [ext_ext]
            go_wp2_with fail
            refine wp_region_more (by kernel_rfl) (by kernel_rfl) ?_
            repeat (first | go_big_quiet_skip | quiet_step (fail))
            refine wpQuiet_nil ?_
            rintro _ ⟨s5, rfl⟩
            rw [ext_ext]
            go_wp2_with fail
            have E : Hid (give ts xs = ([], 6)) := by
              unfold Hid
              rw [← HGV.out, drop_tk HTT.out, give_no hpos HFND.out HX.out (by omega)]
            go_ret2
            exact ⟨.slice none 0 0, by rw [E.out]; rfl, by rw [E.out]; exact OwnBks.nil _ _, below_ext (HB.out.alloc hsz _) (by simp; omega) _⟩
          · obtain ⟨room, hroom, hr⟩ := room_of f1 (by omega) f4
            by_cases hr0 : 0 ≤ room
            · have hre : room = x.units - x.left := by omega
              by_cases hrt : room < t.units
              · have hbad : ¬ x.left + t.units ≤ x.units := by omega
                clear hr hre
                have hb1 : decide (x.units < x.left) = false := decide_eq_false hlu
                have hb2 : decide (0 ≤ room) = true := decide_eq_true hr0
                have hb3 : decide (room < t.units) = true := decide_eq_true hrt
                refine wp_region_more (by kernel_rfl) (by kernel_rfl) ?_
                repeat (first | go_big_quiet_skip | quiet_step (fail))
                refine wpQuiet_nil ?_
                rintro _ ⟨s4, rfl⟩
                rw [ext_ext]
                go_wp2_with fail
                refine wp_region_more (by kernel_rfl) (by kernel_rfl) ?_
                repeat (first | go_big_quiet_skip | quiet_step (fail))
                refine wpQuiet_nil ?_
                rintro _ ⟨s5, rfl⟩
                rw [ext_ext]
                go_wp2_with fail
                have E : Hid (give ts xs = ([], 6)) := by
                  unfold Hid
                  rw [← HGV.out, drop_tk HTT.out, give_no hpos HFND.out HX.out (by omega)]
                go_ret2
                exact ⟨.slice none 0 0, by rw [E.out]; rfl, by rw [E.out]; exact OwnBks.nil _ _, below_ext (HB.out.alloc hsz _) (by simp; omega) _⟩
              · have hfit : x.left + t.units ≤ x.units := by omega
                clear hr hre
                have hb1 : decide (x.units < x.left) = false := decide_eq_false hlu
                have hb2 : decide (0 ≤ room) = true := decide_eq_true hr0
                have hb3 : decide (room < t.units) = false := decide_eq_false hrt
                refine wp_region_more (by kernel_rfl) (by kernel_rfl) ?_
                repeat (first | go_big_quiet_skip | quiet_step (fail))
                refine wpQuiet_nil ?_
                rintro _ ⟨s4, rfl⟩
                rw [ext_ext]
                go_wp2_with fail
                refine wp_region_more (by kernel_rfl) (by kernel_rfl) ?_
                repeat (first | go_big_quiet_skip | quiet_step (fail))
                refine wpQuiet_nil ?_
                rintro _ ⟨s5, rfl⟩
                rw [ext_ext]
                go_wp2_with fail
                obtain ⟨_, hfz⟩ := HOB.out.left_at HX.out
                obtain ⟨hob2, hgr2⟩ := HOB.out.stored HX.out (x.left + t.units)
                have hba2 : Below (wr.setCell ⟨g, k * 12 + 9, none⟩ (.int .i64 (x.left + t.units))).heap.size (wr.setCell ⟨g, k * 12 + 9, none⟩ (.int .i64 (x.left + t.units))) ((wr.setCell ⟨g, k * 12 + 9, none⟩ (.int .i64 (x.left + t.units))).alloc (Obj.cells #[.int .i64 t.sub, .string t.prod, .int .i64 t.idx, .int .i64 t.frm, .int .i64 t.units] 86)) := (Below.refl _ _).alloc (Nat.le_refl _) _
                have HOB2 := Lib.hid (hob2.below hba2)
                have HB2 := Lib.hid ((HB.out.setCell (p := ⟨g, k * 12 + 9, none⟩) hgw (.int .i64 (x.left + t.units))).trans (hba2.mono (by simpa using hsz)))
                have HFIT := Lib.hid hfit
                clear hob2 hgr2 hba2
                go_still_tail 10, (by kernel_rfl)
                go_wp2_with fail
                go_roundw
                case rel =>
                  refine ⟨j + 1, outs.set k (x.withLeft (x.left + t.units)), by omega, by go_num, HOB2.out.below (below_ext (Below.refl _ _) (Nat.le_refl _) _), by rw [List.length_set]; exact HOL.out, ?_, below_ext HB2.out HB2.out.size _, fun y hy => ?_⟩
                  · rw [← HGV.out, drop_tk HTT.out, give_ok hpos HFND.out HX.out HFIT.out]
                  · rcases List.mem_or_eq_of_mem_set hy with hy | rfl
                    · exact HFO.out y hy
                    · have h1 : 0 ≤ t.units := hpos
                      have h2 : x.left + t.units ≤ x.units := HFIT.out
                      exact ⟨⟨by rw [Bk.left_with]; omega, by rw [Bk.left_with]; omega⟩, f3, f4⟩
                case measure => simp [intOf]; omega
            · have hfit : x.left + t.units ≤ x.units := by omega
              clear hr
              have hb1 : decide (x.units < x.left) = false := decide_eq_false hlu
              have hb2 : decide (0 ≤ room) = false := decide_eq_false hr0
              refine wp_region_more (by kernel_rfl) (by kernel_rfl) ?_
              repeat (first | go_big_quiet_skip | quiet_step (fail))
              refine wpQuiet_nil ?_
              rintro _ ⟨s4, rfl⟩
              rw [ext_ext]
              go_wp2_with fail
              refine wp_region_more (by kernel_rfl) (by kernel_rfl) ?_
              repeat (first | go_big_quiet_skip | quiet_step (fail))
              refine wpQuiet_nil ?_
              rintro _ ⟨s5, rfl⟩
              rw [ext_ext]
              go_wp2_with fail
              obtain ⟨_, hfz⟩ := HOB.out.left_at HX.out
              obtain ⟨hob2, hgr2⟩ := HOB.out.stored HX.out (x.left + t.units)
              have hba2 : Below (wr.setCell ⟨g, k * 12 + 9, none⟩ (.int .i64 (x.left + t.units))).heap.size (wr.setCell ⟨g, k * 12 + 9, none⟩ (.int .i64 (x.left + t.units))) ((wr.setCell ⟨g, k * 12 + 9, none⟩ (.int .i64 (x.left + t.units))).alloc (Obj.cells #[.int .i64 t.sub, .string t.prod, .int .i64 t.idx, .int .i64 t.frm, .int .i64 t.units] 86)) := (Below.refl _ _).alloc (Nat.le_refl _) _
              have HOB2 := Lib.hid (hob2.below hba2)
              have HB2 := Lib.hid ((HB.out.setCell (p := ⟨g, k * 12 + 9, none⟩) hgw (.int .i64 (x.left + t.units))).trans (hba2.mono (by simpa using hsz)))
              have HFIT := Lib.hid hfit
              clear hob2 hgr2 hba2
              go_still_tail 10, (by kernel_rfl)
              go_wp2_with fail
              go_roundw
              case rel =>
                refine ⟨j + 1, outs.set k (x.withLeft (x.left + t.units)), by omega, by go_num, HOB2.out.below (below_ext (Below.refl _ _) (Nat.le_refl _) _), by rw [List.length_set]; exact HOL.out, ?_, below_ext HB2.out HB2.out.size _, fun y hy => ?_⟩
                · rw [← HGV.out, drop_tk HTT.out, give_ok hpos HFND.out HX.out HFIT.out]
                · rcases List.mem_or_eq_of_mem_set hy with hy | rfl
                  · exact HFO.out y hy
                  · have h1 : 0 ≤ t.units := hpos
                    have h2 : x.left + t.units ≤ x.units := HFIT.out
                    exact ⟨⟨by rw [Bk.left_with]; omega, by rw [Bk.left_with]; omega⟩, f3, f4⟩
              case measure => simp [intOf]; omega
    · have hje : j = ts.length := by omega
      have E : Hid (give ts xs = (outs, 0)) := by
        unfold Hid
        rw [← HGV.out, hje, List.drop_length]
        rfl
      clear hje
      go_wp2_with fail
      go_ret2
      exact ⟨_, by rw [E.out]; rfl, by rw [E.out]; exact HOB.out, HB.out⟩
end Go.Proofs.Ythkollhebabhbaa

/-
  The walk of ConsumePays.
-/
import Derived.Test.YthkollhebabhbaaOpenT
namespace Go.Proofs.Ythkollhebabhbaa
open Go.RowKit
set_option linter.unusedSimpArgs false
set_option linter.unusedVariables false

theorem free_nonneg (x : W5) : 0 ≤ x.free := by
  unfold W5.free
  split
  · rename_i h
    have := W5.chk_ok.1 h
    omega
  · exact Int.le_refl _
/-- What Pay's result says. -/
theorem pay_says (s : St) (a n : Int) (pre : Bool) : 0 ≤ (s.pay a n pre).2.1 ∧ (s.pay a n pre).2.2 = n - (s.pay a n pre).2.1 ∧ (plc a s.ws = none → (s.pay a n pre).2.1 = 0) ∧ (s.pay a n pre).1.ws.length = s.ws.length ∧ (s.pay a n pre).1.bs = s.bs ∧ (s.pay a n pre).1.cs = s.cs ∧ ((s.pay a n pre).2.1 ≤ n ∨ (s.pay a n pre).2.1 = 0) ∧
    ∀ k x, plc a s.ws = some k → s.ws[k]? = some x → (s.pay a n pre).2.1 ≤ x.free ∧ ∃ y, (s.pay a n pre).1.ws[k]? = some y ∧ (x.chk = 0 → y.chk = 0) := by
  have base : 0 ≤ (s, (0 : Int), n).2.1 ∧ (s, (0 : Int), n).2.2 = n - (s, (0 : Int), n).2.1 ∧ (plc a s.ws = none → (s, (0 : Int), n).2.1 = 0) ∧ (s, (0 : Int), n).1.ws.length = s.ws.length ∧ (s, (0 : Int), n).1.bs = s.bs ∧ (s, (0 : Int), n).1.cs = s.cs ∧ ((s, (0 : Int), n).2.1 ≤ n ∨ (s, (0 : Int), n).2.1 = 0) ∧
    ∀ k x, plc a s.ws = some k → s.ws[k]? = some x → (s, (0 : Int), n).2.1 ≤ x.free ∧ ∃ y, (s, (0 : Int), n).1.ws[k]? = some y ∧ (x.chk = 0 → y.chk = 0) :=
    ⟨Int.le_refl _, by simp, fun _ => rfl, rfl, rfl, rfl, .inr rfl, fun k x _ hx => ⟨free_nonneg x, x, hx, fun h => h⟩⟩
  unfold St.pay
  split
  · exact base
  · rename_i hc
    split
    · exact base
    · rename_i k hk
      split
      · rename_i hck
        obtain ⟨x, hx, _⟩ := plc_some hk
        have hgd : s.ws.getD k W5.zero = x := by simp [List.getD, hx]
        rw [hgd] at hck ⊢
        have hb := W5.chk_ok.1 hck
        have hfr : x.free = x.b - x.h - x.f := by unfold W5.free; rw [if_pos hck]
        have hn : ¬ n ≤ 0 := fun h => hc (.inr h)
        dsimp only
        refine ⟨by omega, rfl, fun h => (by rw [hk] at h; cases h), by simp, rfl, rfl, .inl (by omega), fun k' x' hk' hx' => ?_⟩
        rw [hk] at hk'
        obtain rfl := Option.some.inj hk'
        rw [hx] at hx'
        obtain rfl := Option.some.inj hx'
        have hkl : k < s.ws.length := (List.getElem?_eq_some_iff.1 hx).1
        refine ⟨by omega, _, List.getElem?_set_self hkl, fun _ => W5.chk_ok.2 ?_⟩
        dsimp only
        omega
      · exact base

set_option maxRecDepth 100000 in
set_option maxHeartbeats 2000000 in
theorem pays_few (st : St) (Ab Aw Ac : Option Addr) (cb cw cc : Nat) (a n : Int) (pre : Bool) (w : World) (hi : StIn w Ab Aw Ac cw cc st) (hF : StFits st) (hf : fewS st = false) :
    Calls Try.prog 3 #[.agg #[.slice Ab st.bs.length cb, .slice Aw st.ws.length cw, .slice Ac st.cs.length cc], .agg #[.int .i64 a, .int .i64 n, .bool pre]] w fun e w' => e = .returned (.bool true) ∧ Below w.heap.size w w' := by
  have HI := Lib.hid hi
  have HF := Lib.hid hF
  clear hi hF
  go_enter Try.func3, Try.ntmps3
  go_wp2_with (first
    | (go_at_call 8; (with_reducible refine (fews_any st Ab Aw Ac cb cw cc _ ((HI.out.alloc _).alloc _).b HF.out.nb HF.out.nw HF.out.nc (fun x hx => (HF.out.fb x hx).zones)).mono ?_); rw [hf]; rintro e w1 ⟨rfl, hb⟩; obtain ⟨s, rfl⟩ := ext_of_below hb; clear hb)
    | (go_at_call 9; with_reducible refine (alive_any _).mono ?_; rintro e w1 ⟨rfl, hb⟩; obtain ⟨s, rfl⟩ := ext_of_below hb; clear hb))
  go_ret
  refine ⟨rfl, ?_⟩
  repeat' (first | exact Below.refl _ _ | refine below_ext ?_ ?_ _ | refine Below.alloc ?_ ?_ _ | refine Below.setCell ?_ ?_ _ | refine Below.drew ?_ | (rw [size_ext]; refine Nat.le_add_right_of_le ?_) | go_size | (rw [World.size_alloc]; refine Nat.le_add_right_of_le ?_))

set_option maxRecDepth 100000 in
set_option maxHeartbeats 8000000 in
theorem pays_yes (st : St) (Ab Aw Ac : Option Addr) (cb cw cc : Nat) (a n : Int) (pre : Bool) (w : World) (hi : StIn w Ab Aw Ac cw cc st) (hF : StFits st) (hf : fewS st = true) (hfa : fits a) (hfn : fits n) :
    Calls Try.prog 3 #[.agg #[.slice Ab st.bs.length cb, .slice Aw st.ws.length cw, .slice Ac st.cs.length cc], .agg #[.int .i64 a, .int .i64 n, .bool pre]] w fun e w' => e = .returned (.bool true) ∧ Below w.heap.size w w' := by
  have ok := hF.ok hf
  have C1 : ∀ W, StIn W Ab Aw Ac cw cc st → Calls Try.prog 10 #[.agg #[.slice Ab st.bs.length cb, .slice Aw st.ws.length cw, .slice Ac st.cs.length cc], .int .i64 a, .int .i64 n, .bool pre] W (PayPost (st.pay a n pre) W) := fun W h => pay_any st Ab Aw Ac cb cw cc a n pre W ok h hfa hfn
  have C2 : ∀ W, StIn W Ab Aw Ac cw cc st → Calls Try.prog 11 #[.agg #[.slice Ab st.bs.length cb, .slice Aw st.ws.length cw, .slice Ac st.cs.length cc], .int .i64 a, .int .i64 n, .bool pre] W (PayPost (st.pay a n pre) W) := fun W h => rpay_any st Ab Aw Ac cb cw cc a n pre W ok h hfa hfn
  obtain ⟨g1, g2, g3, g4, g5, g6, g7, g8⟩ := pay_says st a n pre
  generalize st.pay a n pre = r at *
  obtain ⟨s', pd, rs⟩ := r
  dsimp only at *
  subst g2
  have hl1 : s'.bs.length ≤ 1000 := by rw [g5]; exact ok.nb
  have hl2 : s'.ws.length ≤ 1000 := by rw [g4]; exact ok.nw
  have hl3 : s'.cs.length ≤ 1000 := by rw [g6]; exact ok.nc
  have hz : ∀ x ∈ s'.bs, x.zones.length ≤ 1000 := by rw [g5]; exact fun x hx => Nat.le_trans (ok.z x hx) (by omega)
  have hnw := ok.nw
  obtain ⟨fn1, fn2⟩ := hfn
  have HI := Lib.hid hi
  have HF := Lib.hid hF
  have HC1 := Lib.hid C1
  have HC2 := Lib.hid C2
  have HZ := Lib.hid hz
  have G3 := Lib.hid g3
  have G4 := Lib.hid g4
  have G8 := Lib.hid g8
  clear C1 C2 hz g3 g4 g5 g6 g8 hi hF ok hfa
  have hsum : pd + (n - pd) = n := by omega
  have hsw : IntKind.i64.wrap (pd + (n - pd)) = n := by rw [hsum]; exact IntWalk.i64_in _ ⟨fn1, fn2⟩
  rcases hp : plc a st.ws with _ | k
  · have hpd := G3.out hp
    subst hpd
    have HPL : Hid (plI a st.ws = -1) := by unfold Hid plI; rw [hp]
    clear hp hsum hsw
    go_enter Try.func3, Try.ntmps3
    go_wp2_with (first
      | (go_at_call 8; (with_reducible refine (fews_any st Ab Aw Ac cb cw cc _ ((HI.out.alloc _).alloc _).b HF.out.nb HF.out.nw HF.out.nc (fun x hx => (HF.out.fb x hx).zones)).mono ?_); rw [hf]; rintro e w1 ⟨rfl, hb⟩; obtain ⟨s, rfl⟩ := ext_of_below hb; clear hb)
      | (go_at_call 10; (refine (HC1.out _ (((HI.out.alloc _).alloc _).ext _)).mono ?_); rintro e w1 ⟨v1, v2, v3, rfl, os1, hb1⟩; obtain ⟨A1, A2, A3, c1, c2, c3, rfl, rfl, rfl, hin1⟩ := os1.form; obtain ⟨hcc, hff⟩ := bcell hb1; have hsz1 := hb1.size; simp [go_sem] at hsz1; have hz1 : w.heap.size < w1.heap.size := (by omega); have hz2 : w.heap.size + 1 < w1.heap.size := (by omega); have HA := Lib.hid hin1; have HI1 := Lib.hid ((((HI.out.alloc _).alloc _).ext _).below hb1); have HBW := Lib.hid ((below_ext (((Below.refl w.heap.size w).alloc (Nat.le_refl _) _).alloc (by simp) _) (by simp; omega) s).trans (hb1.mono (by simp [go_sem]; omega))); clear os1 hb1 hin1)
      | (go_at_call 11; (refine (HC2.out _ (HI1.out.alloc _)).mono ?_); rintro e w2 ⟨v4, v5, v6, rfl, os2, hb2⟩; obtain ⟨A4, A5, A6, c4, c5, c6, rfl, rfl, rfl, hin2⟩ := os2.form; obtain ⟨s2, rfl⟩ := ext_of_below hb2; have HB2 := Lib.hid hin2; clear os2 hb2 hin2)
      | (go_at_call 12; (refine (samest_any s' A1 A2 A3 A4 A5 A6 c1 c2 c3 c4 c5 c6 _ (((HA.out.alloc _).ext _).alloc _).b (HB2.out.alloc _).b (((HA.out.alloc _).ext _).alloc _).s (HB2.out.alloc _).s (((HA.out.alloc _).ext _).alloc _).c (HB2.out.alloc _).c hl1 hl2 hl3 HZ.out).mono ?_); rintro e w1 ⟨rfl, hb⟩; obtain ⟨s, rfl⟩ := ext_of_below hb; clear hb)
      | (go_at_call 13; (refine (place_any a st.ws _ cw _ (by omega) (((((HI1.out.alloc _).ext _).alloc _).ext _).s)).mono ?_); rw [HPL.out]; rintro e w1 ⟨rfl, hb⟩; obtain ⟨s, rfl⟩ := ext_of_below hb; clear hb)
      | (go_at_call 9; with_reducible refine (alive_any _).mono ?_; rintro e w1 ⟨rfl, hb⟩; obtain ⟨s, rfl⟩ := ext_of_below hb; clear hb))
    go_ret
    refine ⟨rfl, ?_⟩
    repeat' (first | with_reducible exact HBW.out | with_reducible exact Below.refl _ _ | with_reducible refine below_ext ?_ ?_ _ | with_reducible refine Below.alloc ?_ ?_ _ | with_reducible refine Below.setCell ?_ ?_ _ | with_reducible refine Below.drew ?_ | (simp; omega) | (simp; done) | (simp [go_sem]; omega) | (simp [go_sem]; done) | omega)
  · obtain ⟨x, hx, -⟩ := plc_some hp
    obtain ⟨g81, y, hy, g82⟩ := G8.out k x hp hx
    have HPL : Hid (plI a st.ws = (k : Int)) := by unfold Hid plI; rw [hp]
    have hkl : k < st.ws.length := (List.getElem?_eq_some_iff.1 hx).1
    have hkb : (k : Int) < (st.ws.length : Int) := by omega
    have hkb2 : (k : Int) < (s'.ws.length : Int) := by rw [G4.out]; exact hkb
    have hk0 : ¬ (k : Int) < 0 := by omega
    obtain ⟨xa, xb, xf, xh, xu⟩ := x
    obtain ⟨ya, yb, yf, yh, yu⟩ := y
    have HX := Lib.hid hx
    have HY := Lib.hid hy
    generalize hcx : (⟨xa, xb, xf, xh, xu⟩ : W5).chk = cx at *
    generalize hcy : (⟨ya, yb, yf, yh, yu⟩ : W5).chk = cy at *
    generalize hfx : (⟨xa, xb, xf, xh, xu⟩ : W5).free = fx at *
    have HCX := Lib.hid hcx
    have HCY := Lib.hid hcy
    have HFX := Lib.hid hfx
    clear hp hx hy hcx hcy hfx hsum
    have hpf : ¬ fx < pd := by omega
    rcases (by omega : (0 : Int) = pd ∨ 0 < pd) with h0 | h0
    · subst h0
      have hsw0 := hsw
      clear hsw
      by_cases hc : cx = 0
      · have hc2 := g82 hc
        subst hc hc2
        clear g82
        go_enter Try.func3, Try.ntmps3
        go_wp2_with (first
          | (go_at_call 8; (with_reducible refine (fews_any st Ab Aw Ac cb cw cc _ ((HI.out.alloc _).alloc _).b HF.out.nb HF.out.nw HF.out.nc (fun x hx => (HF.out.fb x hx).zones)).mono ?_); rw [hf]; rintro e w1 ⟨rfl, hb⟩; obtain ⟨s, rfl⟩ := ext_of_below hb; clear hb)
          | (go_at_call 10; (refine (HC1.out _ (((HI.out.alloc _).alloc _).ext _)).mono ?_); rintro e w1 ⟨v1, v2, v3, rfl, os1, hb1⟩; obtain ⟨A1, A2, A3, c1, c2, c3, rfl, rfl, rfl, hin1⟩ := os1.form; obtain ⟨hcc, hff⟩ := bcell hb1; have hsz1 := hb1.size; simp [go_sem] at hsz1; have hz1 : w.heap.size < w1.heap.size := (by omega); have hz2 : w.heap.size + 1 < w1.heap.size := (by omega); have HA := Lib.hid hin1; have HI1 := Lib.hid ((((HI.out.alloc _).alloc _).ext _).below hb1); have HBW := Lib.hid ((below_ext (((Below.refl w.heap.size w).alloc (Nat.le_refl _) _).alloc (by simp) _) (by simp; omega) s).trans (hb1.mono (by simp [go_sem]; omega))); obtain ⟨b9, o9, hA9, _, x0, x1, x2, x3, x4⟩ := fives_cells HI1.out.s HX.out; obtain rfl := hA9; obtain ⟨b8, o8, hA8, _, y0, y1, y2, y3, y4⟩ := fives_cells HA.out.s HY.out; obtain rfl := hA8; simp only [Nat.zero_add] at x0 x1 x2 x3 x4 y0 y1 y2 y3 y4; clear os1 hb1 hin1)
          | (go_at_call 11; (refine (HC2.out _ (HI1.out.alloc _)).mono ?_); rintro e w2 ⟨v4, v5, v6, rfl, os2, hb2⟩; obtain ⟨A4, A5, A6, c4, c5, c6, rfl, rfl, rfl, hin2⟩ := os2.form; obtain ⟨s2, rfl⟩ := ext_of_below hb2; have HB2 := Lib.hid hin2; clear os2 hb2 hin2)
          | (go_at_call 12; (refine (samest_any s' A1 _ A3 A4 A5 A6 c1 c2 c3 c4 c5 c6 _ (((HA.out.alloc _).ext _).alloc _).b (HB2.out.alloc _).b (((HA.out.alloc _).ext _).alloc _).s (HB2.out.alloc _).s (((HA.out.alloc _).ext _).alloc _).c (HB2.out.alloc _).c hl1 hl2 hl3 HZ.out).mono ?_); rintro e w1 ⟨rfl, hb⟩; obtain ⟨s, rfl⟩ := ext_of_below hb; clear hb)
          | (go_at_call 13; (refine (place_any a st.ws _ cw _ (by omega) (((((HI1.out.alloc _).ext _).alloc _).ext _).s)).mono ?_); rw [HPL.out]; rintro e w1 ⟨rfl, hb⟩; obtain ⟨s, rfl⟩ := ext_of_below hb; clear hb)
          | (go_at_call 14; (with_reducible refine (rfree_any _ _ _ _ _ _).mono ?_); rw [HFX.out]; rintro e w1 ⟨rfl, hb⟩; obtain ⟨s, rfl⟩ := ext_of_below hb; clear hb)
          | (go_at_call 15; (with_reducible refine (rcheck_any xa xb xf xh xu _).mono ?_); rw [HCX.out]; rintro e w1 ⟨rfl, hb⟩; obtain ⟨s, rfl⟩ := ext_of_below hb; clear hb)
          | (go_at_call 15; (with_reducible refine (rcheck_any ya yb yf yh yu _).mono ?_); rw [HCY.out]; rintro e w1 ⟨rfl, hb⟩; obtain ⟨s, rfl⟩ := ext_of_below hb; clear hb)
          | (go_at_call 9; with_reducible refine (alive_any _).mono ?_; rintro e w1 ⟨rfl, hb⟩; obtain ⟨s, rfl⟩ := ext_of_below hb; clear hb))
        go_ret
        refine ⟨rfl, ?_⟩
        repeat' (first | with_reducible exact HBW.out | with_reducible exact Below.refl _ _ | with_reducible refine below_ext ?_ ?_ _ | with_reducible refine Below.alloc ?_ ?_ _ | with_reducible refine Below.setCell ?_ ?_ _ | with_reducible refine Below.drew ?_ | (simp; omega) | (simp; done) | (simp [go_sem]; omega) | (simp [go_sem]; done) | omega)
      · have hcne : (cx != 0) = true := bne_iff_ne.2 hc
        go_enter Try.func3, Try.ntmps3
        go_wp2_with (first
          | (go_at_call 8; (with_reducible refine (fews_any st Ab Aw Ac cb cw cc _ ((HI.out.alloc _).alloc _).b HF.out.nb HF.out.nw HF.out.nc (fun x hx => (HF.out.fb x hx).zones)).mono ?_); rw [hf]; rintro e w1 ⟨rfl, hb⟩; obtain ⟨s, rfl⟩ := ext_of_below hb; clear hb)
          | (go_at_call 10; (refine (HC1.out _ (((HI.out.alloc _).alloc _).ext _)).mono ?_); rintro e w1 ⟨v1, v2, v3, rfl, os1, hb1⟩; obtain ⟨A1, A2, A3, c1, c2, c3, rfl, rfl, rfl, hin1⟩ := os1.form; obtain ⟨hcc, hff⟩ := bcell hb1; have hsz1 := hb1.size; simp [go_sem] at hsz1; have hz1 : w.heap.size < w1.heap.size := (by omega); have hz2 : w.heap.size + 1 < w1.heap.size := (by omega); have HA := Lib.hid hin1; have HI1 := Lib.hid ((((HI.out.alloc _).alloc _).ext _).below hb1); have HBW := Lib.hid ((below_ext (((Below.refl w.heap.size w).alloc (Nat.le_refl _) _).alloc (by simp) _) (by simp; omega) s).trans (hb1.mono (by simp [go_sem]; omega))); obtain ⟨b9, o9, hA9, _, x0, x1, x2, x3, x4⟩ := fives_cells HI1.out.s HX.out; obtain rfl := hA9; obtain ⟨b8, o8, hA8, _, y0, y1, y2, y3, y4⟩ := fives_cells HA.out.s HY.out; obtain rfl := hA8; simp only [Nat.zero_add] at x0 x1 x2 x3 x4 y0 y1 y2 y3 y4; clear os1 hb1 hin1)
          | (go_at_call 11; (refine (HC2.out _ (HI1.out.alloc _)).mono ?_); rintro e w2 ⟨v4, v5, v6, rfl, os2, hb2⟩; obtain ⟨A4, A5, A6, c4, c5, c6, rfl, rfl, rfl, hin2⟩ := os2.form; obtain ⟨s2, rfl⟩ := ext_of_below hb2; have HB2 := Lib.hid hin2; clear os2 hb2 hin2)
          | (go_at_call 12; (refine (samest_any s' A1 _ A3 A4 A5 A6 c1 c2 c3 c4 c5 c6 _ (((HA.out.alloc _).ext _).alloc _).b (HB2.out.alloc _).b (((HA.out.alloc _).ext _).alloc _).s (HB2.out.alloc _).s (((HA.out.alloc _).ext _).alloc _).c (HB2.out.alloc _).c hl1 hl2 hl3 HZ.out).mono ?_); rintro e w1 ⟨rfl, hb⟩; obtain ⟨s, rfl⟩ := ext_of_below hb; clear hb)
          | (go_at_call 13; (refine (place_any a st.ws _ cw _ (by omega) (((((HI1.out.alloc _).ext _).alloc _).ext _).s)).mono ?_); rw [HPL.out]; rintro e w1 ⟨rfl, hb⟩; obtain ⟨s, rfl⟩ := ext_of_below hb; clear hb)
          | (go_at_call 14; (with_reducible refine (rfree_any _ _ _ _ _ _).mono ?_); rw [HFX.out]; rintro e w1 ⟨rfl, hb⟩; obtain ⟨s, rfl⟩ := ext_of_below hb; clear hb)
          | (go_at_call 15; (with_reducible refine (rcheck_any xa xb xf xh xu _).mono ?_); rw [HCX.out]; rintro e w1 ⟨rfl, hb⟩; obtain ⟨s, rfl⟩ := ext_of_below hb; clear hb)
          | (go_at_call 9; with_reducible refine (alive_any _).mono ?_; rintro e w1 ⟨rfl, hb⟩; obtain ⟨s, rfl⟩ := ext_of_below hb; clear hb))
        go_ret
        refine ⟨rfl, ?_⟩
        repeat' (first | with_reducible exact HBW.out | with_reducible exact Below.refl _ _ | with_reducible refine below_ext ?_ ?_ _ | with_reducible refine Below.alloc ?_ ?_ _ | with_reducible refine Below.setCell ?_ ?_ _ | with_reducible refine Below.drew ?_ | (simp; omega) | (simp; done) | (simp [go_sem]; omega) | (simp [go_sem]; done) | omega)
    · have hp0 : ¬ pd < 0 := by omega
      have hpe : (pd == 0) = false := beq_eq_false_iff_ne.2 (by omega)
      by_cases hc : cx = 0
      · have hc2 := g82 hc
        subst hc hc2
        clear g82
        go_enter Try.func3, Try.ntmps3
        go_wp2_with (first
          | (go_at_call 8; (with_reducible refine (fews_any st Ab Aw Ac cb cw cc _ ((HI.out.alloc _).alloc _).b HF.out.nb HF.out.nw HF.out.nc (fun x hx => (HF.out.fb x hx).zones)).mono ?_); rw [hf]; rintro e w1 ⟨rfl, hb⟩; obtain ⟨s, rfl⟩ := ext_of_below hb; clear hb)
          | (go_at_call 10; (refine (HC1.out _ (((HI.out.alloc _).alloc _).ext _)).mono ?_); rintro e w1 ⟨v1, v2, v3, rfl, os1, hb1⟩; obtain ⟨A1, A2, A3, c1, c2, c3, rfl, rfl, rfl, hin1⟩ := os1.form; obtain ⟨hcc, hff⟩ := bcell hb1; have hsz1 := hb1.size; simp [go_sem] at hsz1; have hz1 : w.heap.size < w1.heap.size := (by omega); have hz2 : w.heap.size + 1 < w1.heap.size := (by omega); have HA := Lib.hid hin1; have HI1 := Lib.hid ((((HI.out.alloc _).alloc _).ext _).below hb1); have HBW := Lib.hid ((below_ext (((Below.refl w.heap.size w).alloc (Nat.le_refl _) _).alloc (by simp) _) (by simp; omega) s).trans (hb1.mono (by simp [go_sem]; omega))); obtain ⟨b9, o9, hA9, _, x0, x1, x2, x3, x4⟩ := fives_cells HI1.out.s HX.out; obtain rfl := hA9; obtain ⟨b8, o8, hA8, _, y0, y1, y2, y3, y4⟩ := fives_cells HA.out.s HY.out; obtain rfl := hA8; simp only [Nat.zero_add] at x0 x1 x2 x3 x4 y0 y1 y2 y3 y4; clear os1 hb1 hin1)
          | (go_at_call 11; (refine (HC2.out _ (HI1.out.alloc _)).mono ?_); rintro e w2 ⟨v4, v5, v6, rfl, os2, hb2⟩; obtain ⟨A4, A5, A6, c4, c5, c6, rfl, rfl, rfl, hin2⟩ := os2.form; obtain ⟨s2, rfl⟩ := ext_of_below hb2; have HB2 := Lib.hid hin2; clear os2 hb2 hin2)
          | (go_at_call 12; (refine (samest_any s' A1 _ A3 A4 A5 A6 c1 c2 c3 c4 c5 c6 _ (((HA.out.alloc _).ext _).alloc _).b (HB2.out.alloc _).b (((HA.out.alloc _).ext _).alloc _).s (HB2.out.alloc _).s (((HA.out.alloc _).ext _).alloc _).c (HB2.out.alloc _).c hl1 hl2 hl3 HZ.out).mono ?_); rintro e w1 ⟨rfl, hb⟩; obtain ⟨s, rfl⟩ := ext_of_below hb; clear hb)
          | (go_at_call 13; (refine (place_any a st.ws _ cw _ (by omega) (((((HI1.out.alloc _).ext _).alloc _).ext _).s)).mono ?_); rw [HPL.out]; rintro e w1 ⟨rfl, hb⟩; obtain ⟨s, rfl⟩ := ext_of_below hb; clear hb)
          | (go_at_call 14; (with_reducible refine (rfree_any _ _ _ _ _ _).mono ?_); rw [HFX.out]; rintro e w1 ⟨rfl, hb⟩; obtain ⟨s, rfl⟩ := ext_of_below hb; clear hb)
          | (go_at_call 15; (with_reducible refine (rcheck_any xa xb xf xh xu _).mono ?_); rw [HCX.out]; rintro e w1 ⟨rfl, hb⟩; obtain ⟨s, rfl⟩ := ext_of_below hb; clear hb)
          | (go_at_call 15; (with_reducible refine (rcheck_any ya yb yf yh yu _).mono ?_); rw [HCY.out]; rintro e w1 ⟨rfl, hb⟩; obtain ⟨s, rfl⟩ := ext_of_below hb; clear hb)
          | (go_at_call 9; with_reducible refine (alive_any _).mono ?_; rintro e w1 ⟨rfl, hb⟩; obtain ⟨s, rfl⟩ := ext_of_below hb; clear hb))
        go_ret
        refine ⟨rfl, ?_⟩
        repeat' (first | with_reducible exact HBW.out | with_reducible exact Below.refl _ _ | with_reducible refine below_ext ?_ ?_ _ | with_reducible refine Below.alloc ?_ ?_ _ | with_reducible refine Below.setCell ?_ ?_ _ | with_reducible refine Below.drew ?_ | (simp; omega) | (simp; done) | (simp [go_sem]; omega) | (simp [go_sem]; done) | omega)
      · have hcne : (cx != 0) = true := bne_iff_ne.2 hc
        go_enter Try.func3, Try.ntmps3
        go_wp2_with (first
          | (go_at_call 8; (with_reducible refine (fews_any st Ab Aw Ac cb cw cc _ ((HI.out.alloc _).alloc _).b HF.out.nb HF.out.nw HF.out.nc (fun x hx => (HF.out.fb x hx).zones)).mono ?_); rw [hf]; rintro e w1 ⟨rfl, hb⟩; obtain ⟨s, rfl⟩ := ext_of_below hb; clear hb)
          | (go_at_call 10; (refine (HC1.out _ (((HI.out.alloc _).alloc _).ext _)).mono ?_); rintro e w1 ⟨v1, v2, v3, rfl, os1, hb1⟩; obtain ⟨A1, A2, A3, c1, c2, c3, rfl, rfl, rfl, hin1⟩ := os1.form; obtain ⟨hcc, hff⟩ := bcell hb1; have hsz1 := hb1.size; simp [go_sem] at hsz1; have hz1 : w.heap.size < w1.heap.size := (by omega); have hz2 : w.heap.size + 1 < w1.heap.size := (by omega); have HA := Lib.hid hin1; have HI1 := Lib.hid ((((HI.out.alloc _).alloc _).ext _).below hb1); have HBW := Lib.hid ((below_ext (((Below.refl w.heap.size w).alloc (Nat.le_refl _) _).alloc (by simp) _) (by simp; omega) s).trans (hb1.mono (by simp [go_sem]; omega))); obtain ⟨b9, o9, hA9, _, x0, x1, x2, x3, x4⟩ := fives_cells HI1.out.s HX.out; obtain rfl := hA9; obtain ⟨b8, o8, hA8, _, y0, y1, y2, y3, y4⟩ := fives_cells HA.out.s HY.out; obtain rfl := hA8; simp only [Nat.zero_add] at x0 x1 x2 x3 x4 y0 y1 y2 y3 y4; clear os1 hb1 hin1)
          | (go_at_call 11; (refine (HC2.out _ (HI1.out.alloc _)).mono ?_); rintro e w2 ⟨v4, v5, v6, rfl, os2, hb2⟩; obtain ⟨A4, A5, A6, c4, c5, c6, rfl, rfl, rfl, hin2⟩ := os2.form; obtain ⟨s2, rfl⟩ := ext_of_below hb2; have HB2 := Lib.hid hin2; clear os2 hb2 hin2)
          | (go_at_call 12; (refine (samest_any s' A1 _ A3 A4 A5 A6 c1 c2 c3 c4 c5 c6 _ (((HA.out.alloc _).ext _).alloc _).b (HB2.out.alloc _).b (((HA.out.alloc _).ext _).alloc _).s (HB2.out.alloc _).s (((HA.out.alloc _).ext _).alloc _).c (HB2.out.alloc _).c hl1 hl2 hl3 HZ.out).mono ?_); rintro e w1 ⟨rfl, hb⟩; obtain ⟨s, rfl⟩ := ext_of_below hb; clear hb)
          | (go_at_call 13; (refine (place_any a st.ws _ cw _ (by omega) (((((HI1.out.alloc _).ext _).alloc _).ext _).s)).mono ?_); rw [HPL.out]; rintro e w1 ⟨rfl, hb⟩; obtain ⟨s, rfl⟩ := ext_of_below hb; clear hb)
          | (go_at_call 14; (with_reducible refine (rfree_any _ _ _ _ _ _).mono ?_); rw [HFX.out]; rintro e w1 ⟨rfl, hb⟩; obtain ⟨s, rfl⟩ := ext_of_below hb; clear hb)
          | (go_at_call 15; (with_reducible refine (rcheck_any xa xb xf xh xu _).mono ?_); rw [HCX.out]; rintro e w1 ⟨rfl, hb⟩; obtain ⟨s, rfl⟩ := ext_of_below hb; clear hb)
          | (go_at_call 9; with_reducible refine (alive_any _).mono ?_; rintro e w1 ⟨rfl, hb⟩; obtain ⟨s, rfl⟩ := ext_of_below hb; clear hb))
        go_ret
        refine ⟨rfl, ?_⟩
        repeat' (first | with_reducible exact HBW.out | with_reducible exact Below.refl _ _ | with_reducible refine below_ext ?_ ?_ _ | with_reducible refine Below.alloc ?_ ?_ _ | with_reducible refine Below.setCell ?_ ?_ _ | with_reducible refine Below.drew ?_ | (simp; omega) | (simp; done) | (simp [go_sem]; omega) | (simp [go_sem]; done) | omega)

theorem walk_consumePays (v : Value) (a n : Int) (pre : Bool) (w : World) (h : InSt w v) (hfa : fits a) (hfn : fits n) :
    Calls Try.prog 3 #[v, .agg #[.int .i64 a, .int .i64 n, .bool pre]] w fun e w' => e = .returned (.bool true) ∧ Below w.heap.size w w' := by
  obtain ⟨st, Ab, Aw, Ac, cb, cw, cc, rfl, hi, hF⟩ := h
  cases hf : fewS st
  · exact pays_few st Ab Aw Ac cb cw cc a n pre w hi hF hf
  · exact pays_yes st Ab Aw Ac cb cw cc a n pre w hi hF hf hfa hfn
end Go.Proofs.Ythkollhebabhbaa

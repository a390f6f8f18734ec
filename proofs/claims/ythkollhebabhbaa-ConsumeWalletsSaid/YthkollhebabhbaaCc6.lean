/-
  The walk of Pay where a wallet is asked.
-/
import Derived.Test.YthkollhebabhbaaCc5
namespace Go.Proofs.Ythkollhebabhbaa
open Go.RowKit Go.Maps
set_option linter.unusedSimpArgs false
set_option linter.unusedVariables false

theorem fives_set : ∀ (ws : List W5) (k : Nat) (x y : W5), ws[k]? = some y → (((((fives ws).set (k * 5) (.int .i64 x.a)).set (k * 5 + 1) (.int .i64 x.b)).set (k * 5 + 2) (.int .i64 x.f)).set (k * 5 + 3) (.int .i64 x.h)).set (k * 5 + 4) (.int .i64 x.u) = fives (ws.set k x)
  | [], _, _, _, h => by simp at h
  | z :: ws, 0, x, y, h => by simp [fives, W5.cells]
  | z :: ws, k + 1, x, y, h => by
    have ih := fives_set ws k x y (by simpa using h)
    have hl : z.cells.length = 5 := rfl
    have hs : ∀ (l : List Value) (i : Nat) (v : Value), (z.cells ++ l).set (i + 5) v = z.cells ++ l.set i v := fun l i v => by
      rw [List.set_append_right _ _ (by rw [hl]; omega), hl, Nat.add_sub_cancel]
    simp only [List.set_cons_succ, fives, List.flatMap_cons] at ih ⊢
    rw [show (k + 1) * 5 = k * 5 + 5 by omega, show k * 5 + 5 + 1 = k * 5 + 1 + 5 by omega, show k * 5 + 5 + 2 = k * 5 + 2 + 5 by omega, show k * 5 + 5 + 3 = k * 5 + 3 + 5 by omega, show k * 5 + 5 + 4 = k * 5 + 4 + 5 by omega]
    rw [hs, hs, hs, hs, hs, ih]
theorem OwnSt.stored {w : World} {B n c g : Nat} {vb vc : Value} {s : St} (h : OwnSt w B vb (.slice (some ⟨g, 0, none⟩) n c) vc s) {k : Nat} {y : W5} (hy : s.ws[k]? = some y) (x : W5) :
    OwnSt (((((w.setCell ⟨g, k * 5, none⟩ (.int .i64 x.a)).setCell ⟨g, k * 5 + 1, none⟩ (.int .i64 x.b)).setCell ⟨g, k * 5 + 2, none⟩ (.int .i64 x.f)).setCell ⟨g, k * 5 + 3, none⟩ (.int .i64 x.h)).setCell ⟨g, k * 5 + 4, none⟩ (.int .i64 x.u)) B vb (.slice (some ⟨g, 0, none⟩) n c) vc { s with ws := s.ws.set k x } := by
  obtain ⟨⟨Z, b1, b2, b3⟩, h2, h3⟩ := h
  unfold OwnF at h2 h3
  have hl : n = s.ws.length := by
    rcases h2.2 with ⟨h4, _⟩ | ⟨_, _, _, h4, _⟩
    · cases h4
    · simp only [Value.slice.injEq] at h4
      exact h4.2.1
  subst hl
  have r1 := h2.stored (k * 5) (.int .i64 x.a)
  have r2 := r1.1.stored (k * 5 + 1) (.int .i64 x.b)
  have r3 := r2.1.stored (k * 5 + 2) (.int .i64 x.f)
  have r4 := r3.1.stored (k * 5 + 3) (.int .i64 x.h)
  have r5 := r4.1.stored (k * 5 + 4) (.int .i64 x.u)
  have keep : ∀ {B' size' n' : Nat} {e' : TypeId} {v' : Value} {xs' : List Value}, w.ownsRow B' e' size' v' n' xs' → e' ≠ 37 → (((((w.setCell ⟨g, k * 5, none⟩ (.int .i64 x.a)).setCell ⟨g, k * 5 + 1, none⟩ (.int .i64 x.b)).setCell ⟨g, k * 5 + 2, none⟩ (.int .i64 x.f)).setCell ⟨g, k * 5 + 3, none⟩ (.int .i64 x.h)).setCell ⟨g, k * 5 + 4, none⟩ (.int .i64 x.u)).ownsRow B' e' size' v' n' xs' := by
    intro B' size' n' e' v' xs' q hne
    have hd : v'.ownBlock = none ∨ v'.ownBlock ≠ some g := by have := own_ne q h2 hne; simpa [Value.ownBlock] using this
    exact ((((q.kept r1.2 hd).kept r2.2 hd).kept r3.2 hd).kept r4.2 hd).kept r5.2 hd
  refine ⟨⟨Z, b1, keep b2 (by decide), fun j x z hx hz => keep (b3 j x z hx hz) (by decide)⟩, ?_, keep h3 (by decide)⟩
  unfold OwnF
  rw [← fives_set s.ws k x y hy]
  simpa using r5.1

set_option maxRecDepth 100000 in
set_option maxHeartbeats 4000000 in
theorem pay_err (st : St) (Ab Aw Ac : Option Addr) (cb cw cc : Nat) (a n : Int) (pre : Bool) (w : World) (hnw : st.ws.length ≤ 1000) (hb : Bks w Ab st.bs) (hw : Fives w Aw st.ws) (hc : Fives w Ac st.cs)
    (C1 : ∀ W, Bks W Ab st.bs → Fives W Aw st.ws → Fives W Ac st.cs → Calls Try.prog 26 #[.agg #[.slice Ab st.bs.length cb, .slice Aw st.ws.length cw, .slice Ac st.cs.length cc]] W (ClonedSt st W))
    (hfw : ∀ x ∈ st.ws, fits x.a) (hfa : fits a) (k : Nat) (xa xb xf xh xu : Int) (hp : plc a st.ws = some k) (hx : st.ws[k]? = some ⟨xa, xb, xf, xh, xu⟩) (hpre : pre = true) (hn0 : ¬ n ≤ 0) (fn2 : n ≤ 9223372036854775807) (hck : (⟨xa, xb, xf, xh, xu⟩ : W5).chk ≠ 0) :
    Calls Try.prog 10 #[.agg #[.slice Ab st.bs.length cb, .slice Aw st.ws.length cw, .slice Ac st.cs.length cc], .int .i64 a, .int .i64 n, .bool pre] w (PayPost (st.pay a n pre) w) := by
  subst hpre
  have hkl : k < st.ws.length := (List.getElem?_eq_some_iff.1 hx).1
  have hkb : (k : Int) < (st.ws.length : Int) := by omega
  have hgd : st.ws.getD k W5.zero = ⟨xa, xb, xf, xh, xu⟩ := by simp [List.getD, hx]
  have HP := Lib.hid hp
  have HX := Lib.hid hx
  clear hp hx
  have E : Hid (st.pay a n true = (st, 0, n)) := by
    unfold Hid St.pay
    rw [if_neg (by simp; omega), HP.out]
    dsimp only
    rw [hgd, if_neg hck]
  have hfr : (⟨xa, xb, xf, xh, xu⟩ : W5).free = 0 := by unfold W5.free; rw [if_neg hck]
  have hdb : W5.debit ⟨xa, xb, xf, xh, xu⟩ 0 = (W5.zero, (⟨xa, xb, xf, xh, xu⟩ : W5).chk) := by unfold W5.debit; rw [if_neg hck]
  generalize hcv : (⟨xa, xb, xf, xh, xu⟩ : W5).chk = cv at *
  have hne : (cv != 0) = true := bne_iff_ne.2 hck
  have HFR := Lib.hid hfr
  have HDB := Lib.hid hdb
  clear hgd hck hfr hdb hcv
  have hkey : keyOf Try.prog 3 (.int .i64 a) = some (.int .i64 a) := keyOf_int_mk Try.underlying3 (int_wf hfa)
  have HC1 := Lib.hid C1
  have HB := Lib.hid hb
  have HW := Lib.hid hw
  have HC := Lib.hid hc
  have HFW := Lib.hid hfw
  have HK := Lib.hid hkey
  clear C1 hb hw hc hfw hkey hfa
  unfold PayPost
  go_enter Try.func10, Try.ntmps10
  go_wp2_with (first
    | (go_at_call 26; refine (HC1.out _ ((HB.out.alloc _).alloc _) ((HW.out.alloc _).alloc _) ((HC.out.alloc _).alloc _)).mono ?_; rintro e w1 ⟨v1, v2, v3, rfl, os1, hb1⟩; obtain ⟨A1, c1, rfl, _, _⟩ := os1.1.form; obtain ⟨A2, c2, rfl, hF2, _⟩ := os1.2.1.form; obtain ⟨A3, c3, rfl, _, _⟩ := os1.2.2.form; obtain ⟨hcc, hff⟩ := bcell hb1; have hsz1 := hb1.size; simp at hsz1; have hz1 : w.heap.size < w1.heap.size := (by omega); have hz2 : w.heap.size + 1 < w1.heap.size := (by omega); have HO1 := Lib.hid (os1.mono (B' := w.heap.size + 2) (by simp)); have HF2 := Lib.hid hF2; have HBW := Lib.hid ((((Below.refl w.heap.size w).alloc (Nat.le_refl _) _).alloc (by simp) _).trans (hb1.mono (by simp; omega))); obtain ⟨g, hg0, hgB, hgl, _⟩ := os1.2.1.some_ (by omega); obtain rfl := hg0; obtain ⟨b9, o9, hA9, _, x0, x1, x2, x3, x4⟩ := fives_cells hF2 HX.out; simp only [Option.some.injEq, Addr.mk.injEq, and_true] at hA9; obtain ⟨rfl, rfl⟩ := hA9; simp only [Nat.zero_add] at x0 x1 x2 x3 x4; obtain ⟨z0, z1, z2, z3, z4⟩ := os1.2.1.frozen5 k; simp at hgB; have hne1 : ¬ g = w.heap.size + 1 := (by omega); have hne2 : ¬ w.heap.size + 1 = g := (by omega); clear os1 hF2 hb1)
    | (go_at_call 27; refine (places_any' st.ws _ c2 _ hnw (HF2.out.alloc _) HFW.out).mono ?_; rintro e w2 ⟨rfl, hm, hb2⟩; obtain ⟨s2, rfl⟩ := ext_of_below hb2; obtain ⟨D, hD1, hD2, hD3⟩ := hm; simp only [World.size_alloc] at hD2; have hhas : Maps.has D (.int .i64 a) = true := (by rw [(hD3 a).1, HP.out]; rfl); have HAT := Lib.hid ((hD3 a).2 k HP.out); have HD2 := Lib.hid hD2; clear hb2 hD1 hD2 hD3)
    | (at_lookup; refine wpList_lookup_own_ok_int _ rfl _ _ 62 rfl 3 3 .i64 lawI Try.underlying62 Try.underlying3 (zeroI _) _ _ D rfl HD2.out _ _ rfl HK.out ?_; intro c hat hwc; obtain rfl : c = (k : Int) := (by rw [HAT.out] at hat; cases hat; rfl); clear hat hwc)
    | (go_at_call 28; (with_reducible refine (free_any _ _ _ _ _ _).mono ?_); rw [HFR.out]; rintro e w3 ⟨rfl, hb3⟩; obtain ⟨s3, rfl⟩ := ext_of_below hb3; clear hb3)
    | (go_at_call 29; (with_reducible refine (debit_any _ _ _ _ _ _ _).mono ?_); rw [HDB.out]; rintro e w4 ⟨rfl, hb4⟩; obtain ⟨s4, rfl⟩ := ext_of_below hb4; clear hb4))
  refine bodyPost_ret (by simp [results, Try.results10, go_sem, hz1, hz2, hcc, hff]; first | done | rfl) rfl ?_
  rw [E.out]
  refine ⟨_, _, _, rfl, OwnSt.mono (B := w.heap.size + 2) ?_ (by omega), ?_⟩
  · repeat' (first | with_reducible exact HO1.out | with_reducible refine OwnSt.ext ?_ _ | with_reducible refine OwnSt.alloc ?_ _ | with_reducible refine OwnSt.low ?_ ?_ | (simp; omega) | (simp; done) | omega)
  · repeat' (first | with_reducible exact HBW.out | with_reducible exact Below.refl _ _ | with_reducible refine below_ext ?_ ?_ _ | with_reducible refine Below.alloc ?_ ?_ _ | with_reducible refine Below.setCell ?_ ?_ _ | with_reducible refine Below.drew ?_ | (simp; omega) | (simp; done) | (simp [go_sem]; omega) | (simp [go_sem]; done) | omega)

set_option maxRecDepth 100000 in
set_option maxHeartbeats 4000000 in
theorem pay_ok0 (st : St) (Ab Aw Ac : Option Addr) (cb cw cc : Nat) (a n : Int) (pre : Bool) (w : World) (hnw : st.ws.length ≤ 1000) (hb : Bks w Ab st.bs) (hw : Fives w Aw st.ws) (hc : Fives w Ac st.cs)
    (C1 : ∀ W, Bks W Ab st.bs → Fives W Aw st.ws → Fives W Ac st.cs → Calls Try.prog 26 #[.agg #[.slice Ab st.bs.length cb, .slice Aw st.ws.length cw, .slice Ac st.cs.length cc]] W (ClonedSt st W))
    (hfw : ∀ x ∈ st.ws, fits x.a) (hfa : fits a) (k : Nat) (xa xb xf xh xu : Int) (hp : plc a st.ws = some k) (hx : st.ws[k]? = some ⟨xa, xb, xf, xh, xu⟩) (hpre : pre = true) (hn0 : ¬ n ≤ 0) (fn2 : n ≤ 9223372036854775807) (hck : (⟨xa, xb, xf, xh, xu⟩ : W5).chk = 0) (hm1 : n ≤ xb - xh - xf) (hm2 : n ≤ 1125899906842624) :
    Calls Try.prog 10 #[.agg #[.slice Ab st.bs.length cb, .slice Aw st.ws.length cw, .slice Ac st.cs.length cc], .int .i64 a, .int .i64 n, .bool pre] w (PayPost (st.pay a n pre) w) := by
  subst hpre
  have hkl : k < st.ws.length := (List.getElem?_eq_some_iff.1 hx).1
  have hkb : (k : Int) < (st.ws.length : Int) := by omega
  have hgd : st.ws.getD k W5.zero = ⟨xa, xb, xf, xh, xu⟩ := by simp [List.getD, hx]
  have HP := Lib.hid hp
  have HX := Lib.hid hx
  clear hp hx
  have hk := W5.chk_ok.1 hck
  dsimp only at hk
  obtain ⟨k1, k2, k3, k4, k5, k6, k7, k8, k9, k10, k11⟩ := hk
  have hfr : (⟨xa, xb, xf, xh, xu⟩ : W5).free = xb - xh - xf := by unfold W5.free; rw [if_pos hck]
  have hmin : min (min n (xb - xh - xf)) 1125899906842624 = n := by omega
  have hdb : W5.debit ⟨xa, xb, xf, xh, xu⟩ n = (⟨xa, xb - n, xf, xh, xu⟩, 0) := by
    unfold W5.debit
    rw [if_pos hck, if_pos (by omega), hfr, if_neg (by omega)]
  have E : Hid (st.pay a n true = ({ st with ws := st.ws.set k ⟨xa, xb - n, xf, xh, xu⟩ }, n, (0 : Int))) := by
    unfold Hid St.pay
    rw [if_neg (by simp; omega), HP.out]
    dsimp only
    rw [hgd, if_pos hck, hfr, hmin]
    rw [Int.sub_self]
  have HFR := Lib.hid hfr
  have HDB := Lib.hid hdb
  clear hgd hck hfr hdb hmin
  have hkey : keyOf Try.prog 3 (.int .i64 a) = some (.int .i64 a) := keyOf_int_mk Try.underlying3 (int_wf hfa)
  have HC1 := Lib.hid C1
  have HB := Lib.hid hb
  have HW := Lib.hid hw
  have HC := Lib.hid hc
  have HFW := Lib.hid hfw
  have HK := Lib.hid hkey
  clear C1 hb hw hc hfw hkey hfa
  unfold PayPost
  go_enter Try.func10, Try.ntmps10
  go_wp2_with (first
    | (go_at_call 26; refine (HC1.out _ ((HB.out.alloc _).alloc _) ((HW.out.alloc _).alloc _) ((HC.out.alloc _).alloc _)).mono ?_; rintro e w1 ⟨v1, v2, v3, rfl, os1, hb1⟩; obtain ⟨A1, c1, rfl, _, _⟩ := os1.1.form; obtain ⟨A2, c2, rfl, hF2, _⟩ := os1.2.1.form; obtain ⟨A3, c3, rfl, _, _⟩ := os1.2.2.form; obtain ⟨hcc, hff⟩ := bcell hb1; have hsz1 := hb1.size; simp at hsz1; have hz1 : w.heap.size < w1.heap.size := (by omega); have hz2 : w.heap.size + 1 < w1.heap.size := (by omega); have HO1 := Lib.hid (os1.mono (B' := w.heap.size + 2) (by simp)); have HF2 := Lib.hid hF2; have HBW := Lib.hid ((((Below.refl w.heap.size w).alloc (Nat.le_refl _) _).alloc (by simp) _).trans (hb1.mono (by simp; omega))); obtain ⟨g, hg0, hgB, hgl, _⟩ := os1.2.1.some_ (by omega); obtain rfl := hg0; obtain ⟨b9, o9, hA9, _, x0, x1, x2, x3, x4⟩ := fives_cells hF2 HX.out; simp only [Option.some.injEq, Addr.mk.injEq, and_true] at hA9; obtain ⟨rfl, rfl⟩ := hA9; simp only [Nat.zero_add] at x0 x1 x2 x3 x4; obtain ⟨z0, z1, z2, z3, z4⟩ := os1.2.1.frozen5 k; simp at hgB; have hne1 : ¬ g = w.heap.size + 1 := (by omega); have hne2 : ¬ w.heap.size + 1 = g := (by omega); have ho5 := (os1.mono (B' := w.heap.size + 2) (by simp)).stored HX.out ⟨xa, xb - n, xf, xh, xu⟩; dsimp only at ho5; have HO5 := Lib.hid ho5; clear ho5; clear os1 hF2 hb1)
    | (go_at_call 27; refine (places_any' st.ws _ c2 _ hnw (HF2.out.alloc _) HFW.out).mono ?_; rintro e w2 ⟨rfl, hm, hb2⟩; obtain ⟨s2, rfl⟩ := ext_of_below hb2; obtain ⟨D, hD1, hD2, hD3⟩ := hm; simp only [World.size_alloc] at hD2; have hhas : Maps.has D (.int .i64 a) = true := (by rw [(hD3 a).1, HP.out]; rfl); have HAT := Lib.hid ((hD3 a).2 k HP.out); have HD2 := Lib.hid hD2; clear hb2 hD1 hD2 hD3)
    | (at_lookup; refine wpList_lookup_own_ok_int _ rfl _ _ 62 rfl 3 3 .i64 lawI Try.underlying62 Try.underlying3 (zeroI _) _ _ D rfl HD2.out _ _ rfl HK.out ?_; intro c hat hwc; obtain rfl : c = (k : Int) := (by rw [HAT.out] at hat; cases hat; rfl); clear hat hwc)
    | (go_at_call 28; (with_reducible refine (free_any _ _ _ _ _ _).mono ?_); rw [HFR.out]; rintro e w3 ⟨rfl, hb3⟩; obtain ⟨s3, rfl⟩ := ext_of_below hb3; clear hb3)
    | (go_at_call 29; (with_reducible refine (debit_any _ _ _ _ _ _ _).mono ?_); rw [HDB.out]; rintro e w4 ⟨rfl, hb4⟩; obtain ⟨s4, rfl⟩ := ext_of_below hb4; clear hb4))
  refine bodyPost_ret (by simp [results, Try.results10, go_sem, hz1, hz2, hcc, hff]; first | done | rfl) rfl ?_
  rw [E.out]
  refine ⟨_, _, _, rfl, OwnSt.mono (B := w.heap.size + 2) ?_ (by omega), ?_⟩
  · repeat' (first | with_reducible exact HO5.out | with_reducible refine OwnSt.ext ?_ _ | with_reducible refine OwnSt.alloc ?_ _ | with_reducible refine OwnSt.low ?_ ?_ | (simp; omega) | (simp; done) | omega)
  · repeat' (first | with_reducible exact HBW.out | with_reducible exact Below.refl _ _ | with_reducible refine below_ext ?_ ?_ _ | with_reducible refine Below.alloc ?_ ?_ _ | with_reducible refine Below.setCell ?_ ?_ _ | with_reducible refine Below.drew ?_ | (simp; omega) | (simp; done) | (simp [go_sem]; omega) | (simp [go_sem]; done) | omega)

set_option maxRecDepth 100000 in
set_option maxHeartbeats 4000000 in
theorem pay_ok1 (st : St) (Ab Aw Ac : Option Addr) (cb cw cc : Nat) (a n : Int) (pre : Bool) (w : World) (hnw : st.ws.length ≤ 1000) (hb : Bks w Ab st.bs) (hw : Fives w Aw st.ws) (hc : Fives w Ac st.cs)
    (C1 : ∀ W, Bks W Ab st.bs → Fives W Aw st.ws → Fives W Ac st.cs → Calls Try.prog 26 #[.agg #[.slice Ab st.bs.length cb, .slice Aw st.ws.length cw, .slice Ac st.cs.length cc]] W (ClonedSt st W))
    (hfw : ∀ x ∈ st.ws, fits x.a) (hfa : fits a) (k : Nat) (xa xb xf xh xu : Int) (hp : plc a st.ws = some k) (hx : st.ws[k]? = some ⟨xa, xb, xf, xh, xu⟩) (hpre : pre = true) (hn0 : ¬ n ≤ 0) (fn2 : n ≤ 9223372036854775807) (hck : (⟨xa, xb, xf, xh, xu⟩ : W5).chk = 0) (hm1 : xb - xh - xf < n) (hm2 : xb - xh - xf ≤ 1125899906842624) :
    Calls Try.prog 10 #[.agg #[.slice Ab st.bs.length cb, .slice Aw st.ws.length cw, .slice Ac st.cs.length cc], .int .i64 a, .int .i64 n, .bool pre] w (PayPost (st.pay a n pre) w) := by
  subst hpre
  have hkl : k < st.ws.length := (List.getElem?_eq_some_iff.1 hx).1
  have hkb : (k : Int) < (st.ws.length : Int) := by omega
  have hgd : st.ws.getD k W5.zero = ⟨xa, xb, xf, xh, xu⟩ := by simp [List.getD, hx]
  have HP := Lib.hid hp
  have HX := Lib.hid hx
  clear hp hx
  have hk := W5.chk_ok.1 hck
  dsimp only at hk
  obtain ⟨k1, k2, k3, k4, k5, k6, k7, k8, k9, k10, k11⟩ := hk
  have hfr : (⟨xa, xb, xf, xh, xu⟩ : W5).free = xb - xh - xf := by unfold W5.free; rw [if_pos hck]
  have hmin : min (min n (xb - xh - xf)) 1125899906842624 = (xb - xh - xf) := by omega
  have hdb : W5.debit ⟨xa, xb, xf, xh, xu⟩ (xb - xh - xf) = (⟨xa, xb - (xb - xh - xf), xf, xh, xu⟩, 0) := by
    unfold W5.debit
    rw [if_pos hck, if_pos (by omega), hfr, if_neg (by omega)]
  have E : Hid (st.pay a n true = ({ st with ws := st.ws.set k ⟨xa, xb - (xb - xh - xf), xf, xh, xu⟩ }, (xb - xh - xf), n - (xb - xh - xf))) := by
    unfold Hid St.pay
    rw [if_neg (by simp; omega), HP.out]
    dsimp only
    rw [hgd, if_pos hck, hfr, hmin]
  have HFR := Lib.hid hfr
  have HDB := Lib.hid hdb
  clear hgd hck hfr hdb hmin
  have hkey : keyOf Try.prog 3 (.int .i64 a) = some (.int .i64 a) := keyOf_int_mk Try.underlying3 (int_wf hfa)
  have HC1 := Lib.hid C1
  have HB := Lib.hid hb
  have HW := Lib.hid hw
  have HC := Lib.hid hc
  have HFW := Lib.hid hfw
  have HK := Lib.hid hkey
  clear C1 hb hw hc hfw hkey hfa
  unfold PayPost
  go_enter Try.func10, Try.ntmps10
  go_wp2_with (first
    | (go_at_call 26; refine (HC1.out _ ((HB.out.alloc _).alloc _) ((HW.out.alloc _).alloc _) ((HC.out.alloc _).alloc _)).mono ?_; rintro e w1 ⟨v1, v2, v3, rfl, os1, hb1⟩; obtain ⟨A1, c1, rfl, _, _⟩ := os1.1.form; obtain ⟨A2, c2, rfl, hF2, _⟩ := os1.2.1.form; obtain ⟨A3, c3, rfl, _, _⟩ := os1.2.2.form; obtain ⟨hcc, hff⟩ := bcell hb1; have hsz1 := hb1.size; simp at hsz1; have hz1 : w.heap.size < w1.heap.size := (by omega); have hz2 : w.heap.size + 1 < w1.heap.size := (by omega); have HO1 := Lib.hid (os1.mono (B' := w.heap.size + 2) (by simp)); have HF2 := Lib.hid hF2; have HBW := Lib.hid ((((Below.refl w.heap.size w).alloc (Nat.le_refl _) _).alloc (by simp) _).trans (hb1.mono (by simp; omega))); obtain ⟨g, hg0, hgB, hgl, _⟩ := os1.2.1.some_ (by omega); obtain rfl := hg0; obtain ⟨b9, o9, hA9, _, x0, x1, x2, x3, x4⟩ := fives_cells hF2 HX.out; simp only [Option.some.injEq, Addr.mk.injEq, and_true] at hA9; obtain ⟨rfl, rfl⟩ := hA9; simp only [Nat.zero_add] at x0 x1 x2 x3 x4; obtain ⟨z0, z1, z2, z3, z4⟩ := os1.2.1.frozen5 k; simp at hgB; have hne1 : ¬ g = w.heap.size + 1 := (by omega); have hne2 : ¬ w.heap.size + 1 = g := (by omega); have ho5 := (os1.mono (B' := w.heap.size + 2) (by simp)).stored HX.out ⟨xa, xb - (xb - xh - xf), xf, xh, xu⟩; dsimp only at ho5; have HO5 := Lib.hid ho5; clear ho5; clear os1 hF2 hb1)
    | (go_at_call 27; refine (places_any' st.ws _ c2 _ hnw (HF2.out.alloc _) HFW.out).mono ?_; rintro e w2 ⟨rfl, hm, hb2⟩; obtain ⟨s2, rfl⟩ := ext_of_below hb2; obtain ⟨D, hD1, hD2, hD3⟩ := hm; simp only [World.size_alloc] at hD2; have hhas : Maps.has D (.int .i64 a) = true := (by rw [(hD3 a).1, HP.out]; rfl); have HAT := Lib.hid ((hD3 a).2 k HP.out); have HD2 := Lib.hid hD2; clear hb2 hD1 hD2 hD3)
    | (at_lookup; refine wpList_lookup_own_ok_int _ rfl _ _ 62 rfl 3 3 .i64 lawI Try.underlying62 Try.underlying3 (zeroI _) _ _ D rfl HD2.out _ _ rfl HK.out ?_; intro c hat hwc; obtain rfl : c = (k : Int) := (by rw [HAT.out] at hat; cases hat; rfl); clear hat hwc)
    | (go_at_call 28; (with_reducible refine (free_any _ _ _ _ _ _).mono ?_); rw [HFR.out]; rintro e w3 ⟨rfl, hb3⟩; obtain ⟨s3, rfl⟩ := ext_of_below hb3; clear hb3)
    | (go_at_call 29; (with_reducible refine (debit_any _ _ _ _ _ _ _).mono ?_); rw [HDB.out]; rintro e w4 ⟨rfl, hb4⟩; obtain ⟨s4, rfl⟩ := ext_of_below hb4; clear hb4))
  refine bodyPost_ret (by simp [results, Try.results10, go_sem, hz1, hz2, hcc, hff]; first | done | rfl) rfl ?_
  rw [E.out]
  refine ⟨_, _, _, rfl, OwnSt.mono (B := w.heap.size + 2) ?_ (by omega), ?_⟩
  · repeat' (first | with_reducible exact HO5.out | with_reducible refine OwnSt.ext ?_ _ | with_reducible refine OwnSt.alloc ?_ _ | with_reducible refine OwnSt.low ?_ ?_ | (simp; omega) | (simp; done) | omega)
  · repeat' (first | with_reducible exact HBW.out | with_reducible exact Below.refl _ _ | with_reducible refine below_ext ?_ ?_ _ | with_reducible refine Below.alloc ?_ ?_ _ | with_reducible refine Below.setCell ?_ ?_ _ | with_reducible refine Below.drew ?_ | (simp; omega) | (simp; done) | (simp [go_sem]; omega) | (simp [go_sem]; done) | omega)

set_option maxRecDepth 100000 in
set_option maxHeartbeats 4000000 in
theorem pay_ok2 (st : St) (Ab Aw Ac : Option Addr) (cb cw cc : Nat) (a n : Int) (pre : Bool) (w : World) (hnw : st.ws.length ≤ 1000) (hb : Bks w Ab st.bs) (hw : Fives w Aw st.ws) (hc : Fives w Ac st.cs)
    (C1 : ∀ W, Bks W Ab st.bs → Fives W Aw st.ws → Fives W Ac st.cs → Calls Try.prog 26 #[.agg #[.slice Ab st.bs.length cb, .slice Aw st.ws.length cw, .slice Ac st.cs.length cc]] W (ClonedSt st W))
    (hfw : ∀ x ∈ st.ws, fits x.a) (hfa : fits a) (k : Nat) (xa xb xf xh xu : Int) (hp : plc a st.ws = some k) (hx : st.ws[k]? = some ⟨xa, xb, xf, xh, xu⟩) (hpre : pre = true) (hn0 : ¬ n ≤ 0) (fn2 : n ≤ 9223372036854775807) (hck : (⟨xa, xb, xf, xh, xu⟩ : W5).chk = 0) (hm1 : 1125899906842624 < n) (hm2 : 1125899906842624 < xb - xh - xf) :
    Calls Try.prog 10 #[.agg #[.slice Ab st.bs.length cb, .slice Aw st.ws.length cw, .slice Ac st.cs.length cc], .int .i64 a, .int .i64 n, .bool pre] w (PayPost (st.pay a n pre) w) := by
  subst hpre
  have hkl : k < st.ws.length := (List.getElem?_eq_some_iff.1 hx).1
  have hkb : (k : Int) < (st.ws.length : Int) := by omega
  have hgd : st.ws.getD k W5.zero = ⟨xa, xb, xf, xh, xu⟩ := by simp [List.getD, hx]
  have HP := Lib.hid hp
  have HX := Lib.hid hx
  clear hp hx
  have hk := W5.chk_ok.1 hck
  dsimp only at hk
  obtain ⟨k1, k2, k3, k4, k5, k6, k7, k8, k9, k10, k11⟩ := hk
  have hfr : (⟨xa, xb, xf, xh, xu⟩ : W5).free = xb - xh - xf := by unfold W5.free; rw [if_pos hck]
  have hmin : min (min n (xb - xh - xf)) 1125899906842624 = 1125899906842624 := by omega
  have hdb : W5.debit ⟨xa, xb, xf, xh, xu⟩ 1125899906842624 = (⟨xa, xb - 1125899906842624, xf, xh, xu⟩, 0) := by
    unfold W5.debit
    rw [if_pos hck, if_pos (by omega), hfr, if_neg (by omega)]
  have E : Hid (st.pay a n true = ({ st with ws := st.ws.set k ⟨xa, xb - 1125899906842624, xf, xh, xu⟩ }, 1125899906842624, n - 1125899906842624)) := by
    unfold Hid St.pay
    rw [if_neg (by simp; omega), HP.out]
    dsimp only
    rw [hgd, if_pos hck, hfr, hmin]
  have HFR := Lib.hid hfr
  have HDB := Lib.hid hdb
  clear hgd hck hfr hdb hmin
  have hkey : keyOf Try.prog 3 (.int .i64 a) = some (.int .i64 a) := keyOf_int_mk Try.underlying3 (int_wf hfa)
  have HC1 := Lib.hid C1
  have HB := Lib.hid hb
  have HW := Lib.hid hw
  have HC := Lib.hid hc
  have HFW := Lib.hid hfw
  have HK := Lib.hid hkey
  clear C1 hb hw hc hfw hkey hfa
  unfold PayPost
  go_enter Try.func10, Try.ntmps10
  go_wp2_with (first
    | (go_at_call 26; refine (HC1.out _ ((HB.out.alloc _).alloc _) ((HW.out.alloc _).alloc _) ((HC.out.alloc _).alloc _)).mono ?_; rintro e w1 ⟨v1, v2, v3, rfl, os1, hb1⟩; obtain ⟨A1, c1, rfl, _, _⟩ := os1.1.form; obtain ⟨A2, c2, rfl, hF2, _⟩ := os1.2.1.form; obtain ⟨A3, c3, rfl, _, _⟩ := os1.2.2.form; obtain ⟨hcc, hff⟩ := bcell hb1; have hsz1 := hb1.size; simp at hsz1; have hz1 : w.heap.size < w1.heap.size := (by omega); have hz2 : w.heap.size + 1 < w1.heap.size := (by omega); have HO1 := Lib.hid (os1.mono (B' := w.heap.size + 2) (by simp)); have HF2 := Lib.hid hF2; have HBW := Lib.hid ((((Below.refl w.heap.size w).alloc (Nat.le_refl _) _).alloc (by simp) _).trans (hb1.mono (by simp; omega))); obtain ⟨g, hg0, hgB, hgl, _⟩ := os1.2.1.some_ (by omega); obtain rfl := hg0; obtain ⟨b9, o9, hA9, _, x0, x1, x2, x3, x4⟩ := fives_cells hF2 HX.out; simp only [Option.some.injEq, Addr.mk.injEq, and_true] at hA9; obtain ⟨rfl, rfl⟩ := hA9; simp only [Nat.zero_add] at x0 x1 x2 x3 x4; obtain ⟨z0, z1, z2, z3, z4⟩ := os1.2.1.frozen5 k; simp at hgB; have hne1 : ¬ g = w.heap.size + 1 := (by omega); have hne2 : ¬ w.heap.size + 1 = g := (by omega); have ho5 := (os1.mono (B' := w.heap.size + 2) (by simp)).stored HX.out ⟨xa, xb - 1125899906842624, xf, xh, xu⟩; dsimp only at ho5; have HO5 := Lib.hid ho5; clear ho5; clear os1 hF2 hb1)
    | (go_at_call 27; refine (places_any' st.ws _ c2 _ hnw (HF2.out.alloc _) HFW.out).mono ?_; rintro e w2 ⟨rfl, hm, hb2⟩; obtain ⟨s2, rfl⟩ := ext_of_below hb2; obtain ⟨D, hD1, hD2, hD3⟩ := hm; simp only [World.size_alloc] at hD2; have hhas : Maps.has D (.int .i64 a) = true := (by rw [(hD3 a).1, HP.out]; rfl); have HAT := Lib.hid ((hD3 a).2 k HP.out); have HD2 := Lib.hid hD2; clear hb2 hD1 hD2 hD3)
    | (at_lookup; refine wpList_lookup_own_ok_int _ rfl _ _ 62 rfl 3 3 .i64 lawI Try.underlying62 Try.underlying3 (zeroI _) _ _ D rfl HD2.out _ _ rfl HK.out ?_; intro c hat hwc; obtain rfl : c = (k : Int) := (by rw [HAT.out] at hat; cases hat; rfl); clear hat hwc)
    | (go_at_call 28; (with_reducible refine (free_any _ _ _ _ _ _).mono ?_); rw [HFR.out]; rintro e w3 ⟨rfl, hb3⟩; obtain ⟨s3, rfl⟩ := ext_of_below hb3; clear hb3)
    | (go_at_call 29; (with_reducible refine (debit_any _ _ _ _ _ _ _).mono ?_); rw [HDB.out]; rintro e w4 ⟨rfl, hb4⟩; obtain ⟨s4, rfl⟩ := ext_of_below hb4; clear hb4))
  refine bodyPost_ret (by simp [results, Try.results10, go_sem, hz1, hz2, hcc, hff]; first | done | rfl) rfl ?_
  rw [E.out]
  refine ⟨_, _, _, rfl, OwnSt.mono (B := w.heap.size + 2) ?_ (by omega), ?_⟩
  · repeat' (first | with_reducible exact HO5.out | with_reducible refine OwnSt.ext ?_ _ | with_reducible refine OwnSt.alloc ?_ _ | with_reducible refine OwnSt.low ?_ ?_ | (simp; omega) | (simp; done) | omega)
  · repeat' (first | with_reducible exact HBW.out | with_reducible exact Below.refl _ _ | with_reducible refine below_ext ?_ ?_ _ | with_reducible refine Below.alloc ?_ ?_ _ | with_reducible refine Below.setCell ?_ ?_ _ | with_reducible refine Below.drew ?_ | (simp; omega) | (simp; done) | (simp [go_sem]; omega) | (simp [go_sem]; done) | omega)

end Go.Proofs.Ythkollhebabhbaa

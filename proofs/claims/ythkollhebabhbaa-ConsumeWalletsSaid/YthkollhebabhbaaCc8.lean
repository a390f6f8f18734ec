/-
  The walk of the reference's Pay where a wallet is asked.
-/
import Derived.Test.YthkollhebabhbaaCc7
namespace Go.Proofs.Ythkollhebabhbaa
open Go.RowKit Go.Maps
set_option linter.unusedSimpArgs false
set_option linter.unusedVariables false

set_option maxRecDepth 100000 in
set_option maxHeartbeats 4000000 in
theorem rpay_err (st : St) (Ab Aw Ac : Option Addr) (cb cw cc : Nat) (a n : Int) (pre : Bool) (w : World) (hnw : st.ws.length ≤ 1000) (hb : Bks w Ab st.bs) (hw : Fives w Aw st.ws) (hc : Fives w Ac st.cs)
    (C1 : ∀ W, Bks W Ab st.bs → Fives W Aw st.ws → Fives W Ac st.cs → Calls Try.prog 30 #[.agg #[.slice Ab st.bs.length cb, .slice Aw st.ws.length cw, .slice Ac st.cs.length cc]] W (ClonedSt st W))
    (hfw : ∀ x ∈ st.ws, fits x.a) (hfa : fits a) (k : Nat) (xa xb xf xh xu : Int) (hp : plc a st.ws = some k) (hx : st.ws[k]? = some ⟨xa, xb, xf, xh, xu⟩) (hpre : pre = true) (hn0 : ¬ n ≤ 0) (fn2 : n ≤ 9223372036854775807) (hck : (⟨xa, xb, xf, xh, xu⟩ : W5).chk ≠ 0) :
    Calls Try.prog 11 #[.agg #[.slice Ab st.bs.length cb, .slice Aw st.ws.length cw, .slice Ac st.cs.length cc], .int .i64 a, .int .i64 n, .bool pre] w (PayPost (st.pay a n pre) w) := by
  subst hpre
  have hkl : k < st.ws.length := (List.getElem?_eq_some_iff.1 hx).1
  have hkb : (k : Int) < (st.ws.length : Int) := by omega
  have hgd : st.ws.getD k W5.zero = ⟨xa, xb, xf, xh, xu⟩ := by simp [List.getD, hx]
  have HP := Lib.hid hp
  have HX := Lib.hid hx
  clear hp hx
  have E : Hid (st.pay a n true = (st, 0, n)) := by
    unfold Hid St.pay
    rw [if_neg (by simp; omega), HP.out]
    dsimp only
    rw [hgd, if_neg hck]
  have hfr : (⟨xa, xb, xf, xh, xu⟩ : W5).free = 0 := by unfold W5.free; rw [if_neg hck]
  have hdb : W5.debit ⟨xa, xb, xf, xh, xu⟩ 0 = (W5.zero, (⟨xa, xb, xf, xh, xu⟩ : W5).chk) := by unfold W5.debit; rw [if_neg hck]
  generalize hcv : (⟨xa, xb, xf, xh, xu⟩ : W5).chk = cv at *
  have hne : (cv != 0) = true := bne_iff_ne.2 hck
  have HFR := Lib.hid hfr
  have HDB := Lib.hid hdb
  clear hgd hck hfr hdb hcv
  have HPL : Hid (plI a st.ws = (k : Int)) := by unfold Hid plI; rw [HP.out]
  have hk0 : ¬ (k : Int) < 0 := by omega
  have hkey : keyOf Try.prog 3 (.int .i64 a) = some (.int .i64 a) := keyOf_int_mk Try.underlying3 (int_wf hfa)
  have HC1 := Lib.hid C1
  have HB := Lib.hid hb
  have HW := Lib.hid hw
  have HC := Lib.hid hc
  have HFW := Lib.hid hfw
  have HK := Lib.hid hkey
  clear C1 hb hw hc hfw hkey hfa
  unfold PayPost
  go_enter Try.func11, Try.ntmps11
  go_wp2_with (first
    | (go_at_call 30; refine (HC1.out _ ((HB.out.alloc _).alloc _) ((HW.out.alloc _).alloc _) ((HC.out.alloc _).alloc _)).mono ?_; rintro e w1 ⟨v1, v2, v3, rfl, os1, hb1⟩; obtain ⟨A1, c1, rfl, _, _⟩ := os1.1.form; obtain ⟨A2, c2, rfl, hF2, _⟩ := os1.2.1.form; obtain ⟨A3, c3, rfl, _, _⟩ := os1.2.2.form; obtain ⟨hcc, hff⟩ := bcell hb1; have hsz1 := hb1.size; simp at hsz1; have hz1 : w.heap.size < w1.heap.size := (by omega); have hz2 : w.heap.size + 1 < w1.heap.size := (by omega); have HO1 := Lib.hid (os1.mono (B' := w.heap.size + 2) (by simp)); have HF2 := Lib.hid hF2; have HBW := Lib.hid ((((Below.refl w.heap.size w).alloc (Nat.le_refl _) _).alloc (by simp) _).trans (hb1.mono (by simp; omega))); obtain ⟨g, hg0, hgB, hgl, _⟩ := os1.2.1.some_ (by omega); obtain rfl := hg0; obtain ⟨b9, o9, hA9, _, x0, x1, x2, x3, x4⟩ := fives_cells hF2 HX.out; simp only [Option.some.injEq, Addr.mk.injEq, and_true] at hA9; obtain ⟨rfl, rfl⟩ := hA9; simp only [Nat.zero_add] at x0 x1 x2 x3 x4; obtain ⟨z0, z1, z2, z3, z4⟩ := os1.2.1.frozen5 k; simp at hgB; have hne1 : ¬ g = w.heap.size + 1 := (by omega); have hne2 : ¬ w.heap.size + 1 = g := (by omega); clear os1 hF2 hb1)
    | (go_at_call 13; (refine (place_any a st.ws _ c2 _ (by omega) (HF2.out.alloc _)).mono ?_); rw [HPL.out]; rintro e w2 ⟨rfl, hb2⟩; obtain ⟨s2, rfl⟩ := ext_of_below hb2; clear hb2)
    | (go_at_call 14; (with_reducible refine (rfree_any _ _ _ _ _ _).mono ?_); rw [HFR.out]; rintro e w3 ⟨rfl, hb3⟩; obtain ⟨s3, rfl⟩ := ext_of_below hb3; clear hb3)
    | (go_at_call 31; (with_reducible refine (rdebit_any _ _ _ _ _ _ _).mono ?_); rw [HDB.out]; rintro e w4 ⟨rfl, hb4⟩; obtain ⟨s4, rfl⟩ := ext_of_below hb4; clear hb4))
  refine bodyPost_ret (by simp [results, Try.results11, go_sem, hz1, hz2, hcc, hff]; first | done | rfl) rfl ?_
  rw [E.out]
  refine ⟨_, _, _, rfl, OwnSt.mono (B := w.heap.size + 2) ?_ (by omega), ?_⟩
  · repeat' (first | with_reducible exact HO1.out | with_reducible refine OwnSt.ext ?_ _ | with_reducible refine OwnSt.alloc ?_ _ | with_reducible refine OwnSt.low ?_ ?_ | (simp; omega) | (simp; done) | omega)
  · repeat' (first | with_reducible exact HBW.out | with_reducible exact Below.refl _ _ | with_reducible refine below_ext ?_ ?_ _ | with_reducible refine Below.alloc ?_ ?_ _ | with_reducible refine Below.setCell ?_ ?_ _ | with_reducible refine Below.drew ?_ | (simp; omega) | (simp; done) | (simp [go_sem]; omega) | (simp [go_sem]; done) | omega)

set_option maxRecDepth 100000 in
set_option maxHeartbeats 4000000 in
theorem rpay_ok0 (st : St) (Ab Aw Ac : Option Addr) (cb cw cc : Nat) (a n : Int) (pre : Bool) (w : World) (hnw : st.ws.length ≤ 1000) (hb : Bks w Ab st.bs) (hw : Fives w Aw st.ws) (hc : Fives w Ac st.cs)
    (C1 : ∀ W, Bks W Ab st.bs → Fives W Aw st.ws → Fives W Ac st.cs → Calls Try.prog 30 #[.agg #[.slice Ab st.bs.length cb, .slice Aw st.ws.length cw, .slice Ac st.cs.length cc]] W (ClonedSt st W))
    (hfw : ∀ x ∈ st.ws, fits x.a) (hfa : fits a) (k : Nat) (xa xb xf xh xu : Int) (hp : plc a st.ws = some k) (hx : st.ws[k]? = some ⟨xa, xb, xf, xh, xu⟩) (hpre : pre = true) (hn0 : ¬ n ≤ 0) (fn2 : n ≤ 9223372036854775807) (hck : (⟨xa, xb, xf, xh, xu⟩ : W5).chk = 0) (hm1 : n ≤ xb - xh - xf) (hm2 : n ≤ 1125899906842624) :
    Calls Try.prog 11 #[.agg #[.slice Ab st.bs.length cb, .slice Aw st.ws.length cw, .slice Ac st.cs.length cc], .int .i64 a, .int .i64 n, .bool pre] w (PayPost (st.pay a n pre) w) := by
  subst hpre
  have hkl : k < st.ws.length := (List.getElem?_eq_some_iff.1 hx).1
  have hkb : (k : Int) < (st.ws.length : Int) := by omega
  have hgd : st.ws.getD k W5.zero = ⟨xa, xb, xf, xh, xu⟩ := by simp [List.getD, hx]
  have HP := Lib.hid hp
  have HX := Lib.hid hx
  clear hp hx
  have hk := W5.chk_ok.1 hck
  dsimp only at hk
  obtain ⟨k1, k2, k3, k4, k5, k6, k7, k8, k9, k10, k11⟩ := hk
  have hfr : (⟨xa, xb, xf, xh, xu⟩ : W5).free = xb - xh - xf := by unfold W5.free; rw [if_pos hck]
  have hmin : min (min n (xb - xh - xf)) 1125899906842624 = n := by omega
  have hdb : W5.debit ⟨xa, xb, xf, xh, xu⟩ n = (⟨xa, xb - n, xf, xh, xu⟩, 0) := by
    unfold W5.debit
    rw [if_pos hck, if_pos (by omega), hfr, if_neg (by omega)]
  have E : Hid (st.pay a n true = ({ st with ws := st.ws.set k ⟨xa, xb - n, xf, xh, xu⟩ }, n, (0 : Int))) := by
    unfold Hid St.pay
    rw [if_neg (by simp; omega), HP.out]
    dsimp only
    rw [hgd, if_pos hck, hfr, hmin]
    rw [Int.sub_self]
  have HFR := Lib.hid hfr
  have HDB := Lib.hid hdb
  clear hgd hck hfr hdb hmin
  have HPL : Hid (plI a st.ws = (k : Int)) := by unfold Hid plI; rw [HP.out]
  have hk0 : ¬ (k : Int) < 0 := by omega
  have hkey : keyOf Try.prog 3 (.int .i64 a) = some (.int .i64 a) := keyOf_int_mk Try.underlying3 (int_wf hfa)
  have HC1 := Lib.hid C1
  have HB := Lib.hid hb
  have HW := Lib.hid hw
  have HC := Lib.hid hc
  have HFW := Lib.hid hfw
  have HK := Lib.hid hkey
  clear C1 hb hw hc hfw hkey hfa
  unfold PayPost
  go_enter Try.func11, Try.ntmps11
  go_wp2_with (first
    | (go_at_call 30; refine (HC1.out _ ((HB.out.alloc _).alloc _) ((HW.out.alloc _).alloc _) ((HC.out.alloc _).alloc _)).mono ?_; rintro e w1 ⟨v1, v2, v3, rfl, os1, hb1⟩; obtain ⟨A1, c1, rfl, _, _⟩ := os1.1.form; obtain ⟨A2, c2, rfl, hF2, _⟩ := os1.2.1.form; obtain ⟨A3, c3, rfl, _, _⟩ := os1.2.2.form; obtain ⟨hcc, hff⟩ := bcell hb1; have hsz1 := hb1.size; simp at hsz1; have hz1 : w.heap.size < w1.heap.size := (by omega); have hz2 : w.heap.size + 1 < w1.heap.size := (by omega); have HO1 := Lib.hid (os1.mono (B' := w.heap.size + 2) (by simp)); have HF2 := Lib.hid hF2; have HBW := Lib.hid ((((Below.refl w.heap.size w).alloc (Nat.le_refl _) _).alloc (by simp) _).trans (hb1.mono (by simp; omega))); obtain ⟨g, hg0, hgB, hgl, _⟩ := os1.2.1.some_ (by omega); obtain rfl := hg0; obtain ⟨b9, o9, hA9, _, x0, x1, x2, x3, x4⟩ := fives_cells hF2 HX.out; simp only [Option.some.injEq, Addr.mk.injEq, and_true] at hA9; obtain ⟨rfl, rfl⟩ := hA9; simp only [Nat.zero_add] at x0 x1 x2 x3 x4; obtain ⟨z0, z1, z2, z3, z4⟩ := os1.2.1.frozen5 k; simp at hgB; have hne1 : ¬ g = w.heap.size + 1 := (by omega); have hne2 : ¬ w.heap.size + 1 = g := (by omega); have ho5 := (os1.mono (B' := w.heap.size + 2) (by simp)).stored HX.out ⟨xa, xb - n, xf, xh, xu⟩; dsimp only at ho5; have HO5 := Lib.hid ho5; clear ho5; clear os1 hF2 hb1)
    | (go_at_call 13; (refine (place_any a st.ws _ c2 _ (by omega) (HF2.out.alloc _)).mono ?_); rw [HPL.out]; rintro e w2 ⟨rfl, hb2⟩; obtain ⟨s2, rfl⟩ := ext_of_below hb2; clear hb2)
    | (go_at_call 14; (with_reducible refine (rfree_any _ _ _ _ _ _).mono ?_); rw [HFR.out]; rintro e w3 ⟨rfl, hb3⟩; obtain ⟨s3, rfl⟩ := ext_of_below hb3; clear hb3)
    | (go_at_call 31; (with_reducible refine (rdebit_any _ _ _ _ _ _ _).mono ?_); rw [HDB.out]; rintro e w4 ⟨rfl, hb4⟩; obtain ⟨s4, rfl⟩ := ext_of_below hb4; clear hb4))
  refine bodyPost_ret (by simp [results, Try.results11, go_sem, hz1, hz2, hcc, hff]; first | done | rfl) rfl ?_
  rw [E.out]
  refine ⟨_, _, _, rfl, OwnSt.mono (B := w.heap.size + 2) ?_ (by omega), ?_⟩
  · repeat' (first | with_reducible exact HO5.out | with_reducible refine OwnSt.ext ?_ _ | with_reducible refine OwnSt.alloc ?_ _ | with_reducible refine OwnSt.low ?_ ?_ | (simp; omega) | (simp; done) | omega)
  · repeat' (first | with_reducible exact HBW.out | with_reducible exact Below.refl _ _ | with_reducible refine below_ext ?_ ?_ _ | with_reducible refine Below.alloc ?_ ?_ _ | with_reducible refine Below.setCell ?_ ?_ _ | with_reducible refine Below.drew ?_ | (simp; omega) | (simp; done) | (simp [go_sem]; omega) | (simp [go_sem]; done) | omega)

set_option maxRecDepth 100000 in
set_option maxHeartbeats 4000000 in
theorem rpay_ok1 (st : St) (Ab Aw Ac : Option Addr) (cb cw cc : Nat) (a n : Int) (pre : Bool) (w : World) (hnw : st.ws.length ≤ 1000) (hb : Bks w Ab st.bs) (hw : Fives w Aw st.ws) (hc : Fives w Ac st.cs)
    (C1 : ∀ W, Bks W Ab st.bs → Fives W Aw st.ws → Fives W Ac st.cs → Calls Try.prog 30 #[.agg #[.slice Ab st.bs.length cb, .slice Aw st.ws.length cw, .slice Ac st.cs.length cc]] W (ClonedSt st W))
    (hfw : ∀ x ∈ st.ws, fits x.a) (hfa : fits a) (k : Nat) (xa xb xf xh xu : Int) (hp : plc a st.ws = some k) (hx : st.ws[k]? = some ⟨xa, xb, xf, xh, xu⟩) (hpre : pre = true) (hn0 : ¬ n ≤ 0) (fn2 : n ≤ 9223372036854775807) (hck : (⟨xa, xb, xf, xh, xu⟩ : W5).chk = 0) (hm1 : xb - xh - xf < n) (hm2 : xb - xh - xf ≤ 1125899906842624) :
    Calls Try.prog 11 #[.agg #[.slice Ab st.bs.length cb, .slice Aw st.ws.length cw, .slice Ac st.cs.length cc], .int .i64 a, .int .i64 n, .bool pre] w (PayPost (st.pay a n pre) w) := by
  subst hpre
  have hkl : k < st.ws.length := (List.getElem?_eq_some_iff.1 hx).1
  have hkb : (k : Int) < (st.ws.length : Int) := by omega
  have hgd : st.ws.getD k W5.zero = ⟨xa, xb, xf, xh, xu⟩ := by simp [List.getD, hx]
  have HP := Lib.hid hp
  have HX := Lib.hid hx
  clear hp hx
  have hk := W5.chk_ok.1 hck
  dsimp only at hk
  obtain ⟨k1, k2, k3, k4, k5, k6, k7, k8, k9, k10, k11⟩ := hk
  have hfr : (⟨xa, xb, xf, xh, xu⟩ : W5).free = xb - xh - xf := by unfold W5.free; rw [if_pos hck]
  have hmin : min (min n (xb - xh - xf)) 1125899906842624 = (xb - xh - xf) := by omega
  have hdb : W5.debit ⟨xa, xb, xf, xh, xu⟩ (xb - xh - xf) = (⟨xa, xb - (xb - xh - xf), xf, xh, xu⟩, 0) := by
    unfold W5.debit
    rw [if_pos hck, if_pos (by omega), hfr, if_neg (by omega)]
  have E : Hid (st.pay a n true = ({ st with ws := st.ws.set k ⟨xa, xb - (xb - xh - xf), xf, xh, xu⟩ }, (xb - xh - xf), n - (xb - xh - xf))) := by
    unfold Hid St.pay
    rw [if_neg (by simp; omega), HP.out]
    dsimp only
    rw [hgd, if_pos hck, hfr, hmin]
  have HFR := Lib.hid hfr
  have HDB := Lib.hid hdb
  clear hgd hck hfr hdb hmin
  have HPL : Hid (plI a st.ws = (k : Int)) := by unfold Hid plI; rw [HP.out]
  have hk0 : ¬ (k : Int) < 0 := by omega
  have hkey : keyOf Try.prog 3 (.int .i64 a) = some (.int .i64 a) := keyOf_int_mk Try.underlying3 (int_wf hfa)
  have HC1 := Lib.hid C1
  have HB := Lib.hid hb
  have HW := Lib.hid hw
  have HC := Lib.hid hc
  have HFW := Lib.hid hfw
  have HK := Lib.hid hkey
  clear C1 hb hw hc hfw hkey hfa
  unfold PayPost
  go_enter Try.func11, Try.ntmps11
  go_wp2_with (first
    | (go_at_call 30; refine (HC1.out _ ((HB.out.alloc _).alloc _) ((HW.out.alloc _).alloc _) ((HC.out.alloc _).alloc _)).mono ?_; rintro e w1 ⟨v1, v2, v3, rfl, os1, hb1⟩; obtain ⟨A1, c1, rfl, _, _⟩ := os1.1.form; obtain ⟨A2, c2, rfl, hF2, _⟩ := os1.2.1.form; obtain ⟨A3, c3, rfl, _, _⟩ := os1.2.2.form; obtain ⟨hcc, hff⟩ := bcell hb1; have hsz1 := hb1.size; simp at hsz1; have hz1 : w.heap.size < w1.heap.size := (by omega); have hz2 : w.heap.size + 1 < w1.heap.size := (by omega); have HO1 := Lib.hid (os1.mono (B' := w.heap.size + 2) (by simp)); have HF2 := Lib.hid hF2; have HBW := Lib.hid ((((Below.refl w.heap.size w).alloc (Nat.le_refl _) _).alloc (by simp) _).trans (hb1.mono (by simp; omega))); obtain ⟨g, hg0, hgB, hgl, _⟩ := os1.2.1.some_ (by omega); obtain rfl := hg0; obtain ⟨b9, o9, hA9, _, x0, x1, x2, x3, x4⟩ := fives_cells hF2 HX.out; simp only [Option.some.injEq, Addr.mk.injEq, and_true] at hA9; obtain ⟨rfl, rfl⟩ := hA9; simp only [Nat.zero_add] at x0 x1 x2 x3 x4; obtain ⟨z0, z1, z2, z3, z4⟩ := os1.2.1.frozen5 k; simp at hgB; have hne1 : ¬ g = w.heap.size + 1 := (by omega); have hne2 : ¬ w.heap.size + 1 = g := (by omega); have ho5 := (os1.mono (B' := w.heap.size + 2) (by simp)).stored HX.out ⟨xa, xb - (xb - xh - xf), xf, xh, xu⟩; dsimp only at ho5; have HO5 := Lib.hid ho5; clear ho5; clear os1 hF2 hb1)
    | (go_at_call 13; (refine (place_any a st.ws _ c2 _ (by omega) (HF2.out.alloc _)).mono ?_); rw [HPL.out]; rintro e w2 ⟨rfl, hb2⟩; obtain ⟨s2, rfl⟩ := ext_of_below hb2; clear hb2)
    | (go_at_call 14; (with_reducible refine (rfree_any _ _ _ _ _ _).mono ?_); rw [HFR.out]; rintro e w3 ⟨rfl, hb3⟩; obtain ⟨s3, rfl⟩ := ext_of_below hb3; clear hb3)
    | (go_at_call 31; (with_reducible refine (rdebit_any _ _ _ _ _ _ _).mono ?_); rw [HDB.out]; rintro e w4 ⟨rfl, hb4⟩; obtain ⟨s4, rfl⟩ := ext_of_below hb4; clear hb4))
  refine bodyPost_ret (by simp [results, Try.results11, go_sem, hz1, hz2, hcc, hff]; first | done | rfl) rfl ?_
  rw [E.out]
  refine ⟨_, _, _, rfl, OwnSt.mono (B := w.heap.size + 2) ?_ (by omega), ?_⟩
  · repeat' (first | with_reducible exact HO5.out | with_reducible refine OwnSt.ext ?_ _ | with_reducible refine OwnSt.alloc ?_ _ | with_reducible refine OwnSt.low ?_ ?_ | (simp; omega) | (simp; done) | omega)
  · repeat' (first | with_reducible exact HBW.out | with_reducible exact Below.refl _ _ | with_reducible refine below_ext ?_ ?_ _ | with_reducible refine Below.alloc ?_ ?_ _ | with_reducible refine Below.setCell ?_ ?_ _ | with_reducible refine Below.drew ?_ | (simp; omega) | (simp; done) | (simp [go_sem]; omega) | (simp [go_sem]; done) | omega)

set_option maxRecDepth 100000 in
set_option maxHeartbeats 4000000 in
theorem rpay_ok2 (st : St) (Ab Aw Ac : Option Addr) (cb cw cc : Nat) (a n : Int) (pre : Bool) (w : World) (hnw : st.ws.length ≤ 1000) (hb : Bks w Ab st.bs) (hw : Fives w Aw st.ws) (hc : Fives w Ac st.cs)
    (C1 : ∀ W, Bks W Ab st.bs → Fives W Aw st.ws → Fives W Ac st.cs → Calls Try.prog 30 #[.agg #[.slice Ab st.bs.length cb, .slice Aw st.ws.length cw, .slice Ac st.cs.length cc]] W (ClonedSt st W))
    (hfw : ∀ x ∈ st.ws, fits x.a) (hfa : fits a) (k : Nat) (xa xb xf xh xu : Int) (hp : plc a st.ws = some k) (hx : st.ws[k]? = some ⟨xa, xb, xf, xh, xu⟩) (hpre : pre = true) (hn0 : ¬ n ≤ 0) (fn2 : n ≤ 9223372036854775807) (hck : (⟨xa, xb, xf, xh, xu⟩ : W5).chk = 0) (hm1 : 1125899906842624 < n) (hm2 : 1125899906842624 < xb - xh - xf) :
    Calls Try.prog 11 #[.agg #[.slice Ab st.bs.length cb, .slice Aw st.ws.length cw, .slice Ac st.cs.length cc], .int .i64 a, .int .i64 n, .bool pre] w (PayPost (st.pay a n pre) w) := by
  subst hpre
  have hkl : k < st.ws.length := (List.getElem?_eq_some_iff.1 hx).1
  have hkb : (k : Int) < (st.ws.length : Int) := by omega
  have hgd : st.ws.getD k W5.zero = ⟨xa, xb, xf, xh, xu⟩ := by simp [List.getD, hx]
  have HP := Lib.hid hp
  have HX := Lib.hid hx
  clear hp hx
  have hk := W5.chk_ok.1 hck
  dsimp only at hk
  obtain ⟨k1, k2, k3, k4, k5, k6, k7, k8, k9, k10, k11⟩ := hk
  have hfr : (⟨xa, xb, xf, xh, xu⟩ : W5).free = xb - xh - xf := by unfold W5.free; rw [if_pos hck]
  have hmin : min (min n (xb - xh - xf)) 1125899906842624 = 1125899906842624 := by omega
  have hdb : W5.debit ⟨xa, xb, xf, xh, xu⟩ 1125899906842624 = (⟨xa, xb - 1125899906842624, xf, xh, xu⟩, 0) := by
    unfold W5.debit
    rw [if_pos hck, if_pos (by omega), hfr, if_neg (by omega)]
  have E : Hid (st.pay a n true = ({ st with ws := st.ws.set k ⟨xa, xb - 1125899906842624, xf, xh, xu⟩ }, 1125899906842624, n - 1125899906842624)) := by
    unfold Hid St.pay
    rw [if_neg (by simp; omega), HP.out]
    dsimp only
    rw [hgd, if_pos hck, hfr, hmin]
  have HFR := Lib.hid hfr
  have HDB := Lib.hid hdb
  clear hgd hck hfr hdb hmin
  have HPL : Hid (plI a st.ws = (k : Int)) := by unfold Hid plI; rw [HP.out]
  have hk0 : ¬ (k : Int) < 0 := by omega
  have hkey : keyOf Try.prog 3 (.int .i64 a) = some (.int .i64 a) := keyOf_int_mk Try.underlying3 (int_wf hfa)
  have HC1 := Lib.hid C1
  have HB := Lib.hid hb
  have HW := Lib.hid hw
  have HC := Lib.hid hc
  have HFW := Lib.hid hfw
  have HK := Lib.hid hkey
  clear C1 hb hw hc hfw hkey hfa
  unfold PayPost
  go_enter Try.func11, Try.ntmps11
  go_wp2_with (first
    | (go_at_call 30; refine (HC1.out _ ((HB.out.alloc _).alloc _) ((HW.out.alloc _).alloc _) ((HC.out.alloc _).alloc _)).mono ?_; rintro e w1 ⟨v1, v2, v3, rfl, os1, hb1⟩; obtain ⟨A1, c1, rfl, _, _⟩ := os1.1.form; obtain ⟨A2, c2, rfl, hF2, _⟩ := os1.2.1.form; obtain ⟨A3, c3, rfl, _, _⟩ := os1.2.2.form; obtain ⟨hcc, hff⟩ := bcell hb1; have hsz1 := hb1.size; simp at hsz1; have hz1 : w.heap.size < w1.heap.size := (by omega); have hz2 : w.heap.size + 1 < w1.heap.size := (by omega); have HO1 := Lib.hid (os1.mono (B' := w.heap.size + 2) (by simp)); have HF2 := Lib.hid hF2; have HBW := Lib.hid ((((Below.refl w.heap.size w).alloc (Nat.le_refl _) _).alloc (by simp) _).trans (hb1.mono (by simp; omega))); obtain ⟨g, hg0, hgB, hgl, _⟩ := os1.2.1.some_ (by omega); obtain rfl := hg0; obtain ⟨b9, o9, hA9, _, x0, x1, x2, x3, x4⟩ := fives_cells hF2 HX.out; simp only [Option.some.injEq, Addr.mk.injEq, and_true] at hA9; obtain ⟨rfl, rfl⟩ := hA9; simp only [Nat.zero_add] at x0 x1 x2 x3 x4; obtain ⟨z0, z1, z2, z3, z4⟩ := os1.2.1.frozen5 k; simp at hgB; have hne1 : ¬ g = w.heap.size + 1 := (by omega); have hne2 : ¬ w.heap.size + 1 = g := (by omega); have ho5 := (os1.mono (B' := w.heap.size + 2) (by simp)).stored HX.out ⟨xa, xb - 1125899906842624, xf, xh, xu⟩; dsimp only at ho5; have HO5 := Lib.hid ho5; clear ho5; clear os1 hF2 hb1)
    | (go_at_call 13; (refine (place_any a st.ws _ c2 _ (by omega) (HF2.out.alloc _)).mono ?_); rw [HPL.out]; rintro e w2 ⟨rfl, hb2⟩; obtain ⟨s2, rfl⟩ := ext_of_below hb2; clear hb2)
    | (go_at_call 14; (with_reducible refine (rfree_any _ _ _ _ _ _).mono ?_); rw [HFR.out]; rintro e w3 ⟨rfl, hb3⟩; obtain ⟨s3, rfl⟩ := ext_of_below hb3; clear hb3)
    | (go_at_call 31; (with_reducible refine (rdebit_any _ _ _ _ _ _ _).mono ?_); rw [HDB.out]; rintro e w4 ⟨rfl, hb4⟩; obtain ⟨s4, rfl⟩ := ext_of_below hb4; clear hb4))
  refine bodyPost_ret (by simp [results, Try.results11, go_sem, hz1, hz2, hcc, hff]; first | done | rfl) rfl ?_
  rw [E.out]
  refine ⟨_, _, _, rfl, OwnSt.mono (B := w.heap.size + 2) ?_ (by omega), ?_⟩
  · repeat' (first | with_reducible exact HO5.out | with_reducible refine OwnSt.ext ?_ _ | with_reducible refine OwnSt.alloc ?_ _ | with_reducible refine OwnSt.low ?_ ?_ | (simp; omega) | (simp; done) | omega)
  · repeat' (first | with_reducible exact HBW.out | with_reducible exact Below.refl _ _ | with_reducible refine below_ext ?_ ?_ _ | with_reducible refine Below.alloc ?_ ?_ _ | with_reducible refine Below.setCell ?_ ?_ _ | with_reducible refine Below.drew ?_ | (simp; omega) | (simp; done) | (simp [go_sem]; omega) | (simp [go_sem]; done) | omega)

end Go.Proofs.Ythkollhebabhbaa

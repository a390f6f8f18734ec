/-
  The walk of Undo.
-/
import Derived.Test.YthkollhebabhbaaCc8
import Derived.Test.YthkollhebabhbaaBw19
namespace Go.Proofs.Ythkollhebabhbaa
open Go.RowKit Go.Maps
set_option linter.unusedSimpArgs false
set_option linter.unusedVariables false

def St.nil : St := ⟨[], [], []⟩
theorem OwnSt.nil (w : World) (B : Nat) : OwnSt w B (.slice none 0 0) (.slice none 0 0) (.slice none 0 0) St.nil := ⟨OwnBks.nil _ _, World.ownsRow_nil _ _ _ _, World.ownsRow_nil _ _ _ _⟩
/-- Undo: the state, or the first error. -/
def St.undo (s : St) (a : Int) (ts : List Tk) (n : Int) : St × Int :=
  if (give ts s.bs).2 ≠ 0 then (St.nil, (give ts s.bs).2)
  else if n = 0 then ({ s with bs := (give ts s.bs).1 }, 0)
  else match plc a s.ws with
    | none => (St.nil, 11)
    | some k => if (W5.credit (s.ws.getD k W5.zero) n).2 = 0 then ({ s with bs := (give ts s.bs).1, ws := s.ws.set k (W5.credit (s.ws.getD k W5.zero) n).1 }, 0) else (St.nil, (W5.credit (s.ws.getD k W5.zero) n).2)
def UndoPost (r : St × Int) (w : World) (e : Ending) (w' : World) : Prop := ∃ vb vw vc, e = .returned (.tuple #[.agg #[vb, vw, vc], .int .i64 r.2]) ∧ OwnSt w' w.heap.size vb vw vc r.1 ∧ Below w.heap.size w w'
def GiveR (bs' : List Bk) (ge : Int) (w : World) (e : Ending) (w' : World) : Prop := ∃ v, e = .returned (.tuple #[v, .int .i64 ge]) ∧ OwnBks w' w.heap.size v bs' ∧ Below w.heap.size w w'
theorem res_cells {w w1 : World} {o : Obj} {s0 : More} (hb : Below (ext ((w.alloc o).alloc (Obj.cells #[.slice none 0 0, .slice none 0 0, .slice none 0 0] 26)) s0).heap.size (ext ((w.alloc o).alloc (Obj.cells #[.slice none 0 0, .slice none 0 0, .slice none 0 0] 26)) s0) w1) :
    w1.cell? ⟨w.heap.size + 1, 0, none⟩ = some (.slice none 0 0) ∧ w1.cell? ⟨w.heap.size + 1, 1, none⟩ = some (.slice none 0 0) ∧ w1.cell? ⟨w.heap.size + 1, 2, none⟩ = some (.slice none 0 0) := by
  have h : ∀ i, w1.cell? ⟨w.heap.size + 1, i, none⟩ = ((w.alloc o).alloc (Obj.cells #[.slice none 0 0, .slice none 0 0, .slice none 0 0] 26)).cell? ⟨w.heap.size + 1, i, none⟩ := fun i => by
    rw [hb.cell (p := ⟨w.heap.size + 1, i, none⟩) (by rw [size_ext]; simp; omega), cell?_ext _ _ _ _ (by simp)]
  exact ⟨(h 0).trans (by simp [go_sem]), (h 1).trans (by simp [go_sem]), (h 2).trans (by simp [go_sem])⟩
theorem OwnSt.replace {w : World} {B : Nat} {vb vw vc v : Value} {s : St} {bs' : List Bk} (h : OwnSt w B vb vw vc s) (hb : OwnBks w B v bs') : OwnSt w B v vw vc { s with bs := bs' } := ⟨hb, h.2.1, h.2.2⟩

set_option maxRecDepth 100000 in
set_option maxHeartbeats 2000000 in
theorem undo_bad (st : St) (Ab Aw Ac At : Option Addr) (cb cw cc ct : Nat) (ts : List Tk) (a n : Int) (bs' : List Bk) (ge : Int) (w : World) (hnw : st.ws.length ≤ 1000) (hb : Bks w Ab st.bs) (hw : Fives w Aw st.ws) (hc : Fives w Ac st.cs) (ht : Tks w At ts)
    (C0 : ∀ W, Bks W Ab st.bs → Tks W At ts → Calls Try.prog 34 #[.slice Ab st.bs.length cb, .slice At ts.length ct] W (GiveR bs' ge W))
    (C1 : ∀ W, Bks W Ab st.bs → Fives W Aw st.ws → Fives W Ac st.cs → Calls Try.prog 26 #[.agg #[.slice Ab st.bs.length cb, .slice Aw st.ws.length cw, .slice Ac st.cs.length cc]] W (ClonedSt st W))
    (hfw : ∀ x ∈ st.ws, fits x.a) (hfa : fits a) (hge : give ts st.bs = (bs', ge)) (hg0 : ge ≠ 0) :
    Calls Try.prog 16 #[.agg #[.slice Ab st.bs.length cb, .slice Aw st.ws.length cw, .slice Ac st.cs.length cc], .int .i64 a, .slice At ts.length ct, .int .i64 n] w (UndoPost (st.undo a ts n) w) := by
  have hgb : (ge != 0) = true := bne_iff_ne.2 hg0
  have E : Hid (st.undo a ts n = (St.nil, ge)) := by
    unfold Hid St.undo
    rw [hge]
    dsimp only
    rw [if_pos hg0]
  clear hg0
  have hkey : keyOf Try.prog 3 (.int .i64 a) = some (.int .i64 a) := keyOf_int_mk Try.underlying3 (int_wf hfa)
  have HC0 := Lib.hid C0
  have HC1 := Lib.hid C1
  have HB := Lib.hid hb
  have HW := Lib.hid hw
  have HC := Lib.hid hc
  have HT := Lib.hid ht
  have HFW := Lib.hid hfw
  have HK := Lib.hid hkey
  clear C0 C1 hb hw hc ht hfw hkey hfa hge
  unfold UndoPost
  go_enter Try.func16, Try.ntmps16
  go_wp2_with (first
    | (go_at_call 34; refine (HC0.out _ ((HB.out.alloc _).alloc _) ((HT.out.alloc _).alloc _)).mono ?_; rintro e w0 ⟨v0, rfl, own0, hb0⟩; obtain ⟨A0, c0, rfl, _, _⟩ := own0.form; obtain ⟨s0, rfl⟩ := ext_of_below hb0; have HO0 := Lib.hid own0; clear own0 hb0))
  refine bodyPost_ret (by simp [results, Try.results16, go_sem]; first | done | rfl) rfl ?_
  rw [E.out]
  refine ⟨_, _, _, rfl, OwnSt.nil _ _, ?_⟩
  · repeat' (first | exact Below.refl _ _ | refine below_ext ?_ ?_ _ | refine Below.alloc ?_ ?_ _ | refine Below.setCell ?_ ?_ _ | refine Below.drew ?_ | (rw [size_ext]; refine Nat.le_add_right_of_le ?_) | go_size | (rw [World.size_alloc]; refine Nat.le_add_right_of_le ?_))

set_option maxRecDepth 100000 in
set_option maxHeartbeats 2000000 in
theorem undo_zero (st : St) (Ab Aw Ac At : Option Addr) (cb cw cc ct : Nat) (ts : List Tk) (a n : Int) (bs' : List Bk) (ge : Int) (w : World) (hnw : st.ws.length ≤ 1000) (hb : Bks w Ab st.bs) (hw : Fives w Aw st.ws) (hc : Fives w Ac st.cs) (ht : Tks w At ts)
    (C0 : ∀ W, Bks W Ab st.bs → Tks W At ts → Calls Try.prog 34 #[.slice Ab st.bs.length cb, .slice At ts.length ct] W (GiveR bs' ge W))
    (C1 : ∀ W, Bks W Ab st.bs → Fives W Aw st.ws → Fives W Ac st.cs → Calls Try.prog 26 #[.agg #[.slice Ab st.bs.length cb, .slice Aw st.ws.length cw, .slice Ac st.cs.length cc]] W (ClonedSt st W))
    (hfw : ∀ x ∈ st.ws, fits x.a) (hfa : fits a) (hge : give ts st.bs = (bs', ge)) (hg0 : ge = 0) (hn : n = 0) :
    Calls Try.prog 16 #[.agg #[.slice Ab st.bs.length cb, .slice Aw st.ws.length cw, .slice Ac st.cs.length cc], .int .i64 a, .slice At ts.length ct, .int .i64 n] w (UndoPost (st.undo a ts n) w) := by
  subst hg0
  have hnb : (n == 0) = true := beq_iff_eq.2 hn
  have E : Hid (st.undo a ts n = ({ st with bs := bs' }, 0)) := by
    unfold Hid St.undo
    rw [hge]
    dsimp only
    simp only [ne_eq, not_true_eq_false, if_false, if_pos hn]
  clear hn
  have hkey : keyOf Try.prog 3 (.int .i64 a) = some (.int .i64 a) := keyOf_int_mk Try.underlying3 (int_wf hfa)
  have HC0 := Lib.hid C0
  have HC1 := Lib.hid C1
  have HB := Lib.hid hb
  have HW := Lib.hid hw
  have HC := Lib.hid hc
  have HT := Lib.hid ht
  have HFW := Lib.hid hfw
  have HK := Lib.hid hkey
  clear C0 C1 hb hw hc ht hfw hkey hfa hge
  unfold UndoPost
  go_enter Try.func16, Try.ntmps16
  go_wp2_with (first
    | (go_at_call 34; refine (HC0.out _ ((HB.out.alloc _).alloc _) ((HT.out.alloc _).alloc _)).mono ?_; rintro e w0 ⟨v0, rfl, own0, hb0⟩; obtain ⟨A0, c0, rfl, _, _⟩ := own0.form; obtain ⟨s0, rfl⟩ := ext_of_below hb0; have HO0 := Lib.hid own0; clear own0 hb0)
    | (go_at_call 26; refine (HC1.out _ (((HB.out.alloc _).alloc _).ext _) (((HW.out.alloc _).alloc _).ext _) (((HC.out.alloc _).alloc _).ext _)).mono ?_; rintro e w1 ⟨v1, v2, v3, rfl, os1, hb1⟩; obtain ⟨A1, c1, rfl, _, _⟩ := os1.1.form; obtain ⟨A2, c2, rfl, hF2, _⟩ := os1.2.1.form; obtain ⟨A3, c3, rfl, _, _⟩ := os1.2.2.form; obtain ⟨hr0, hr1, hr2⟩ := res_cells hb1; obtain ⟨hcc, hff⟩ := bcell hb1; have hsz1 := hb1.size; simp [go_sem] at hsz1; have hz1 : w.heap.size < w1.heap.size := (by omega); have hz2 : w.heap.size + 1 < w1.heap.size := (by omega); have ho1 := OwnSt.replace (os1.mono (B' := w.heap.size + 2) (by simp [go_sem])) (OwnBks.mono (B' := w.heap.size + 2) (HO0.out.below hb1) (by simp)); have HO1 := Lib.hid ho1; have HF2 := Lib.hid hF2; have HBW := Lib.hid ((below_ext (((Below.refl w.heap.size w).alloc (Nat.le_refl _) _).alloc (by simp) _) (by simp; omega) s0).trans (hb1.mono (by simp [go_sem]; omega))); clear os1 hF2 hb1 ho1))
  refine bodyPost_ret (by simp [results, Try.results16, go_sem, hz1, hz2, hcc, hff, hr0, hr1, hr2]; first | done | rfl) rfl ?_
  rw [E.out]
  refine ⟨_, _, _, rfl, OwnSt.mono (B := w.heap.size + 2) ?_ (by omega), ?_⟩
  · repeat' (first | with_reducible exact HO1.out | with_reducible refine OwnSt.ext ?_ _ | with_reducible refine OwnSt.alloc ?_ _ | with_reducible refine OwnSt.low ?_ ?_ | (simp; omega) | (simp; done) | omega)
  · repeat' (first | with_reducible exact HBW.out | with_reducible exact Below.refl _ _ | with_reducible refine below_ext ?_ ?_ _ | with_reducible refine Below.alloc ?_ ?_ _ | with_reducible refine Below.setCell ?_ ?_ _ | with_reducible refine Below.drew ?_ | (simp; omega) | (simp; done) | (simp [go_sem]; omega) | (simp [go_sem]; done) | omega)

set_option maxRecDepth 100000 in
set_option maxHeartbeats 2000000 in
theorem undo_none (st : St) (Ab Aw Ac At : Option Addr) (cb cw cc ct : Nat) (ts : List Tk) (a n : Int) (bs' : List Bk) (ge : Int) (w : World) (hnw : st.ws.length ≤ 1000) (hb : Bks w Ab st.bs) (hw : Fives w Aw st.ws) (hc : Fives w Ac st.cs) (ht : Tks w At ts)
    (C0 : ∀ W, Bks W Ab st.bs → Tks W At ts → Calls Try.prog 34 #[.slice Ab st.bs.length cb, .slice At ts.length ct] W (GiveR bs' ge W))
    (C1 : ∀ W, Bks W Ab st.bs → Fives W Aw st.ws → Fives W Ac st.cs → Calls Try.prog 26 #[.agg #[.slice Ab st.bs.length cb, .slice Aw st.ws.length cw, .slice Ac st.cs.length cc]] W (ClonedSt st W))
    (hfw : ∀ x ∈ st.ws, fits x.a) (hfa : fits a) (hge : give ts st.bs = (bs', ge)) (hg0 : ge = 0) (hn : n ≠ 0) (hp : plc a st.ws = none) :
    Calls Try.prog 16 #[.agg #[.slice Ab st.bs.length cb, .slice Aw st.ws.length cw, .slice Ac st.cs.length cc], .int .i64 a, .slice At ts.length ct, .int .i64 n] w (UndoPost (st.undo a ts n) w) := by
  subst hg0
  have hnb : (n == 0) = false := beq_eq_false_iff_ne.2 hn
  have E : Hid (st.undo a ts n = (St.nil, 11)) := by
    unfold Hid St.undo
    rw [hge]
    dsimp only
    simp only [ne_eq, not_true_eq_false, if_false, if_neg hn, hp]
  have HP := Lib.hid hp
  clear hp hn
  have hkey : keyOf Try.prog 3 (.int .i64 a) = some (.int .i64 a) := keyOf_int_mk Try.underlying3 (int_wf hfa)
  have HC0 := Lib.hid C0
  have HC1 := Lib.hid C1
  have HB := Lib.hid hb
  have HW := Lib.hid hw
  have HC := Lib.hid hc
  have HT := Lib.hid ht
  have HFW := Lib.hid hfw
  have HK := Lib.hid hkey
  clear C0 C1 hb hw hc ht hfw hkey hfa hge
  unfold UndoPost
  go_enter Try.func16, Try.ntmps16
  go_wp2_with (first
    | (go_at_call 34; refine (HC0.out _ ((HB.out.alloc _).alloc _) ((HT.out.alloc _).alloc _)).mono ?_; rintro e w0 ⟨v0, rfl, own0, hb0⟩; obtain ⟨A0, c0, rfl, _, _⟩ := own0.form; obtain ⟨s0, rfl⟩ := ext_of_below hb0; have HO0 := Lib.hid own0; clear own0 hb0)
    | (go_at_call 26; refine (HC1.out _ (((HB.out.alloc _).alloc _).ext _) (((HW.out.alloc _).alloc _).ext _) (((HC.out.alloc _).alloc _).ext _)).mono ?_; rintro e w1 ⟨v1, v2, v3, rfl, os1, hb1⟩; obtain ⟨A1, c1, rfl, _, _⟩ := os1.1.form; obtain ⟨A2, c2, rfl, hF2, _⟩ := os1.2.1.form; obtain ⟨A3, c3, rfl, _, _⟩ := os1.2.2.form; obtain ⟨hr0, hr1, hr2⟩ := res_cells hb1; obtain ⟨hcc, hff⟩ := bcell hb1; have hsz1 := hb1.size; simp [go_sem] at hsz1; have hz1 : w.heap.size < w1.heap.size := (by omega); have hz2 : w.heap.size + 1 < w1.heap.size := (by omega); have ho1 := OwnSt.replace (os1.mono (B' := w.heap.size + 2) (by simp [go_sem])) (OwnBks.mono (B' := w.heap.size + 2) (HO0.out.below hb1) (by simp)); have HO1 := Lib.hid ho1; have HF2 := Lib.hid hF2; have HBW := Lib.hid ((below_ext (((Below.refl w.heap.size w).alloc (Nat.le_refl _) _).alloc (by simp) _) (by simp; omega) s0).trans (hb1.mono (by simp [go_sem]; omega))); clear os1 hF2 hb1 ho1)
    | (go_at_call 27; refine (places_any' st.ws _ c2 _ hnw (HF2.out.alloc _) HFW.out).mono ?_; rintro e w2 ⟨rfl, hm, hb2⟩; obtain ⟨s2, rfl⟩ := ext_of_below hb2; obtain ⟨D, hD1, hD2, hD3⟩ := hm; simp only [World.size_alloc] at hD2; have hhas : Maps.has D (.int .i64 a) = false := (by rw [(hD3 a).1, HP.out]; rfl); have HD2 := Lib.hid hD2; clear hb2 hD1 hD2 hD3)
    | (at_lookup; refine wpList_lookup_own_ok_int _ rfl _ _ 62 rfl 3 3 .i64 lawI Try.underlying62 Try.underlying3 (zeroI _) _ _ D rfl HD2.out _ _ rfl HK.out ?_; intro c hat hwc; clear hat hwc))
  refine bodyPost_ret (by simp [results, Try.results16, go_sem, hz1, hz2, hcc, hff, hr0, hr1, hr2]; first | done | rfl) rfl ?_
  rw [E.out]
  refine ⟨_, _, _, rfl, OwnSt.nil _ _, ?_⟩
  · repeat' (first | with_reducible exact HBW.out | with_reducible exact Below.refl _ _ | with_reducible refine below_ext ?_ ?_ _ | with_reducible refine Below.alloc ?_ ?_ _ | with_reducible refine Below.setCell ?_ ?_ _ | with_reducible refine Below.drew ?_ | (simp; omega) | (simp; done) | (simp [go_sem]; omega) | (simp [go_sem]; done) | omega)

set_option maxRecDepth 100000 in
set_option maxHeartbeats 2000000 in
theorem undo_err (st : St) (Ab Aw Ac At : Option Addr) (cb cw cc ct : Nat) (ts : List Tk) (a n : Int) (bs' : List Bk) (ge : Int) (w : World) (hnw : st.ws.length ≤ 1000) (hb : Bks w Ab st.bs) (hw : Fives w Aw st.ws) (hc : Fives w Ac st.cs) (ht : Tks w At ts)
    (C0 : ∀ W, Bks W Ab st.bs → Tks W At ts → Calls Try.prog 34 #[.slice Ab st.bs.length cb, .slice At ts.length ct] W (GiveR bs' ge W))
    (C1 : ∀ W, Bks W Ab st.bs → Fives W Aw st.ws → Fives W Ac st.cs → Calls Try.prog 26 #[.agg #[.slice Ab st.bs.length cb, .slice Aw st.ws.length cw, .slice Ac st.cs.length cc]] W (ClonedSt st W))
    (hfw : ∀ x ∈ st.ws, fits x.a) (hfa : fits a) (hge : give ts st.bs = (bs', ge)) (hg0 : ge = 0) (hn : n ≠ 0) (k : Nat) (xa xb xf xh xu ya yb yf yh yu ce : Int) (hp : plc a st.ws = some k) (hx : st.ws[k]? = some ⟨xa, xb, xf, xh, xu⟩) (hcr : W5.credit ⟨xa, xb, xf, xh, xu⟩ n = (⟨ya, yb, yf, yh, yu⟩, ce)) (hce : ce ≠ 0) :
    Calls Try.prog 16 #[.agg #[.slice Ab st.bs.length cb, .slice Aw st.ws.length cw, .slice Ac st.cs.length cc], .int .i64 a, .slice At ts.length ct, .int .i64 n] w (UndoPost (st.undo a ts n) w) := by
  subst hg0
  have hnb : (n == 0) = false := beq_eq_false_iff_ne.2 hn
  have hcb : (ce != 0) = true := bne_iff_ne.2 hce
  have hkl : k < st.ws.length := (List.getElem?_eq_some_iff.1 hx).1
  have hkb : (k : Int) < (st.ws.length : Int) := by omega
  have hgd : st.ws.getD k W5.zero = ⟨xa, xb, xf, xh, xu⟩ := by simp [List.getD, hx]
  have E : Hid (st.undo a ts n = (St.nil, ce)) := by
    unfold Hid St.undo
    rw [hge]
    dsimp only
    simp only [ne_eq, not_true_eq_false, if_false, if_neg hn, hp, hgd, hcr, if_neg hce]
  have HP := Lib.hid hp
  have HX := Lib.hid hx
  have HCR := Lib.hid hcr
  clear hp hn hx hcr hgd hce
  have hkey : keyOf Try.prog 3 (.int .i64 a) = some (.int .i64 a) := keyOf_int_mk Try.underlying3 (int_wf hfa)
  have HC0 := Lib.hid C0
  have HC1 := Lib.hid C1
  have HB := Lib.hid hb
  have HW := Lib.hid hw
  have HC := Lib.hid hc
  have HT := Lib.hid ht
  have HFW := Lib.hid hfw
  have HK := Lib.hid hkey
  clear C0 C1 hb hw hc ht hfw hkey hfa hge
  unfold UndoPost
  go_enter Try.func16, Try.ntmps16
  go_wp2_with (first
    | (go_at_call 34; refine (HC0.out _ ((HB.out.alloc _).alloc _) ((HT.out.alloc _).alloc _)).mono ?_; rintro e w0 ⟨v0, rfl, own0, hb0⟩; obtain ⟨A0, c0, rfl, _, _⟩ := own0.form; obtain ⟨s0, rfl⟩ := ext_of_below hb0; have HO0 := Lib.hid own0; clear own0 hb0)
    | (go_at_call 26; refine (HC1.out _ (((HB.out.alloc _).alloc _).ext _) (((HW.out.alloc _).alloc _).ext _) (((HC.out.alloc _).alloc _).ext _)).mono ?_; rintro e w1 ⟨v1, v2, v3, rfl, os1, hb1⟩; obtain ⟨A1, c1, rfl, _, _⟩ := os1.1.form; obtain ⟨A2, c2, rfl, hF2, _⟩ := os1.2.1.form; obtain ⟨A3, c3, rfl, _, _⟩ := os1.2.2.form; obtain ⟨hr0, hr1, hr2⟩ := res_cells hb1; obtain ⟨hcc, hff⟩ := bcell hb1; have hsz1 := hb1.size; simp [go_sem] at hsz1; have hz1 : w.heap.size < w1.heap.size := (by omega); have hz2 : w.heap.size + 1 < w1.heap.size := (by omega); have ho1 := OwnSt.replace (os1.mono (B' := w.heap.size + 2) (by simp [go_sem])) (OwnBks.mono (B' := w.heap.size + 2) (HO0.out.below hb1) (by simp)); have HO1 := Lib.hid ho1; have HF2 := Lib.hid hF2; have HBW := Lib.hid ((below_ext (((Below.refl w.heap.size w).alloc (Nat.le_refl _) _).alloc (by simp) _) (by simp; omega) s0).trans (hb1.mono (by simp [go_sem]; omega))); obtain ⟨g, hg0, hgB, hgl, _⟩ := os1.2.1.some_ (by omega); obtain rfl := hg0; obtain ⟨b9, o9, hA9, _, x0, x1, x2, x3, x4⟩ := fives_cells hF2 HX.out; simp only [Option.some.injEq, Addr.mk.injEq, and_true] at hA9; obtain ⟨rfl, rfl⟩ := hA9; simp only [Nat.zero_add] at x0 x1 x2 x3 x4; obtain ⟨z0, z1, z2, z3, z4⟩ := os1.2.1.frozen5 k; simp [go_sem] at hgB; have hne1 : ¬ g = w.heap.size + 1 := (by omega); have hne2 : ¬ w.heap.size + 1 = g := (by omega); clear os1 hF2 hb1 ho1)
    | (go_at_call 27; refine (places_any' st.ws _ c2 _ hnw (HF2.out.alloc _) HFW.out).mono ?_; rintro e w2 ⟨rfl, hm, hb2⟩; obtain ⟨s2, rfl⟩ := ext_of_below hb2; obtain ⟨D, hD1, hD2, hD3⟩ := hm; simp only [World.size_alloc] at hD2; have hhas : Maps.has D (.int .i64 a) = true := (by rw [(hD3 a).1, HP.out]; rfl); have HAT := Lib.hid ((hD3 a).2 k HP.out); have HD2 := Lib.hid hD2; clear hb2 hD1 hD2 hD3)
    | (at_lookup; refine wpList_lookup_own_ok_int _ rfl _ _ 62 rfl 3 3 .i64 lawI Try.underlying62 Try.underlying3 (zeroI _) _ _ D rfl HD2.out _ _ rfl HK.out ?_; intro c hat hwc; obtain rfl : c = (k : Int) := (by rw [HAT.out] at hat; cases hat; rfl); clear hat hwc)
    | (go_at_call 35; (with_reducible refine (credit_any _ _ _ _ _ _ _).mono ?_); rw [HCR.out]; rintro e w4 ⟨rfl, hb4⟩; obtain ⟨s4, rfl⟩ := ext_of_below hb4; clear hb4))
  refine bodyPost_ret (by simp [results, Try.results16, go_sem, hz1, hz2, hcc, hff, hr0, hr1, hr2]; first | done | rfl) rfl ?_
  rw [E.out]
  refine ⟨_, _, _, rfl, OwnSt.nil _ _, ?_⟩
  · repeat' (first | with_reducible exact HBW.out | with_reducible exact Below.refl _ _ | with_reducible refine below_ext ?_ ?_ _ | with_reducible refine Below.alloc ?_ ?_ _ | with_reducible refine Below.setCell ?_ ?_ _ | with_reducible refine Below.drew ?_ | (simp; omega) | (simp; done) | (simp [go_sem]; omega) | (simp [go_sem]; done) | omega)

set_option maxRecDepth 100000 in
set_option maxHeartbeats 2000000 in
theorem undo_ok (st : St) (Ab Aw Ac At : Option Addr) (cb cw cc ct : Nat) (ts : List Tk) (a n : Int) (bs' : List Bk) (ge : Int) (w : World) (hnw : st.ws.length ≤ 1000) (hb : Bks w Ab st.bs) (hw : Fives w Aw st.ws) (hc : Fives w Ac st.cs) (ht : Tks w At ts)
    (C0 : ∀ W, Bks W Ab st.bs → Tks W At ts → Calls Try.prog 34 #[.slice Ab st.bs.length cb, .slice At ts.length ct] W (GiveR bs' ge W))
    (C1 : ∀ W, Bks W Ab st.bs → Fives W Aw st.ws → Fives W Ac st.cs → Calls Try.prog 26 #[.agg #[.slice Ab st.bs.length cb, .slice Aw st.ws.length cw, .slice Ac st.cs.length cc]] W (ClonedSt st W))
    (hfw : ∀ x ∈ st.ws, fits x.a) (hfa : fits a) (hge : give ts st.bs = (bs', ge)) (hg0 : ge = 0) (hn : n ≠ 0) (k : Nat) (xa xb xf xh xu ya yb yf yh yu ce : Int) (hp : plc a st.ws = some k) (hx : st.ws[k]? = some ⟨xa, xb, xf, xh, xu⟩) (hcr : W5.credit ⟨xa, xb, xf, xh, xu⟩ n = (⟨ya, yb, yf, yh, yu⟩, ce)) (hce : ce = 0) :
    Calls Try.prog 16 #[.agg #[.slice Ab st.bs.length cb, .slice Aw st.ws.length cw, .slice Ac st.cs.length cc], .int .i64 a, .slice At ts.length ct, .int .i64 n] w (UndoPost (st.undo a ts n) w) := by
  subst hg0 hce
  have hnb : (n == 0) = false := beq_eq_false_iff_ne.2 hn
  have hkl : k < st.ws.length := (List.getElem?_eq_some_iff.1 hx).1
  have hkb : (k : Int) < (st.ws.length : Int) := by omega
  have hgd : st.ws.getD k W5.zero = ⟨xa, xb, xf, xh, xu⟩ := by simp [List.getD, hx]
  have E : Hid (st.undo a ts n = ({ st with bs := bs', ws := st.ws.set k ⟨ya, yb, yf, yh, yu⟩ }, 0)) := by
    unfold Hid St.undo
    rw [hge]
    dsimp only
    simp only [ne_eq, not_true_eq_false, if_false, if_neg hn, hp, hgd, hcr, if_true]
  have HP := Lib.hid hp
  have HX := Lib.hid hx
  have HCR := Lib.hid hcr
  clear hp hn hx hcr hgd
  have hkey : keyOf Try.prog 3 (.int .i64 a) = some (.int .i64 a) := keyOf_int_mk Try.underlying3 (int_wf hfa)
  have HC0 := Lib.hid C0
  have HC1 := Lib.hid C1
  have HB := Lib.hid hb
  have HW := Lib.hid hw
  have HC := Lib.hid hc
  have HT := Lib.hid ht
  have HFW := Lib.hid hfw
  have HK := Lib.hid hkey
  clear C0 C1 hb hw hc ht hfw hkey hfa hge
  unfold UndoPost
  go_enter Try.func16, Try.ntmps16
  go_wp2_with (first
    | (go_at_call 34; refine (HC0.out _ ((HB.out.alloc _).alloc _) ((HT.out.alloc _).alloc _)).mono ?_; rintro e w0 ⟨v0, rfl, own0, hb0⟩; obtain ⟨A0, c0, rfl, _, _⟩ := own0.form; obtain ⟨s0, rfl⟩ := ext_of_below hb0; have HO0 := Lib.hid own0; clear own0 hb0)
    | (go_at_call 26; refine (HC1.out _ (((HB.out.alloc _).alloc _).ext _) (((HW.out.alloc _).alloc _).ext _) (((HC.out.alloc _).alloc _).ext _)).mono ?_; rintro e w1 ⟨v1, v2, v3, rfl, os1, hb1⟩; obtain ⟨A1, c1, rfl, _, _⟩ := os1.1.form; obtain ⟨A2, c2, rfl, hF2, _⟩ := os1.2.1.form; obtain ⟨A3, c3, rfl, _, _⟩ := os1.2.2.form; obtain ⟨hr0, hr1, hr2⟩ := res_cells hb1; obtain ⟨hcc, hff⟩ := bcell hb1; have hsz1 := hb1.size; simp [go_sem] at hsz1; have hz1 : w.heap.size < w1.heap.size := (by omega); have hz2 : w.heap.size + 1 < w1.heap.size := (by omega); have ho1 := OwnSt.replace (os1.mono (B' := w.heap.size + 2) (by simp [go_sem])) (OwnBks.mono (B' := w.heap.size + 2) (HO0.out.below hb1) (by simp)); have HO1 := Lib.hid ho1; have HF2 := Lib.hid hF2; have HBW := Lib.hid ((below_ext (((Below.refl w.heap.size w).alloc (Nat.le_refl _) _).alloc (by simp) _) (by simp; omega) s0).trans (hb1.mono (by simp [go_sem]; omega))); obtain ⟨g, hg0, hgB, hgl, _⟩ := os1.2.1.some_ (by omega); obtain rfl := hg0; obtain ⟨b9, o9, hA9, _, x0, x1, x2, x3, x4⟩ := fives_cells hF2 HX.out; simp only [Option.some.injEq, Addr.mk.injEq, and_true] at hA9; obtain ⟨rfl, rfl⟩ := hA9; simp only [Nat.zero_add] at x0 x1 x2 x3 x4; obtain ⟨z0, z1, z2, z3, z4⟩ := os1.2.1.frozen5 k; simp [go_sem] at hgB; have hne1 : ¬ g = w.heap.size + 1 := (by omega); have hne2 : ¬ w.heap.size + 1 = g := (by omega); have ho5 := ho1.stored HX.out ⟨ya, yb, yf, yh, yu⟩; dsimp only at ho5; have HO5 := Lib.hid ho5; clear ho5; clear os1 hF2 hb1 ho1)
    | (go_at_call 27; refine (places_any' st.ws _ c2 _ hnw (HF2.out.alloc _) HFW.out).mono ?_; rintro e w2 ⟨rfl, hm, hb2⟩; obtain ⟨s2, rfl⟩ := ext_of_below hb2; obtain ⟨D, hD1, hD2, hD3⟩ := hm; simp only [World.size_alloc] at hD2; have hhas : Maps.has D (.int .i64 a) = true := (by rw [(hD3 a).1, HP.out]; rfl); have HAT := Lib.hid ((hD3 a).2 k HP.out); have HD2 := Lib.hid hD2; clear hb2 hD1 hD2 hD3)
    | (at_lookup; refine wpList_lookup_own_ok_int _ rfl _ _ 62 rfl 3 3 .i64 lawI Try.underlying62 Try.underlying3 (zeroI _) _ _ D rfl HD2.out _ _ rfl HK.out ?_; intro c hat hwc; obtain rfl : c = (k : Int) := (by rw [HAT.out] at hat; cases hat; rfl); clear hat hwc)
    | (go_at_call 35; (with_reducible refine (credit_any _ _ _ _ _ _ _).mono ?_); rw [HCR.out]; rintro e w4 ⟨rfl, hb4⟩; obtain ⟨s4, rfl⟩ := ext_of_below hb4; clear hb4))
  refine bodyPost_ret (by simp [results, Try.results16, go_sem, hz1, hz2, hcc, hff, hr0, hr1, hr2]; first | done | rfl) rfl ?_
  rw [E.out]
  refine ⟨_, _, _, rfl, OwnSt.mono (B := w.heap.size + 2) ?_ (by omega), ?_⟩
  · repeat' (first | with_reducible exact HO5.out | with_reducible refine OwnSt.ext ?_ _ | with_reducible refine OwnSt.alloc ?_ _ | with_reducible refine OwnSt.low ?_ ?_ | (simp; omega) | (simp; done) | omega)
  · repeat' (first | with_reducible exact HBW.out | with_reducible exact Below.refl _ _ | with_reducible refine below_ext ?_ ?_ _ | with_reducible refine Below.alloc ?_ ?_ _ | with_reducible refine Below.setCell ?_ ?_ _ | with_reducible refine Below.drew ?_ | (simp; omega) | (simp; done) | (simp [go_sem]; omega) | (simp [go_sem]; done) | omega)

end Go.Proofs.Ythkollhebabhbaa

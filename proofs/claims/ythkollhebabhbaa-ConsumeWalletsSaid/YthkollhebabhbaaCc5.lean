/-
  The walk of Pay.
-/
import Derived.Test.YthkollhebabhbaaCc4
namespace Go.Proofs.Ythkollhebabhbaa
open Go.RowKit Go.Maps
set_option linter.unusedSimpArgs false
set_option linter.unusedVariables false

/-- Pay: the state, what was paid, and the rest. -/
def St.pay (s : St) (a n : Int) (pre : Bool) : St × Int × Int :=
  if pre = false ∨ n ≤ 0 then (s, 0, n)
  else match plc a s.ws with
    | none => (s, 0, n)
    | some k =>
      if (s.ws.getD k W5.zero).chk = 0 then
        ({ s with ws := s.ws.set k { (s.ws.getD k W5.zero) with b := (s.ws.getD k W5.zero).b - min (min n (s.ws.getD k W5.zero).free) 1125899906842624 } }, min (min n (s.ws.getD k W5.zero).free) 1125899906842624, n - min (min n (s.ws.getD k W5.zero).free) 1125899906842624)
      else (s, 0, n)
def PayPost (r : St × Int × Int) (w : World) (e : Ending) (w' : World) : Prop := ∃ vb vw vc, e = .returned (.tuple #[.agg #[vb, vw, vc], .int .i64 r.2.1, .int .i64 r.2.2]) ∧ OwnSt w' w.heap.size vb vw vc r.1 ∧ Below w.heap.size w w'

theorem own_low {w : World} {B size n k i : Nat} {e : TypeId} {v x : Value} {xs : List Value} (h : w.ownsRow B e size v n xs) (hk : k < B) : (w.setCell ⟨k, i, none⟩ x).ownsRow B e size v n xs :=
  own_heap h fun j hj _ => by
    simp only [World.setCell]
    rw [Array.getElem?_modify]
    simp [show ¬ k = j by omega]
theorem OwnSt.heap {w w' : World} {B : Nat} {vb vw vc : Value} {s : St} (h : OwnSt w B vb vw vc s) (hk : ∀ k, B ≤ k → k < w.heap.size → w'.heap[k]? = w.heap[k]?) : OwnSt w' B vb vw vc s := by
  obtain ⟨⟨Z, h1, h2, h3⟩, h4, h5⟩ := h
  exact ⟨⟨Z, h1, own_heap h2 hk, fun j x z hx hz => own_heap (h3 j x z hx hz) hk⟩, own_heap h4 hk, own_heap h5 hk⟩
theorem OwnSt.below {w w' : World} {B : Nat} {vb vw vc : Value} {s : St} (h : OwnSt w B vb vw vc s) (hb : Below w.heap.size w w') : OwnSt w' B vb vw vc s := h.heap fun k _ hk => hb.block k hk
theorem OwnSt.low {w : World} {B k i : Nat} {vb vw vc x : Value} {s : St} (h : OwnSt w B vb vw vc s) (hk : k < B) : OwnSt (w.setCell ⟨k, i, none⟩ x) B vb vw vc s := h.heap fun j hj _ => by
  simp only [World.setCell]
  rw [Array.getElem?_modify]
  simp [show ¬ k = j by omega]
theorem OwnSt.mono {w : World} {B B' : Nat} {vb vw vc : Value} {s : St} (h : OwnSt w B vb vw vc s) (hB : B' ≤ B) : OwnSt w B' vb vw vc s := ⟨h.1.mono hB, own_mono h.2.1 hB, own_mono h.2.2 hB⟩
theorem OwnSt.ext {w : World} {B : Nat} {vb vw vc : Value} {s : St} (h : OwnSt w B vb vw vc s) (t : More) : OwnSt (Go.Proofs.Ythkollhebabhbaa.ext w t) B vb vw vc s := h.below (below_ext (Below.refl _ _) (Nat.le_refl _) t)
theorem OwnSt.alloc {w : World} {B : Nat} {vb vw vc : Value} {s : St} (h : OwnSt w B vb vw vc s) (o : Obj) : OwnSt (w.alloc o) B vb vw vc s := h.below ((Below.refl _ _).alloc (Nat.le_refl _) o)

theorem OwnF.frozen5 {w : World} {B n c g : Nat} {e : TypeId} {xs : List W5} (h : OwnF w B e (.slice (some ⟨g, 0, none⟩) n c) xs) (k : Nat) : w.frozen? ⟨g, k * 5, none⟩ = false ∧ w.frozen? ⟨g, k * 5 + 1, none⟩ = false ∧ w.frozen? ⟨g, k * 5 + 2, none⟩ = false ∧ w.frozen? ⟨g, k * 5 + 3, none⟩ = false ∧ w.frozen? ⟨g, k * 5 + 4, none⟩ = false := by
  unfold OwnF at h
  have hl : n = xs.length := by
    rcases h.2 with ⟨h4, _⟩ | ⟨_, _, _, h4, _⟩
    · cases h4
    · simp only [Value.slice.injEq] at h4
      exact h4.2.1
  subst hl
  exact ⟨h.frozenAt _, h.frozenAt _, h.frozenAt _, h.frozenAt _, h.frozenAt _⟩

set_option maxRecDepth 100000 in
set_option maxHeartbeats 4000000 in
theorem pay_none (st : St) (Ab Aw Ac : Option Addr) (cb cw cc : Nat) (a n : Int) (pre : Bool) (w : World) (hnw : st.ws.length ≤ 1000) (hb : Bks w Ab st.bs) (hw : Fives w Aw st.ws) (hc : Fives w Ac st.cs)
    (C1 : ∀ W, Bks W Ab st.bs → Fives W Aw st.ws → Fives W Ac st.cs → Calls Try.prog 26 #[.agg #[.slice Ab st.bs.length cb, .slice Aw st.ws.length cw, .slice Ac st.cs.length cc]] W (ClonedSt st W))
    (hfw : ∀ x ∈ st.ws, fits x.a) (hfa : fits a) (hp : plc a st.ws = none) (hpre : pre = true) (hn0 : ¬ n ≤ 0) :
    Calls Try.prog 10 #[.agg #[.slice Ab st.bs.length cb, .slice Aw st.ws.length cw, .slice Ac st.cs.length cc], .int .i64 a, .int .i64 n, .bool pre] w (PayPost (st.pay a n pre) w) := by
  subst hpre
  have E : Hid (st.pay a n true = (st, 0, n)) := by
    unfold Hid St.pay
    rw [hp]
    split <;> rfl
  have HP := Lib.hid hp
  clear hp
  have hkey : keyOf Try.prog 3 (.int .i64 a) = some (.int .i64 a) := keyOf_int_mk Try.underlying3 (int_wf hfa)
  have HC1 := Lib.hid C1
  have HB := Lib.hid hb
  have HW := Lib.hid hw
  have HC := Lib.hid hc
  have HFW := Lib.hid hfw
  have HK := Lib.hid hkey
  clear C1 hb hw hc hfw hkey hfa
  unfold PayPost
  go_enter Try.func10, Try.ntmps10
  go_wp2_with (first
    | (go_at_call 26; refine (HC1.out _ ((HB.out.alloc _).alloc _) ((HW.out.alloc _).alloc _) ((HC.out.alloc _).alloc _)).mono ?_; rintro e w1 ⟨v1, v2, v3, rfl, os1, hb1⟩; obtain ⟨A1, c1, rfl, _, _⟩ := os1.1.form; obtain ⟨A2, c2, rfl, hF2, _⟩ := os1.2.1.form; obtain ⟨A3, c3, rfl, _, _⟩ := os1.2.2.form; obtain ⟨hcc, hff⟩ := bcell hb1; have hsz1 := hb1.size; simp at hsz1; have hz1 : w.heap.size < w1.heap.size := (by omega); have hz2 : w.heap.size + 1 < w1.heap.size := (by omega); have HO1 := Lib.hid (os1.mono (B' := w.heap.size + 2) (by simp)); have HF2 := Lib.hid hF2; have HBW := Lib.hid ((((Below.refl w.heap.size w).alloc (Nat.le_refl _) _).alloc (by simp) _).trans (hb1.mono (by simp; omega))); clear os1 hF2 hb1)
    | (go_at_call 27; refine (places_any' st.ws _ c2 _ hnw (HF2.out.alloc _) HFW.out).mono ?_; rintro e w2 ⟨rfl, hm, hb2⟩; obtain ⟨s2, rfl⟩ := ext_of_below hb2; obtain ⟨D, hD1, hD2, hD3⟩ := hm; simp only [World.size_alloc] at hD2; have hhas : Maps.has D (.int .i64 a) = false := (by rw [(hD3 a).1, HP.out]; rfl); have HD2 := Lib.hid hD2; clear hb2 hD1 hD2 hD3)
    | (at_lookup; refine wpList_lookup_own_ok_int _ rfl _ _ 62 rfl 3 3 .i64 lawI Try.underlying62 Try.underlying3 (zeroI _) _ _ D rfl HD2.out _ _ rfl HK.out ?_; intro c hat hwc; clear hat hwc))
  refine bodyPost_ret (by simp [results, Try.results10, go_sem, hz1, hz2, hcc, hff]; first | done | rfl) rfl ?_
  rw [E.out]
  refine ⟨_, _, _, rfl, OwnSt.mono (B := w.heap.size + 2) ?_ (by omega), ?_⟩
  · repeat' (first | with_reducible exact HO1.out | with_reducible refine OwnSt.ext ?_ _ | with_reducible refine OwnSt.alloc ?_ _ | with_reducible refine OwnSt.low ?_ ?_ | (simp; omega) | (simp; done) | omega)
  · repeat' (first | with_reducible exact HBW.out | with_reducible exact Below.refl _ _ | with_reducible refine below_ext ?_ ?_ _ | with_reducible refine Below.alloc ?_ ?_ _ | with_reducible refine Below.setCell ?_ ?_ _ | with_reducible refine Below.drew ?_ | (simp; omega) | (simp; done) | (simp [go_sem]; omega) | (simp [go_sem]; done) | omega)

set_option maxRecDepth 100000 in
set_option maxHeartbeats 4000000 in
theorem pay_off (st : St) (Ab Aw Ac : Option Addr) (cb cw cc : Nat) (a n : Int) (pre : Bool) (w : World) (hnw : st.ws.length ≤ 1000) (hb : Bks w Ab st.bs) (hw : Fives w Aw st.ws) (hc : Fives w Ac st.cs)
    (C1 : ∀ W, Bks W Ab st.bs → Fives W Aw st.ws → Fives W Ac st.cs → Calls Try.prog 26 #[.agg #[.slice Ab st.bs.length cb, .slice Aw st.ws.length cw, .slice Ac st.cs.length cc]] W (ClonedSt st W))
    (hfw : ∀ x ∈ st.ws, fits x.a) (hfa : fits a) (hpre : pre = false) :
    Calls Try.prog 10 #[.agg #[.slice Ab st.bs.length cb, .slice Aw st.ws.length cw, .slice Ac st.cs.length cc], .int .i64 a, .int .i64 n, .bool pre] w (PayPost (st.pay a n pre) w) := by
  subst hpre
  have E : Hid (st.pay a n false = (st, 0, n)) := by
    unfold Hid St.pay
    rw [if_pos (.inl rfl)]
  have hkey : keyOf Try.prog 3 (.int .i64 a) = some (.int .i64 a) := keyOf_int_mk Try.underlying3 (int_wf hfa)
  have HC1 := Lib.hid C1
  have HB := Lib.hid hb
  have HW := Lib.hid hw
  have HC := Lib.hid hc
  have HFW := Lib.hid hfw
  have HK := Lib.hid hkey
  clear C1 hb hw hc hfw hkey hfa
  unfold PayPost
  go_enter Try.func10, Try.ntmps10
  go_wp2_with (first
    | (go_at_call 26; refine (HC1.out _ ((HB.out.alloc _).alloc _) ((HW.out.alloc _).alloc _) ((HC.out.alloc _).alloc _)).mono ?_; rintro e w1 ⟨v1, v2, v3, rfl, os1, hb1⟩; obtain ⟨A1, c1, rfl, _, _⟩ := os1.1.form; obtain ⟨A2, c2, rfl, hF2, _⟩ := os1.2.1.form; obtain ⟨A3, c3, rfl, _, _⟩ := os1.2.2.form; obtain ⟨hcc, hff⟩ := bcell hb1; have hsz1 := hb1.size; simp at hsz1; have hz1 : w.heap.size < w1.heap.size := (by omega); have hz2 : w.heap.size + 1 < w1.heap.size := (by omega); have HO1 := Lib.hid (os1.mono (B' := w.heap.size + 2) (by simp)); have HF2 := Lib.hid hF2; have HBW := Lib.hid ((((Below.refl w.heap.size w).alloc (Nat.le_refl _) _).alloc (by simp) _).trans (hb1.mono (by simp; omega))); clear os1 hF2 hb1)
    | (go_at_call 27; refine (places_any' st.ws _ c2 _ hnw (HF2.out.alloc _) HFW.out).mono ?_; rintro e w2 ⟨rfl, hm, hb2⟩; obtain ⟨s2, rfl⟩ := ext_of_below hb2; obtain ⟨D, hD1, hD2, hD3⟩ := hm; simp only [World.size_alloc] at hD2; have HD2 := Lib.hid hD2; clear hb2 hD1 hD2 hD3)
    | (at_lookup; refine wpList_lookup_own_ok_int _ rfl _ _ 62 rfl 3 3 .i64 lawI Try.underlying62 Try.underlying3 (zeroI _) _ _ D rfl HD2.out _ _ rfl HK.out ?_; intro c hat hwc; clear hat hwc))
  refine bodyPost_ret (by simp [results, Try.results10, go_sem, hz1, hz2, hcc, hff]; first | done | rfl) rfl ?_
  rw [E.out]
  refine ⟨_, _, _, rfl, OwnSt.mono (B := w.heap.size + 2) ?_ (by omega), ?_⟩
  · repeat' (first | with_reducible exact HO1.out | with_reducible refine OwnSt.ext ?_ _ | with_reducible refine OwnSt.alloc ?_ _ | with_reducible refine OwnSt.low ?_ ?_ | (simp; omega) | (simp; done) | omega)
  · repeat' (first | with_reducible exact HBW.out | with_reducible exact Below.refl _ _ | with_reducible refine below_ext ?_ ?_ _ | with_reducible refine Below.alloc ?_ ?_ _ | with_reducible refine Below.setCell ?_ ?_ _ | with_reducible refine Below.drew ?_ | (simp; omega) | (simp; done) | (simp [go_sem]; omega) | (simp [go_sem]; done) | omega)

set_option maxRecDepth 100000 in
set_option maxHeartbeats 4000000 in
theorem pay_zero (st : St) (Ab Aw Ac : Option Addr) (cb cw cc : Nat) (a n : Int) (pre : Bool) (w : World) (hnw : st.ws.length ≤ 1000) (hb : Bks w Ab st.bs) (hw : Fives w Aw st.ws) (hc : Fives w Ac st.cs)
    (C1 : ∀ W, Bks W Ab st.bs → Fives W Aw st.ws → Fives W Ac st.cs → Calls Try.prog 26 #[.agg #[.slice Ab st.bs.length cb, .slice Aw st.ws.length cw, .slice Ac st.cs.length cc]] W (ClonedSt st W))
    (hfw : ∀ x ∈ st.ws, fits x.a) (hfa : fits a) (hpre : pre = true) (hn0 : n ≤ 0) :
    Calls Try.prog 10 #[.agg #[.slice Ab st.bs.length cb, .slice Aw st.ws.length cw, .slice Ac st.cs.length cc], .int .i64 a, .int .i64 n, .bool pre] w (PayPost (st.pay a n pre) w) := by
  subst hpre
  have E : Hid (st.pay a n true = (st, 0, n)) := by
    unfold Hid St.pay
    rw [if_pos (.inr hn0)]
  have hkey : keyOf Try.prog 3 (.int .i64 a) = some (.int .i64 a) := keyOf_int_mk Try.underlying3 (int_wf hfa)
  have HC1 := Lib.hid C1
  have HB := Lib.hid hb
  have HW := Lib.hid hw
  have HC := Lib.hid hc
  have HFW := Lib.hid hfw
  have HK := Lib.hid hkey
  clear C1 hb hw hc hfw hkey hfa
  unfold PayPost
  go_enter Try.func10, Try.ntmps10
  go_wp2_with (first
    | (go_at_call 26; refine (HC1.out _ ((HB.out.alloc _).alloc _) ((HW.out.alloc _).alloc _) ((HC.out.alloc _).alloc _)).mono ?_; rintro e w1 ⟨v1, v2, v3, rfl, os1, hb1⟩; obtain ⟨A1, c1, rfl, _, _⟩ := os1.1.form; obtain ⟨A2, c2, rfl, hF2, _⟩ := os1.2.1.form; obtain ⟨A3, c3, rfl, _, _⟩ := os1.2.2.form; obtain ⟨hcc, hff⟩ := bcell hb1; have hsz1 := hb1.size; simp at hsz1; have hz1 : w.heap.size < w1.heap.size := (by omega); have hz2 : w.heap.size + 1 < w1.heap.size := (by omega); have HO1 := Lib.hid (os1.mono (B' := w.heap.size + 2) (by simp)); have HF2 := Lib.hid hF2; have HBW := Lib.hid ((((Below.refl w.heap.size w).alloc (Nat.le_refl _) _).alloc (by simp) _).trans (hb1.mono (by simp; omega))); clear os1 hF2 hb1)
    | (go_at_call 27; refine (places_any' st.ws _ c2 _ hnw (HF2.out.alloc _) HFW.out).mono ?_; rintro e w2 ⟨rfl, hm, hb2⟩; obtain ⟨s2, rfl⟩ := ext_of_below hb2; obtain ⟨D, hD1, hD2, hD3⟩ := hm; simp only [World.size_alloc] at hD2; have HD2 := Lib.hid hD2; clear hb2 hD1 hD2 hD3)
    | (at_lookup; refine wpList_lookup_own_ok_int _ rfl _ _ 62 rfl 3 3 .i64 lawI Try.underlying62 Try.underlying3 (zeroI _) _ _ D rfl HD2.out _ _ rfl HK.out ?_; intro c hat hwc; clear hat hwc))
  refine bodyPost_ret (by simp [results, Try.results10, go_sem, hz1, hz2, hcc, hff]; first | done | rfl) rfl ?_
  rw [E.out]
  refine ⟨_, _, _, rfl, OwnSt.mono (B := w.heap.size + 2) ?_ (by omega), ?_⟩
  · repeat' (first | with_reducible exact HO1.out | with_reducible refine OwnSt.ext ?_ _ | with_reducible refine OwnSt.alloc ?_ _ | with_reducible refine OwnSt.low ?_ ?_ | (simp; omega) | (simp; done) | omega)
  · repeat' (first | with_reducible exact HBW.out | with_reducible exact Below.refl _ _ | with_reducible refine below_ext ?_ ?_ _ | with_reducible refine Below.alloc ?_ ?_ _ | with_reducible refine Below.setCell ?_ ?_ _ | with_reducible refine Below.drew ?_ | (simp; omega) | (simp; done) | (simp [go_sem]; omega) | (simp [go_sem]; done) | omega)

end Go.Proofs.Ythkollhebabhbaa

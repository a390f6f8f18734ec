/-
  The walk of the reference's Pay where nothing is paid.
-/
import Derived.Test.YthkollhebabhbaaCc6
namespace Go.Proofs.Ythkollhebabhbaa
open Go.RowKit Go.Maps
set_option linter.unusedSimpArgs false
set_option linter.unusedVariables false

set_option maxRecDepth 100000 in
set_option maxHeartbeats 4000000 in
theorem rpay_none (st : St) (Ab Aw Ac : Option Addr) (cb cw cc : Nat) (a n : Int) (pre : Bool) (w : World) (hnw : st.ws.length ≤ 1000) (hb : Bks w Ab st.bs) (hw : Fives w Aw st.ws) (hc : Fives w Ac st.cs)
    (C1 : ∀ W, Bks W Ab st.bs → Fives W Aw st.ws → Fives W Ac st.cs → Calls Try.prog 30 #[.agg #[.slice Ab st.bs.length cb, .slice Aw st.ws.length cw, .slice Ac st.cs.length cc]] W (ClonedSt st W))
    (hfw : ∀ x ∈ st.ws, fits x.a) (hfa : fits a) (hp : plc a st.ws = none) (hpre : pre = true) (hn0 : ¬ n ≤ 0) :
    Calls Try.prog 11 #[.agg #[.slice Ab st.bs.length cb, .slice Aw st.ws.length cw, .slice Ac st.cs.length cc], .int .i64 a, .int .i64 n, .bool pre] w (PayPost (st.pay a n pre) w) := by
  subst hpre
  have E : Hid (st.pay a n true = (st, 0, n)) := by
    unfold Hid St.pay
    rw [hp]
    split <;> rfl
  have HP := Lib.hid hp
  clear hp
  have HPL : Hid (plI a st.ws = -1) := by unfold Hid plI; rw [HP.out]
  have hkey : keyOf Try.prog 3 (.int .i64 a) = some (.int .i64 a) := keyOf_int_mk Try.underlying3 (int_wf hfa)
  have HC1 := Lib.hid C1
  have HB := Lib.hid hb
  have HW := Lib.hid hw
  have HC := Lib.hid hc
  have HFW := Lib.hid hfw
  have HK := Lib.hid hkey
  clear C1 hb hw hc hfw hkey hfa
  unfold PayPost
  go_enter Try.func11, Try.ntmps11
  go_wp2_with (first
    | (go_at_call 30; refine (HC1.out _ ((HB.out.alloc _).alloc _) ((HW.out.alloc _).alloc _) ((HC.out.alloc _).alloc _)).mono ?_; rintro e w1 ⟨v1, v2, v3, rfl, os1, hb1⟩; obtain ⟨A1, c1, rfl, _, _⟩ := os1.1.form; obtain ⟨A2, c2, rfl, hF2, _⟩ := os1.2.1.form; obtain ⟨A3, c3, rfl, _, _⟩ := os1.2.2.form; obtain ⟨hcc, hff⟩ := bcell hb1; have hsz1 := hb1.size; simp at hsz1; have hz1 : w.heap.size < w1.heap.size := (by omega); have hz2 : w.heap.size + 1 < w1.heap.size := (by omega); have HO1 := Lib.hid (os1.mono (B' := w.heap.size + 2) (by simp)); have HF2 := Lib.hid hF2; have HBW := Lib.hid ((((Below.refl w.heap.size w).alloc (Nat.le_refl _) _).alloc (by simp) _).trans (hb1.mono (by simp; omega))); clear os1 hF2 hb1)
    | (go_at_call 13; (refine (place_any a st.ws _ c2 _ (by omega) (HF2.out.alloc _)).mono ?_); rw [HPL.out]; rintro e w2 ⟨rfl, hb2⟩; obtain ⟨s2, rfl⟩ := ext_of_below hb2; clear hb2))
  refine bodyPost_ret (by simp [results, Try.results11, go_sem, hz1, hz2, hcc, hff]; first | done | rfl) rfl ?_
  rw [E.out]
  refine ⟨_, _, _, rfl, OwnSt.mono (B := w.heap.size + 2) ?_ (by omega), ?_⟩
  · repeat' (first | with_reducible exact HO1.out | with_reducible refine OwnSt.ext ?_ _ | with_reducible refine OwnSt.alloc ?_ _ | with_reducible refine OwnSt.low ?_ ?_ | (simp; omega) | (simp; done) | omega)
  · repeat' (first | with_reducible exact HBW.out | with_reducible exact Below.refl _ _ | with_reducible refine below_ext ?_ ?_ _ | with_reducible refine Below.alloc ?_ ?_ _ | with_reducible refine Below.setCell ?_ ?_ _ | with_reducible refine Below.drew ?_ | (simp; omega) | (simp; done) | (simp [go_sem]; omega) | (simp [go_sem]; done) | omega)

set_option maxRecDepth 100000 in
set_option maxHeartbeats 4000000 in
theorem rpay_off (st : St) (Ab Aw Ac : Option Addr) (cb cw cc : Nat) (a n : Int) (pre : Bool) (w : World) (hnw : st.ws.length ≤ 1000) (hb : Bks w Ab st.bs) (hw : Fives w Aw st.ws) (hc : Fives w Ac st.cs)
    (C1 : ∀ W, Bks W Ab st.bs → Fives W Aw st.ws → Fives W Ac st.cs → Calls Try.prog 30 #[.agg #[.slice Ab st.bs.length cb, .slice Aw st.ws.length cw, .slice Ac st.cs.length cc]] W (ClonedSt st W))
    (hfw : ∀ x ∈ st.ws, fits x.a) (hfa : fits a) (hpre : pre = false) :
    Calls Try.prog 11 #[.agg #[.slice Ab st.bs.length cb, .slice Aw st.ws.length cw, .slice Ac st.cs.length cc], .int .i64 a, .int .i64 n, .bool pre] w (PayPost (st.pay a n pre) w) := by
  subst hpre
  have E : Hid (st.pay a n false = (st, 0, n)) := by
    unfold Hid St.pay
    rw [if_pos (.inl rfl)]
  obtain ⟨pl, hpl⟩ : ∃ p, plI a st.ws = p := ⟨_, rfl⟩
  have HPL := Lib.hid hpl
  clear hpl
  have hkey : keyOf Try.prog 3 (.int .i64 a) = some (.int .i64 a) := keyOf_int_mk Try.underlying3 (int_wf hfa)
  have HC1 := Lib.hid C1
  have HB := Lib.hid hb
  have HW := Lib.hid hw
  have HC := Lib.hid hc
  have HFW := Lib.hid hfw
  have HK := Lib.hid hkey
  clear C1 hb hw hc hfw hkey hfa
  unfold PayPost
  go_enter Try.func11, Try.ntmps11
  go_wp2_with (first
    | (go_at_call 30; refine (HC1.out _ ((HB.out.alloc _).alloc _) ((HW.out.alloc _).alloc _) ((HC.out.alloc _).alloc _)).mono ?_; rintro e w1 ⟨v1, v2, v3, rfl, os1, hb1⟩; obtain ⟨A1, c1, rfl, _, _⟩ := os1.1.form; obtain ⟨A2, c2, rfl, hF2, _⟩ := os1.2.1.form; obtain ⟨A3, c3, rfl, _, _⟩ := os1.2.2.form; obtain ⟨hcc, hff⟩ := bcell hb1; have hsz1 := hb1.size; simp at hsz1; have hz1 : w.heap.size < w1.heap.size := (by omega); have hz2 : w.heap.size + 1 < w1.heap.size := (by omega); have HO1 := Lib.hid (os1.mono (B' := w.heap.size + 2) (by simp)); have HF2 := Lib.hid hF2; have HBW := Lib.hid ((((Below.refl w.heap.size w).alloc (Nat.le_refl _) _).alloc (by simp) _).trans (hb1.mono (by simp; omega))); clear os1 hF2 hb1)
    | (go_at_call 13; (refine (place_any a st.ws _ c2 _ (by omega) (HF2.out.alloc _)).mono ?_); rw [HPL.out]; rintro e w2 ⟨rfl, hb2⟩; obtain ⟨s2, rfl⟩ := ext_of_below hb2; clear hb2))
  refine bodyPost_ret (by simp [results, Try.results11, go_sem, hz1, hz2, hcc, hff]; first | done | rfl) rfl ?_
  rw [E.out]
  refine ⟨_, _, _, rfl, OwnSt.mono (B := w.heap.size + 2) ?_ (by omega), ?_⟩
  · repeat' (first | with_reducible exact HO1.out | with_reducible refine OwnSt.ext ?_ _ | with_reducible refine OwnSt.alloc ?_ _ | with_reducible refine OwnSt.low ?_ ?_ | (simp; omega) | (simp; done) | omega)
  · repeat' (first | with_reducible exact HBW.out | with_reducible exact Below.refl _ _ | with_reducible refine below_ext ?_ ?_ _ | with_reducible refine Below.alloc ?_ ?_ _ | with_reducible refine Below.setCell ?_ ?_ _ | with_reducible refine Below.drew ?_ | (simp; omega) | (simp; done) | (simp [go_sem]; omega) | (simp [go_sem]; done) | omega)

set_option maxRecDepth 100000 in
set_option maxHeartbeats 4000000 in
theorem rpay_zero (st : St) (Ab Aw Ac : Option Addr) (cb cw cc : Nat) (a n : Int) (pre : Bool) (w : World) (hnw : st.ws.length ≤ 1000) (hb : Bks w Ab st.bs) (hw : Fives w Aw st.ws) (hc : Fives w Ac st.cs)
    (C1 : ∀ W, Bks W Ab st.bs → Fives W Aw st.ws → Fives W Ac st.cs → Calls Try.prog 30 #[.agg #[.slice Ab st.bs.length cb, .slice Aw st.ws.length cw, .slice Ac st.cs.length cc]] W (ClonedSt st W))
    (hfw : ∀ x ∈ st.ws, fits x.a) (hfa : fits a) (hpre : pre = true) (hn0 : n ≤ 0) :
    Calls Try.prog 11 #[.agg #[.slice Ab st.bs.length cb, .slice Aw st.ws.length cw, .slice Ac st.cs.length cc], .int .i64 a, .int .i64 n, .bool pre] w (PayPost (st.pay a n pre) w) := by
  subst hpre
  have E : Hid (st.pay a n true = (st, 0, n)) := by
    unfold Hid St.pay
    rw [if_pos (.inr hn0)]
  obtain ⟨pl, hpl⟩ : ∃ p, plI a st.ws = p := ⟨_, rfl⟩
  have HPL := Lib.hid hpl
  clear hpl
  have hkey : keyOf Try.prog 3 (.int .i64 a) = some (.int .i64 a) := keyOf_int_mk Try.underlying3 (int_wf hfa)
  have HC1 := Lib.hid C1
  have HB := Lib.hid hb
  have HW := Lib.hid hw
  have HC := Lib.hid hc
  have HFW := Lib.hid hfw
  have HK := Lib.hid hkey
  clear C1 hb hw hc hfw hkey hfa
  unfold PayPost
  go_enter Try.func11, Try.ntmps11
  go_wp2_with (first
    | (go_at_call 30; refine (HC1.out _ ((HB.out.alloc _).alloc _) ((HW.out.alloc _).alloc _) ((HC.out.alloc _).alloc _)).mono ?_; rintro e w1 ⟨v1, v2, v3, rfl, os1, hb1⟩; obtain ⟨A1, c1, rfl, _, _⟩ := os1.1.form; obtain ⟨A2, c2, rfl, hF2, _⟩ := os1.2.1.form; obtain ⟨A3, c3, rfl, _, _⟩ := os1.2.2.form; obtain ⟨hcc, hff⟩ := bcell hb1; have hsz1 := hb1.size; simp at hsz1; have hz1 : w.heap.size < w1.heap.size := (by omega); have hz2 : w.heap.size + 1 < w1.heap.size := (by omega); have HO1 := Lib.hid (os1.mono (B' := w.heap.size + 2) (by simp)); have HF2 := Lib.hid hF2; have HBW := Lib.hid ((((Below.refl w.heap.size w).alloc (Nat.le_refl _) _).alloc (by simp) _).trans (hb1.mono (by simp; omega))); clear os1 hF2 hb1)
    | (go_at_call 13; (refine (place_any a st.ws _ c2 _ (by omega) (HF2.out.alloc _)).mono ?_); rw [HPL.out]; rintro e w2 ⟨rfl, hb2⟩; obtain ⟨s2, rfl⟩ := ext_of_below hb2; clear hb2))
  refine bodyPost_ret (by simp [results, Try.results11, go_sem, hz1, hz2, hcc, hff]; first | done | rfl) rfl ?_
  rw [E.out]
  refine ⟨_, _, _, rfl, OwnSt.mono (B := w.heap.size + 2) ?_ (by omega), ?_⟩
  · repeat' (first | with_reducible exact HO1.out | with_reducible refine OwnSt.ext ?_ _ | with_reducible refine OwnSt.alloc ?_ _ | with_reducible refine OwnSt.low ?_ ?_ | (simp; omega) | (simp; done) | omega)
  · repeat' (first | with_reducible exact HBW.out | with_reducible exact Below.refl _ _ | with_reducible refine below_ext ?_ ?_ _ | with_reducible refine Below.alloc ?_ ?_ _ | with_reducible refine Below.setCell ?_ ?_ _ | with_reducible refine Below.drew ?_ | (simp; omega) | (simp; done) | (simp [go_sem]; omega) | (simp [go_sem]; done) | omega)

end Go.Proofs.Ythkollhebabhbaa

/-
  The walk of ConsumeUnits.
-/
import Derived.Test.YthkollhebabhbaaCe3
import Derived.Test.YthkollhebabhbaaOpenT
import Derived.Test.YthkollhebabhbaaBz
namespace Go.Proofs.Ythkollhebabhbaa
open Go.RowKit
set_option linter.unusedSimpArgs false
set_option linter.unusedVariables false

theorem units_small (s : St) (account sub kind : Int) (zone : ByteArray) (family : Bool) (t n : Int) (ok : StOk s) (h12 : s.bs.length ≤ 12) : (s.units (fun x => x.usable account sub kind zone family t) n).1.bs.length ≤ 1000 ∧ (s.units (fun x => x.usable account sub kind zone family t) n).1.ws.length ≤ 1000 ∧ (s.units (fun x => x.usable account sub kind zone family t) n).1.cs.length ≤ 1000 ∧ (∀ x ∈ (s.units (fun x => x.usable account sub kind zone family t) n).1.bs, x.zones.length ≤ 1000) ∧ (s.units (fun x => x.usable account sub kind zone family t) n).2.1.length ≤ 100000 := by
  unfold St.units
  dsimp only
  refine ⟨by rw [take_len]; omega, ok.nw, ok.nc, fun y hy => ?_, Nat.le_trans (take_tlen _ _ _) (by omega)⟩
  obtain ⟨x, hx, l, _, rfl⟩ := take_mem (usable_ok account sub kind zone family t) hy
  exact Nat.le_trans (ok.z x hx) (by omega)

set_option maxRecDepth 100000 in
set_option maxHeartbeats 2000000 in
theorem units_few (st : St) (Ab Aw Ac : Option Addr) (cb cw cc : Nat) (u : Ug) (zone : ByteArray) (family : Bool) (w : World) (hi : StIn w Ab Aw Ac cw cc st) (hF : StFits st) (hf : fewS st = false) :
    Calls Try.prog 6 #[.agg #[.slice Ab st.bs.length cb, .slice Aw st.ws.length cw, .slice Ac st.cs.length cc], .agg #[.int .i64 u.id, .int .i64 u.kind, .int .i64 u.acc, .int .i64 u.sub, .string u.a, .string u.b, .int .i64 u.start, .int .i64 u.units, .int .i64 u.trunk, .bool u.inb, .int .i64 u.src, .int .i64 u.ser], .agg #[.string zone, .bool family]] w fun e w' => e = .returned (.bool true) ∧ Below w.heap.size w w' := by
  have HI := Lib.hid hi
  have HF := Lib.hid hF
  clear hi hF
  go_enter Try.func6, Try.ntmps6
  go_wp2_with (first
    | (go_at_call 8; (with_reducible refine (fews_any st Ab Aw Ac cb cw cc _ (((HI.out.alloc _).alloc _).alloc _).b HF.out.nb HF.out.nw HF.out.nc (fun x hx => (HF.out.fb x hx).zones)).mono ?_); rw [hf]; rintro e w1 ⟨rfl, hb⟩; obtain ⟨s, rfl⟩ := ext_of_below hb; clear hb)
    | (go_at_call 9; with_reducible refine (alive_any _).mono ?_; rintro e w1 ⟨rfl, hb⟩; obtain ⟨s, rfl⟩ := ext_of_below hb; clear hb))
  go_ret
  refine ⟨rfl, ?_⟩
  repeat' (first | with_reducible exact HBW.out | with_reducible exact Below.refl _ _ | with_reducible refine below_ext ?_ ?_ _ | with_reducible refine Below.alloc ?_ ?_ _ | with_reducible refine Below.setCell ?_ ?_ _ | with_reducible refine Below.drew ?_ | (simp; omega) | (simp; done) | (simp [go_sem]; omega) | (simp [go_sem]; done) | omega)

set_option maxRecDepth 100000 in
set_option maxHeartbeats 4000000 in
theorem units_yes (st : St) (Ab Aw Ac : Option Addr) (cb cw cc : Nat) (u : Ug) (zone : ByteArray) (family : Bool) (w : World) (hi : StIn w Ab Aw Ac cw cc st) (hF : StFits st) (hf : fewS st = true) (hfn : fits u.units) :
    Calls Try.prog 6 #[.agg #[.slice Ab st.bs.length cb, .slice Aw st.ws.length cw, .slice Ac st.cs.length cc], .agg #[.int .i64 u.id, .int .i64 u.kind, .int .i64 u.acc, .int .i64 u.sub, .string u.a, .string u.b, .int .i64 u.start, .int .i64 u.units, .int .i64 u.trunk, .bool u.inb, .int .i64 u.src, .int .i64 u.ser], .agg #[.string zone, .bool family]] w fun e w' => e = .returned (.bool true) ∧ Below w.heap.size w w' := by
  have ok := hF.ok hf
  have C1 : ∀ W, StIn W Ab Aw Ac cw cc st → Calls Try.prog 21 #[.agg #[.slice Ab st.bs.length cb, .slice Aw st.ws.length cw, .slice Ac st.cs.length cc], .agg #[.int .i64 u.id, .int .i64 u.kind, .int .i64 u.acc, .int .i64 u.sub, .string u.a, .string u.b, .int .i64 u.start, .int .i64 u.units, .int .i64 u.trunk, .bool u.inb, .int .i64 u.src, .int .i64 u.ser], .string zone, .bool family] W (UnitsPost (st.units (fun x => x.usable u.acc u.sub u.kind zone family u.start) u.units) W) := fun W h => units_any st Ab Aw Ac cb cw cc u zone family W ok h hfn
  have C2 : ∀ W, StIn W Ab Aw Ac cw cc st → Calls Try.prog 22 #[.agg #[.slice Ab st.bs.length cb, .slice Aw st.ws.length cw, .slice Ac st.cs.length cc], .agg #[.int .i64 u.id, .int .i64 u.kind, .int .i64 u.acc, .int .i64 u.sub, .string u.a, .string u.b, .int .i64 u.start, .int .i64 u.units, .int .i64 u.trunk, .bool u.inb, .int .i64 u.src, .int .i64 u.ser], .string zone, .bool family] W (UnitsPost (st.units (fun x => x.usable u.acc u.sub u.kind zone family u.start) u.units) W) := fun W h => runits_any st Ab Aw Ac cb cw cc u zone family W ok h hfn
  obtain ⟨hl1, hl2, hl3, hz, htl⟩ := units_small st u.acc u.sub u.kind zone family u.start u.units ok (fewS_yes hf).1
  generalize st.units (fun x => x.usable u.acc u.sub u.kind zone family u.start) u.units = r at *
  obtain ⟨s', ts, m⟩ := r
  dsimp only at *
  have HI := Lib.hid hi
  have HF := Lib.hid hF
  have HC1 := Lib.hid C1
  have HC2 := Lib.hid C2
  have HZ := Lib.hid hz
  clear C1 C2 hz hi hF ok hfn
  go_enter Try.func6, Try.ntmps6
  go_wp2_with (first
    | (go_at_call 8; (with_reducible refine (fews_any st Ab Aw Ac cb cw cc _ (((HI.out.alloc _).alloc _).alloc _).b HF.out.nb HF.out.nw HF.out.nc (fun x hx => (HF.out.fb x hx).zones)).mono ?_); rw [hf]; rintro e w1 ⟨rfl, hb⟩; obtain ⟨s, rfl⟩ := ext_of_below hb; clear hb)
    | (go_at_call 21; (refine (HC1.out _ ((((HI.out.alloc _).alloc _).alloc _).ext _)).mono ?_); rintro e w1 ⟨v1, v2, v3, v7, rfl, os1, ot1, hb1⟩; obtain ⟨A1, A2, A3, c1, c2, c3, rfl, rfl, rfl, hin1⟩ := os1.form; obtain ⟨A7, c7, rfl, htk1⟩ := ot1.form; obtain ⟨hcc, hff⟩ := bcell hb1; have hsz1 := hb1.size; simp [go_sem] at hsz1; have hz1 : w.heap.size < w1.heap.size := (by omega); have hz2 : w.heap.size + 1 < w1.heap.size := (by omega); have hz3 : w.heap.size + 1 + 1 < w1.heap.size := (by omega); have HA := Lib.hid hin1; have HT := Lib.hid htk1; have HI1 := Lib.hid (((((HI.out.alloc _).alloc _).alloc _).ext _).below hb1); have HBW := Lib.hid ((below_ext ((((Below.refl w.heap.size w).alloc (Nat.le_refl _) _).alloc (by simp) _).alloc (by simp; omega) _) (by simp; omega) s).trans (hb1.mono (by simp [go_sem]; omega))); clear os1 hb1 hin1 ot1 htk1)
    | (go_at_call 22; (refine (HC2.out _ (HI1.out.alloc _)).mono ?_); rintro e w2 ⟨v4, v5, v6, v8, rfl, os2, ot2, hb2⟩; obtain ⟨A4, A5, A6, c4, c5, c6, rfl, rfl, rfl, hin2⟩ := os2.form; obtain ⟨A8, c8, rfl, htk2⟩ := ot2.form; obtain ⟨s2, rfl⟩ := ext_of_below hb2; have HB2 := Lib.hid hin2; have HT2 := Lib.hid htk2; clear os2 hb2 hin2 ot2 htk2)
    | (go_at_call 12; (refine (samest_any s' A1 A2 A3 A4 A5 A6 c1 c2 c3 c4 c5 c6 _ (((HA.out.alloc _).ext _).alloc _).b (HB2.out.alloc _).b (((HA.out.alloc _).ext _).alloc _).s (HB2.out.alloc _).s (((HA.out.alloc _).ext _).alloc _).c (HB2.out.alloc _).c hl1 hl2 hl3 HZ.out).mono ?_); rintro e w1 ⟨rfl, hb⟩; obtain ⟨s, rfl⟩ := ext_of_below hb; clear hb)
    | (go_at_call 23; (refine (same_any ts A7 A8 c7 c8 _ htl ((((HT.out.alloc _).ext _).alloc _).ext _) ((HT2.out.alloc _).ext _)).mono ?_); rintro e w1 ⟨rfl, hb⟩; obtain ⟨s, rfl⟩ := ext_of_below hb; clear hb)
    | (go_at_call 9; with_reducible refine (alive_any _).mono ?_; rintro e w1 ⟨rfl, hb⟩; obtain ⟨s, rfl⟩ := ext_of_below hb; clear hb))
  go_ret
  refine ⟨rfl, ?_⟩
  repeat' (first | with_reducible exact HBW.out | with_reducible exact Below.refl _ _ | with_reducible refine below_ext ?_ ?_ _ | with_reducible refine Below.alloc ?_ ?_ _ | with_reducible refine Below.setCell ?_ ?_ _ | with_reducible refine Below.drew ?_ | (simp; omega) | (simp; done) | (simp [go_sem]; omega) | (simp [go_sem]; done) | omega)

theorem walk_consumeUnits (v : Value) (u : Ug) (zone : ByteArray) (family : Bool) (w : World) (h : InSt w v) (hfn : fits u.units) :
    Calls Try.prog 6 #[v, .agg #[.int .i64 u.id, .int .i64 u.kind, .int .i64 u.acc, .int .i64 u.sub, .string u.a, .string u.b, .int .i64 u.start, .int .i64 u.units, .int .i64 u.trunk, .bool u.inb, .int .i64 u.src, .int .i64 u.ser], .agg #[.string zone, .bool family]] w fun e w' => e = .returned (.bool true) ∧ Below w.heap.size w w' := by
  obtain ⟨st, Ab, Aw, Ac, cb, cw, cc, rfl, hi, hF⟩ := h
  cases hf : fewS st
  · exact units_few st Ab Aw Ac cb cw cc u zone family w hi hF hf
  · exact units_yes st Ab Aw Ac cb cw cc u zone family w hi hF hf hfn
end Go.Proofs.Ythkollhebabhbaa

/-
  The walk of ConsumeBack.
-/
import Derived.Test.YthkollhebabhbaaCb
namespace Go.Proofs.Ythkollhebabhbaa
open Go.RowKit
set_option linter.unusedSimpArgs false
set_option linter.unusedVariables false

def BackOf (st s1 : St) (ts : List Tk) (a n : Int) (pre : Bool) : Prop := ∃ s2 pd rs, s1.pay a n pre = (s2, pd, rs) ∧ s2.undo a ts pd = (st, 0) ∧ StOk s1 ∧ StOk s2 ∧ ts.length ≤ 1000 ∧ ∀ t ∈ ts, fits t.units
theorem units_back (st : St) (Ab Aw Ac : Option Addr) (cb cw cc : Nat) (u : Ug) (zone : ByteArray) (family : Bool) (a n : Int) (pre : Bool) (w : World) (ok : StOk st) (hd : Distinct st.bs) (hi : StIn w Ab Aw Ac cw cc st) (hfn : fits u.units) :
    Calls Try.prog 21 #[.agg #[.slice Ab st.bs.length cb, .slice Aw st.ws.length cw, .slice Ac st.cs.length cc], .agg #[.int .i64 u.id, .int .i64 u.kind, .int .i64 u.acc, .int .i64 u.sub, .string u.a, .string u.b, .int .i64 u.start, .int .i64 u.units, .int .i64 u.trunk, .bool u.inb, .int .i64 u.src, .int .i64 u.ser], .string zone, .bool family] w fun e w' => ∃ s1 ts m, BackOf st s1 ts a n pre ∧ UnitsPost (s1, ts, m) w e w' := by
  refine (units_any st Ab Aw Ac cb cw cc u zone family w ok hi hfn).mono fun e w' h => ?_
  have hu := usable_ok u.acc u.sub u.kind zone family u.start
  have hb := back_law st hu hd u.units a n pre
  have o1 := units_ok (s := st) hu (n := u.units) ok
  have o2 := pay_ok a n pre o1
  have h3 : (st.units (fun x => x.usable u.acc u.sub u.kind zone family u.start) u.units).2.1.length ≤ 1000 := Nat.le_trans (take_tlen _ _ _) ok.nb
  have h4 : ∀ t ∈ (st.units (fun x => x.usable u.acc u.sub u.kind zone family u.start) u.units).2.1, fits t.units := take_tfits hu hfn.2
  refine ⟨_, _, _, ⟨_, _, _, rfl, hb, o1, o2, h3, h4⟩, h⟩

set_option maxRecDepth 100000 in
set_option maxHeartbeats 4000000 in
theorem back_no (st : St) (Ab Aw Ac : Option Addr) (cb cw cc : Nat) (u : Ug) (a n : Int) (pre : Bool) (w : World) (hi : StIn w Ab Aw Ac cw cc st) (hF : StFits st) (hf : fewS st = false ∨ (fewS st = true ∧ distB st.bs = false)) :
    Calls Try.prog 7 #[.agg #[.slice Ab st.bs.length cb, .slice Aw st.ws.length cw, .slice Ac st.cs.length cc], .agg #[.int .i64 u.id, .int .i64 u.kind, .int .i64 u.acc, .int .i64 u.sub, .string u.a, .string u.b, .int .i64 u.start, .int .i64 u.units, .int .i64 u.trunk, .bool u.inb, .int .i64 u.src, .int .i64 u.ser], .agg #[.int .i64 a, .int .i64 n, .bool pre]] w fun e w' => e = .returned (.bool true) ∧ Below w.heap.size w w' := by
  have HI := Lib.hid hi
  have HF := Lib.hid hF
  clear hi hF
  rcases hf with hf | ⟨hf, hd⟩
  · go_enter Try.func7, Try.ntmps7
    go_wp2_with (first
      | (go_at_call 8; (with_reducible refine (fews_any st Ab Aw Ac cb cw cc _ (((HI.out.alloc _).alloc _).alloc _).b HF.out.nb HF.out.nw HF.out.nc (fun x hx => (HF.out.fb x hx).zones)).mono ?_); rw [hf]; rintro e w1 ⟨rfl, hb⟩; obtain ⟨s, rfl⟩ := ext_of_below hb; clear hb)
      | (go_at_call 9; with_reducible refine (alive_any _).mono ?_; rintro e w1 ⟨rfl, hb⟩; obtain ⟨s, rfl⟩ := ext_of_below hb; clear hb))
    go_ret
    refine ⟨rfl, ?_⟩
    repeat' (first | with_reducible exact HBW.out | with_reducible exact Below.refl _ _ | with_reducible refine below_ext ?_ ?_ _ | with_reducible refine Below.alloc ?_ ?_ _ | with_reducible refine Below.setCell ?_ ?_ _ | with_reducible refine Below.drew ?_ | (simp; omega) | (simp; done) | (simp [go_sem]; omega) | (simp [go_sem]; done) | omega)
  · have hnb := (HF.out.ok hf).nb
    have HD := Lib.hid hd
    clear hd
    go_enter Try.func7, Try.ntmps7
    go_wp2_with (first
      | (go_at_call 8; (with_reducible refine (fews_any st Ab Aw Ac cb cw cc _ (((HI.out.alloc _).alloc _).alloc _).b HF.out.nb HF.out.nw HF.out.nc (fun x hx => (HF.out.fb x hx).zones)).mono ?_); rw [hf]; rintro e w1 ⟨rfl, hb⟩; obtain ⟨s, rfl⟩ := ext_of_below hb; clear hb)
      | (go_at_call 24; (with_reducible refine (distinct_any st.bs Ab cb _ hnb ((((HI.out.alloc _).alloc _).alloc _).ext _).b).mono ?_); rw [HD.out]; rintro e w1 ⟨rfl, hb⟩; obtain ⟨s, rfl⟩ := ext_of_below hb; clear hb)
      | (go_at_call 9; with_reducible refine (alive_any _).mono ?_; rintro e w1 ⟨rfl, hb⟩; obtain ⟨s, rfl⟩ := ext_of_below hb; clear hb))
    go_ret
    refine ⟨rfl, ?_⟩
    repeat' (first | with_reducible exact HBW.out | with_reducible exact Below.refl _ _ | with_reducible refine below_ext ?_ ?_ _ | with_reducible refine Below.alloc ?_ ?_ _ | with_reducible refine Below.setCell ?_ ?_ _ | with_reducible refine Below.drew ?_ | (simp; omega) | (simp; done) | (simp [go_sem]; omega) | (simp [go_sem]; done) | omega)

set_option maxRecDepth 100000 in
set_option maxHeartbeats 8000000 in
theorem back_yes (st : St) (Ab Aw Ac : Option Addr) (cb cw cc : Nat) (u : Ug) (a n : Int) (pre : Bool) (w : World) (hi : StIn w Ab Aw Ac cw cc st) (hF : StFits st) (hf : fewS st = true) (hd : distB st.bs = true) (hfu : fits u.units) (hfa : fits a) (hfn : fits n) :
    Calls Try.prog 7 #[.agg #[.slice Ab st.bs.length cb, .slice Aw st.ws.length cw, .slice Ac st.cs.length cc], .agg #[.int .i64 u.id, .int .i64 u.kind, .int .i64 u.acc, .int .i64 u.sub, .string u.a, .string u.b, .int .i64 u.start, .int .i64 u.units, .int .i64 u.trunk, .bool u.inb, .int .i64 u.src, .int .i64 u.ser], .agg #[.int .i64 a, .int .i64 n, .bool pre]] w fun e w' => e = .returned (.bool true) ∧ Below w.heap.size w w' := by
  have ok := hF.ok hf
  have hl1 := ok.nb
  have hl2 := ok.nw
  have hl3 := ok.nc
  have hz : ∀ x ∈ st.bs, x.zones.length ≤ 1000 := fun x hx => Nat.le_trans (ok.z x hx) (by omega)
  have C1 : ∀ W zone family, StIn W Ab Aw Ac cw cc st → Calls Try.prog 21 #[.agg #[.slice Ab st.bs.length cb, .slice Aw st.ws.length cw, .slice Ac st.cs.length cc], .agg #[.int .i64 u.id, .int .i64 u.kind, .int .i64 u.acc, .int .i64 u.sub, .string u.a, .string u.b, .int .i64 u.start, .int .i64 u.units, .int .i64 u.trunk, .bool u.inb, .int .i64 u.src, .int .i64 u.ser], .string zone, .bool family] W fun e w' => ∃ s1 ts m, BackOf st s1 ts a n pre ∧ UnitsPost (s1, ts, m) W e w' := fun W zone family h => units_back st Ab Aw Ac cb cw cc u zone family a n pre W ok (distB_spec hd) h hfu
  have HI := Lib.hid hi
  have HF := Lib.hid hF
  have HC1 := Lib.hid C1
  have HZ := Lib.hid hz
  have HD := Lib.hid hd
  have HFA := Lib.hid hfa
  have HFN := Lib.hid hfn
  clear C1 hz hi hF ok hfu hfa hfn hd
  go_enter Try.func7, Try.ntmps7
  go_wp2_with (first
    | (go_at_call 8; (with_reducible refine (fews_any st Ab Aw Ac cb cw cc _ (((HI.out.alloc _).alloc _).alloc _).b HF.out.nb HF.out.nw HF.out.nc (fun x hx => (HF.out.fb x hx).zones)).mono ?_); rw [hf]; rintro e w1 ⟨rfl, hb⟩; obtain ⟨s, rfl⟩ := ext_of_below hb; clear hb)
    | (go_at_call 24; (with_reducible refine (distinct_any st.bs Ab cb _ hl1 ((((HI.out.alloc _).alloc _).alloc _).ext _).b).mono ?_); rw [HD.out]; rintro e wd ⟨rfl, hbd⟩; obtain ⟨sd, rfl⟩ := ext_of_below hbd; rw [ext_ext]; clear hbd)
    | (go_at_call 21; (refine (HC1.out _ _ _ ((((HI.out.alloc _).alloc _).alloc _).ext _)).mono ?_); rintro e w1 ⟨s1, ts, m, ⟨s2, pd, rs, hpay, hundo, ok1, ok2, htl, htf⟩, v1, v2, v3, v7, rfl, os1, ot1, hb1⟩; dsimp only at os1 ot1; obtain ⟨A1, A2, A3, c1, c2, c3, rfl, rfl, rfl, hin1⟩ := os1.form; obtain ⟨A7, c7, rfl, htk1⟩ := ot1.form; obtain ⟨hcc, hff⟩ := bcell hb1; have hsz1 := hb1.size; simp [go_sem] at hsz1; have hz1 : w.heap.size < w1.heap.size := (by omega); have hz2 : w.heap.size + 1 < w1.heap.size := (by omega); have hz3 : w.heap.size + 1 + 1 < w1.heap.size := (by omega); have HA := Lib.hid hin1; have HT := Lib.hid htk1; have HI1 := Lib.hid (((((HI.out.alloc _).alloc _).alloc _).ext _).below hb1); have HBW := Lib.hid ((below_ext ((((Below.refl w.heap.size w).alloc (Nat.le_refl _) _).alloc (by simp) _).alloc (by simp; omega) _) (by simp; omega) _).trans (hb1.mono (by simp [go_sem]; omega))); have HPAY := Lib.hid hpay; have HUNDO := Lib.hid hundo; have HOK1 := Lib.hid ok1; have HOK2 := Lib.hid ok2; have HTF := Lib.hid htf; clear os1 hb1 hin1 ot1 htk1 hpay hundo ok1 ok2 htf)
    | (go_at_call 10; (refine (pay_any s1 A1 A2 A3 c1 c2 c3 a n pre _ HOK1.out (HA.out.alloc _) HFA.out HFN.out).mono ?_); rw [HPAY.out]; rintro e w2 ⟨v4, v5, v6, rfl, os2, hb2⟩; dsimp only at os2; obtain ⟨A4, A5, A6, c4, c5, c6, rfl, rfl, rfl, hin2⟩ := os2.form; obtain ⟨t2, rfl⟩ := ext_of_below hb2; have HB2 := Lib.hid hin2; clear os2 hb2 hin2)
    | (go_at_call 16; (refine (undo_any s2 A4 A5 A6 A7 c4 c5 c6 c7 a pd _ HOK2.out (HB2.out.alloc _) HFA.out ts htl (((HT.out.alloc _).ext _).alloc _) HTF.out).mono ?_); rw [HUNDO.out]; rintro e w3 ⟨v8, v9, v0, rfl, os3, hb3⟩; dsimp only at os3; obtain ⟨A8, A9, A0, c8, c9, c0, rfl, rfl, rfl, hin3⟩ := os3.form; obtain ⟨t3, rfl⟩ := ext_of_below hb3; have HB3 := Lib.hid hin3; clear os3 hb3 hin3)
    | (go_at_call 12; (refine (samest_any st A8 A9 A0 Ab Aw Ac c8 c9 c0 cb cw cc _ (HB3.out.alloc _).b (((((HI1.out.alloc _).ext _).alloc _).ext _).alloc _).b (HB3.out.alloc _).s (((((HI1.out.alloc _).ext _).alloc _).ext _).alloc _).s (HB3.out.alloc _).c (((((HI1.out.alloc _).ext _).alloc _).ext _).alloc _).c hl1 hl2 hl3 HZ.out).mono ?_); rintro e w1 ⟨rfl, hb⟩; obtain ⟨s, rfl⟩ := ext_of_below hb; clear hb)
    | (go_at_call 9; with_reducible refine (alive_any _).mono ?_; rintro e w1 ⟨rfl, hb⟩; obtain ⟨s, rfl⟩ := ext_of_below hb; clear hb))
  go_ret
  refine ⟨rfl, ?_⟩
  repeat' (first | with_reducible exact HBW.out | with_reducible exact Below.refl _ _ | with_reducible refine below_ext ?_ ?_ _ | with_reducible refine Below.alloc ?_ ?_ _ | with_reducible refine Below.setCell ?_ ?_ _ | with_reducible refine Below.drew ?_ | (simp; omega) | (simp; done) | (simp [go_sem]; omega) | (simp [go_sem]; done) | omega)

theorem walk_consumeBack (v : Value) (u : Ug) (a n : Int) (pre : Bool) (w : World) (h : InSt w v) (hfu : fits u.units) (hfa : fits a) (hfn : fits n) :
    Calls Try.prog 7 #[v, .agg #[.int .i64 u.id, .int .i64 u.kind, .int .i64 u.acc, .int .i64 u.sub, .string u.a, .string u.b, .int .i64 u.start, .int .i64 u.units, .int .i64 u.trunk, .bool u.inb, .int .i64 u.src, .int .i64 u.ser], .agg #[.int .i64 a, .int .i64 n, .bool pre]] w fun e w' => e = .returned (.bool true) ∧ Below w.heap.size w w' := by
  obtain ⟨st, Ab, Aw, Ac, cb, cw, cc, rfl, hi, hF⟩ := h
  cases hf : fewS st
  · exact back_no st Ab Aw Ac cb cw cc u a n pre w hi hF (.inl hf)
  · cases hd : distB st.bs
    · exact back_no st Ab Aw Ac cb cw cc u a n pre w hi hF (.inr ⟨hf, hd⟩)
    · exact back_yes st Ab Aw Ac cb cw cc u a n pre w hi hF hf hd hfu hfa hfn
end Go.Proofs.Ythkollhebabhbaa

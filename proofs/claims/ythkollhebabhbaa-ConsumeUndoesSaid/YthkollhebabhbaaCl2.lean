/-
  The walk of ConsumeUndoes.
-/
import Derived.Test.YthkollhebabhbaaCe3
import Derived.Test.YthkollhebabhbaaOpenT
import Derived.Test.YthkollhebabhbaaBz
namespace Go.Proofs.Ythkollhebabhbaa
open Go.RowKit
set_option linter.unusedSimpArgs false
set_option linter.unusedVariables false

theorem undo_small (s : St) (a : Int) (ts : List Tk) (n : Int) (ok : StOk s) : (s.undo a ts n).1.bs.length ≤ 1000 ∧ (s.undo a ts n).1.ws.length ≤ 1000 ∧ (s.undo a ts n).1.cs.length ≤ 1000 ∧ ∀ x ∈ (s.undo a ts n).1.bs, x.zones.length ≤ 1000 := by
  have hz : ∀ x ∈ (give ts s.bs).1, x.zones.length ≤ 1000 := fun y hy => by
    obtain ⟨x, hx, l, rfl⟩ := give_mem ts s.bs y hy
    exact Nat.le_trans (ok.z x hx) (by omega)
  have hl := Nat.le_trans (give_len ts s.bs) ok.nb
  have h0 : St.nil.bs.length ≤ 1000 ∧ St.nil.ws.length ≤ 1000 ∧ St.nil.cs.length ≤ 1000 ∧ ∀ x ∈ St.nil.bs, x.zones.length ≤ 1000 := ⟨by decide, by decide, by decide, fun x hx => by cases hx⟩
  unfold St.undo
  split
  · exact h0
  · split
    · exact ⟨hl, ok.nw, ok.nc, hz⟩
    · split
      · exact h0
      · split
        · exact ⟨hl, by simpa using ok.nw, ok.nc, hz⟩
        · exact h0

set_option maxRecDepth 100000 in
set_option maxHeartbeats 2000000 in
theorem undoes_few (st : St) (Ab Aw Ac At : Option Addr) (cb cw cc ct : Nat) (ts : List Tk) (a n : Int) (pre : Bool) (w : World) (hi : StIn w Ab Aw Ac cw cc st) (hF : StFits st) (hn : ts.length ≤ maxLen) (hf : fewS st = false ∨ 12 < ts.length) :
    Calls Try.prog 4 #[.agg #[.slice Ab st.bs.length cb, .slice Aw st.ws.length cw, .slice Ac st.cs.length cc], .slice At ts.length ct, .agg #[.int .i64 a, .int .i64 n, .bool pre]] w fun e w' => e = .returned (.bool true) ∧ Below w.heap.size w w' := by
  have HI := Lib.hid hi
  have HF := Lib.hid hF
  clear hi hF
  rcases hfs : fewS st with _ | _
  · clear hf
    go_enter Try.func4, Try.ntmps4
    go_wp2_with (first
      | (go_at_call 8; (with_reducible refine (fews_any st Ab Aw Ac cb cw cc _ ((HI.out.alloc _).alloc _).b HF.out.nb HF.out.nw HF.out.nc (fun x hx => (HF.out.fb x hx).zones)).mono ?_); rw [hfs]; rintro e w1 ⟨rfl, hb⟩; obtain ⟨s, rfl⟩ := ext_of_below hb; clear hb)
      | (go_at_call 9; with_reducible refine (alive_any _).mono ?_; rintro e w1 ⟨rfl, hb⟩; obtain ⟨s, rfl⟩ := ext_of_below hb; clear hb))
    go_ret
    refine ⟨rfl, ?_⟩
    repeat' (first | with_reducible exact HBW.out | with_reducible exact Below.refl _ _ | with_reducible refine below_ext ?_ ?_ _ | with_reducible refine Below.alloc ?_ ?_ _ | with_reducible refine Below.setCell ?_ ?_ _ | with_reducible refine Below.drew ?_ | (simp; omega) | (simp; done) | (simp [go_sem]; omega) | (simp [go_sem]; done) | omega)
  · have hlt : 12 < (ts.length : Int) := by
      rcases hf with hf | hf
      · rw [hfs] at hf; cases hf
      · omega
    clear hf
    go_enter Try.func4, Try.ntmps4
    go_wp2_with (first
      | (go_at_call 8; (with_reducible refine (fews_any st Ab Aw Ac cb cw cc _ ((HI.out.alloc _).alloc _).b HF.out.nb HF.out.nw HF.out.nc (fun x hx => (HF.out.fb x hx).zones)).mono ?_); rw [hfs]; rintro e w1 ⟨rfl, hb⟩; obtain ⟨s, rfl⟩ := ext_of_below hb; clear hb)
      | (go_at_call 9; with_reducible refine (alive_any _).mono ?_; rintro e w1 ⟨rfl, hb⟩; obtain ⟨s, rfl⟩ := ext_of_below hb; clear hb))
    go_ret
    refine ⟨rfl, ?_⟩
    repeat' (first | with_reducible exact HBW.out | with_reducible exact Below.refl _ _ | with_reducible refine below_ext ?_ ?_ _ | with_reducible refine Below.alloc ?_ ?_ _ | with_reducible refine Below.setCell ?_ ?_ _ | with_reducible refine Below.drew ?_ | (simp; omega) | (simp; done) | (simp [go_sem]; omega) | (simp [go_sem]; done) | omega)

set_option maxRecDepth 100000 in
set_option maxHeartbeats 4000000 in
theorem undoes_yes (st : St) (Ab Aw Ac At : Option Addr) (cb cw cc ct : Nat) (ts : List Tk) (a n : Int) (pre : Bool) (w : World) (hi : StIn w Ab Aw Ac cw cc st) (hF : StFits st) (hf : fewS st = true) (hfa : fits a) (hfn : fits n) (htl : ts.length ≤ 12) (ht : Tks w At ts) (hft : ∀ t ∈ ts, fits t.units) :
    Calls Try.prog 4 #[.agg #[.slice Ab st.bs.length cb, .slice Aw st.ws.length cw, .slice Ac st.cs.length cc], .slice At ts.length ct, .agg #[.int .i64 a, .int .i64 n, .bool pre]] w fun e w' => e = .returned (.bool true) ∧ Below w.heap.size w w' := by
  have ok := hF.ok hf
  have C1 : ∀ W, StIn W Ab Aw Ac cw cc st → Tks W At ts → Calls Try.prog 16 #[.agg #[.slice Ab st.bs.length cb, .slice Aw st.ws.length cw, .slice Ac st.cs.length cc], .int .i64 a, .slice At ts.length ct, .int .i64 n] W (UndoPost (st.undo a ts n) W) := fun W h h' => undo_any st Ab Aw Ac At cb cw cc ct a n W ok h hfa ts (by omega) h' hft
  have C2 : ∀ W, StIn W Ab Aw Ac cw cc st → Tks W At ts → Calls Try.prog 17 #[.agg #[.slice Ab st.bs.length cb, .slice Aw st.ws.length cw, .slice Ac st.cs.length cc], .int .i64 a, .slice At ts.length ct, .int .i64 n] W (UndoPost (st.undo a ts n) W) := fun W h h' => rundo_any st Ab Aw Ac At cb cw cc ct a n W ok h hfa ts (by omega) h' hft
  obtain ⟨hl1, hl2, hl3, hz⟩ := undo_small st a ts n ok
  generalize st.undo a ts n = r at *
  obtain ⟨s', ue⟩ := r
  dsimp only at *
  have hlt : ¬ 12 < (ts.length : Int) := by omega
  have HI := Lib.hid hi
  have HT := Lib.hid ht
  have HF := Lib.hid hF
  have HC1 := Lib.hid C1
  have HC2 := Lib.hid C2
  have HZ := Lib.hid hz
  clear C1 C2 hz hi hF ht hft ok hfa htl
  go_enter Try.func4, Try.ntmps4
  go_wp2_with (first
    | (go_at_call 8; (with_reducible refine (fews_any st Ab Aw Ac cb cw cc _ ((HI.out.alloc _).alloc _).b HF.out.nb HF.out.nw HF.out.nc (fun x hx => (HF.out.fb x hx).zones)).mono ?_); rw [hf]; rintro e w1 ⟨rfl, hb⟩; obtain ⟨s, rfl⟩ := ext_of_below hb; clear hb)
    | (go_at_call 16; (refine (HC1.out _ (((HI.out.alloc _).alloc _).ext _) (((HT.out.alloc _).alloc _).ext _)).mono ?_); rintro e w1 ⟨v1, v2, v3, rfl, os1, hb1⟩; obtain ⟨A1, A2, A3, c1, c2, c3, rfl, rfl, rfl, hin1⟩ := os1.form; obtain ⟨hcc, hff⟩ := bcell hb1; have hsz1 := hb1.size; simp [go_sem] at hsz1; have hz1 : w.heap.size < w1.heap.size := (by omega); have hz2 : w.heap.size + 1 < w1.heap.size := (by omega); have HA := Lib.hid hin1; have HI1 := Lib.hid ((((HI.out.alloc _).alloc _).ext _).below hb1); have HT1 := Lib.hid ((((HT.out.alloc _).alloc _).ext _).below hb1); have HBW := Lib.hid ((below_ext (((Below.refl w.heap.size w).alloc (Nat.le_refl _) _).alloc (by simp) _) (by simp; omega) s).trans (hb1.mono (by simp [go_sem]; omega))); clear os1 hb1 hin1)
    | (go_at_call 17; (refine (HC2.out _ (HI1.out.alloc _) (HT1.out.alloc _)).mono ?_); rintro e w2 ⟨v4, v5, v6, rfl, os2, hb2⟩; obtain ⟨A4, A5, A6, c4, c5, c6, rfl, rfl, rfl, hin2⟩ := os2.form; obtain ⟨s2, rfl⟩ := ext_of_below hb2; have HB2 := Lib.hid hin2; clear os2 hb2 hin2)
    | (go_at_call 12; (refine (samest_any s' A1 A2 A3 A4 A5 A6 c1 c2 c3 c4 c5 c6 _ (((HA.out.alloc _).ext _).alloc _).b (HB2.out.alloc _).b (((HA.out.alloc _).ext _).alloc _).s (HB2.out.alloc _).s (((HA.out.alloc _).ext _).alloc _).c (HB2.out.alloc _).c hl1 hl2 hl3 HZ.out).mono ?_); rintro e w1 ⟨rfl, hb⟩; obtain ⟨s, rfl⟩ := ext_of_below hb; clear hb)
    | (go_at_call 9; with_reducible refine (alive_any _).mono ?_; rintro e w1 ⟨rfl, hb⟩; obtain ⟨s, rfl⟩ := ext_of_below hb; clear hb))
  go_ret
  refine ⟨rfl, ?_⟩
  repeat' (first | with_reducible exact HBW.out | with_reducible exact Below.refl _ _ | with_reducible refine below_ext ?_ ?_ _ | with_reducible refine Below.alloc ?_ ?_ _ | with_reducible refine Below.setCell ?_ ?_ _ | with_reducible refine Below.drew ?_ | (simp; omega) | (simp; done) | (simp [go_sem]; omega) | (simp [go_sem]; done) | omega)

theorem walk_consumeUndoes (v : Value) (At : Option Addr) (m ct : Nat) (a n : Int) (pre : Bool) (w : World) (h : InSt w v) (h' : InTks w At m) (hfa : fits a) (hfn : fits n) :
    Calls Try.prog 4 #[v, .slice At m ct, .agg #[.int .i64 a, .int .i64 n, .bool pre]] w fun e w' => e = .returned (.bool true) ∧ Below w.heap.size w w' := by
  obtain ⟨st, Ab, Aw, Ac, cb, cw, cc, rfl, hi, hF⟩ := h
  obtain ⟨ts, rfl, hm, ht, hft⟩ := h'
  by_cases hf : fewS st = false ∨ 12 < ts.length
  · exact undoes_few st Ab Aw Ac At cb cw cc ct ts a n pre w hi hF hm hf
  · have hf1 : fewS st = true := by
      cases hc : fewS st
      · exact absurd (.inl hc) hf
      · rfl
    exact undoes_yes st Ab Aw Ac At cb cw cc ct ts a n pre w hi hF hf1 hfa hfn (by omega) ht hft
end Go.Proofs.Ythkollhebabhbaa

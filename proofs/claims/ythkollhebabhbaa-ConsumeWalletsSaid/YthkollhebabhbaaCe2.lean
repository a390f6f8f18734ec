/-
  The walks of Units, the program's and the reference's.
-/
import Derived.Test.YthkollhebabhbaaCe1
import Derived.Test.YthkollhebabhbaaBw16
namespace Go.Proofs.Ythkollhebabhbaa
open Go.RowKit
set_option linter.unusedSimpArgs false
set_option linter.unusedVariables false

/-- Units: the state, the takes, and what is still wanted. -/
def St.units (s : St) (use : Bk → Bool) (n : Int) : St × List Tk × Int := ({ s with bs := (take s.bs use n).1 }, (take s.bs use n).2.1, (take s.bs use n).2.2)
def UnitsPost (r : St × List Tk × Int) (w : World) (e : Ending) (w' : World) : Prop := ∃ vb vw vc vt, e = .returned (.tuple #[.agg #[vb, vw, vc], vt, .int .i64 r.2.2]) ∧ OwnSt w' w.heap.size vb vw vc r.1 ∧ OwnTks w' w.heap.size vt r.2.1 ∧ Below w.heap.size w w'
/-- A usage as its twelve cells. -/
structure Ug where
  id : Int
  kind : Int
  acc : Int
  sub : Int
  a : ByteArray
  b : ByteArray
  start : Int
  units : Int
  trunk : Int
  inb : Bool
  src : Int
  ser : Int
theorem res_cells3 {w w1 : World} {o p : Obj} (hb : Below (((w.alloc o).alloc p).alloc (Obj.cells #[.slice none 0 0, .slice none 0 0, .slice none 0 0] 26)).heap.size (((w.alloc o).alloc p).alloc (Obj.cells #[.slice none 0 0, .slice none 0 0, .slice none 0 0] 26)) w1) :
    w1.cell? ⟨w.heap.size + 1 + 1, 0, none⟩ = some (.slice none 0 0) ∧ w1.cell? ⟨w.heap.size + 1 + 1, 1, none⟩ = some (.slice none 0 0) ∧ w1.cell? ⟨w.heap.size + 1 + 1, 2, none⟩ = some (.slice none 0 0) := by
  have h : ∀ i, w1.cell? ⟨w.heap.size + 1 + 1, i, none⟩ = (((w.alloc o).alloc p).alloc (Obj.cells #[.slice none 0 0, .slice none 0 0, .slice none 0 0] 26)).cell? ⟨w.heap.size + 1 + 1, i, none⟩ := fun i => hb.cell (p := ⟨w.heap.size + 1 + 1, i, none⟩) (by simp)
  exact ⟨(h 0).trans (by simp [go_sem]), (h 1).trans (by simp [go_sem]), (h 2).trans (by simp [go_sem])⟩
theorem own_swap_cat {W W' : World} {s : More} {base : Nat} {e : TypeId} {size : Nat} {v : Value} {n : Nat} {xs : List Value} (h : (ext W s).ownsRow base e size v n xs) (hs : W'.heap.size = W.heap.size) (hB : W.heap.size ≤ base) {t : More} (hle : More.le s t) : (ext W' t).ownsRow base e size v n xs := own_swap (own_le h hle) hs hB

set_option maxRecDepth 100000 in
set_option maxHeartbeats 2000000 in
theorem units_any (st : St) (Ab Aw Ac : Option Addr) (cb cw cc : Nat) (u : Ug) (zone : ByteArray) (family : Bool) (w : World) (ok : StOk st) (hi : StIn w Ab Aw Ac cw cc st) (hfn : fits u.units) :
    Calls Try.prog 21 #[.agg #[.slice Ab st.bs.length cb, .slice Aw st.ws.length cw, .slice Ac st.cs.length cc], .agg #[.int .i64 u.id, .int .i64 u.kind, .int .i64 u.acc, .int .i64 u.sub, .string u.a, .string u.b, .int .i64 u.start, .int .i64 u.units, .int .i64 u.trunk, .bool u.inb, .int .i64 u.src, .int .i64 u.ser], .string zone, .bool family] w (UnitsPost (st.units (fun x => x.usable u.acc u.sub u.kind zone family u.start) u.units) w) := by
  have C1 : ∀ W, StIn W Ab Aw Ac cw cc st → Calls Try.prog 26 #[.agg #[.slice Ab st.bs.length cb, .slice Aw st.ws.length cw, .slice Ac st.cs.length cc]] W (ClonedSt st W) := fun W h => cclone_any st Ab Aw Ac cb cw cc W ok.nb ok.nw ok.nc ok.z h.b h.s h.c h.wn h.cn
  have C0 : ∀ W, Bks W Ab st.bs → Calls Try.prog 48 #[.slice Ab st.bs.length cb, .int .i64 u.acc, .int .i64 u.sub, .int .i64 u.kind, .string zone, .bool family, .int .i64 u.start, .int .i64 u.units] W (TakeR (take st.bs (fun x => x.usable u.acc u.sub u.kind zone family u.start) u.units) W) := fun W h => take_any st.bs Ab cb u.acc u.sub u.kind zone family u.start u.units W ok.nb ok.z h hfn.2 (fun x hx => (ok.fb x hx).1.2)
  have HI := Lib.hid hi
  unfold UnitsPost St.units
  generalize take st.bs (fun x => x.usable u.acc u.sub u.kind zone family u.start) u.units = r at *
  obtain ⟨bs', ts, m⟩ := r
  dsimp only
  have HC0 := Lib.hid C0
  have HC1 := Lib.hid C1
  clear C0 C1 hi ok hfn
  go_enter Try.func21, Try.ntmps21
  go_wp2_with (first
    | (go_at_call 26; refine (HC1.out _ (((HI.out.alloc _).alloc _).alloc _)).mono ?_; rintro e w1 ⟨v1, v2, v3, rfl, os1, hb1⟩; obtain ⟨A1, A2, A3, c1, c2, c3, rfl, rfl, rfl, _⟩ := os1.form; obtain ⟨hr0, hr1, hr2⟩ := res_cells3 hb1; obtain ⟨hcc, hff⟩ := bcell hb1; have hsz1 := hb1.size; simp at hsz1; have hz1 : w.heap.size < w1.heap.size := (by omega); have hz2 : w.heap.size + 1 < w1.heap.size := (by omega); have hz3 : w.heap.size + 1 + 1 < w1.heap.size := (by omega); have HO1 := Lib.hid (os1.mono (B' := w.heap.size + 3) (by simp)); have HBB := Lib.hid (((((HI.out.alloc _).alloc _).alloc _).b).below hb1); have HBW := Lib.hid (((((Below.refl w.heap.size w).alloc (Nat.le_refl _) _).alloc (by simp) _).alloc (by simp; omega) _).trans (hb1.mono (by simp; omega))); clear os1 hb1)
    | (go_at_call 48; refine (HC0.out _ (HBB.out.alloc _)).mono ?_; rintro e w2 ⟨v4, v5, rfl, own4, tk5, hb2⟩; obtain ⟨A4, c4, rfl, _, _⟩ := own4.form; obtain ⟨A5, c5, rfl, _⟩ := tk5.form; obtain ⟨s2, rfl⟩ := ext_of_below hb2; have HO4 := Lib.hid own4; have HO5 := Lib.hid tk5; clear own4 tk5 hb2))
  refine bodyPost_ret (by simp [results, Try.results21, go_sem, hz1, hz2, hz3, hcc, hff, hr0, hr1, hr2]; first | done | rfl) rfl ?_
  refine ⟨_, _, _, _, rfl, OwnSt.mono (B := w.heap.size + 3) (OwnSt.replace (vb := .slice A1 st.bs.length c1) (s := st) ?_ ?_) (by omega), ?_, ?_⟩
  · repeat' (first | with_reducible exact HO1.out | with_reducible refine OwnSt.ext ?_ _ | with_reducible refine OwnSt.alloc ?_ _ | with_reducible refine OwnSt.low ?_ ?_ | (simp; omega) | (simp; done) | omega)
  · exact OwnBks.mono (OwnBks.swap (HO4.out.le (by repeat' (first | exact More.le_refl _ | refine More.le_draw ?_ | refine More.le_cat ?_ _ | refine More.le_add ?_ _))) (by simp) (by simp)) (by simp; omega)
  · unfold OwnTks
    exact own_mono (own_swap_cat HO5.out (by simp) (by simp) (by repeat' (first | exact More.le_refl _ | refine More.le_draw ?_ | refine More.le_cat ?_ _ | refine More.le_add ?_ _))) (by simp; omega)
  · repeat' (first | with_reducible exact HBW.out | with_reducible exact Below.refl _ _ | with_reducible refine below_ext ?_ ?_ _ | with_reducible refine Below.alloc ?_ ?_ _ | with_reducible refine Below.setCell ?_ ?_ _ | with_reducible refine Below.drew ?_ | (simp; omega) | (simp; done) | (simp [go_sem]; omega) | (simp [go_sem]; done) | omega)

set_option maxRecDepth 100000 in
set_option maxHeartbeats 2000000 in
theorem runits_any (st : St) (Ab Aw Ac : Option Addr) (cb cw cc : Nat) (u : Ug) (zone : ByteArray) (family : Bool) (w : World) (ok : StOk st) (hi : StIn w Ab Aw Ac cw cc st) (hfn : fits u.units) :
    Calls Try.prog 22 #[.agg #[.slice Ab st.bs.length cb, .slice Aw st.ws.length cw, .slice Ac st.cs.length cc], .agg #[.int .i64 u.id, .int .i64 u.kind, .int .i64 u.acc, .int .i64 u.sub, .string u.a, .string u.b, .int .i64 u.start, .int .i64 u.units, .int .i64 u.trunk, .bool u.inb, .int .i64 u.src, .int .i64 u.ser], .string zone, .bool family] w (UnitsPost (st.units (fun x => x.usable u.acc u.sub u.kind zone family u.start) u.units) w) := by
  have C1 : ∀ W, StIn W Ab Aw Ac cw cc st → Calls Try.prog 30 #[.agg #[.slice Ab st.bs.length cb, .slice Aw st.ws.length cw, .slice Ac st.cs.length cc]] W (ClonedSt st W) := fun W h => rclone_any st Ab Aw Ac cb cw cc W ok.nb ok.nw ok.nc ok.z h.b h.s h.c h.wn h.cn
  have C0 : ∀ W, Bks W Ab st.bs → Calls Try.prog 49 #[.slice Ab st.bs.length cb, .int .i64 u.acc, .int .i64 u.sub, .int .i64 u.kind, .string zone, .bool family, .int .i64 u.start, .int .i64 u.units] W (TakeR (take st.bs (fun x => x.usable u.acc u.sub u.kind zone family u.start) u.units) W) := fun W h => rtake_any st.bs Ab cb u.acc u.sub u.kind zone family u.start u.units W ok.nb ok.z h hfn.2 (fun x hx => (ok.fb x hx).1.2)
  have HI := Lib.hid hi
  unfold UnitsPost St.units
  generalize take st.bs (fun x => x.usable u.acc u.sub u.kind zone family u.start) u.units = r at *
  obtain ⟨bs', ts, m⟩ := r
  dsimp only
  have HC0 := Lib.hid C0
  have HC1 := Lib.hid C1
  clear C0 C1 hi ok hfn
  go_enter Try.func22, Try.ntmps22
  go_wp2_with (first
    | (go_at_call 30; refine (HC1.out _ (((HI.out.alloc _).alloc _).alloc _)).mono ?_; rintro e w1 ⟨v1, v2, v3, rfl, os1, hb1⟩; obtain ⟨A1, A2, A3, c1, c2, c3, rfl, rfl, rfl, _⟩ := os1.form; obtain ⟨hr0, hr1, hr2⟩ := res_cells3 hb1; obtain ⟨hcc, hff⟩ := bcell hb1; have hsz1 := hb1.size; simp at hsz1; have hz1 : w.heap.size < w1.heap.size := (by omega); have hz2 : w.heap.size + 1 < w1.heap.size := (by omega); have hz3 : w.heap.size + 1 + 1 < w1.heap.size := (by omega); have HO1 := Lib.hid (os1.mono (B' := w.heap.size + 3) (by simp)); have HBB := Lib.hid (((((HI.out.alloc _).alloc _).alloc _).b).below hb1); have HBW := Lib.hid (((((Below.refl w.heap.size w).alloc (Nat.le_refl _) _).alloc (by simp) _).alloc (by simp; omega) _).trans (hb1.mono (by simp; omega))); clear os1 hb1)
    | (go_at_call 49; refine (HC0.out _ (HBB.out.alloc _)).mono ?_; rintro e w2 ⟨v4, v5, rfl, own4, tk5, hb2⟩; obtain ⟨A4, c4, rfl, _, _⟩ := own4.form; obtain ⟨A5, c5, rfl, _⟩ := tk5.form; obtain ⟨s2, rfl⟩ := ext_of_below hb2; have HO4 := Lib.hid own4; have HO5 := Lib.hid tk5; clear own4 tk5 hb2))
  refine bodyPost_ret (by simp [results, Try.results22, go_sem, hz1, hz2, hz3, hcc, hff, hr0, hr1, hr2]; first | done | rfl) rfl ?_
  refine ⟨_, _, _, _, rfl, OwnSt.mono (B := w.heap.size + 3) (OwnSt.replace (vb := .slice A1 st.bs.length c1) (s := st) ?_ ?_) (by omega), ?_, ?_⟩
  · repeat' (first | with_reducible exact HO1.out | with_reducible refine OwnSt.ext ?_ _ | with_reducible refine OwnSt.alloc ?_ _ | with_reducible refine OwnSt.low ?_ ?_ | (simp; omega) | (simp; done) | omega)
  · exact OwnBks.mono (OwnBks.swap (HO4.out.le (by repeat' (first | exact More.le_refl _ | refine More.le_draw ?_ | refine More.le_cat ?_ _ | refine More.le_add ?_ _))) (by simp) (by simp)) (by simp; omega)
  · unfold OwnTks
    exact own_mono (own_swap_cat HO5.out (by simp) (by simp) (by repeat' (first | exact More.le_refl _ | refine More.le_draw ?_ | refine More.le_cat ?_ _ | refine More.le_add ?_ _))) (by simp; omega)
  · repeat' (first | with_reducible exact HBW.out | with_reducible exact Below.refl _ _ | with_reducible refine below_ext ?_ ?_ _ | with_reducible refine Below.alloc ?_ ?_ _ | with_reducible refine Below.setCell ?_ ?_ _ | with_reducible refine Below.drew ?_ | (simp; omega) | (simp; done) | (simp [go_sem]; omega) | (simp [go_sem]; done) | omega)

end Go.Proofs.Ythkollhebabhbaa

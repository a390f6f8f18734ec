/-
  ConsumeWallets: texts joined (by joinw.py).
-/
import Derived.Test.YthkollhebabhbaaOpenT
import Derived.Test.YthkollhebabhbaaYa
import Derived.Test.YthkollhebabhbaaYb
import Derived.OpenShut
import Derived.Test.YthkollhebabhbaaYf
import Derived.Test.YthkollhebabhbaaYd
import Derived.Test.YthkollhebabhbaaYc
import Derived.Test.YthkollhebabhbaaYg
import Derived.Deep.RegionHeld3

/-!
  A list of events, and two numbers, that came in as arguments.
-/
namespace Go.Proofs.Ythkollhebabhbaa
open Go.RowKit Go.ChangeShapes Go.WideShapes Go.Deep
set_option linter.unusedVariables false

def InEvs (w : World) (A : Option Addr) (n : Nat) : Prop := ∃ evs : List Ev, evs.length = n ∧ n ≤ maxLen ∧ Rws Ev.cells 7 w A evs ∧ ∀ e ∈ evs, e.num.size ≤ maxLen
theorem seven {α : Type} {cs : List α} (h : cs.length = 7) : ∃ a b c d e f g, cs = [a, b, c, d, e, f, g] := by
  match cs, h with
  | [a, b, c, d, e, f, g], _ => exact ⟨a, b, c, d, e, f, g, rfl⟩
section
variable {H : Type} {enc : TypeId × Value → H} {w : World} {base : Nat} {spare : Nat → Bool} {held : Bool}

theorem open_event_cells {fuel : Nat} {cs : List Value} {x : DataW H × List MemPlace} (h : DataW.trod enc Try.prog w base spare held fuel 80 cs = some x) : ∃ t : Ev, cs = t.cells ∧ t.num.size ≤ maxLen := by
  obtain ⟨hl, hp⟩ := struct_cells Try.underlying80 (by kernel_rfl) (by kernel_rfl) h
  obtain ⟨c0, c1, c2, c3, c4, c5, c6, rfl⟩ := seven (hl.trans rfl)
  obtain ⟨_, x0, _, e0, t0⟩ := hp 0 _ rfl
  obtain ⟨_, x1, _, e1, t1⟩ := hp 1 _ rfl
  obtain ⟨_, x2, _, e2, t2⟩ := hp 2 _ rfl
  obtain ⟨_, x3, _, e3, t3⟩ := hp 3 _ rfl
  obtain ⟨_, x4, _, e4, t4⟩ := hp 4 _ rfl
  obtain ⟨_, x5, _, e5, t5⟩ := hp 5 _ rfl
  obtain ⟨_, x6, _, e6, t6⟩ := hp 6 _ rfl
  obtain ⟨n0, k0, _⟩ := DataW.trod_int Try.underlying3 t0
  obtain ⟨n1, k1, _⟩ := DataW.trod_int Try.underlying3 t1
  obtain ⟨n2, k2, _⟩ := DataW.trod_int Try.underlying3 t2
  obtain ⟨n3, k3, _⟩ := DataW.trod_int Try.underlying3 t3
  obtain ⟨n4, k4, _, f4⟩ := DataW.trod_string Try.underlying9 t4
  obtain ⟨n5, k5, _⟩ := DataW.trod_string Try.underlying9 t5
  obtain ⟨n6, k6, _⟩ := DataW.trod_int Try.underlying3 t6
  simp only [List.getElem?_cons_zero, List.getElem?_cons_succ, Option.some.injEq, List.cons.injEq, and_true] at *
  subst e0 e1 e2 e3 e4 e5 e6 k0 k1 k2 k3 k4 k5 k6
  exact ⟨⟨n0, n1, n2, n3, n4, n5, n6⟩, rfl, f4⟩
theorem open_events {A : Option Addr} {n c : Nat} {d : DataW H} {p : List MemPlace} (h : DataW.Trod enc Try.prog w base spare held 45 (.slice A n c) d p) : InEvs w A n := by
  obtain ⟨hm, h0⟩ := open_slice_cells 7 (by decide) Try.underlying45 (by kernel_rfl) h
  rcases h0 with h0 | ⟨b, o, V, fuel, Y, rfl, hb, hV⟩
  · exact ⟨[], h0.symm, hm, fun j x hx => by simp at hx, fun x hx => by cases hx⟩
  · have hx : ∀ i, i < n → ∃ t : Ev, V i = t.cells ∧ t.num.size ≤ maxLen := fun i hi => open_event_cells (hV i hi).2.2
    refine ⟨(List.range n).map fun i => if hi : i < n then (hx i hi).choose else ⟨0, 0, 0, 0, ByteArray.empty, ByteArray.empty, 0⟩, by simp, hm, fun j x hj => ?_, fun x hx' => ?_⟩
    · have hjn : j < n := by
        have := (List.getElem?_eq_some_iff.1 hj).1
        simpa using this
      have hxj : (hx j hjn).choose = x := by simpa [List.getElem?_map, hjn] using hj
      have hc := (hx j hjn).choose_spec.1
      rw [hxj] at hc
      refine ⟨b, o, rfl, hb, fun i v hv => ?_⟩
      have hi : i < 7 := (List.getElem?_eq_some_iff.1 hv).1
      rw [(hV j hjn).2.1 i hi, hc]
      exact hv
    · obtain ⟨j, hj, rfl⟩ := List.mem_map.1 hx'
      have hjn : j < n := List.mem_range.1 hj
      simp only [hjn, dite_true]
      exact (hx j hjn).choose_spec.2
theorem okWide_array {P : Program} {w : World} {r : Reach} {b0 : Nat} {t : TypeId} {n : Nat} {e : TypeId} {v : Value} (ht : P.underlying t = some (.array n e)) (h : Value.okWide P w r b0 t v) : ∃ cs, v = .agg cs ∧ cs.size = P.cellsOf t := by
  simp only [Value.okWide, ht] at h
  obtain ⟨cs, h1, h2, _⟩ := h
  exact ⟨cs, h1, h2⟩
set_option maxRecDepth 100000 in
theorem open_two {r : Reach} {b0 : Nat} {v : Value} {d : DataW H} {p : List MemPlace} (hv : Value.okWide Try.prog w r b0 46 v) (h : DataW.Trod enc Try.prog w base spare held 46 v d p) : ∃ a t : Int, v = .agg #[.int .i64 a, .int .i64 t] ∧ fits a := by
  obtain ⟨⟨cs⟩, rfl, hsz⟩ := okWide_array Try.underlying46 hv
  obtain ⟨fuel, hf⟩ := h
  have hl : cs.length = 2 := by
    have : Try.prog.cellsOf 46 = 2 := by kernel_rfl
    simpa [this] using hsz
  obtain ⟨c0, c1, rfl⟩ := two_ hl
  obtain ⟨ys, m, _, _, _, hlen, hg⟩ := DataW.trod_array Try.underlying46 hf
  have hce : Try.prog.cellsOf 3 = 1 := by kernel_rfl
  obtain ⟨x0, x1, rfl⟩ := two_ hlen
  have t0 := hg 0 (by decide)
  have t1 := hg 1 (by decide)
  rw [hce] at t0 t1
  simp only [Nat.zero_mul, Nat.one_mul, List.drop_zero, List.drop_succ_cons, List.take_succ_cons, List.take_zero, List.getElem?_cons_zero, List.getElem?_cons_succ] at t0 t1
  obtain ⟨n0, k0, _, f0⟩ := DataW.trod_int Try.underlying3 t0
  obtain ⟨n1, k1, _⟩ := DataW.trod_int Try.underlying3 t1
  cases k0
  cases k1
  exact ⟨n0, n1, rfl, fits_of f0⟩
end
end Go.Proofs.Ythkollhebabhbaa

/-!
  Check.
-/
namespace Go.Proofs.Ythkollhebabhbaa
open Go.RowKit
set_option linter.unusedSimpArgs false
set_option linter.unusedVariables false

def Asc (xs : List Ev) (l : Int) : Prop := xs.Pairwise (fun a b => a.at_ ≤ b.at_) ∧ ∀ x ∈ xs, x.at_ ≤ l
theorem asc_snoc {xs : List Ev} {n : Nat} {e : Ev} {l : Int} (h : Asc (xs.take n) l) (he : xs[n]? = some e) (hl : l ≤ e.at_) : Asc (xs.take (n + 1)) e.at_ := by
  obtain ⟨h1, h2⟩ := List.getElem?_eq_some_iff.1 he
  rw [List.take_succ_eq_append_getElem h1, h2]
  refine ⟨List.pairwise_append.2 ⟨h.1, List.pairwise_singleton _ _, fun a ha b hb => ?_⟩, fun x hx => ?_⟩
  · rw [List.mem_singleton.1 hb]
    exact Int.le_trans (h.2 a ha) hl
  · rcases List.mem_append.1 hx with hx | hx
    · exact Int.le_trans (h.2 x hx) hl
    · rw [List.mem_singleton.1 hx]
      exact Int.le_refl _
def ChkR (evs : List Ev) (w : World) (e : Ending) (w' : World) : Prop := (∃ i n : Int, e = .returned (.tuple #[.int .i64 i, .int .i64 n]) ∧ (n = 0 → evs.Pairwise (fun a b => a.at_ ≤ b.at_))) ∧ Below w.heap.size w w'
theorem bo_nil (w : World) : BoIn w 0 none none none 0 0 0 ⟨[], [], []⟩ :=
  ⟨fun j x h => by simp at h, fun j x h => by simp at h, fun j x h => by simp at h, fun x h => by simp at h, fun _ => rfl, fun _ => rfl, fun _ => rfl, Nat.le_refl _, Nat.le_refl _, Nat.le_refl _⟩
theorem Box3.setall {w : World} {O : Nat} {a b c x y z : Value} (h : Box3 w O a b c) : Box3 (((w.setCell ⟨O, 0, none⟩ x).setCell ⟨O, 1, none⟩ y).setCell ⟨O, 2, none⟩ z) O x y z := by
  obtain ⟨h0, h1, h2, h3, h5, h6, h7⟩ := h
  constructor <;> simp [go_sem, h0, h1, h2, h3, h5, h6, h7]

set_option maxRecDepth 100000 in
set_option maxHeartbeats 8000000 in
theorem chk_any (evs : List Ev) (Ae : Option Addr) (ce : Nat) (w : World) (h : Rws Ev.cells 7 w Ae evs) (hne : evs.length ≤ 40) (hz : ∀ e ∈ evs, e.num.size ≤ maxLen) :
    Calls Try.prog 39 #[.slice Ae evs.length ce] w (ChkR evs w) := by
  have HE := Lib.hid h
  have HZ := Lib.hid hz
  clear h hz
  go_enter Try.func39, Try.ntmps39
  go_wp2
  go_loopw [5, 6] (fun lv i wr => ∃ (n : Nat) (l : Int) (A1 A2 A3 : Option Addr) (c1 c2 c3 : Nat) (m : Bo), n ≤ evs.length ∧ i = .int .i64 n ∧ lv = .int .i64 l ∧ Box3 wr w.heap.size (.slice A1 m.al.length c1) (.slice A2 m.sl.length c2) (.slice A3 m.el.length c3) ∧ BoF (w.heap.size + 1) wr n A1 A2 A3 c1 c2 c3 m ∧ Below w.heap.size w wr ∧ Hid (Asc (evs.take n) l)) (fun lv i _ => evs.length - (intOf i).toNat)
  case atStart => exact ⟨0, 0, none, none, none, 0, 0, 0, ⟨[], [], []⟩, Nat.zero_le _, rfl, rfl, Box3.new w _ _ _ _, fun W _ => bo_nil W, by repeat' (first | exact Below.refl _ _ | refine below_ext ?_ ?_ _ | refine Below.alloc ?_ ?_ _ | refine Below.setCell ?_ ?_ _ | refine Below.drew ?_ | (rw [size_ext]; refine Nat.le_add_right_of_le ?_) | go_size | (rw [World.size_alloc]; refine Nat.le_add_right_of_le ?_)), by unfold Hid; exact ⟨by simp, by simp⟩⟩
  case round =>
    obtain ⟨n, l, A1, A2, A3, c1, c2, c3, m, hn, rfl, rfl, hbx, hbo, hbw, HASC⟩ := hrel
    have HBX := Lib.hid hbx
    have HBO := Lib.hid hbo
    have HBW := Lib.hid hbw
    have hsz := hbw.size
    have hlt0 := hbx.lt
    obtain ⟨-, k0, k1, k2, k3, k4, k5⟩ := hbx
    clear hbo hbw
    by_cases hlt : n < evs.length
    · --<rnd
      obtain ⟨e, he⟩ : ∃ s, evs[n]? = some s := ⟨_, List.getElem?_eq_getElem hlt⟩
      obtain ⟨b, o, hA, hbb, e0, e1, e2, e3, e4, e5, e6⟩ := ev_cells HE.out he
      have HS := Lib.hid (fun hl => asc_snoc HASC.out he hl)
      have hnz := HZ.out e (List.mem_of_getElem? he)
      subst hA
      clear he
      obtain ⟨ea, ek, ec, es, en, em, ev⟩ := e
      dsimp only at e0 e1 e2 e3 e4 e5 e6 hnz HS
      have hb : b < wr.heap.size := by omega
      have E0 := Lib.hid e0
      replace e0 := keepL HBW.out hbb e0
      replace e1 := keepL HBW.out hbb e1
      replace e2 := keepL HBW.out hbb e2
      replace e3 := keepL HBW.out hbb e3
      replace e4 := keepL HBW.out hbb e4
      replace e5 := keepL HBW.out hbb e5
      replace e6 := keepL HBW.out hbb e6
      obtain ⟨hn1, hn2⟩ : (n : Int) < (evs.length : Int) ∧ (0 : Int) ≤ (n : Int) := by omega
      go_upto_region 8 with fail
      go_region_held3 (fun w' => w'.cell? ⟨w.heap.size, 0, none⟩ = some (.slice A1 m.al.length c1) ∧ w'.cell? ⟨w.heap.size, 1, none⟩ = some (.slice A2 m.sl.length c2) ∧ w'.cell? ⟨w.heap.size, 2, none⟩ = some (.slice A3 m.el.length c3) ∧ w'.cell? ⟨b, o + n * 7, none⟩ = some (.int .i64 ea) ∧ w'.cell? ⟨b, o + n * 7 + 1, none⟩ = some (.int .i64 ek) ∧ w'.cell? ⟨b, o + n * 7 + 2, none⟩ = some (.int .i64 ec) ∧ w'.cell? ⟨b, o + n * 7 + 3, none⟩ = some (.int .i64 es) ∧ w'.cell? ⟨b, o + n * 7 + 4, none⟩ = some (.string en) ∧ w'.cell? ⟨b, o + n * 7 + 5, none⟩ = some (.string em) ∧ w'.cell? ⟨b, o + n * 7 + 6, none⟩ = some (.int .i64 ev))
        ((with_reducible refine ⟨keepL (W := wr) ?_ hlt0 k0, keepL (W := wr) ?_ hlt0 k1, keepL (W := wr) ?_ hlt0 k2, keepL (W := wr) ?_ hb e0, keepL (W := wr) ?_ hb e1, keepL (W := wr) ?_ hb e2, keepL (W := wr) ?_ hb e3, keepL (W := wr) ?_ hb e4, keepL (W := wr) ?_ hb e5, keepL (W := wr) ?_ hb e6⟩ <;> (repeat' (first | exact Below.refl _ _ | refine below_ext ?_ ?_ _ | refine Below.alloc ?_ ?_ _ | refine Below.setCell ?_ ?_ _ | refine Below.drew ?_ | (rw [size_ext]; refine Nat.le_add_right_of_le ?_) | go_size | (rw [World.size_alloc]; refine Nat.le_add_right_of_le ?_)))))
        ((first
          | (go_at_call 62; (with_reducible refine (fault_any m A1 A2 A3 c1 c2 c3 n ea ek ec es en em ev l _ (HBO.out.bo ?_) (by omega) hnz).mono ?_); (· repeat' (first | exact Below.refl _ _ | refine below_ext ?_ ?_ _ | refine Below.alloc ?_ ?_ _ | refine Below.setCell ?_ ?_ _ | refine Below.drew ?_ | (rw [size_ext]; refine Nat.le_add_right_of_le ?_) | go_size | (rw [World.size_alloc]; refine Nat.le_add_right_of_le ?_))); rintro e1 w1 ⟨⟨f, rfl, hf⟩, hb1⟩; obtain ⟨s1, rfl⟩ := ext_of_below hb1; have HF := Lib.hid hf; clear hf hb1)))
      have HBD := Lib.hid (show Below wr.heap.size wr (ext wr.drew s1) by repeat' (first | exact Below.refl _ _ | refine below_ext ?_ ?_ _ | refine Below.alloc ?_ ?_ _ | refine Below.setCell ?_ ?_ _ | refine Below.drew ?_ | (rw [size_ext]; refine Nat.le_add_right_of_le ?_) | go_size | (rw [World.size_alloc]; refine Nat.le_add_right_of_le ?_)))
      generalize (ext wr.drew s1) = wd at *
      have HWD := Lib.hid (HBW.out.trans (HBD.out.mono HBW.out.size))
      by_cases hf0 : f = 0
      · subst hf0
        obtain ⟨hf1, hf2, hf3, hf4, hf5⟩ := HF.out rfl
        have HBOD := Lib.hid (HBO.out.ag (AgL.of_below HBD.out))
        have HBXD := Lib.hid (HBX.out.below HBD.out)
        have hlt0d := HBXD.out.lt
        have hbd : b < wd.heap.size := by have := HWD.out.size; omega
        replace k0 := HBXD.out.c0
        replace k1 := HBXD.out.c1
        replace k2 := HBXD.out.c2
        replace e0 := keepL HBD.out hb e0
        replace e1 := keepL HBD.out hb e1
        replace e2 := keepL HBD.out hb e2
        replace e3 := keepL HBD.out hb e3
        replace e4 := keepL HBD.out hb e4
        replace e5 := keepL HBD.out hb e5
        replace e6 := keepL HBD.out hb e6
        clear k3 k4 k5
        go_upto_region 11 with fail
        refine region_genS (S := [29, 30, 31, 32, 33, 34]) 34 (fun f w' => (fun wx => ∃ (A1' A2' A3' : Option Addr) (c1' c2' c3' : Nat) (m' : Bo), Box3 wx w.heap.size (.slice A1' m'.al.length c1') (.slice A2' m'.sl.length c2') (.slice A3' m'.el.length c3') ∧ BoF (w.heap.size + 1) wx (n + 1) A1' A2' A3' c1' c2' c3' m' ∧ Below w.heap.size w wx) w') ?_ (by simp) ?_
        · rintro f wf hfin
          simp only [TS, List.mapIdx_toArray, List.mapIdx_cons, List.mapIdx_nil]
          obtain ⟨A1', A2', A3', c1', c2', c3', m', hbx', hbf', hbw'⟩ := hfin
          have e0f := keepL hbw' hbb E0.out
          have hbf : b < wf.heap.size := by have := hbw'.size; omega
          clear k0 k1 k2 e0 e1 e2 e3 e4 e5 e6
          go_wp2
          go_roundw
          case rel => exact ⟨_, _, _, _, ⟨n + 1, by omega, rfl, ea, rfl, A1', A2', A3', c1', c2', c3', m', hbx', hbf', HS.out hf1⟩, rfl, rfl, rfl, by go_num⟩
          case measure => simp [intOf]; omega
        · intro T Q' hT hTs hQ
          have hT0 : T[0]? = some (.slice (some ⟨b, o, none⟩) evs.length ce) := (hT 0 rfl).trans (by rfl)
          have hT4 : T[4]? = some (.pointer (some ⟨w.heap.size, 0, none⟩)) := (hT 4 rfl).trans (by rfl)
          have hT6 : T[6]? = some (.int .i64 (n : Int)) := (hT 6 rfl).trans (by rfl)
          clear hT
          refine wp_region_inv (by kernel_rfl) (fun L a_ w' => ∃ f, a_ = ⟨TS [29, 30, 31, 32, 33, 34] T f, []⟩ ∧ RK 29 (.agg #[.slice A1 m.al.length c1, .slice A2 m.sl.length c2, .slice A3 m.el.length c3]) (.slice (some ⟨b, o, none⟩) evs.length ce) (.int .i64 (n : Int)) (.pointer (some ⟨b, o + n * 7, none⟩)) (.agg #[.int .i64 ea, .int .i64 ek, .int .i64 ec, .int .i64 es, .string en, .string em, .int .i64 ev]) (fun wx v => ∃ (A1' A2' A3' : Option Addr) (c1' c2' c3' : Nat) (m' : Bo), v = .agg #[.slice A1' m'.al.length c1', .slice A2' m'.sl.length c2', .slice A3' m'.el.length c3'] ∧ BoF (w.heap.size + 1) wx (n + 1) A1' A2' A3' c1' c2' c3' m') (fun wx => ∃ (A1' A2' A3' : Option Addr) (c1' c2' c3' : Nat) (m' : Bo), Box3 wx w.heap.size (.slice A1' m'.al.length c1') (.slice A2' m'.sl.length c2') (.slice A3' m'.el.length c3') ∧ BoF (w.heap.size + 1) wx (n + 1) A1' A2' A3' c1' c2' c3' m' ∧ Below w.heap.size w wx) (wd) L f w') ?_ ?_ ?_
          · refine ⟨fun i => T.getD i undef, congrArg (fun x => Act.mk x []) (TS_self T), ?_⟩
            simp only [List.size_toArray, List.length_cons, List.length_nil, Nat.reduceAdd]
            exact RK.start (Below.drew (by repeat' (first | exact Below.refl _ _ | refine below_ext ?_ ?_ _ | refine Below.alloc ?_ ?_ _ | refine Below.setCell ?_ ?_ _ | refine Below.drew ?_ | (rw [size_ext]; refine Nat.le_add_right_of_le ?_) | go_size | (rw [World.size_alloc]; refine Nat.le_add_right_of_le ?_))))
          · rintro L a_ w' ⟨f, rfl, hI⟩ i hi
            obtain ⟨h0, o_, ho, hall⟩ := mem_ready.1 hi
            have hlti : i < 7 := (Array.getElem?_eq_some_iff.1 ho).1
            have qq0 : (TS [29, 30, 31, 32, 33, 34] T f)[0]? = some (.slice (some ⟨b, o, none⟩) evs.length ce) := (TS_old T f 0 rfl).trans hT0
            have qq4 : (TS [29, 30, 31, 32, 33, 34] T f)[4]? = some (.pointer (some ⟨w.heap.size, 0, none⟩)) := (TS_old T f 4 rfl).trans hT4
            have qq6 : (TS [29, 30, 31, 32, 33, 34] T f)[6]? = some (.int .i64 (n : Int)) := (TS_old T f 6 rfl).trans hT6
            have q29 : (TS [29, 30, 31, 32, 33, 34] T f)[29]? = some (f 29) := TS_get T f 29 rfl (by omega)
            have q30 : (TS [29, 30, 31, 32, 33, 34] T f)[30]? = some (f 30) := TS_get T f 30 rfl (by omega)
            have q31 : (TS [29, 30, 31, 32, 33, 34] T f)[31]? = some (f 31) := TS_get T f 31 rfl (by omega)
            have q32 : (TS [29, 30, 31, 32, 33, 34] T f)[32]? = some (f 32) := TS_get T f 32 rfl (by omega)
            have q33 : (TS [29, 30, 31, 32, 33, 34] T f)[33]? = some (f 33) := TS_get T f 33 rfl (by omega)
            have q34 : (TS [29, 30, 31, 32, 33, 34] T f)[34]? = some (f 34) := TS_get T f 34 rfl (by omega)
            have hs7 := hI.sz
            have h6 : L.getD 6 false = false := by
              cases hc : L.getD 6 false with
              | false => rfl
              | true =>
                have := hI.da hc i hlti
                simp [hs7, hlti] at this h0
                rw [h0] at this
                cases this
            have hbw := hI.bel h6
            have hB' := hbw.size
            have k0' := keepL hbw hlt0d k0
            have k1' := keepL hbw hlt0d k1
            have k2' := keepL hbw hlt0d k2
            have e0' := keepL hbw hbd e0
            have e1' := keepL hbw hbd e1
            have e2' := keepL hbw hbd e2
            have e3' := keepL hbw hbd e3
            have e4' := keepL hbw hbd e4
            have e5' := keepL hbw hbd e5
            have e6' := keepL hbw hbd e6
            have HI := Lib.hid hI
            clear hi hI hT0 hT4 hT6
            have hc : i = 0 ∨ i = 1 ∨ i = 2 ∨ i = 3 ∨ i = 4 ∨ i = 5 ∨ i = 6 := by omega
            rcases hc with rfl | rfl | rfl | rfl | rfl | rfl | rfl
            all_goals
              simp only [List.getElem?_toArray, List.getElem?_cons_zero, List.getElem?_cons_succ, Option.some.injEq] at ho
              subst ho
              simp [Region.binds] at hall
            · --<op0
              refine wpOp_step rfl (fun K hK => ?_)
              go_simp
              rw [TS_set T f 29 _ rfl]
              exact hK _ _ ⟨_, rfl, HI.out.u0⟩
              -->op0
            · --<op1
              refine wpOp_step rfl (fun K hK => ?_)
              go_simp
              rw [TS_set T f 30 _ rfl]
              exact hK _ _ ⟨_, rfl, HI.out.u1⟩
              -->op1
            · --<op2
              refine wpOp_step rfl (fun K hK => ?_)
              go_simp
              rw [TS_set T f 31 _ rfl]
              exact hK _ _ ⟨_, rfl, HI.out.u2⟩
              -->op2
            · --<op3
              have g1_ : f 30 = _ := HI.out.l1 (by simp [hall])
              rw [g1_] at q30
              have g2_ : f 31 = _ := HI.out.l2 (by simp [hall])
              rw [g2_] at q31
              refine wpOp_step rfl (fun K hK => ?_)
              go_simp
              rw [TS_set T f 32 _ rfl]
              exact hK _ _ ⟨_, rfl, HI.out.u3⟩
              -->op3
            · --<op4
              have g3_ : f 32 = _ := HI.out.l3 (by simp [hall])
              rw [g3_] at q32
              refine wpOp_step rfl (fun K hK => ?_)
              go_simp
              rw [TS_set T f 33 _ rfl]
              exact hK _ _ ⟨_, rfl, HI.out.u4⟩
              -->op4
            · --<op5
              have g0_ : f 29 = _ := HI.out.l0 (by simp [hall])
              rw [g0_] at q29
              have g4_ : f 33 = _ := HI.out.l4 (by simp [hall])
              rw [g4_] at q33
              refine wpOp_step rfl (fun K hK => ?_)
              go_simp
              refine (apply_any m A1 A2 A3 c1 c2 c3 n ea ek ec es en em ev (w.heap.size + 1) _ (HBOD.out.ag (AgL.of_below hbw)) (by omega) (by omega) hf2 hf3 hf4 hf5).mono ?_
              rintro e w4 ⟨⟨A1', A2', A3', c1', c2', c3', m', rfl, hbf⟩, hb4⟩
              dsimp only
              rw [TS_set T f 34 _ rfl]
              exact hK _ _ ⟨_, rfl, HI.out.u5 h6 (hbw.trans (hb4.mono hB')) ⟨A1', A2', A3', c1', c2', c3', m', rfl, hbf⟩⟩
              -->op5
            · --<op6
              have hm_ := HI.out.l5 (by simp [hall]) h6
              obtain ⟨A1', A2', A3', c1', c2', c3', m', g5_, hbf⟩ := hm_
              change f 34 = _ at g5_
              rw [g5_] at q34
              have hbx := HBXD.out.below hbw
              have HFIN := Lib.hid (show (fun wx => ∃ (A1' A2' A3' : Option Addr) (c1' c2' c3' : Nat) (m' : Bo), Box3 wx w.heap.size (.slice A1' m'.al.length c1') (.slice A2' m'.sl.length c2') (.slice A3' m'.el.length c3') ∧ BoF (w.heap.size + 1) wx (n + 1) A1' A2' A3' c1' c2' c3' m' ∧ Below w.heap.size w wx) _ from ⟨A1', A2', A3', c1', c2', c3', m', hbx.setall, hbf.ag ((((AgL.refl _ _).set (Nat.lt_succ_self _)).set (Nat.lt_succ_self _)).set (Nat.lt_succ_self _)), (((HWD.out.trans (hbw.mono HWD.out.size)).setCell (p := ⟨w.heap.size, 0, none⟩) (Nat.le_refl _) _).setCell (p := ⟨w.heap.size, 1, none⟩) (Nat.le_refl _) _).setCell (p := ⟨w.heap.size, 2, none⟩) (Nat.le_refl _) _⟩)
              obtain ⟨bl, z0, z1, z2, z3, z4, z5⟩ := hbx
              clear hbf
              refine wpOp_step rfl (fun K hK => ?_)
              go_simp
              exact hK _ _ ⟨_, rfl, HI.out.u6 (fun j hj => by
        have : j = 0 ∨ j = 1 ∨ j = 2 ∨ j = 3 ∨ j = 4 ∨ j = 5 := by omega
        rcases this with rfl | rfl | rfl | rfl | rfl | rfl <;> simp [hall]) HFIN.out⟩
              -->op6
          · rintro L a_ w' ⟨f, rfl, hI⟩ hr
            rw [List.eq_nil_iff_forall_not_mem] at hr
            have hs := hI.sz
            have gd : ∀ i, i < 7 → L.getD i false = false → L.getD i true = false := fun i hi he => by
              simp [hs, hi] at he ⊢
              exact he
            have a0_ : L.getD 0 false = true := by
              cases hc : L.getD 0 false with
              | true => rfl
              | false => exact (hr 0 (mem_ready.2 ⟨gd 0 (by decide) hc, _, rfl, fun e he _ => by simp at he⟩)).elim
            have a1_ : L.getD 1 false = true := by
              cases hc : L.getD 1 false with
              | true => rfl
              | false => exact (hr 1 (mem_ready.2 ⟨gd 1 (by decide) hc, _, rfl, fun e he _ => by simp at he⟩)).elim
            have a2_ : L.getD 2 false = true := by
              cases hc : L.getD 2 false with
              | true => rfl
              | false => exact (hr 2 (mem_ready.2 ⟨gd 2 (by decide) hc, _, rfl, fun e he _ => by simp at he⟩)).elim
            have a3_ : L.getD 3 false = true := by
              cases hc : L.getD 3 false with
              | true => rfl
              | false => exact (hr 3 (mem_ready.2 ⟨gd 3 (by decide) hc, _, rfl, fun e he _ => by simp at he; first | (subst he; assumption) | (rcases he with rfl | rfl <;> assumption) | (rcases he with rfl | rfl | rfl <;> assumption) | (rcases he with rfl | rfl | rfl | rfl <;> assumption) | (rcases he with rfl | rfl | rfl | rfl | rfl <;> assumption) | (rcases he with rfl | rfl | rfl | rfl | rfl | rfl <;> assumption) | (rcases he with rfl | rfl | rfl | rfl | rfl | rfl | rfl <;> assumption) | (rcases he with rfl | rfl | rfl | rfl | rfl | rfl | rfl | rfl <;> assumption) | (rcases he with rfl | rfl | rfl | rfl | rfl | rfl | rfl | rfl | rfl <;> assumption) | (rcases he with rfl | rfl | rfl | rfl | rfl | rfl | rfl | rfl | rfl | rfl <;> assumption) | (rcases he with rfl | rfl | rfl | rfl | rfl | rfl | rfl | rfl | rfl | rfl | rfl <;> assumption) | (rcases he with rfl | rfl | rfl | rfl | rfl | rfl | rfl | rfl | rfl | rfl | rfl | rfl <;> assumption)⟩)).elim
            have a4_ : L.getD 4 false = true := by
              cases hc : L.getD 4 false with
              | true => rfl
              | false => exact (hr 4 (mem_ready.2 ⟨gd 4 (by decide) hc, _, rfl, fun e he _ => by simp at he; first | (subst he; assumption) | (rcases he with rfl | rfl <;> assumption) | (rcases he with rfl | rfl | rfl <;> assumption) | (rcases he with rfl | rfl | rfl | rfl <;> assumption) | (rcases he with rfl | rfl | rfl | rfl | rfl <;> assumption) | (rcases he with rfl | rfl | rfl | rfl | rfl | rfl <;> assumption) | (rcases he with rfl | rfl | rfl | rfl | rfl | rfl | rfl <;> assumption) | (rcases he with rfl | rfl | rfl | rfl | rfl | rfl | rfl | rfl <;> assumption) | (rcases he with rfl | rfl | rfl | rfl | rfl | rfl | rfl | rfl | rfl <;> assumption) | (rcases he with rfl | rfl | rfl | rfl | rfl | rfl | rfl | rfl | rfl | rfl <;> assumption) | (rcases he with rfl | rfl | rfl | rfl | rfl | rfl | rfl | rfl | rfl | rfl | rfl <;> assumption) | (rcases he with rfl | rfl | rfl | rfl | rfl | rfl | rfl | rfl | rfl | rfl | rfl | rfl <;> assumption)⟩)).elim
            have a5_ : L.getD 5 false = true := by
              cases hc : L.getD 5 false with
              | true => rfl
              | false => exact (hr 5 (mem_ready.2 ⟨gd 5 (by decide) hc, _, rfl, fun e he _ => by simp at he; first | (subst he; assumption) | (rcases he with rfl | rfl <;> assumption) | (rcases he with rfl | rfl | rfl <;> assumption) | (rcases he with rfl | rfl | rfl | rfl <;> assumption) | (rcases he with rfl | rfl | rfl | rfl | rfl <;> assumption) | (rcases he with rfl | rfl | rfl | rfl | rfl | rfl <;> assumption) | (rcases he with rfl | rfl | rfl | rfl | rfl | rfl | rfl <;> assumption) | (rcases he with rfl | rfl | rfl | rfl | rfl | rfl | rfl | rfl <;> assumption) | (rcases he with rfl | rfl | rfl | rfl | rfl | rfl | rfl | rfl | rfl <;> assumption) | (rcases he with rfl | rfl | rfl | rfl | rfl | rfl | rfl | rfl | rfl | rfl <;> assumption) | (rcases he with rfl | rfl | rfl | rfl | rfl | rfl | rfl | rfl | rfl | rfl | rfl <;> assumption) | (rcases he with rfl | rfl | rfl | rfl | rfl | rfl | rfl | rfl | rfl | rfl | rfl | rfl <;> assumption)⟩)).elim
            have a6_ : L.getD 6 false = true := by
              cases hc : L.getD 6 false with
              | true => rfl
              | false => exact (hr 6 (mem_ready.2 ⟨gd 6 (by decide) hc, _, rfl, fun e he _ => by simp at he; first | (subst he; assumption) | (rcases he with rfl | rfl <;> assumption) | (rcases he with rfl | rfl | rfl <;> assumption) | (rcases he with rfl | rfl | rfl | rfl <;> assumption) | (rcases he with rfl | rfl | rfl | rfl | rfl <;> assumption) | (rcases he with rfl | rfl | rfl | rfl | rfl | rfl <;> assumption) | (rcases he with rfl | rfl | rfl | rfl | rfl | rfl | rfl <;> assumption) | (rcases he with rfl | rfl | rfl | rfl | rfl | rfl | rfl | rfl <;> assumption) | (rcases he with rfl | rfl | rfl | rfl | rfl | rfl | rfl | rfl | rfl <;> assumption) | (rcases he with rfl | rfl | rfl | rfl | rfl | rfl | rfl | rfl | rfl | rfl <;> assumption) | (rcases he with rfl | rfl | rfl | rfl | rfl | rfl | rfl | rfl | rfl | rfl | rfl <;> assumption) | (rcases he with rfl | rfl | rfl | rfl | rfl | rfl | rfl | rfl | rfl | rfl | rfl | rfl <;> assumption)⟩)).elim
            exact hQ f w' (hI.l6 a6_)
      · have hfb : (f == 0) = false := beq_eq_false_iff_ne.2 hf0
        go_wp2
        refine bodyPost_ret (by simp [results, Try.results39, go_sem]; first | done | rfl) rfl ?_
        exact ⟨⟨_, f, rfl, fun h => absurd h hf0⟩, HWD.out⟩
      -->rnd
    · --<end
      obtain rfl : n = evs.length := by omega
      have ha := HASC.out
      rw [List.take_length] at ha
      have HA := Lib.hid ha
      clear ha
      go_wp2
      refine bodyPost_ret (by simp [results, Try.results39, go_sem]; first | done | rfl) rfl ?_
      exact ⟨⟨_, 0, rfl, fun _ => HA.out.1⟩, HBW.out⟩
      -->end
end Go.Proofs.Ythkollhebabhbaa

/-!
  The walk of ConsumeWallets.
-/
namespace Go.Proofs.Ythkollhebabhbaa
open Go.RowKit
set_option linter.unusedSimpArgs false
set_option linter.unusedVariables false

theorem WaIn.below {w w' : World} {Ae Ab Aw Ac : Option Addr} {evs : List Ev} {cw cc : Nat} {st : St} (h : WaIn w Ae evs Ab Aw Ac cw cc st) (hb : Below w.heap.size w w') : WaIn w' Ae evs Ab Aw Ac cw cc st :=
  ⟨h.e.below hb, h.b.below hb, h.s.below hb, h.c.below hb, h.ne, h.nb, h.nw, h.nc, h.z, h.wn, h.cn, h.fw⟩
theorem ins_len (acc : Int) (ws : List W5) : (insF acc ws).length = ws.length + 1 := by
  have := lessN_le acc ws
  simp [insF]
  omega
/-- Both functions make the same state. -/
theorem both_any (evs : List Ev) (st : St) (Ae Ab Aw Ac : Option Addr) (ce cb cw cc : Nat) (acc t : Int) (hfa : fits acc) (hp : evs.Pairwise (fun a b => a.at_ ≤ b.at_)) (hn : st.ws.length ≤ 12) (hb : st.bs.length ≤ 12) (hc : st.cs.length ≤ 12) (hz : ∀ x ∈ st.bs, x.zones.length ≤ 6) (hcap : ∀ x ∈ st.ws, fits x.a) :
    ∃ s' : St, (∀ W, WaIn W Ae evs Ab Aw Ac cw cc st → Calls Try.prog 19 #[.slice Ae evs.length ce, .agg #[.slice Ab st.bs.length cb, .slice Aw st.ws.length cw, .slice Ac st.cs.length cc], .int .i64 acc, .int .i64 t] W (ClonedSt s' W)) ∧
      (∀ W, WaIn W Ae evs Ab Aw Ac cw cc st → Calls Try.prog 20 #[.slice Ae evs.length ce, .agg #[.slice Ab st.bs.length cb, .slice Aw st.ws.length cw, .slice Ac st.cs.length cc], .int .i64 acc, .int .i64 t] W (ClonedSt s' W)) ∧
      s'.bs.length ≤ 1000 ∧ s'.ws.length ≤ 1000 ∧ s'.cs.length ≤ 1000 ∧ ∀ x ∈ s'.bs, x.zones.length ≤ 1000 := by
  have hz' : ∀ x ∈ st.bs, x.zones.length ≤ 1000 := fun x hx => Nat.le_trans (hz x hx) (by omega)
  by_cases h0 : 0 ≤ t
  · by_cases h1 : t < 12622780800
    · have hpp := pop_prep (acc := acc) (t := t) hp
      cases hpo : popB acc t evs
      · refine ⟨st, fun W h => wal_no evs st Ae Ab Aw Ac ce cb cw cc acc t W h (.inr (.inr ⟨h0, h1, hpo⟩)), fun W h => rwal_no evs st Ae Ab Aw Ac ce cb cw cc acc t W h (.inr ⟨⟨h0, h1⟩, hpp ▸ hpo⟩), by omega, by omega, by omega, hz'⟩
      · have hpr : prepB acc t evs = true := hpp ▸ hpo
        cases hpl : plc acc st.ws with
        | some k =>
          obtain ⟨x, hx, -⟩ := plc_some hpl
          refine ⟨{ st with ws := st.ws.set k (endW acc t x evs) }, fun W h => wal_yes evs st Ae Ab Aw Ac ce cb cw cc acc t W h h0 h1 hpo st.ws k x hx (by omega) (fun W' A c hF h0' hc' => with_yes st.ws A c acc k W' hF (by omega) h0' hcap hfa hpl), fun W h => rwal_yes evs st Ae Ab Aw Ac ce cb cw cc acc t W h ⟨h0, h1⟩ hpr st.ws k x hx (by omega) hpl (.inl ⟨hpl, rfl⟩), ?_, ?_, ?_, hz'⟩
          · show st.bs.length ≤ 1000; omega
          · simp; omega
          · show st.cs.length ≤ 1000; omega
        | none =>
          have hpi := plc_ins acc st.ws
          have hil := ins_len acc st.ws
          obtain ⟨x, hx, -⟩ := plc_some hpi
          refine ⟨{ st with ws := (insF acc st.ws).set (lessN acc st.ws) (endW acc t x evs) }, fun W h => wal_yes evs st Ae Ab Aw Ac ce cb cw cc acc t W h h0 h1 hpo (insF acc st.ws) (lessN acc st.ws) x hx (by omega) (fun W' A c hF h0' hc' => with_no st.ws A c acc W' hF (by omega) h0' hc' hcap hfa hpl), fun W h => rwal_yes evs st Ae Ab Aw Ac ce cb cw cc acc t W h ⟨h0, h1⟩ hpr (insF acc st.ws) (lessN acc st.ws) x hx (by omega) hpi (.inr ⟨hpl, rfl⟩), ?_, ?_, ?_, hz'⟩
          · show st.bs.length ≤ 1000; omega
          · simp; omega
          · show st.cs.length ≤ 1000; omega
    · refine ⟨st, fun W h => wal_no evs st Ae Ab Aw Ac ce cb cw cc acc t W h (.inr (.inl ⟨h0, by omega⟩)), fun W h => rwal_no evs st Ae Ab Aw Ac ce cb cw cc acc t W h (.inl (by omega)), by omega, by omega, by omega, hz'⟩
  · refine ⟨st, fun W h => wal_no evs st Ae Ab Aw Ac ce cb cw cc acc t W h (.inl (by omega)), fun W h => rwal_no evs st Ae Ab Aw Ac ce cb cw cc acc t W h (.inl (by omega)), by omega, by omega, by omega, hz'⟩

def ValR (evs : List Ev) (st : St) (w : World) (e : Ending) (w' : World) : Prop := (∃ b : Bool, e = .returned (.bool b) ∧ (b = true → evs.length ≤ 40 ∧ fewS st = true ∧ evs.Pairwise (fun a b => a.at_ ≤ b.at_))) ∧ Below w.heap.size w w'
set_option maxRecDepth 100000 in
set_option maxHeartbeats 4000000 in
theorem vald_any (evs : List Ev) (st : St) (Ae Ab Aw Ac : Option Addr) (ce cb cw cc : Nat) (w : World) (he : Rws Ev.cells 7 w Ae evs) (hz : ∀ e ∈ evs, e.num.size ≤ maxLen) (hi : StIn w Ab Aw Ac cw cc st) (hF : StFits st) :
    Calls Try.prog 18 #[.slice Ae evs.length ce, .agg #[.slice Ab st.bs.length cb, .slice Aw st.ws.length cw, .slice Ac st.cs.length cc]] w (ValR evs st w) := by
  have HE := Lib.hid he
  have HZ := Lib.hid hz
  have HI := Lib.hid hi
  have HF := Lib.hid hF
  clear he hz hi hF
  by_cases h40 : evs.length ≤ 40
  · cases hf : fewS st
    · go_enter Try.func18, Try.ntmps18
      go_wp2_with (first
        | (go_at_call 8; (with_reducible refine (fews_any st Ab Aw Ac cb cw cc _ (HI.out.alloc _).b HF.out.nb HF.out.nw HF.out.nc (fun x hx => (HF.out.fb x hx).zones)).mono ?_); rw [hf]; rintro e w1 ⟨rfl, hb⟩; obtain ⟨s, rfl⟩ := ext_of_below hb; clear hb))
      go_ret
      exact ⟨⟨false, rfl, fun h => by cases h⟩, by repeat' (first | exact Below.refl _ _ | refine below_ext ?_ ?_ _ | refine Below.alloc ?_ ?_ _ | refine Below.setCell ?_ ?_ _ | refine Below.drew ?_ | (rw [size_ext]; refine Nat.le_add_right_of_le ?_) | go_size | (rw [World.size_alloc]; refine Nat.le_add_right_of_le ?_))⟩
    · have hnw := (fewS_yes hf).2.2.1
      go_enter Try.func18, Try.ntmps18
      go_wp2_with (first
        | (go_at_call 8; (with_reducible refine (fews_any st Ab Aw Ac cb cw cc _ (HI.out.alloc _).b HF.out.nb HF.out.nw HF.out.nc (fun x hx => (HF.out.fb x hx).zones)).mono ?_); rw [hf]; rintro e w1 ⟨rfl, hb⟩; obtain ⟨s, rfl⟩ := ext_of_below hb; clear hb)
        | (go_at_call 38; (refine (ascending_any st.ws Aw cw _ ((HI.out.alloc _).ext _).s (by omega)).mono ?_); rintro e w1 ⟨⟨b1, rfl⟩, hb⟩; obtain ⟨s1, rfl⟩ := ext_of_below hb; clear hb)
        | (go_at_call 39; (refine (chk_any evs Ae ce _ (HE.out.below ?_) h40 HZ.out).mono ?_); (· repeat' (first | exact Below.refl _ _ | refine below_ext ?_ ?_ _ | refine Below.alloc ?_ ?_ _ | refine Below.setCell ?_ ?_ _ | refine Below.drew ?_ | (rw [size_ext]; refine Nat.le_add_right_of_le ?_) | go_size | (rw [World.size_alloc]; refine Nat.le_add_right_of_le ?_))); rintro e w2 ⟨⟨i, n, rfl, hn⟩, hb⟩; obtain ⟨s2, rfl⟩ := ext_of_below hb; have HN := Lib.hid hn; clear hb hn))
      all_goals
        go_ret
        first
        | exact ⟨⟨_, rfl, fun h => by cases h⟩, by repeat' (first | exact Below.refl _ _ | refine below_ext ?_ ?_ _ | refine Below.alloc ?_ ?_ _ | refine Below.setCell ?_ ?_ _ | refine Below.drew ?_ | (rw [size_ext]; refine Nat.le_add_right_of_le ?_) | go_size | (rw [World.size_alloc]; refine Nat.le_add_right_of_le ?_))⟩
        | exact ⟨⟨_, rfl, fun h => ⟨h40, hf, HN.out (by simpa using h)⟩⟩, by repeat' (first | exact Below.refl _ _ | refine below_ext ?_ ?_ _ | refine Below.alloc ?_ ?_ _ | refine Below.setCell ?_ ?_ _ | refine Below.drew ?_ | (rw [size_ext]; refine Nat.le_add_right_of_le ?_) | go_size | (rw [World.size_alloc]; refine Nat.le_add_right_of_le ?_))⟩
  · go_enter Try.func18, Try.ntmps18
    go_wp2_with fail
    go_ret
    exact ⟨⟨false, rfl, fun h => by cases h⟩, by repeat' (first | exact Below.refl _ _ | refine below_ext ?_ ?_ _ | refine Below.alloc ?_ ?_ _ | refine Below.setCell ?_ ?_ _ | refine Below.drew ?_ | (rw [size_ext]; refine Nat.le_add_right_of_le ?_) | go_size | (rw [World.size_alloc]; refine Nat.le_add_right_of_le ?_))⟩

set_option maxRecDepth 100000 in
set_option maxHeartbeats 8000000 in
theorem wallets_law (evs : List Ev) (st : St) (Ae Ab Aw Ac : Option Addr) (ce cb cw cc : Nat) (acc t : Int) (w : World) (he : Rws Ev.cells 7 w Ae evs) (hz : ∀ e ∈ evs, e.num.size ≤ maxLen) (hi : StIn w Ab Aw Ac cw cc st) (hF : StFits st) (hfa : fits acc) :
    Calls Try.prog 5 #[.slice Ae evs.length ce, .agg #[.slice Ab st.bs.length cb, .slice Aw st.ws.length cw, .slice Ac st.cs.length cc], .agg #[.int .i64 acc, .int .i64 t]] w fun e w' => e = .returned (.bool true) ∧ Below w.heap.size w w' := by
  have HV := Lib.hid (fun W h1 h2 => vald_any evs st Ae Ab Aw Ac ce cb cw cc W h1 hz h2 hF)
  have HE := Lib.hid he
  have HI := Lib.hid hi
  have HF := Lib.hid hF
  have HFA := Lib.hid hfa
  clear he hz hi hF hfa
  go_enter Try.func5, Try.ntmps5
  go_upto_region 1 with fail
  obtain ⟨W1, hW⟩ : ∃ W1, W1 = ((w.alloc (.cells #[.slice Ab st.bs.length cb, .slice Aw st.ws.length cw, .slice Ac st.cs.length cc] 26)).alloc (.cells #[.int .i64 acc, .int .i64 t] 46)) := ⟨_, rfl⟩
  rw [← hW]
  have HB1 := Lib.hid (show Below w.heap.size w W1 by rw [hW]; repeat' (first | exact Below.refl _ _ | refine below_ext ?_ ?_ _ | refine Below.alloc ?_ ?_ _ | refine Below.setCell ?_ ?_ _ | refine Below.drew ?_ | (rw [size_ext]; refine Nat.le_add_right_of_le ?_) | go_size | (rw [World.size_alloc]; refine Nat.le_add_right_of_le ?_)))
  have hs1 : W1.heap.size = w.heap.size + 1 + 1 := by rw [hW]; simp
  have a0 : W1.cell? ⟨w.heap.size + 1, 0, none⟩ = some (.int .i64 acc) := by rw [hW]; simp [go_sem]
  have a1 : W1.cell? ⟨w.heap.size + 1, 1, none⟩ = some (.int .i64 t) := by rw [hW]; simp [go_sem]
  have b0 : W1.cell? ⟨w.heap.size, 0, none⟩ = some (.slice Ab st.bs.length cb) := by rw [hW]; simp [go_sem]
  have b1 : W1.cell? ⟨w.heap.size, 1, none⟩ = some (.slice Aw st.ws.length cw) := by rw [hW]; simp [go_sem]
  have b2 : W1.cell? ⟨w.heap.size, 2, none⟩ = some (.slice Ac st.cs.length cc) := by rw [hW]; simp [go_sem]
  have hl0 : w.heap.size < W1.heap.size := by omega
  have hl1 : w.heap.size + 1 < W1.heap.size := by omega
  clear hW
  go_region_held3 (fun w' => w'.cell? ⟨w.heap.size + 1, 0, none⟩ = some (.int .i64 acc) ∧ w'.cell? ⟨w.heap.size + 1, 1, none⟩ = some (.int .i64 t))
    ((with_reducible refine ⟨keepL (W := W1) ?_ hl1 a0, keepL (W := W1) ?_ hl1 a1⟩ <;> (repeat' (first | exact Below.refl _ _ | refine below_ext ?_ ?_ _ | refine Below.alloc ?_ ?_ _ | refine Below.setCell ?_ ?_ _ | refine Below.drew ?_ | (rw [size_ext]; refine Nat.le_add_right_of_le ?_) | go_size | (rw [World.size_alloc]; refine Nat.le_add_right_of_le ?_)))))
    (fail)
  go_upto_region 4 with (first
    | (go_at_call 18; (refine (HV.out _ (HE.out.below ?_) (HI.out.below ?_)).mono ?_); (· refine HB1.out.trans (Below.mono (B := W1.heap.size) ?_ HB1.out.size); repeat' (first | exact Below.refl _ _ | refine below_ext ?_ ?_ _ | refine Below.alloc ?_ ?_ _ | refine Below.setCell ?_ ?_ _ | refine Below.drew ?_ | (rw [size_ext]; refine Nat.le_add_right_of_le ?_) | go_size | (rw [World.size_alloc]; refine Nat.le_add_right_of_le ?_))); (· refine HB1.out.trans (Below.mono (B := W1.heap.size) ?_ HB1.out.size); repeat' (first | exact Below.refl _ _ | refine below_ext ?_ ?_ _ | refine Below.alloc ?_ ?_ _ | refine Below.setCell ?_ ?_ _ | refine Below.drew ?_ | (rw [size_ext]; refine Nat.le_add_right_of_le ?_) | go_size | (rw [World.size_alloc]; refine Nat.le_add_right_of_le ?_))); rintro e w2 ⟨⟨b, rfl, hb⟩, hbw⟩; obtain ⟨s2, rfl⟩ := ext_of_below hbw; have HVB := Lib.hid hb; clear hb hbw)
    | (go_at_call 9; with_reducible refine (alive_any _).mono ?_; rintro e w1 ⟨rfl, hb⟩; obtain ⟨s, rfl⟩ := ext_of_below hb; clear hb))
  · go_ret
    refine ⟨rfl, ?_⟩
    refine HB1.out.trans (Below.mono (B := W1.heap.size) ?_ HB1.out.size)
    repeat' (first | exact Below.refl _ _ | refine below_ext ?_ ?_ _ | refine Below.alloc ?_ ?_ _ | refine Below.setCell ?_ ?_ _ | refine Below.drew ?_ | (rw [size_ext]; refine Nat.le_add_right_of_le ?_) | go_size | (rw [World.size_alloc]; refine Nat.le_add_right_of_le ?_))
  · have hbt : b = true := by simpa using (by assumption : (!b) = false)
    obtain ⟨h40, hf, hpw⟩ := HVB.out hbt
    obtain ⟨n1, n2, n3, n4⟩ := fewS_yes hf
    obtain ⟨s', C1, C2, m1, m2, m3, m4⟩ := both_any evs st Ae Ab Aw Ac ce cb cw cc acc t HFA.out hpw n3 n1 n4 n2 HF.out.fw
    have HC1 := Lib.hid C1
    have HC2 := Lib.hid C2
    have HM := Lib.hid m4
    have HBV := Lib.hid (show Below W1.heap.size W1 (ext W1.drew s2) by repeat' (first | exact Below.refl _ _ | refine below_ext ?_ ?_ _ | refine Below.alloc ?_ ?_ _ | refine Below.setCell ?_ ?_ _ | refine Below.drew ?_ | (rw [size_ext]; refine Nat.le_add_right_of_le ?_) | go_size | (rw [World.size_alloc]; refine Nat.le_add_right_of_le ?_)))
    generalize (ext W1.drew s2) = wv at *
    have HWV := Lib.hid (HB1.out.trans (HBV.out.mono HB1.out.size))
    replace b0 := keepL HBV.out hl0 b0
    replace b1 := keepL HBV.out hl0 b1
    replace b2 := keepL HBV.out hl0 b2
    have hlv : w.heap.size < wv.heap.size := by have := HBV.out.size; omega
    have HIV := Lib.hid (HI.out.below HWV.out)
    have HWA : Hid (WaIn wv Ae evs Ab Aw Ac cw cc st) := ⟨HE.out.below HWV.out, HIV.out.b, HIV.out.s, HIV.out.c, by omega, by omega, by omega, by omega, fun x hx => Nat.le_trans (n2 x hx) (by omega), HIV.out.wn, HIV.out.cn, HF.out.fw⟩
    clear C1 C2 m4 hpw hf n1 n2 n3 n4 HV HE HI HF HFA HVB HIV a0 a1
    go_region_held3 (fun w' => w'.cell? ⟨w.heap.size, 0, none⟩ = some (.slice Ab st.bs.length cb) ∧ w'.cell? ⟨w.heap.size, 1, none⟩ = some (.slice Aw st.ws.length cw) ∧ w'.cell? ⟨w.heap.size, 2, none⟩ = some (.slice Ac st.cs.length cc))
      ((with_reducible refine ⟨keepL (W := wv) ?_ hlv b0, keepL (W := wv) ?_ hlv b1, keepL (W := wv) ?_ hlv b2⟩ <;> (repeat' (first | exact Below.refl _ _ | refine below_ext ?_ ?_ _ | refine Below.alloc ?_ ?_ _ | refine Below.setCell ?_ ?_ _ | refine Below.drew ?_ | (rw [size_ext]; refine Nat.le_add_right_of_le ?_) | go_size | (rw [World.size_alloc]; refine Nat.le_add_right_of_le ?_)))))
      ((first
        | (go_at_call 19; (refine (HC1.out _ (HWA.out.below ?_)).mono ?_); (· repeat' (first | exact Below.refl _ _ | refine below_ext ?_ ?_ _ | refine Below.alloc ?_ ?_ _ | refine Below.setCell ?_ ?_ _ | refine Below.drew ?_ | (rw [size_ext]; refine Nat.le_add_right_of_le ?_) | go_size | (rw [World.size_alloc]; refine Nat.le_add_right_of_le ?_))); rintro e wA ⟨v1, v2, v3, rfl, os, hbA⟩; obtain ⟨A1, A2, A3, d1, d2, d3, rfl, rfl, rfl, hin⟩ := os.form; obtain ⟨sA, rfl⟩ := ext_of_below hbA; (try rw [ext_ext] at hin ⊢); have HA := Lib.hid hin; clear os hbA hin)
        | (go_at_call 20; (refine (HC2.out _ (HWA.out.below ?_)).mono ?_); (· repeat' (first | exact Below.refl _ _ | refine below_ext ?_ ?_ _ | refine Below.alloc ?_ ?_ _ | refine Below.setCell ?_ ?_ _ | refine Below.drew ?_ | (rw [size_ext]; refine Nat.le_add_right_of_le ?_) | go_size | (rw [World.size_alloc]; refine Nat.le_add_right_of_le ?_))); rintro e wB ⟨v4, v5, v6, rfl, os, hbB⟩; obtain ⟨A4, A5, A6, d4, d5, d6, rfl, rfl, rfl, hin⟩ := os.form; obtain ⟨sB, rfl⟩ := ext_of_below hbB; (try rw [ext_ext] at hin ⊢); have HBB := Lib.hid hin; clear os hbB hin)
        | (go_at_call 12; (first | (refine (samest_any s' A1 A2 A3 A4 A5 A6 d1 d2 d3 d4 d5 d6 _ (HA.out.cat _).b HBB.out.b (HA.out.cat _).s HBB.out.s (HA.out.cat _).c HBB.out.c m1 m2 m3 HM.out).mono ?_) | (refine (samest_any s' A1 A2 A3 A4 A5 A6 d1 d2 d3 d4 d5 d6 _ HA.out.b (HBB.out.cat _).b HA.out.s (HBB.out.cat _).s HA.out.c (HBB.out.cat _).c m1 m2 m3 HM.out).mono ?_)); rintro e w1 ⟨rfl, hb⟩; obtain ⟨s, rfl⟩ := ext_of_below hb; clear hb)
        | (go_at_call 9; with_reducible refine (alive_any _).mono ?_; rintro e w1 ⟨rfl, hb⟩; obtain ⟨s, rfl⟩ := ext_of_below hb; clear hb)))
    all_goals
      go_wp2
      go_ret
      refine ⟨rfl, ?_⟩
      refine HWV.out.trans (Below.mono (B := wv.heap.size) ?_ HWV.out.size)
      repeat' (first | exact Below.refl _ _ | refine below_ext ?_ ?_ _ | refine Below.alloc ?_ ?_ _ | refine Below.setCell ?_ ?_ _ | refine Below.drew ?_ | (rw [size_ext]; refine Nat.le_add_right_of_le ?_) | go_size | (rw [World.size_alloc]; refine Nat.le_add_right_of_le ?_))

theorem walk_consumeWallets (A : Option Addr) (n c : Nat) (v : Value) (acc t : Int) (w : World) (he : InEvs w A n) (h : InSt w v) (hfa : fits acc) :
    Calls Try.prog 5 #[.slice A n c, v, .agg #[.int .i64 acc, .int .i64 t]] w fun e w' => e = .returned (.bool true) ∧ Below w.heap.size w w' := by
  obtain ⟨evs, rfl, -, h1, h2⟩ := he
  obtain ⟨st, Ab, Aw, Ac, cb, cw, cc, rfl, hi, hF⟩ := h
  exact wallets_law evs st A Ab Aw Ac c cb cw cc acc t w h1 h2 hi hF hfa
end Go.Proofs.Ythkollhebabhbaa

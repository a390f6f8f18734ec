/-
  The walks of places, Place, Same and Few over states.
-/
import Derived.Test.YthkollhebabhbaaCc2
import Derived.Test.YthkollhebabhbaaBz
import Derived.Maps.OwnOps
import Derived.Maps.OwnSet
import Derived.Maps.Views
namespace Go.Proofs.Ythkollhebabhbaa
open Go.RowKit Go.Maps
set_option linter.unusedSimpArgs false
set_option linter.unusedVariables false

theorem lawI : Keyed Try.prog 3 := int_keyed Try.underlying3
theorem zeroI (w : World) : (zeroValue 3).run Try.prog w = .ok (.int .i64 0) w := by kernel_rfl

/-- The map that places makes: where each account's first wallet stands. -/
def PlMap (w : World) (b : Nat) (ws : List W5) : Prop := ∃ D : DataW Unit, Maps.IsMap D ∧ w.ownsMap Try.prog 3 (plainElem Try.prog 3) b ws.length D ∧
  ∀ a : Int, Maps.has D (.int .i64 a) = (plc a ws).isSome ∧ ∀ j, plc a ws = some j → D.atKey (.int .i64 a) (.lit (.int .i64 0)) = .lit (.int .i64 (j : Int))
theorem PlMap.below {w w' : World} {b : Nat} {ws : List W5} (h : PlMap w b ws) (hb : Below w.heap.size w w') : PlMap w' b ws := by
  obtain ⟨D, h1, h2, h3⟩ := h
  refine ⟨D, h1, ?_, h3⟩
  have hlt := h2.lt
  obtain ⟨es, clock, hbk, r⟩ := h2
  exact ⟨es, clock, (hb.block b hlt).trans hbk, r⟩
theorem int_wf {a : Int} (h : fits a) : (Lit.int .i64 a).wf = true := by
  simp only [Lit.wf, Bool.and_eq_true, decide_eq_true_eq]
  exact h
theorem PlMap.start (w : World) : PlMap (w.alloc (.map #[] 0)) w.heap.size [] :=
  ⟨.map [], isMap_empty, World.ownsMap_made _ _ _ _, fun a => ⟨rfl, fun j h => by simp [plc] at h⟩⟩

def PlFacts (D : DataW Unit) (ws : List W5) : Prop := ∀ a : Int, Maps.has D (.int .i64 a) = (plc a ws).isSome ∧ ∀ j, plc a ws = some j → D.atKey (.int .i64 a) (.lit (.int .i64 0)) = .lit (.int .i64 (j : Int))
theorem pl_keep {D : DataW Unit} {ws : List W5} {x : W5} {j : Nat} (h : PlFacts D ws) (hp : plc x.a ws = some j) : PlFacts D (ws ++ [x]) := fun a => by
  have h1 := h a
  rw [plc_snoc]
  cases hq : plc a ws with
  | some k =>
    rw [hq] at h1
    exact h1
  | none =>
    have hne : x.a ≠ a := fun e => by
      rw [e, hq] at hp
      cases hp
    rw [hq] at h1
    simpa [hne] using h1
theorem pl_put {D : DataW Unit} {ws : List W5} {x : W5} (hD : Maps.IsMap D) (h : PlFacts D ws) (hp : plc x.a ws = none) : PlFacts (D.put (.int .i64 x.a) (.lit (.int .i64 (ws.length : Int)))) (ws ++ [x]) := fun a => by
  have h1 := h a
  rw [plc_snoc]
  by_cases e : x.a = a
  · subst e
    rw [hp]
    simp only [if_true, Option.isSome_some, Option.some.injEq]
    refine ⟨Maps.has_put_same hD (by simp [WideAt.IsKeyLit]) _, fun j hj => ?_⟩
    rw [← hj]
    exact Maps.atKey_put_same hD (by simp [WideAt.IsKeyLit]) _ _
  · have hk : (Lit.int .i64 a) ≠ Lit.int .i64 x.a := fun h => e (by cases h; rfl)
    rw [Maps.has_put_other hk]
    refine ⟨?_, fun j hj => ?_⟩
    · rw [h1.1]
      cases plc a ws <;> simp [e]
    · rw [Maps.atKey_put_other hk]
      refine h1.2 j ?_
      cases hq : plc a ws with
      | some k =>
        rw [hq] at hj
        exact hj
      | none =>
        rw [hq] at hj
        simp [e] at hj
set_option maxRecDepth 100000 in
set_option maxHeartbeats 2000000 in
theorem places_any' (ws : List W5) (A : Option Addr) (c : Nat) (w : World) (hn : ws.length ≤ 1000) (hw : Fives w A ws) (hf : ∀ x ∈ ws, fits x.a) :
    Calls Try.prog 27 #[.slice A ws.length c] w fun e w' => e = .returned (.map (some w.heap.size)) ∧ PlMap w' w.heap.size ws ∧ Below w.heap.size w w' := by
  have hmm := @run_makeMap Try.prog
  have HW := Lib.hid hw
  have HF := Lib.hid hf
  clear hw hf
  go_enter Try.func27, Try.ntmps27
  go_wp2_with fail
  go_loopw [11] (fun i wr => ∃ k : Nat, k ≤ ws.length ∧ i = .int .i64 (k : Int) ∧ PlMap wr w.heap.size (ws.take k) ∧ Below w.heap.size w wr) (fun i _ => ws.length - (intOf i).toNat)
  case atStart => exact ⟨0, Nat.zero_le _, rfl, PlMap.start _, (Below.refl _ _).alloc (Nat.le_refl _) _⟩
  case round =>
    obtain ⟨k, hk, rfl, hm, hbw⟩ := hrel
    have HB := Lib.hid hbw
    by_cases hlt : k < ws.length
    · obtain ⟨x, hx⟩ : ∃ s, ws[k]? = some s := ⟨_, List.getElem?_eq_getElem hlt⟩
      obtain ⟨b, o, rfl, hb, x0, x1, x2, x3, x4⟩ := fives_cells (HW.out.below hbw) hx
      have hxf := HF.out x (List.mem_of_getElem? hx)
      have HX := Lib.hid hx
      have hsz := hbw.size
      clear hx hbw
      obtain ⟨D, hD1, hD2, hD3⟩ := hm
      have hlk : (ws.take k).length = k := by rw [List.length_take]; omega
      rw [hlk] at hD2
      have hts : ws.take (k + 1) = ws.take k ++ [x] := by
        obtain ⟨e1, e2⟩ := List.getElem?_eq_some_iff.1 HX.out
        rw [List.take_succ_eq_append_getElem e1, e2]
      have HTS := Lib.hid hts
      have HLK := Lib.hid hlk
      have HD1 := Lib.hid hD1
      have HD2 := Lib.hid hD2
      have HD3 := Lib.hid hD3
      have hkey : keyOf Try.prog 3 (.int .i64 x.a) = some (.int .i64 x.a) := keyOf_int_mk Try.underlying3 (int_wf hxf)
      have HK := Lib.hid hkey
      clear hD1 hD2 hD3 hkey hts hlk
      rcases hp : plc x.a (ws.take k) with _ | j
      · have hhas : Maps.has D (.int .i64 x.a) = false := by rw [(HD3.out x.a).1, hp]; rfl
        have HP := Lib.hid hp
        clear hp
        go_wp2_with (first
          | (at_lookup; refine wpList_lookup_own_ok_int _ rfl _ _ 62 rfl 3 3 .i64 lawI Try.underlying62 Try.underlying3 (zeroI _) w.heap.size k D rfl (HD2.out.alloc _) _ _ rfl HK.out ?_; intro c hat hwc; clear hat hwc)
          | (at_mapUpdate; refine wpList_mapUpdate_own _ rfl _ _ _ 62 rfl 3 3 lawI Try.underlying62 _ w.heap.size k D rfl (HD2.out.alloc _) (by unfold maxLen; omega) _ _ _ rfl rfl HK.out _ [] (plainElem_int Try.underlying3 (int_wf (show fits (k : Int) from ⟨by omega, by omega⟩))) ?_; intro w1 hown1 hgrow1; have HO1 := Lib.hid hown1; have HG1 := Lib.hid hgrow1; clear hown1 hgrow1))
        go_roundw
        case rel =>
          refine ⟨k + 1, by omega, by go_num, ?_, (HB.out.alloc HB.out.size _).grown HG1.out (by simp; omega) (fun j hj => by cases hj; exact Nat.le_refl _)⟩
          rw [HTS.out]
          have := pl_put HD1.out HD3.out HP.out
          rw [HLK.out] at this
          exact ⟨_, HD1.out.put _ _, by rw [List.length_append, HLK.out]; exact HO1.out, this⟩
        case measure => simp [intOf]; omega
      · have hhas : Maps.has D (.int .i64 x.a) = true := by rw [(HD3.out x.a).1, hp]; rfl
        have HP := Lib.hid hp
        clear hp
        go_wp2_with (at_lookup; refine wpList_lookup_own_ok_int _ rfl _ _ 62 rfl 3 3 .i64 lawI Try.underlying62 Try.underlying3 (zeroI _) w.heap.size k D rfl (HD2.out.alloc _) _ _ rfl HK.out ?_; intro c hat hwc; clear hat hwc)
        go_roundw
        case rel =>
          refine ⟨k + 1, by omega, by go_num, ?_, HB.out.alloc HB.out.size _⟩
          rw [HTS.out]
          exact ⟨D, HD1.out, by rw [List.length_append, HLK.out]; exact (HD2.out.alloc _).mono (by simp), pl_keep HD3.out HP.out⟩
        case measure => simp [intOf]; omega
    · have hkn : k = ws.length := by omega
      rw [hkn, List.take_length] at hm
      have HM := Lib.hid hm
      clear hm hkn
      go_wp2_with fail
      go_ret
      exact ⟨rfl, HM.out, HB.out⟩
end Go.Proofs.Ythkollhebabhbaa

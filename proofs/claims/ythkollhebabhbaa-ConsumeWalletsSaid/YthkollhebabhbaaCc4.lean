/-
  The walks of the reference's Place, of Same and of Few over states.
-/
import Derived.Test.YthkollhebabhbaaCc3
import Derived.BigQuiet
namespace Go.Proofs.Ythkollhebabhbaa
open Go.RowKit
set_option linter.unusedSimpArgs false
set_option linter.unusedVariables false

def plI (a : Int) (ws : List W5) : Int := match plc a ws with | some k => (k : Int) | none => -1
set_option maxRecDepth 100000 in
set_option maxHeartbeats 2000000 in
theorem place_any (a : Int) (ws : List W5) (A : Option Addr) (c : Nat) (w : World) (hn : ws.length ≤ 100000) (h : Fives w A ws) :
    Calls Try.prog 13 #[.slice A ws.length c, .int .i64 a] w fun e w' => e = .returned (.int .i64 (plI a ws)) ∧ Below w.heap.size w w' := by
  have H := Lib.hid h
  clear h
  go_enter Try.func13, Try.ntmps13
  go_wp2_with fail
  go_loopw [5] (fun i wr => ∃ (k : Nat) (s : More), k ≤ ws.length ∧ i = .int .i64 k ∧ wr = ext w s ∧ Hid (∀ (j : Nat) (c : W5), j < k → ws[j]? = some c → c.a ≠ a)) (fun i _ => ws.length - (intOf i).toNat)
  case atStart => exact ⟨0, _, Nat.zero_le _, rfl, ext_nil _, fun j c h => absurd h (by omega)⟩
  case round =>
    obtain ⟨k, s, hk, rfl, rfl, hall⟩ := hrel
    by_cases hlt : k < ws.length
    · obtain ⟨x, hx⟩ : ∃ s, ws[k]? = some s := ⟨_, List.getElem?_eq_getElem hlt⟩
      obtain ⟨b, o, rfl, hb, x0, x1, x2, x3, x4⟩ := fives_cells H.out hx
      have HX := Lib.hid hx
      clear hx
      by_cases he : x.a = a
      · have heb : (x.a == a) = true := beq_iff_eq.2 he
        have E : Hid (plI a ws = (k : Int)) := by
          unfold Hid plI
          rw [plc_at HX.out he fun j c hj hc => hall.out j c hj hc]
        clear he
        go_wp2_with fail
        go_ret
        refine ⟨ret_int E.out.symm, ?_⟩
        repeat' (first | exact Below.refl _ _ | refine below_ext ?_ ?_ _ | refine Below.alloc ?_ ?_ _ | refine Below.setCell ?_ ?_ _ | refine Below.drew ?_ | (rw [size_ext]; refine Nat.le_add_right_of_le ?_) | go_size | (rw [World.size_alloc]; refine Nat.le_add_right_of_le ?_))
      · have heb : (x.a == a) = false := beq_eq_false_iff_ne.2 he
        have HE := Lib.hid he
        clear he
        go_wp2_with fail
        go_roundw
        case rel =>
          refine ⟨k + 1, _, by omega, by go_num, rfl, fun j c hj hc => ?_⟩
          rcases Nat.lt_succ_iff_lt_or_eq.1 hj with h | h
          · exact hall.out j c h hc
          · subst h
            rw [HX.out] at hc
            cases hc
            exact HE.out
        case measure => simp [intOf]; omega
    · have hkn : k = ws.length := by omega
      have E : Hid (plI a ws = -1) := by
        unfold Hid plI
        rw [plc_none fun j c hc => hall.out j c (by have := (List.getElem?_eq_some_iff.1 hc).1; omega) hc]
      clear hkn
      go_wp2_with fail
      go_ret
      refine ⟨ret_int E.out.symm, ?_⟩
      repeat' (first | exact Below.refl _ _ | refine below_ext ?_ ?_ _ | refine Below.alloc ?_ ?_ _ | refine Below.setCell ?_ ?_ _ | refine Below.drew ?_ | (rw [size_ext]; refine Nat.le_add_right_of_le ?_) | go_size | (rw [World.size_alloc]; refine Nat.le_add_right_of_le ?_))

theorem drewN_cat (w : World) (s : More) (n : Nat) : (ext w s).drewN n = ext w ⟨s.L, s.d + n⟩ := by simp [World.drewN, ext]
set_option maxRecDepth 100000 in
set_option maxHeartbeats 4000000 in
theorem samest_any (s1 : St) (Ab Aw Ac Ab' Aw' Ac' : Option Addr) (cb cw cc cb' cw' cc' : Nat) (w : World) (hb : Bks w Ab s1.bs) (hb' : Bks w Ab' s1.bs) (hw : Fives w Aw s1.ws) (hw' : Fives w Aw' s1.ws) (hc : Fives w Ac s1.cs) (hc' : Fives w Ac' s1.cs)
    (hn : s1.bs.length ≤ 1000) (hnw : s1.ws.length ≤ 1000) (hnc : s1.cs.length ≤ 1000) (hz : ∀ x ∈ s1.bs, x.zones.length ≤ 1000) :
    Calls Try.prog 12 #[.agg #[.slice Ab s1.bs.length cb, .slice Aw s1.ws.length cw, .slice Ac s1.cs.length cc], .agg #[.slice Ab' s1.bs.length cb', .slice Aw' s1.ws.length cw', .slice Ac' s1.cs.length cc']] w fun e w' => e = .returned (.bool true) ∧ Below w.heap.size w w' := by
  have HBb := Lib.hid hb
  have HBb' := Lib.hid hb'
  have HW := Lib.hid hw
  have HW' := Lib.hid hw'
  have HC := Lib.hid hc
  have HC' := Lib.hid hc'
  have HZ := Lib.hid hz
  clear hb hb' hw hw' hc hc' hz
  go_enter Try.func12, Try.ntmps12
  go_wp2_with (go_at_call 32; refine (samebks_any s1.bs Ab Ab' cb cb' _ (by omega) HZ.out ((HBb.out.alloc _).alloc _) ((HBb'.out.alloc _).alloc _)).mono ?_; rintro e w1 ⟨rfl, hb⟩; obtain ⟨s, rfl⟩ := ext_of_below hb; clear hb)
  go_loopw [5] (fun i wr => ∃ (k : Nat) (s : More), k ≤ s1.ws.length ∧ i = .int .i64 (k : Int) ∧ wr = ext ((w.alloc (Obj.cells #[.slice Ab s1.bs.length cb, .slice Aw s1.ws.length cw, .slice Ac s1.cs.length cc] 26)).alloc (Obj.cells #[.slice Ab' s1.bs.length cb', .slice Aw' s1.ws.length cw', .slice Ac' s1.cs.length cc'] 26)) s) (fun i _ => s1.ws.length - (intOf i).toNat)
  case atStart => exact ⟨0, _, Nat.zero_le _, rfl, rfl⟩
  case round =>
    obtain ⟨k, s2, hk, rfl, rfl⟩ := hrel
    by_cases hlt : k < s1.ws.length
    · obtain ⟨x, hx⟩ : ∃ s, s1.ws[k]? = some s := ⟨_, List.getElem?_eq_getElem hlt⟩
      obtain ⟨b, o, rfl, hb, x0, x1, x2, x3, x4⟩ := fives_cells HW.out hx
      obtain ⟨b', o', rfl, hb', y0, y1, y2, y3, y4⟩ := fives_cells HW'.out hx
      have hkb : (k : Int) < (s1.ws.length : Int) := by omega
      clear hx
      go_wp2_with fail
      refine wp_region_more (by kernel_rfl) (by kernel_rfl) ?_
      repeat (first | go_big_quiet_skip | quiet_step (fail))
      refine wpQuiet_nil ?_
      rintro _ ⟨s4, rfl⟩
      rw [ext_ext]
      go_wp2_with fail
      go_roundw
      case rel => exact ⟨k + 1, _, by omega, by go_num, rfl⟩
      case measure => simp [intOf]; omega
    · go_wp2_with fail
      go_loopw [6] (fun i wr => ∃ (k : Nat) (s : More), k ≤ s1.cs.length ∧ i = .int .i64 (k : Int) ∧ wr = ext ((w.alloc (Obj.cells #[.slice Ab s1.bs.length cb, .slice Aw s1.ws.length cw, .slice Ac s1.cs.length cc] 26)).alloc (Obj.cells #[.slice Ab' s1.bs.length cb', .slice Aw' s1.ws.length cw', .slice Ac' s1.cs.length cc'] 26)) s) (fun i _ => s1.cs.length - (intOf i).toNat)
      case atStart => exact ⟨0, _, Nat.zero_le _, rfl, rfl⟩
      case round =>
        obtain ⟨k', s2', hk', rfl, rfl⟩ := hrel
        by_cases hlt' : k' < s1.cs.length
        · obtain ⟨x, hx⟩ : ∃ s, s1.cs[k']? = some s := ⟨_, List.getElem?_eq_getElem hlt'⟩
          obtain ⟨b, o, rfl, hb, x0, x1, x2, x3, x4⟩ := fives_cells HC.out hx
          obtain ⟨b', o', rfl, hb', y0, y1, y2, y3, y4⟩ := fives_cells HC'.out hx
          have hkb : (k' : Int) < (s1.cs.length : Int) := by omega
          clear hx
          go_wp2_with fail
          refine wp_region_more (by kernel_rfl) (by kernel_rfl) ?_
          repeat (first | go_big_quiet_skip | quiet_step (fail))
          refine wpQuiet_nil ?_
          rintro _ ⟨s4, rfl⟩
          rw [ext_ext]
          go_wp2_with fail
          go_roundw
          case rel => exact ⟨k' + 1, _, by omega, by go_num, rfl⟩
          case measure => simp [intOf]; omega
        · go_wp2_with fail
          go_ret
          refine ⟨rfl, ?_⟩
          repeat' (first | exact Below.refl _ _ | refine below_ext ?_ ?_ _ | refine Below.alloc ?_ ?_ _ | refine Below.setCell ?_ ?_ _ | refine Below.drew ?_ | (rw [size_ext]; refine Nat.le_add_right_of_le ?_) | go_size | (rw [World.size_alloc]; refine Nat.le_add_right_of_le ?_))

def fewS (s : St) : Bool := fewB s.bs && decide (s.ws.length ≤ 12) && decide (s.cs.length ≤ 12)
theorem fewS_yes {s : St} (h : fewS s = true) : s.bs.length ≤ 12 ∧ (∀ x ∈ s.bs, x.zones.length ≤ 6) ∧ s.ws.length ≤ 12 ∧ s.cs.length ≤ 12 := by
  simp only [fewS, Bool.and_eq_true, decide_eq_true_eq] at h
  have := few_yes h.1.1
  exact ⟨this.1, this.2, h.1.2, h.2⟩
set_option maxRecDepth 100000 in
set_option maxHeartbeats 2000000 in
theorem fews_any (s1 : St) (Ab Aw Ac : Option Addr) (cb cw cc : Nat) (w : World) (hb : Bks w Ab s1.bs) (hn : s1.bs.length ≤ maxLen) (hnw : s1.ws.length ≤ maxLen) (hnc : s1.cs.length ≤ maxLen) (hz : ∀ x ∈ s1.bs, x.zones.length ≤ maxLen) :
    Calls Try.prog 8 #[.agg #[.slice Ab s1.bs.length cb, .slice Aw s1.ws.length cw, .slice Ac s1.cs.length cc]] w fun e w' => e = .returned (.bool (fewS s1)) ∧ Below w.heap.size w w' := by
  have HBb := Lib.hid hb
  have HZ := Lib.hid hz
  have HN := Lib.hid hn
  unfold maxLen at hnw hnc
  clear hb hz hn
  have E : Hid (fewS s1 = (fewB s1.bs && decide (s1.ws.length ≤ 12) && decide (s1.cs.length ≤ 12))) := rfl
  cases hf : fewB s1.bs
  all_goals rw [hf] at E
  · go_enter Try.func8, Try.ntmps8
    go_wp2_with (go_at_call 25; with_reducible refine (few_any s1.bs Ab cb _ HN.out HZ.out (HBb.out.alloc _)).mono ?_; rw [hf]; rintro e w1 ⟨rfl, hb⟩; obtain ⟨s, rfl⟩ := ext_of_below hb; clear hb)
    go_ret
    refine ⟨ret_bool (by rw [E.out]; rfl), ?_⟩
    repeat' (first | exact Below.refl _ _ | refine below_ext ?_ ?_ _ | refine Below.alloc ?_ ?_ _ | refine Below.setCell ?_ ?_ _ | refine Below.drew ?_ | (rw [size_ext]; refine Nat.le_add_right_of_le ?_) | go_size | (rw [World.size_alloc]; refine Nat.le_add_right_of_le ?_))
  · by_cases h1 : s1.ws.length ≤ 12 <;> by_cases h2 : s1.cs.length ≤ 12
    all_goals
      go_enter Try.func8, Try.ntmps8
      go_wp2_with (go_at_call 25; with_reducible refine (few_any s1.bs Ab cb _ HN.out HZ.out (HBb.out.alloc _)).mono ?_; rw [hf]; rintro e w1 ⟨rfl, hb⟩; obtain ⟨s, rfl⟩ := ext_of_below hb; clear hb)
      go_ret
      refine ⟨ret_bool (by rw [E.out]; first | (simp [h1, h2]; done) | (rw [Bool.eq_iff_iff]; simp; omega)), ?_⟩
      repeat' (first | exact Below.refl _ _ | refine below_ext ?_ ?_ _ | refine Below.alloc ?_ ?_ _ | refine Below.setCell ?_ ?_ _ | refine Below.drew ?_ | (rw [size_ext]; refine Nat.le_add_right_of_le ?_) | go_size | (rw [World.size_alloc]; refine Nat.le_add_right_of_le ?_))
end Go.Proofs.Ythkollhebabhbaa

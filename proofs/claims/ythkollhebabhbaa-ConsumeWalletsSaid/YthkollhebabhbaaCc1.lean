/-
  The walks of clone and CopyState: a state in new memory.
-/
import Derived.Test.YthkollhebabhbaaCm
import Derived.Deep.RegionHeld3
import Derived.Deep.DrawnRows
namespace Go.Proofs.Ythkollhebabhbaa
open Go.RowKit
set_option linter.unusedSimpArgs false
set_option linter.unusedVariables false

theorem strs_any {w : World} {A : Option Addr} {zs : List ByteArray} (h : StrsAt w A zs) : ∀ ad, A = some ad → ∀ (j : Nat) (u : Value), (zs.map Value.string)[j]? = some u → w.cell? (ad.add j) = some u := by
  rintro ad rfl
  exact strs_news h
theorem strs_nil {w : World} {A : Option Addr} {c : Nat} {zs : List ByteArray} (h : StrsAt w A zs) (hc : A = none → c = 0) : A = none → zs.length = 0 ∧ c = 0 := fun hA => by
  refine ⟨?_, hc hA⟩
  cases zs with
  | nil => rfl
  | cons s l =>
    obtain ⟨_, _, hA', _⟩ := h 0 s rfl
    rw [hA] at hA'
    cases hA'
theorem fives_nil {w : World} {A : Option Addr} {c : Nat} {xs : List W5} (h : Fives w A xs) (hc : A = none → c = 0) : A = none → xs.length = 0 ∧ c = 0 := fun hA => by
  refine ⟨?_, hc hA⟩
  cases xs with
  | nil => rfl
  | cons s l =>
    obtain ⟨_, _, hA', _⟩ := h 0 s rfl
    rw [hA] at hA'
    cases hA'

set_option maxRecDepth 100000 in
set_option maxHeartbeats 2000000 in
theorem cbuckets_any (xs : List Bk) (A : Option Addr) (c : Nat) (w : World) (hn : xs.length ≤ 1000) (hzn : ∀ x ∈ xs, x.zones.length ≤ 100) (hxs : Bks w A xs) :
    Calls Try.prog 51 #[.slice A xs.length c] w (ClonesPost xs w) := by
  obtain ⟨i0, hi0, hz0, hz1, hz2⟩ := info_parts info_bk
  obtain ⟨j0, hj0, hy0, hy1, hy2⟩ := info_parts info_str
  unfold ClonesPost
  have Hx := Lib.hid hxs
  have Hzn := Lib.hid hzn
  clear hxs hzn
  go_enter Try.func51, Try.ntmps51
  go_wp2
  go_loopw [3, 8] (fun v i wr => ∃ k : Nat, k ≤ xs.length ∧ i = .int .i64 k ∧ OwnBks wr w.heap.size v (xs.take k) ∧ Below w.heap.size w wr) (fun _ i _ => xs.length - (intOf i).toNat)
  case atStart => exact ⟨0, Nat.zero_le _, rfl, OwnBks.nil _ _, Below.refl _ _⟩
  case round =>
    obtain ⟨k, hk, rfl, hown, hbw⟩ := hrel
    by_cases hlt : k < xs.length
    · obtain ⟨x, hx⟩ : ∃ x, xs[k]? = some x := ⟨_, List.getElem?_eq_getElem hlt⟩
      obtain ⟨b, o, za, zc, rfl, hb, x0, x1, x2, x3, x4, x5, x6, x7, x8, x9, x10, x11, hzs, hzc⟩ := bk_cells (Hx.out.below hbw) hx
      have hx100 := Hzn.out x (List.mem_of_getElem? hx)
      obtain ⟨Z, hZ1, hZ2, hZ3⟩ := hown
      have HZ2 := Lib.hid hZ2
      have HZ3 := Lib.hid hZ3
      have HZ1 := Lib.hid hZ1
      have HX := Lib.hid hx
      have HNIL := Lib.hid (strs_nil hzs hzc)
      have HS := Lib.hid hzs
      clear hZ1 hZ2 hZ3 hx hzs hzc
      have hl : (xs.take k).length ≤ 1000 := by rw [List.length_take]; omega
      have hsz := hbw.size
      go_wp2_with (first
        | (at_builtin; refine wpList_append_any rfl _ _ _ rfl (wr.heap.size + 1) 9 j0 _ 1 16 Try.underlying87 hj0 hy0 hy1 hy2 rfl (by omega) (.slice none 0 0) 0 [] rfl (World.ownsRow_nil _ _ _ _) za x.zones.length zc (x.zones.map Value.string) rfl HNIL.out (by simp) (strs_any (HS.out.alloc _)) (strs_one _) (by simp only [maxLen]; omega) (by omega) (by simp) ?_; intro v1 w1 hown1 hg1; simp only [Nat.zero_add, List.nil_append] at hown1; obtain ⟨A1, k1, rfl, _⟩ := own_form hown1; have hb1 := (Below.refl _ _).grown hg1 (Nat.le_refl _) (by simp [Value.ownBlock]); obtain ⟨s, rfl⟩ := ext_of_below hb1; have HO := Lib.hid hown1; clear hown1 hg1 hb1)
        | (at_builtin; refine wpList_append_own _ rfl _ _ _ rfl w.heap.size 91 i0 _ 12 120 Try.underlying22 hi0 hz0 hz1 hz2 rfl (by omega) _ (xs.take k).length (Bk.rows (xs.take k) Z) rfl ((own_below HZ2.out (below_ext ((Below.refl _ _).alloc (Nat.le_refl _) _) (by simp) s)).alloc _) ⟨wr.heap.size + 1 + s.n, 0, none⟩ 1 1 (x.cells A1 k1) rfl rfl (cells_new _ (by simp [go_sem])) (bk_one x A1 k1) (by simp only [maxLen]; omega) (by omega) (by simp [go_sem]; omega) ?_; intro v2 w2 hown2 hg hnil; clear hnil; have HO2 := Lib.hid hown2; have HG := Lib.hid hg; clear hown2 hg))
      go_roundw
      case rel =>
        refine ⟨k + 1, by omega, by go_num, ?_, ?_⟩
        · rw [List.take_succ_eq_append_getElem hlt, show xs[k] = x from by have := HX.out; rw [List.getElem?_eq_getElem hlt] at this; exact Option.some.inj this]
          exact own_snoc HZ1.out ((own_below HZ2.out (below_ext ((Below.refl _ _).alloc (Nat.le_refl _) _) (by simp) s)).alloc _) (fun j y z hy hz => (own_below (HZ3.out j y z hy hz) (below_ext ((Below.refl _ _).alloc (Nat.le_refl _) _) (by simp) s)).alloc _) ((own_mono (own_swap HO.out (by simp) (by simp)) (by omega)).alloc _) HO2.out HG.out
        · exact (Below.alloc (below_ext (hbw.alloc hbw.size _) (by simp; omega) s) (by simp [go_sem]; omega) _).grown HG.out (by simp [go_sem]; omega) (fun j hj => (HZ2.out.lt j hj).1)
      case measure => simp [intOf]; omega
    · have hkn : k = xs.length := by omega
      subst hkn
      rw [List.take_length] at hown
      go_wp2
      go_ret
      exact ⟨_, rfl, hown, hbw⟩

theorem info_w5 : (Try.prog.info? 37).map (fun i => (i.zero, i.size, i.bytes)) = some (some (.agg #[.int .i64 0, .int .i64 0, .int .i64 0, .int .i64 0, .int .i64 0]), 5, 40) := by kernel_rfl
theorem info_c5 : (Try.prog.info? 68).map (fun i => (i.zero, i.size, i.bytes)) = some (some (.agg #[.int .i64 0, .int .i64 0, .int .i64 0, .int .i64 0, .int .i64 0]), 5, 40) := by kernel_rfl

/-- A state that the call owns. -/
def OwnSt (w : World) (B : Nat) (vb vw vc : Value) (s : St) : Prop := OwnBks w B vb s.bs ∧ OwnF w B 37 vw s.ws ∧ OwnF w B 68 vc s.cs
def ClonedSt (s : St) (w : World) (e : Ending) (w' : World) : Prop := ∃ vb vw vc, e = .returned (.agg #[vb, vw, vc]) ∧ OwnSt w' w.heap.size vb vw vc s ∧ Below w.heap.size w w'

theorem OwnBks.swap {W W' : World} {s : More} {B : Nat} {v : Value} {xs : List Bk} (h : OwnBks (ext W s) B v xs) (hs : W'.heap.size = W.heap.size) (hB : W.heap.size ≤ B) : OwnBks (ext W' s) B v xs := by
  obtain ⟨Z, h1, h2, h3⟩ := h
  exact ⟨Z, h1, own_swap h2 hs hB, fun j x z hx hz => own_swap (h3 j x z hx hz) hs hB⟩
theorem own_cat {w : World} {s : More} {B size n : Nat} {e : TypeId} {v : Value} {xs : List Value} (h : (ext w s).ownsRow B e size v n xs) (t : More) : (ext w (s.cat t)).ownsRow B e size v n xs := by
  have := own_below h (below_ext (Below.refl _ _) (Nat.le_refl _) t)
  rwa [ext_ext] at this
theorem OwnBks.cat {w : World} {s : More} {B : Nat} {v : Value} {xs : List Bk} (h : OwnBks (ext w s) B v xs) (t : More) : OwnBks (ext w (s.cat t)) B v xs := by
  have := h.below (below_ext (Below.refl _ _) (Nat.le_refl _) t)
  rwa [ext_ext] at this
theorem Bks.drew {w : World} {A : Option Addr} {xs : List Bk} (h : Bks w A xs) : Bks w.drew A xs := h
theorem Fives.drew {w : World} {A : Option Addr} {xs : List W5} (h : Fives w A xs) : Fives w.drew A xs := h
attribute [local go_sem ↓] Go.wp_at_zero Go.wp_at_succ
set_option maxRecDepth 100000 in
set_option maxHeartbeats 4000000 in
theorem cclone_any (st : St) (Ab Aw Ac : Option Addr) (cb cw cc : Nat) (w : World) (hn : st.bs.length ≤ 1000) (hnw : st.ws.length ≤ 1000) (hnc : st.cs.length ≤ 1000) (hzn : ∀ x ∈ st.bs, x.zones.length ≤ 100) (hb : Bks w Ab st.bs) (hw : Fives w Aw st.ws) (hc : Fives w Ac st.cs)
    (hwn : Aw = none → cw = 0) (hcn : Ac = none → cc = 0) :
    Calls Try.prog 26 #[.agg #[.slice Ab st.bs.length cb, .slice Aw st.ws.length cw, .slice Ac st.cs.length cc]] w (ClonedSt st w) := by
  obtain ⟨i0, hi0, hz0, hz1, hz2⟩ := info_parts info_w5
  obtain ⟨j0, hj0, hy0, hy1, hy2⟩ := info_parts info_c5
  unfold ClonedSt
  have HB := Lib.hid hb
  have HW := Lib.hid hw
  have HC := Lib.hid hc
  have HWN := Lib.hid (fives_nil hw hwn)
  have HCN := Lib.hid (fives_nil hc hcn)
  have Hzn := Lib.hid hzn
  clear hb hw hc hwn hcn hzn
  go_enter Try.func26, Try.ntmps26
  go_wp2_with fail
  go_region_held3 (fun w' => w'.cell? ⟨w.heap.size, 0, none⟩ = some (.slice Ab st.bs.length cb) ∧ w'.cell? ⟨w.heap.size, 1, none⟩ = some (.slice Aw st.ws.length cw) ∧ w'.cell? ⟨w.heap.size, 2, none⟩ = some (.slice Ac st.cs.length cc))
    (first | go_keep | (refine ⟨?_, ?_, ?_⟩ <;> simp [go_sem]))
    ((first
      | (go_at_call 51; refine (cbuckets_any st.bs Ab cb _ hn Hzn.out (Bks.drew ((HB.out.alloc _).alloc _))).mono ?_; rintro e w1 ⟨v1, rfl, own1, hb1⟩; obtain ⟨A1, k1, rfl, _, _⟩ := own1.form; obtain ⟨s1, rfl⟩ := ext_of_below hb1; have HO1 := Lib.hid own1; clear own1 hb1)
      | (refine step_append_any (by rfl) _ _ _ (by rfl) (w.heap.size + 2) 37 i0 _ 5 40 Try.underlying23 hi0 hz0 hz1 hz2 rfl (by omega) (.slice none 0 0) 0 [] (by rfl) (World.ownsRow_nil _ _ _ _) Aw st.ws.length cw (fives st.ws) (by rfl) HWN.out (fives_len _) (Fives.news ((Fives.drew ((HW.out.alloc _).alloc _)).ext _)) (fives_one _) (by simp only [maxLen]; omega) (by omega) (by simp [go_sem]) ?_; intro v2 w2 hown2 hg2; obtain ⟨A2, k2, rfl, _⟩ := own_form hown2; have hb2 := (Below.refl _ _).grown hg2 (Nat.le_refl _) (by simp [Value.ownBlock]); obtain ⟨s2, rfl⟩ := ext_of_below hb2; rw [ext_ext] at hown2 ⊢; have HO2 := Lib.hid hown2; clear hown2 hg2 hb2)
      | (refine step_append_any (by rfl) _ _ _ (by rfl) (w.heap.size + 2) 68 j0 _ 5 40 Try.underlying24 hj0 hy0 hy1 hy2 rfl (by omega) (.slice none 0 0) 0 [] (by rfl) (World.ownsRow_nil _ _ _ _) Ac st.cs.length cc (fives st.cs) (by rfl) HCN.out (fives_len _) (Fives.news ((Fives.drew ((HC.out.alloc _).alloc _)).ext _)) (fives_one _) (by simp only [maxLen]; omega) (by omega) (by simp [go_sem]) ?_; intro v3 w3 hown3 hg3; obtain ⟨A3, k3, rfl, _⟩ := own_form hown3; have hb3 := (Below.refl _ _).grown hg3 (Nat.le_refl _) (by simp [Value.ownBlock]); obtain ⟨s3, rfl⟩ := ext_of_below hb3; rw [ext_ext] at hown3 ⊢; have HO3 := Lib.hid hown3; clear hown3 hg3 hb3)))
  go_wp2_with fail
  go_returns
  refine ⟨_, _, _, rfl, ⟨((HO1.out.cat s2).cat s3 |>.swap (by simp) (by simp)).mono (by simp; omega), ?_, ?_⟩, ?_⟩
  · have := own_swap (W' := (((w.alloc (Obj.cells #[.slice Ab st.bs.length cb, .slice Aw st.ws.length cw, .slice Ac st.cs.length cc] 26)).alloc (Obj.cells #[.slice A1 st.bs.length k1, .slice A2 st.ws.length k2, .slice A3 st.cs.length k3] 26)).drew)) (own_cat HO2.out s3) (by simp) (by simp)
    unfold OwnF
    simpa using own_mono this (by omega : w.heap.size ≤ w.heap.size + 2)
  · have := own_swap (W' := (((w.alloc (Obj.cells #[.slice Ab st.bs.length cb, .slice Aw st.ws.length cw, .slice Ac st.cs.length cc] 26)).alloc (Obj.cells #[.slice A1 st.bs.length k1, .slice A2 st.ws.length k2, .slice A3 st.cs.length k3] 26)).drew)) HO3.out (by simp) (by simp)
    unfold OwnF
    simpa using own_mono this (by omega : w.heap.size ≤ w.heap.size + 2)
  · repeat' (first | exact Below.refl _ _ | refine below_ext ?_ ?_ _ | refine Below.alloc ?_ ?_ _ | refine Below.setCell ?_ ?_ _ | refine Below.drew ?_ | (rw [size_ext]; refine Nat.le_add_right_of_le ?_) | go_size | (rw [World.size_alloc]; refine Nat.le_add_right_of_le ?_))
end Go.Proofs.Ythkollhebabhbaa

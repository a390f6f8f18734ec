/-
  ConsumeWallets: texts joined (by joinw.py).
-/
import Derived.Test.YthkollhebabhbaaYd
import Derived.Deep.RegionHeld3
import Derived.Deep.DeepCutAuto

/-!
  Apply.
-/
namespace Go.Proofs.Ythkollhebabhbaa
open Go.RowKit
set_option linter.unusedSimpArgs false
set_option linter.unusedVariables false

theorem lg1 (a b c : Nat) : a < a + 1 + b + c := by omega
theorem lg0 (a b : Nat) : a < a + 1 + b := by omega
theorem lg2 (a b c d : Nat) : a < a + 1 + b + c + d := by omega
attribute [local go_sem] lg0 lg1 lg2
attribute [local go_sem ↓] Go.wp_at_zero Go.wp_at_succ

set_option maxRecDepth 100000 in
set_option maxHeartbeats 16000000 in
theorem apply_any (m : Bo) (A1 A2 A3 : Option Addr) (c1 c2 c3 B : Nat) (a k c s : Int) (nu na : ByteArray) (v : Int) (lo : Nat) (w : World) (h : BoF lo w B A1 A2 A3 c1 c2 c3 m) (hlo : lo ≤ w.heap.size) (hB : B ≤ 900) (hk1 : 1 ≤ k) (hk2 : k ≤ 15) (ha : (usL k).1 = true → k ≠ 1 → c ∈ m.al.map Ac.id) (hs : (usL k).1 = false → s ∈ m.sl.map Sb.id) :
    Calls Try.prog 63 #[.agg #[.slice A1 m.al.length c1, .slice A2 m.sl.length c2, .slice A3 m.el.length c3], .agg #[.int .i64 a, .int .i64 k, .int .i64 c, .int .i64 s, .string nu, .string na, .int .i64 v]] w (ApR lo (B + 1) w) := by
  obtain ⟨p0, hp0, hq0, hq1, hq2⟩ := info_parts info_ac
  obtain ⟨r0, hr0, hs0, hs1, hs2⟩ := info_parts info_sb
  obtain ⟨t0, ht0, hu0, hu1, hu2⟩ := info_parts info_nt
  have HBF := Lib.hid h
  replace h := h.bo (Below.refl _ _)
  have H := Lib.hid h
  have hb1 := h.b1
  have hb2 := h.b2
  have hb3 := h.b3
  have HN1 : Hid (A1 = none → m.al.length = 0 ∧ c1 = 0) := fun hA => ⟨by
    by_cases hl : 0 < m.al.length
    · obtain ⟨b, o, e, _⟩ := h.a 0 _ (List.getElem?_eq_getElem hl)
      rw [hA] at e
      cases e
    · omega, h.n1 hA⟩
  have HN2 : Hid (A2 = none → m.sl.length = 0 ∧ c2 = 0) := fun hA => ⟨by
    by_cases hl : 0 < m.sl.length
    · obtain ⟨b, o, e, _⟩ := h.s 0 _ (List.getElem?_eq_getElem hl)
      rw [hA] at e
      cases e
    · omega, h.n2 hA⟩
  have HN3 : Hid (A3 = none → m.el.length = 0 ∧ c3 = 0) := fun hA => ⟨by
    by_cases hl : 0 < m.el.length
    · obtain ⟨b, o, e, _⟩ := h.e 0 _ (List.getElem?_eq_getElem hl)
      rw [hA] at e
      cases e
    · omega, h.n3 hA⟩
  have HHA := Lib.hid ha
  have HHS := Lib.hid hs
  clear h ha hs
  go_enter Try.func63, Try.ntmps63
  go_upto_region 1 with fail
  obtain ⟨W1, s0, hW, hE⟩ := start_ext (((w.alloc (Obj.cells #[.slice A1 m.al.length c1, .slice A2 m.sl.length c2, .slice A3 m.el.length c3] 104)).alloc (Obj.cells #[.int .i64 a, .int .i64 k, .int .i64 c, .int .i64 s, .string nu, .string na, .int .i64 v] 80)).alloc (Obj.cells #[.slice none 0 0, .slice none 0 0, .slice none 0 0] 104))
  rw [hW]
  clear hW
  have hs1w : W1.heap.size = w.heap.size + 1 + 1 + 1 := by rw [hE]; simp
  have HBW := Lib.hid (show Below w.heap.size w W1 by rw [hE]; repeat' (first | exact Below.refl _ _ | refine below_ext ?_ ?_ _ | refine Below.alloc ?_ ?_ _ | refine Below.setCell ?_ ?_ _ | refine Below.drew ?_ | (rw [size_ext]; refine Nat.le_add_right_of_le ?_) | go_size | (rw [World.size_alloc]; refine Nat.le_add_right_of_le ?_)))
  have b0 : W1.cell? ⟨w.heap.size, 0, none⟩ = some (.slice A1 m.al.length c1) := by rw [hE]; simp [go_sem]
  have b1 : W1.cell? ⟨w.heap.size, 1, none⟩ = some (.slice A2 m.sl.length c2) := by rw [hE]; simp [go_sem]
  have b2 : W1.cell? ⟨w.heap.size, 2, none⟩ = some (.slice A3 m.el.length c3) := by rw [hE]; simp [go_sem]
  have e0 : W1.cell? ⟨w.heap.size + 1, 0, none⟩ = some (.int .i64 a) := by rw [hE]; simp [go_sem]
  have e1 : W1.cell? ⟨w.heap.size + 1, 1, none⟩ = some (.int .i64 k) := by rw [hE]; simp [go_sem]
  have e2 : W1.cell? ⟨w.heap.size + 1, 2, none⟩ = some (.int .i64 c) := by rw [hE]; simp [go_sem]
  have e3 : W1.cell? ⟨w.heap.size + 1, 3, none⟩ = some (.int .i64 s) := by rw [hE]; simp [go_sem]
  have e4 : W1.cell? ⟨w.heap.size + 1, 4, none⟩ = some (.string nu) := by rw [hE]; simp [go_sem]
  have e5 : W1.cell? ⟨w.heap.size + 1, 5, none⟩ = some (.string na) := by rw [hE]; simp [go_sem]
  have e6 : W1.cell? ⟨w.heap.size + 1, 6, none⟩ = some (.int .i64 v) := by rw [hE]; simp [go_sem]
  have HRB := Lib.hid (show BkN W1 0 (w.heap.size + 1 + 1) (.slice none 0 0) (.slice none 0 0) (.slice none 0 0) by
    rw [hE]
    constructor <;> first | (exact Nat.zero_le _) | (exact typed_new (by simp)) | (simp [go_sem]; done))
  have hlt1 : w.heap.size < W1.heap.size := by omega
  have HA := Lib.hid (H.out.a.below HBW.out)
  have HS := Lib.hid (H.out.s.below HBW.out)
  have HEL := Lib.hid (H.out.e.below HBW.out)
  have HS1W := Lib.hid hs1w
  clear hE hs1w
  go_cut [5] (fun s5 wx => ∃ (N : Nat) (x y z : Value), s5 = .pointer (some ⟨N, 0, none⟩) ∧ ApS W1 wx N m x y z)
  case first =>
    --<first
    clear HBF e0 e1 e2 e3 e4 e5 e6 HRB HHA HHS H HBW HS1W hk1 hk2
    refine region_gen (fun f w' => ∃ N x y z, f 5 = .pointer (some ⟨N, 0, none⟩) ∧ ApS W1 w' N m x y z) ?_ (by simp) ?_
    · rintro f w' ⟨N, x, y, z, hN, hp⟩
      simp only [T14, S14, List.mapIdx_toArray, List.mapIdx_cons, List.mapIdx_nil]
      go_wp2_with fail
      go_meet
      exact ⟨N, x, y, z, rfl, hp⟩
    · intro T Q' hT2 hTs hQ
      replace hT2 : T[2]? = some (.pointer (some ⟨w.heap.size, 0, none⟩)) := hT2.trans (by rfl)
      refine wp_region_inv (by kernel_rfl) (fun L a w' => ∃ f, a = ⟨T14 T f, []⟩ ∧ RI m A1 A2 A3 c1 c2 c3 w.heap.size W1.heap.size W1 L f w') ?_ ?_ ?_
      · refine ⟨fun i => T.getD i undef, congrArg (fun x => Act.mk x []) (T14_self T), ?_⟩
        simp only [List.size_toArray, List.length_cons, List.length_nil, Nat.reduceAdd]
        exact RI.start (m := m) (A1 := A1) (A2 := A2) (A3 := A3) (c1 := c1) (c2 := c2) (c3 := c3) (bk := w.heap.size) (B := W1.heap.size) (W1 := W1) (by repeat' (first | exact Below.refl _ _ | refine below_ext ?_ ?_ _ | refine Below.alloc ?_ ?_ _ | refine Below.setCell ?_ ?_ _ | refine Below.drew ?_ | (rw [size_ext]; refine Nat.le_add_right_of_le ?_) | go_size | (rw [World.size_alloc]; refine Nat.le_add_right_of_le ?_))) _
      · rintro L a w' ⟨f, rfl, hI⟩ i hi
        obtain ⟨h0, o, ho, hall⟩ := mem_ready.1 hi
        have hlt : i < 15 := (Array.getElem?_eq_some_iff.1 ho).1
        have q2 : (T14 T f)[2]? = some (.pointer (some ⟨w.heap.size, 0, none⟩)) := (T14_old T f 2 rfl).trans hT2
        have q5 : (T14 T f)[5]? = some (f 5) := T14_get T f 5 rfl (by omega)
        have q7 : (T14 T f)[7]? = some (f 7) := T14_get T f 7 rfl (by omega)
        have q8 : (T14 T f)[8]? = some (f 8) := T14_get T f 8 rfl (by omega)
        have q9 : (T14 T f)[9]? = some (f 9) := T14_get T f 9 rfl (by omega)
        have q10 : (T14 T f)[10]? = some (f 10) := T14_get T f 10 rfl (by omega)
        have q11 : (T14 T f)[11]? = some (f 11) := T14_get T f 11 rfl (by omega)
        have q12 : (T14 T f)[12]? = some (f 12) := T14_get T f 12 rfl (by omega)
        have q13 : (T14 T f)[13]? = some (f 13) := T14_get T f 13 rfl (by omega)
        have q14 : (T14 T f)[14]? = some (f 14) := T14_get T f 14 rfl (by omega)
        have q15 : (T14 T f)[15]? = some (f 15) := T14_get T f 15 rfl (by omega)
        have q16 : (T14 T f)[16]? = some (f 16) := T14_get T f 16 rfl (by omega)
        have q17 : (T14 T f)[17]? = some (f 17) := T14_get T f 17 rfl (by omega)
        have q18 : (T14 T f)[18]? = some (f 18) := T14_get T f 18 rfl (by omega)
        have q19 : (T14 T f)[19]? = some (f 19) := T14_get T f 19 rfl (by omega)
        have hB : W1.heap.size ≤ w'.heap.size := hI.bel.size
        have cb0 : w'.cell? ⟨w.heap.size, 0, none⟩ = some (.slice A1 m.al.length c1) := (hI.bel.cell (p := ⟨w.heap.size, 0, none⟩) hlt1).trans b0
        have cb1 : w'.cell? ⟨w.heap.size, 1, none⟩ = some (.slice A2 m.sl.length c2) := (hI.bel.cell (p := ⟨w.heap.size, 1, none⟩) hlt1).trans b1
        have cb2 : w'.cell? ⟨w.heap.size, 2, none⟩ = some (.slice A3 m.el.length c3) := (hI.bel.cell (p := ⟨w.heap.size, 2, none⟩) hlt1).trans b2
        have HI := Lib.hid hI
        clear hi hI b0 b1 b2 hT2
        have hc : i = 0 ∨ i = 1 ∨ i = 2 ∨ i = 3 ∨ i = 4 ∨ i = 5 ∨ i = 6 ∨ i = 7 ∨ i = 8 ∨ i = 9 ∨ i = 10 ∨ i = 11 ∨ i = 12 ∨ i = 13 ∨ i = 14 := by omega
        rcases hc with rfl | rfl | rfl | rfl | rfl | rfl | rfl | rfl | rfl | rfl | rfl | rfl | rfl | rfl | rfl
        all_goals
          simp only [List.getElem?_toArray, List.getElem?_cons_zero, List.getElem?_cons_succ, Option.some.injEq] at ho
          subst ho
          simp [Region.binds] at hall
        · --<op0
          refine wpOp_step rfl (fun K hK => ?_)
          go_simp
          rw [T14_set T f 7 _ rfl]
          exact hK _ _ ⟨_, rfl, (HI.out.below (Below.alloc (Below.refl _ _) (Nat.le_refl _) _) hB).u0 (Lt.new hB)⟩
          -->op0
        · --<op1
          refine wpOp_step rfl (fun K hK => ?_)
          go_simp
          rw [T14_set T f 8 _ rfl]
          exact hK _ _ ⟨_, rfl, HI.out.u1 rfl⟩
          -->op1
        · --<op2
          have g1 := HI.out.l1 (by simp [hall])
          rw [g1] at q8
          refine wpOp_step rfl (fun K hK => ?_)
          go_simp
          rw [T14_set T f 9 _ rfl]
          exact hK _ _ ⟨_, rfl, HI.out.u2 rfl⟩
          -->op2
        · --<op3
          obtain ⟨g, g0, o0⟩ := HI.out.l0 (by simp [hall])
          have g2 := HI.out.l2 (by simp [hall])
          rw [g0] at q7 o0
          rw [g2] at q9
          refine wpOp_step rfl (fun K hK => ?_)
          refine step_append_lit (by rfl) _ _ _ (by rfl) W1.heap.size 118 p0 _ 6 56 Try.underlying100 hp0 hq0 hq1 hq2 rfl (by omega) g (by simp [Act.eval, q7]) o0 A1 m.al.length c1 (m.al.flatMap Ac.cells) (by simp [Act.eval, q9]) HN1.out (flat_len (f := Ac.cells) (n := 6) (fun _ => rfl) _) (Rws.news (f := Ac.cells) (n := 6) (fun _ => rfl) (by decide) (HA.out.below HI.out.bel)) (ac_one _) (by simp only [maxLen]; omega) (by omega) hB ?_
          intro v1 w1 hown1 hg1
          have hb1 := (Below.refl w'.heap.size w').grown hg1 (Nat.le_refl _) (by simp)
          show K ⟨(T14 T f).setIfInBounds 10 v1, []⟩ w1
          rw [T14_set T f 10 _ rfl]
          exact hK _ _ ⟨_, rfl, (HI.out.below hb1 hB).u3 hown1⟩
          -->op3
        · --<op4
          refine wpOp_step rfl (fun K hK => ?_)
          go_simp
          rw [T14_set T f 11 _ rfl]
          exact hK _ _ ⟨_, rfl, (HI.out.below (Below.alloc (Below.refl _ _) (Nat.le_refl _) _) hB).u4 (Lt.new hB)⟩
          -->op4
        · --<op5
          refine wpOp_step rfl (fun K hK => ?_)
          go_simp
          rw [T14_set T f 12 _ rfl]
          exact hK _ _ ⟨_, rfl, HI.out.u5 rfl⟩
          -->op5
        · --<op6
          have g5 := HI.out.l5 (by simp [hall])
          rw [g5] at q12
          refine wpOp_step rfl (fun K hK => ?_)
          go_simp
          rw [T14_set T f 13 _ rfl]
          exact hK _ _ ⟨_, rfl, HI.out.u6 rfl⟩
          -->op6
        · --<op7
          obtain ⟨g, g4, o4⟩ := HI.out.l4 (by simp [hall])
          have g6 := HI.out.l6 (by simp [hall])
          rw [g4] at q11 o4
          rw [g6] at q13
          refine wpOp_step rfl (fun K hK => ?_)
          refine step_append_lit (by rfl) _ _ _ (by rfl) W1.heap.size 121 r0 _ 8 96 Try.underlying101 hr0 hs0 hs1 hs2 rfl (by omega) g (by simp [Act.eval, q11]) o4 A2 m.sl.length c2 (m.sl.flatMap Sb.cells) (by simp [Act.eval, q13]) HN2.out (flat_len (f := Sb.cells) (n := 8) (fun _ => rfl) _) (Rws.news (f := Sb.cells) (n := 8) (fun _ => rfl) (by decide) (HS.out.below HI.out.bel)) (sb_one _) (by simp only [maxLen]; omega) (by omega) hB ?_
          intro v1 w1 hown1 hg1
          have hb1 := (Below.refl w'.heap.size w').grown hg1 (Nat.le_refl _) (by simp)
          show K ⟨(T14 T f).setIfInBounds 14 v1, []⟩ w1
          rw [T14_set T f 14 _ rfl]
          exact hK _ _ ⟨_, rfl, (HI.out.below hb1 hB).u7 hown1⟩
          -->op7
        · --<op8
          refine wpOp_step rfl (fun K hK => ?_)
          go_simp
          rw [T14_set T f 15 _ rfl]
          exact hK _ _ ⟨_, rfl, (HI.out.below (Below.alloc (Below.refl _ _) (Nat.le_refl _) _) hB).u8 (Lt.new hB)⟩
          -->op8
        · --<op9
          refine wpOp_step rfl (fun K hK => ?_)
          go_simp
          rw [T14_set T f 16 _ rfl]
          exact hK _ _ ⟨_, rfl, HI.out.u9 rfl⟩
          -->op9
        · --<op10
          have g9 := HI.out.l9 (by simp [hall])
          rw [g9] at q16
          refine wpOp_step rfl (fun K hK => ?_)
          go_simp
          rw [T14_set T f 17 _ rfl]
          exact hK _ _ ⟨_, rfl, HI.out.u10 rfl⟩
          -->op10
        · --<op11
          obtain ⟨g, g8, o8⟩ := HI.out.l8 (by simp [hall])
          have g10 := HI.out.l10 (by simp [hall])
          rw [g8] at q15 o8
          rw [g10] at q17
          refine wpOp_step rfl (fun K hK => ?_)
          refine step_append_lit (by rfl) _ _ _ (by rfl) W1.heap.size 3 t0 _ 1 8 Try.underlying102 ht0 hu0 hu1 hu2 rfl (by omega) g (by simp [Act.eval, q15]) o8 A3 m.el.length c3 (m.el.flatMap ntc) (by simp [Act.eval, q17]) HN3.out (flat_len (f := ntc) (n := 1) (fun _ => rfl) _) (Rws.news (f := ntc) (n := 1) (fun _ => rfl) (by decide) (HEL.out.below HI.out.bel)) (ntc_one _) (by simp only [maxLen]; omega) (by omega) hB ?_
          intro v1 w1 hown1 hg1
          have hb1 := (Below.refl w'.heap.size w').grown hg1 (Nat.le_refl _) (by simp)
          show K ⟨(T14 T f).setIfInBounds 18 v1, []⟩ w1
          rw [T14_set T f 18 _ rfl]
          exact hK _ _ ⟨_, rfl, (HI.out.below hb1 hB).u11 hown1⟩
          -->op11
        · --<op12
          have o1 := HI.out.l3 (by simp [hall])
          have o2 := HI.out.l7 (by simp [hall])
          have o3 := HI.out.l11 (by simp [hall])
          obtain ⟨B1, k1, v1, _⟩ := own_form o1
          obtain ⟨B2, k2, v2, _⟩ := own_form o2
          obtain ⟨B3, k3, v3, _⟩ := own_form o3
          rw [v1] at q10 o1
          rw [v2] at q14 o2
          rw [v3] at q18 o3
          refine wpOp_step rfl (fun K hK => ?_)
          go_simp
          rw [T14_set T f 19 _ rfl]
          exact hK _ _ ⟨_, rfl, HI.out.u12 ⟨_, _, _, rfl, o1, o2, o3⟩⟩
          -->op12
        · --<op13
          refine wpOp_step rfl (fun K hK => ?_)
          go_simp
          rw [T14_set T f 5 _ rfl]
          exact hK _ _ ⟨_, rfl, (HI.out.below (Below.alloc (Below.refl _ _) (Nat.le_refl _) _) hB).u13 h0 (x := .slice none 0 0) (y := .slice none 0 0) (z := .slice none 0 0) (by constructor <;> first | exact hB | (exact typed_new (by simp)) | (simp [go_sem]; done))⟩
          -->op13
        · --<op14
          obtain ⟨N, x, y, z, g5, hk, _⟩ := HI.out.l13 (by simp [hall])
          obtain ⟨x1, y1, z1, g19, o1, o2, o3⟩ := HI.out.l12 (by simp [hall])
          have HU := Lib.hid (HI.out.u14 (by simp [hall]) (by simp [hall]) g5 g19)
          obtain ⟨B1, k1, rfl, _⟩ := own_form o1
          obtain ⟨B2, k2, rfl, _⟩ := own_form o2
          obtain ⟨B3, k3, rfl, _⟩ := own_form o3
          obtain ⟨k0, k1, k2, k3, k4, k5, k6, k7, k8⟩ := hk
          rw [g5] at q5
          rw [g19] at q19
          refine wpOp_step rfl (fun K hK => ?_)
          go_simp
          exact hK _ _ ⟨_, rfl, HU.out⟩
          -->op14
      · rintro L a w' ⟨f, rfl, hI⟩ hr
        rw [List.eq_nil_iff_forall_not_mem] at hr
        have hs := hI.sz
        have gd : ∀ i, i < 15 → L.getD i false = false → L.getD i true = false := fun i hi he => by
          simp [hs, hi] at he ⊢
          exact he
        have a0 : L.getD 0 false = true := by
          cases hc : L.getD 0 false with
          | true => rfl
          | false => exact (hr 0 (mem_ready.2 ⟨gd 0 (by decide) hc, _, rfl, fun e he _ => by simp at he⟩)).elim
        have a1 : L.getD 1 false = true := by
          cases hc : L.getD 1 false with
          | true => rfl
          | false => exact (hr 1 (mem_ready.2 ⟨gd 1 (by decide) hc, _, rfl, fun e he _ => by simp at he⟩)).elim
        have a2 : L.getD 2 false = true := by
          cases hc : L.getD 2 false with
          | true => rfl
          | false => exact (hr 2 (mem_ready.2 ⟨gd 2 (by decide) hc, _, rfl, fun e he _ => by simp at he; subst he; exact a1⟩)).elim
        have a3 : L.getD 3 false = true := by
          cases hc : L.getD 3 false with
          | true => rfl
          | false => exact (hr 3 (mem_ready.2 ⟨gd 3 (by decide) hc, _, rfl, fun e he _ => by simp at he; rcases he with rfl | rfl; exact a0; exact a2⟩)).elim
        have a4 : L.getD 4 false = true := by
          cases hc : L.getD 4 false with
          | true => rfl
          | false => exact (hr 4 (mem_ready.2 ⟨gd 4 (by decide) hc, _, rfl, fun e he _ => by simp at he⟩)).elim
        have a5 : L.getD 5 false = true := by
          cases hc : L.getD 5 false with
          | true => rfl
          | false => exact (hr 5 (mem_ready.2 ⟨gd 5 (by decide) hc, _, rfl, fun e he _ => by simp at he⟩)).elim
        have a6 : L.getD 6 false = true := by
          cases hc : L.getD 6 false with
          | true => rfl
          | false => exact (hr 6 (mem_ready.2 ⟨gd 6 (by decide) hc, _, rfl, fun e he _ => by simp at he; subst he; exact a5⟩)).elim
        have a7 : L.getD 7 false = true := by
          cases hc : L.getD 7 false with
          | true => rfl
          | false => exact (hr 7 (mem_ready.2 ⟨gd 7 (by decide) hc, _, rfl, fun e he _ => by simp at he; rcases he with rfl | rfl | rfl; exact a4; exact a6; exact a3⟩)).elim
        have a8 : L.getD 8 false = true := by
          cases hc : L.getD 8 false with
          | true => rfl
          | false => exact (hr 8 (mem_ready.2 ⟨gd 8 (by decide) hc, _, rfl, fun e he _ => by simp at he⟩)).elim
        have a9 : L.getD 9 false = true := by
          cases hc : L.getD 9 false with
          | true => rfl
          | false => exact (hr 9 (mem_ready.2 ⟨gd 9 (by decide) hc, _, rfl, fun e he _ => by simp at he⟩)).elim
        have a10 : L.getD 10 false = true := by
          cases hc : L.getD 10 false with
          | true => rfl
          | false => exact (hr 10 (mem_ready.2 ⟨gd 10 (by decide) hc, _, rfl, fun e he _ => by simp at he; subst he; exact a9⟩)).elim
        have a11 : L.getD 11 false = true := by
          cases hc : L.getD 11 false with
          | true => rfl
          | false => exact (hr 11 (mem_ready.2 ⟨gd 11 (by decide) hc, _, rfl, fun e he _ => by simp at he; rcases he with rfl | rfl | rfl; exact a8; exact a10; exact a7⟩)).elim
        have a12 : L.getD 12 false = true := by
          cases hc : L.getD 12 false with
          | true => rfl
          | false => exact (hr 12 (mem_ready.2 ⟨gd 12 (by decide) hc, _, rfl, fun e he _ => by simp at he; rcases he with rfl | rfl | rfl; exact a3; exact a7; exact a11⟩)).elim
        have a13 : L.getD 13 false = true := by
          cases hc : L.getD 13 false with
          | true => rfl
          | false => exact (hr 13 (mem_ready.2 ⟨gd 13 (by decide) hc, _, rfl, fun e he _ => by simp at he⟩)).elim
        have a14 : L.getD 14 false = true := by
          cases hc : L.getD 14 false with
          | true => rfl
          | false => exact (hr 14 (mem_ready.2 ⟨gd 14 (by decide) hc, _, rfl, fun e he _ => by simp at he; rcases he with rfl | rfl | rfl | rfl | rfl | rfl | rfl | rfl | rfl | rfl | rfl | rfl | rfl | rfl | rfl | rfl | rfl; exact a13; exact a12; exact a11; exact a0; exact a1; exact a2; exact a3; exact a4; exact a5; exact a6; exact a7; exact a8; exact a9; exact a10; exact a11; exact a12; exact a13⟩)).elim
        obtain ⟨N, x, y, z, g5, hk, how⟩ := hI.l13 a13
        obtain ⟨o1, o2, o3⟩ := how a14
        exact hQ f w' ⟨N, x, y, z, g5, ⟨hk, o1, o2, o3, hI.bel⟩⟩
    -->first
  case rest =>
    obtain ⟨N, x, y, z, rfl, hap⟩ := hcut
    have hsz := hap.bl.size
    have hs1w := HS1W.out
    have HAP := Lib.hid hap
    have HBC := Lib.hid (HBW.out.trans (hap.bl.mono HBW.out.size))
    have HC := Lib.hid (H.out.below HBC.out)
    have hlt2 : w.heap.size + 1 < W1.heap.size := by omega
    have E1 := Lib.hid e1
    have E3 := Lib.hid e3
    replace b0 := (hap.bl.cell (p := ⟨w.heap.size, 0, none⟩) hlt1).trans b0
    replace b1 := (hap.bl.cell (p := ⟨w.heap.size, 1, none⟩) hlt1).trans b1
    replace b2 := (hap.bl.cell (p := ⟨w.heap.size, 2, none⟩) hlt1).trans b2
    replace e0 := (hap.bl.cell (p := ⟨w.heap.size + 1, 0, none⟩) hlt2).trans e0
    replace e1 := (hap.bl.cell (p := ⟨w.heap.size + 1, 1, none⟩) hlt2).trans e1
    replace e2 := (hap.bl.cell (p := ⟨w.heap.size + 1, 2, none⟩) hlt2).trans e2
    replace e3 := (hap.bl.cell (p := ⟨w.heap.size + 1, 3, none⟩) hlt2).trans e3
    replace e4 := (hap.bl.cell (p := ⟨w.heap.size + 1, 4, none⟩) hlt2).trans e4
    replace e5 := (hap.bl.cell (p := ⟨w.heap.size + 1, 5, none⟩) hlt2).trans e5
    replace e6 := (hap.bl.cell (p := ⟨w.heap.size + 1, 6, none⟩) hlt2).trans e6
    obtain ⟨N0, Nlt, -, n1, n2, n3, n4, n5, n6⟩ := hap.bk
    have hRN : ¬ w.heap.size + 1 + 1 = N := by omega
    have hwc : w.heap.size < wc.heap.size := by omega
    have hwc1 : w.heap.size + 1 < wc.heap.size := by omega
    obtain ⟨B1, k1, rfl, -⟩ := own_form hap.o1
    obtain ⟨B2, k2, rfl, -⟩ := own_form hap.o2
    obtain ⟨B3, k3, rfl, -⟩ := own_form hap.o3
    clear HS HEL HA hap HS1W
    have hcs : k = 1 ∨ k = 2 ∨ k = 3 ∨ (k = 14 ∨ k = 15) ∨ ((usL k).1 = false ∧ 4 ≤ k ∧ k ≤ 13) := by
      have : k = 1 ∨ k = 2 ∨ k = 3 ∨ k = 4 ∨ k = 5 ∨ k = 6 ∨ k = 7 ∨ k = 8 ∨ k = 9 ∨ k = 10 ∨ k = 11 ∨ k = 12 ∨ k = 13 ∨ k = 14 ∨ k = 15 := by omega
      rcases this with rfl | rfl | rfl | rfl | rfl | rfl | rfl | rfl | rfl | rfl | rfl | rfl | rfl | rfl | rfl <;> simp [usL]
    clear hk1 hk2
    rcases hcs with rfl | rfl | rfl | hk | ⟨hk, hk4, hk13⟩
    · --<k1
      go_upto_region 16 with (first
        | (at_builtin; refine wpList_append_any rfl _ _ _ rfl W1.heap.size 118 p0 _ 6 56 Try.underlying100 hp0 hq0 hq1 hq2 rfl (by omega) (.slice B1 m.al.length k1) m.al.length (m.al.flatMap Ac.cells) rfl (World.ownsRow.alloc HAP.out.o1 _) (some ⟨wc.heap.size, 0, none⟩) 1 1 (Ac.cells ⟨c, a, v, (na.toList == [112, 114, 101, 112, 97, 105, 100]), false⟩) rfl (fun h => by cases h) rfl (fun ad had => by obtain rfl := Option.some.inj had; exact cells_new _ rfl) (by simpa using ac_one [⟨c, a, v, (na.toList == [112, 114, 101, 112, 97, 105, 100]), false⟩]) (by simp only [maxLen]; omega) (by omega) (by simp; omega) ?_; intro v2 w2 hown2 hg2; obtain ⟨B4, k4, rfl, -⟩ := own_form hown2; have hap2 := HAP.out.below ((Below.refl wc.heap.size wc).alloc (Nat.le_refl _) (.cells (Ac.cells ⟨c, a, v, (na.toList == [112, 114, 101, 112, 97, 105, 100]), false⟩).toArray 118)); have HA9 := Lib.hid (hap2.app1 hown2 hg2); obtain ⟨-, l2, -, f20, f21, f22, c20, c21, c22⟩ := hap2.bk.heap hg2.size (hg2.block N hap2.bk.lt (typed_ne hap2.bk.ty hap2.o1 (by decide))); clear hap2 hown2 hg2))
      clear f20 f21 f22 c20 c21 c22 l2
      generalize (w2.setCell ⟨N, 0, none⟩ (.slice B4 (m.al.length + 1) k4)) = W9 at *
      obtain ⟨-, nl, -, m0, m1, m2, m3, m4, m5⟩ := HA9.out.bk
      obtain ⟨-, rl, -, r0, r1, r2, r3, r4, r5⟩ := HRB.out.below HA9.out.bl
      go_wp2
      refine bodyPost_ret (by simp [results, Try.results63, go_sem, r3, r4, r5, rl, nl]; first | done | rfl) rfl ?_
      exact ApS.fin HA9.out HBW.out hlo (by omega) (by omega) _ _ _ (fun s hs W' ag _ => ((HBF.out W' ag).ok s hs).mono (Nat.le_succ _)) (by first | omega | (simp; omega)) (by first | omega | (simp; omega)) (by first | omega | (simp; omega)) rfl
      -->k1
    · --<k2
      have hin := HHA.out rfl (by decide)
      have hpos : 0 < m.al.length := by
        obtain ⟨y, hy, -⟩ := List.mem_map.1 hin
        exact List.length_pos_of_mem hy
      obtain ⟨g, d, hd0, hd1, hd2⟩ := own_some HAP.out.o1 hpos
      simp only [Value.slice.injEq, true_and] at hd0
      obtain ⟨rfl, rfl⟩ := hd0
      have hg0 := own_blk HAP.out.o1
      have hNg := typed_ne HAP.out.bk.ty HAP.out.o1 (by decide)
      simp only [Value.ownBlock, ne_eq, Option.some.injEq] at hNg
      have hw0g : w.heap.size ≠ g := by omega
      have hw1g : w.heap.size + 1 ≠ g := by omega
      go_upto_region 10 with fail
      go_region_held3 (fun w' => w'.cell? ⟨N, 0, none⟩ = some (.slice (some ⟨g, 0, none⟩) m.al.length k1) ∧ w'.cell? ⟨w.heap.size, 0, none⟩ = some (.slice A1 m.al.length c1) ∧ w'.cell? ⟨w.heap.size, 1, none⟩ = some (.slice A2 m.sl.length c2) ∧ w'.cell? ⟨w.heap.size, 2, none⟩ = some (.slice A3 m.el.length c3) ∧ w'.cell? ⟨w.heap.size + 1, 2, none⟩ = some (.int .i64 c))
        ((first | (with_reducible refine ⟨keepS (keepL (W := wc) ?_ Nlt n4) hNg, keepS (keepL (W := wc) ?_ hwc b0) hw0g, keepS (keepL (W := wc) ?_ hwc b1) hw0g, keepS (keepL (W := wc) ?_ hwc b2) hw0g, keepS (keepL (W := wc) ?_ hwc1 e2) hw1g⟩ <;> (repeat' (first | exact Below.refl _ _ | refine below_ext ?_ ?_ _ | refine Below.alloc ?_ ?_ _ | refine Below.setCell ?_ ?_ _ | refine Below.drew ?_ | (rw [size_ext]; refine Nat.le_add_right_of_le ?_) | go_size | (rw [World.size_alloc]; refine Nat.le_add_right_of_le ?_))); done) | (with_reducible refine ⟨keepL (W := wc) ?_ Nlt n4, keepL (W := wc) ?_ hwc b0, keepL (W := wc) ?_ hwc b1, keepL (W := wc) ?_ hwc b2, keepL (W := wc) ?_ hwc1 e2⟩ <;> (repeat' (first | exact Below.refl _ _ | refine below_ext ?_ ?_ _ | refine Below.alloc ?_ ?_ _ | refine Below.setCell ?_ ?_ _ | refine Below.drew ?_ | (rw [size_ext]; refine Nat.le_add_right_of_le ?_) | go_size | (rw [World.size_alloc]; refine Nat.le_add_right_of_le ?_))))))
        ((first
          | (go_at_call 76; (with_reducible refine (account_any m A1 A2 A3 c1 c2 c3 B c _ (HC.out.below ?_) (by omega)).mono ?_); (· repeat' (first | exact Below.refl _ _ | refine below_ext ?_ ?_ _ | refine Below.alloc ?_ ?_ _ | refine Below.setCell ?_ ?_ _ | refine Below.drew ?_ | (rw [size_ext]; refine Nat.le_add_right_of_le ?_) | go_size | (rw [World.size_alloc]; refine Nat.le_add_right_of_le ?_))); rintro e w2 ⟨⟨i, rfl, hi⟩, hb2⟩; obtain ⟨s2, rfl⟩ := ext_of_below hb2; obtain ⟨k', rfl, hk'⟩ := ix_in hi hin; rw [List.length_map] at hk'; obtain ⟨a', ha'⟩ : ∃ a', m.al[k']? = some a' := ⟨_, List.getElem?_eq_getElem hk'⟩; have hap2 := HAP.out.below (show Below wc.heap.size wc (ext wc.drew s2) by repeat' (first | exact Below.refl _ _ | refine below_ext ?_ ?_ _ | refine Below.alloc ?_ ?_ _ | refine Below.setCell ?_ ?_ _ | refine Below.drew ?_ | (rw [size_ext]; refine Nat.le_add_right_of_le ?_) | go_size | (rw [World.size_alloc]; refine Nat.le_add_right_of_le ?_))); obtain ⟨gl, ga, gf⟩ := own_ac4 hap2.o1 ha'; have gf4 := gf (k' * 6 + 4); obtain ⟨hk2, hk3⟩ : (k' : Int) < (m.al.length : Int) ∧ (0 : Int) ≤ (k' : Int) := (by omega); have HA9 := Lib.hid (hap2.set1 ha'); clear hi hb2 hap2 gf)))
      generalize ((ext wc.drew s2).setCell ⟨g, k' * 6 + 4, none⟩ (.bool true)) = W9 at *
      obtain ⟨-, nl, -, m0, m1, m2, m3, m4, m5⟩ := HA9.out.bk
      obtain ⟨-, rl, -, r0, r1, r2, r3, r4, r5⟩ := HRB.out.below HA9.out.bl
      go_wp2
      refine bodyPost_ret (by simp [results, Try.results63, go_sem, r3, r4, r5, rl, nl]; first | done | rfl) rfl ?_
      exact ApS.fin HA9.out HBW.out hlo (by omega) (by omega) _ _ _ (fun s hs W' ag _ => ((HBF.out W' ag).ok s hs).mono (Nat.le_succ _)) (by first | omega | (simp; omega)) (by first | omega | (simp; omega)) (by first | omega | (simp; omega)) rfl
      -->k2
    · --<k3
      go_upto_region 16 with (first
        | (at_builtin; refine wpList_append_any rfl _ _ _ rfl W1.heap.size 121 r0 _ 8 96 Try.underlying101 hr0 hs0 hs1 hs2 rfl (by omega) (.slice B2 m.sl.length k2) m.sl.length (m.sl.flatMap Sb.cells) rfl (World.ownsRow.alloc HAP.out.o2 _) (some ⟨wc.heap.size, 0, none⟩) 1 1 (Sb.cells ⟨s, c, a, na, none, 0, 0, none, 0, 0, false, false⟩) rfl (fun h => by cases h) rfl (fun ad had => by obtain rfl := Option.some.inj had; exact cells_new _ rfl) (by simpa using sb_one [⟨s, c, a, na, none, 0, 0, none, 0, 0, false, false⟩]) (by simp only [maxLen]; omega) (by omega) (by simp; omega) ?_; intro v2 w2 hown2 hg2; obtain ⟨B4, k4, rfl, -⟩ := own_form hown2; have hap2 := HAP.out.below ((Below.refl wc.heap.size wc).alloc (Nat.le_refl _) (.cells (Sb.cells ⟨s, c, a, na, none, 0, 0, none, 0, 0, false, false⟩).toArray 121)); have HA9 := Lib.hid (hap2.app2 hown2 hg2); obtain ⟨-, l2, -, f20, f21, f22, c20, c21, c22⟩ := hap2.bk.heap hg2.size (hg2.block N hap2.bk.lt (typed_ne hap2.bk.ty hap2.o2 (by decide))); clear hap2 hown2 hg2))
      clear f20 f21 f22 c20 c21 c22 l2
      generalize (w2.setCell ⟨N, 1, none⟩ (.slice B4 (m.sl.length + 1) k4)) = W9 at *
      have hok : ∀ s' ∈ m.sl ++ [⟨s, c, a, na, none, 0, 0, none, 0, 0, false, false⟩], ∀ W', AgL lo w W' → AgL W1.heap.size W9 W' → s'.Ok W' (B + 1) := fun s' hs' W' ag _ => by
        rcases List.mem_append.1 hs' with h | h
        · exact ((HBF.out W' ag).ok s' h).mono (Nat.le_succ _)
        · rw [List.mem_singleton.1 h]
          exact ⟨StrS.nil _, StrS.nil _, Nat.zero_le _, Nat.zero_le _⟩
      obtain ⟨-, nl, -, m0, m1, m2, m3, m4, m5⟩ := HA9.out.bk
      obtain ⟨-, rl, -, r0, r1, r2, r3, r4, r5⟩ := HRB.out.below HA9.out.bl
      go_wp2
      refine bodyPost_ret (by simp [results, Try.results63, go_sem, r3, r4, r5, rl, nl]; first | done | rfl) rfl ?_
      exact ApS.fin HA9.out HBW.out hlo (by omega) (by omega) _ _ _ (hok) (by first | omega | (simp; omega)) (by first | omega | (simp; omega)) (by first | omega | (simp; omega)) rfl
      -->k3
    · --<k14
      have HA9 := HAP
      rcases hk with rfl | rfl
      · go_upto_region 15 with fail
        obtain ⟨-, nl, -, m0, m1, m2, m3, m4, m5⟩ := HA9.out.bk
        obtain ⟨-, rl, -, r0, r1, r2, r3, r4, r5⟩ := HRB.out.below HA9.out.bl
        go_wp2
        refine bodyPost_ret (by simp [results, Try.results63, go_sem, r3, r4, r5, rl, nl]; first | done | rfl) rfl ?_
        exact ApS.fin HA9.out HBW.out hlo (by omega) (by omega) _ _ _ (fun s hs W' ag _ => ((HBF.out W' ag).ok s hs).mono (Nat.le_succ _)) (by first | omega | (simp; omega)) (by first | omega | (simp; omega)) (by first | omega | (simp; omega)) rfl
      · go_upto_region 15 with fail
        obtain ⟨-, nl, -, m0, m1, m2, m3, m4, m5⟩ := HA9.out.bk
        obtain ⟨-, rl, -, r0, r1, r2, r3, r4, r5⟩ := HRB.out.below HA9.out.bl
        go_wp2
        refine bodyPost_ret (by simp [results, Try.results63, go_sem, r3, r4, r5, rl, nl]; first | done | rfl) rfl ?_
        exact ApS.fin HA9.out HBW.out hlo (by omega) (by omega) _ _ _ (fun s hs W' ag _ => ((HBF.out W' ag).ok s hs).mono (Nat.le_succ _)) (by first | omega | (simp; omega)) (by first | omega | (simp; omega)) (by first | omega | (simp; omega)) rfl
      -->k14
    · --<kd
      have hin := HHS.out hk
      have hpos : 0 < m.sl.length := by
        obtain ⟨y, hy, -⟩ := List.mem_map.1 hin
        exact List.length_pos_of_mem hy
      obtain ⟨g, d, hd0, hd1, hd2⟩ := own_some HAP.out.o2 hpos
      simp only [Value.slice.injEq, true_and] at hd0
      obtain ⟨rfl, rfl⟩ := hd0
      have t1 : (k == 1) = false := beq_eq_false_iff_ne.2 (by omega)
      have t2 : (k == 2) = false := beq_eq_false_iff_ne.2 (by omega)
      have t3 : (k == 3) = false := beq_eq_false_iff_ne.2 (by omega)
      have t14 : (k == 14) = false := beq_eq_false_iff_ne.2 (by omega)
      have t15 : (k == 15) = false := beq_eq_false_iff_ne.2 (by omega)
      go_upto_region 4 with (first
        | (go_at_call 77; (with_reducible refine (sub_any m A1 A2 A3 c1 c2 c3 B s _ (HC.out.below ?_) (by omega)).mono ?_); (· repeat' (first | exact Below.refl _ _ | refine below_ext ?_ ?_ _ | refine Below.alloc ?_ ?_ _ | refine Below.setCell ?_ ?_ _ | refine Below.drew ?_ | (rw [size_ext]; refine Nat.le_add_right_of_le ?_) | go_size | (rw [World.size_alloc]; refine Nat.le_add_right_of_le ?_))); rintro e w2 ⟨⟨i, rfl, hi⟩, hb2⟩; obtain ⟨s2, rfl⟩ := ext_of_below hb2; obtain ⟨k', rfl, hk'⟩ := ix_in hi hin; rw [List.length_map] at hk'; clear hi hb2))
      have HBD := Lib.hid (below_ext (Below.refl wc.heap.size wc) (Nat.le_refl _) s2)
      obtain ⟨wd, hwd⟩ : ∃ wd, wd = ext wc s2 := ⟨_, rfl⟩
      rw [← hwd] at HBD ⊢
      clear hwd
      have HAD := Lib.hid (HAP.out.below HBD.out)
      obtain ⟨x', hx'⟩ : ∃ x', m.sl[k']? = some x' := ⟨_, List.getElem?_eq_getElem hk'⟩
      have hxm := List.mem_of_getElem? hx'
      obtain ⟨gl, gf, g0, g1, g2, g3, g4, g5, g6, g7⟩ := own_sb8 HAD.out.o2 hx'
      have gf0 := gf (k' * 8)
      have gf1 := gf (k' * 8 + 1)
      have gf2 := gf (k' * 8 + 2)
      have gf3 := gf (k' * 8 + 3)
      have gf4 := gf (k' * 8 + 4)
      have gf5 := gf (k' * 8 + 5)
      have gf6 := gf (k' * 8 + 6)
      have gf7 := gf (k' * 8 + 7)
      replace e0 := keepL HBD.out hwc1 e0
      replace e1 := keepL HBD.out hwc1 e1
      replace e2 := keepL HBD.out hwc1 e2
      replace e3 := keepL HBD.out hwc1 e3
      replace e4 := keepL HBD.out hwc1 e4
      replace e5 := keepL HBD.out hwc1 e5
      replace e6 := keepL HBD.out hwc1 e6
      replace n5 := keepL HBD.out Nlt n5
      have hsd := HBD.out.size
      have Nld : N < wd.heap.size := by omega
      have hwd1 : w.heap.size + 1 < wd.heap.size := by omega
      have HWD := Lib.hid (HBC.out.trans (HBD.out.mono HBC.out.size))
      obtain ⟨hk2, hk3⟩ : (k' : Int) < (m.sl.length : Int) ∧ (0 : Int) ≤ (k' : Int) := by omega
      have hNg := typed_ne HAD.out.bk.ty HAD.out.o2 (by decide)
      simp only [Value.ownBlock, ne_eq, Option.some.injEq] at hNg
      have hg0 := own_blk HAD.out.o2
      have hw1g : w.heap.size + 1 ≠ g := by omega
      have HXO := Lib.hid (fun W' ag => (HBF.out W' ag).ok x' hxm)
      clear b0 b1 b2 n1 n2 n3 n4 n6 gf HAP HHA HHS HN1 HN2 HN3 HC
      go_cut [] (fun wx => ∃ y' : Sb, ChV lo (B + 1) w wd wx y' ∧ ApS W1 wx N { m with sl := m.sl.set k' y' } (.slice B1 m.al.length k1) (.slice (some ⟨g, 0, none⟩) m.sl.length k2) (.slice B3 m.el.length k3))
      case first =>
        --<reg4
        have hds : wd.heap.size = wd.heap.size := rfl
        refine region_genS (S := [26, 27, 28, 29, 30, 31, 32, 33, 34, 35, 36]) 36 (fun f w' => ∃ y' : Sb, ChV lo (B + 1) w wd w' y' ∧ ApS W1 w' N { m with sl := m.sl.set k' y' } (.slice B1 m.al.length k1) (.slice (some ⟨g, 0, none⟩) m.sl.length k2) (.slice B3 m.el.length k3)) ?_ (by simp) ?_
        · rintro f w' ⟨y', hp⟩
          simp only [TS, List.mapIdx_toArray, List.mapIdx_cons, List.mapIdx_nil]
          go_wp2_with fail
          go_meet
          exact ⟨y', hp⟩
        · intro T Q' hT hTs hQ
          have hT3 : T[3]? = some (.pointer (some ⟨w.heap.size + 1, 0, none⟩)) := (hT 3 rfl).trans (by rfl)
          have hT5 : T[5]? = some (.pointer (some ⟨N, 0, none⟩)) := (hT 5 rfl).trans (by rfl)
          have hT6 : T[6]? = some (.int .i64 (k' : Int)) := (hT 6 rfl).trans (by rfl)
          clear hT
          refine wp_region_inv (by kernel_rfl) (fun L a_ w' => ∃ f, a_ = ⟨TS [26, 27, 28, 29, 30, 31, 32, 33, 34, 35, 36] T f, []⟩ ∧ RJ lo (B + 1) N g k2 k' m x' (EvV a k c s nu na v) (.slice B1 m.al.length k1) (.slice B3 m.el.length k3) w W1 wd L f w') ?_ ?_ ?_
          · refine ⟨fun i => T.getD i undef, congrArg (fun x => Act.mk x []) (TS_self T), ?_⟩
            simp only [List.size_toArray, List.length_cons, List.length_nil, Nat.reduceAdd]
            exact RJ.start (Below.drew (Below.refl _ _)) _
          · rintro L a_ w' ⟨f, rfl, hI⟩ i hi
            obtain ⟨h0, o, ho, hall⟩ := mem_ready.1 hi
            have hlt : i < 12 := (Array.getElem?_eq_some_iff.1 ho).1
            have qq3 : (TS [26, 27, 28, 29, 30, 31, 32, 33, 34, 35, 36] T f)[3]? = some (.pointer (some ⟨w.heap.size + 1, 0, none⟩)) := (TS_old T f 3 rfl).trans hT3
            have qq5 : (TS [26, 27, 28, 29, 30, 31, 32, 33, 34, 35, 36] T f)[5]? = some (.pointer (some ⟨N, 0, none⟩)) := (TS_old T f 5 rfl).trans hT5
            have qq6 : (TS [26, 27, 28, 29, 30, 31, 32, 33, 34, 35, 36] T f)[6]? = some (.int .i64 (k' : Int)) := (TS_old T f 6 rfl).trans hT6
            have q26 : (TS [26, 27, 28, 29, 30, 31, 32, 33, 34, 35, 36] T f)[26]? = some (f 26) := TS_get T f 26 rfl (by omega)
            have q27 : (TS [26, 27, 28, 29, 30, 31, 32, 33, 34, 35, 36] T f)[27]? = some (f 27) := TS_get T f 27 rfl (by omega)
            have q28 : (TS [26, 27, 28, 29, 30, 31, 32, 33, 34, 35, 36] T f)[28]? = some (f 28) := TS_get T f 28 rfl (by omega)
            have q29 : (TS [26, 27, 28, 29, 30, 31, 32, 33, 34, 35, 36] T f)[29]? = some (f 29) := TS_get T f 29 rfl (by omega)
            have q30 : (TS [26, 27, 28, 29, 30, 31, 32, 33, 34, 35, 36] T f)[30]? = some (f 30) := TS_get T f 30 rfl (by omega)
            have q31 : (TS [26, 27, 28, 29, 30, 31, 32, 33, 34, 35, 36] T f)[31]? = some (f 31) := TS_get T f 31 rfl (by omega)
            have q32 : (TS [26, 27, 28, 29, 30, 31, 32, 33, 34, 35, 36] T f)[32]? = some (f 32) := TS_get T f 32 rfl (by omega)
            have q33 : (TS [26, 27, 28, 29, 30, 31, 32, 33, 34, 35, 36] T f)[33]? = some (f 33) := TS_get T f 33 rfl (by omega)
            have q34 : (TS [26, 27, 28, 29, 30, 31, 32, 33, 34, 35, 36] T f)[34]? = some (f 34) := TS_get T f 34 rfl (by omega)
            have q35 : (TS [26, 27, 28, 29, 30, 31, 32, 33, 34, 35, 36] T f)[35]? = some (f 35) := TS_get T f 35 rfl (by omega)
            have q36 : (TS [26, 27, 28, 29, 30, 31, 32, 33, 34, 35, 36] T f)[36]? = some (f 36) := TS_get T f 36 rfl (by omega)
            have hs12 := hI.sz
            have h11 : L.getD 11 false = false := by
              cases hc : L.getD 11 false with
              | false => rfl
              | true =>
                have := hI.da hc i hlt
                simp [hs12, hlt] at this h0
                rw [h0] at this
                cases this
            have hbw := hI.bel h11
            have hB' := hbw.size
            have n5' := keepL hbw Nld n5
            have g0' := keepL hbw gl g0
            have g1' := keepL hbw gl g1
            have g2' := keepL hbw gl g2
            have g3' := keepL hbw gl g3
            have g4' := keepL hbw gl g4
            have g5' := keepL hbw gl g5
            have g6' := keepL hbw gl g6
            have g7' := keepL hbw gl g7
            have e0' := keepL hbw hwd1 e0
            have e1' := keepL hbw hwd1 e1
            have e2' := keepL hbw hwd1 e2
            have e3' := keepL hbw hwd1 e3
            have e4' := keepL hbw hwd1 e4
            have e5' := keepL hbw hwd1 e5
            have e6' := keepL hbw hwd1 e6
            have HI := Lib.hid hI
            clear hi hI hT3 hT5 hT6
            have hc : i = 0 ∨ i = 1 ∨ i = 2 ∨ i = 3 ∨ i = 4 ∨ i = 5 ∨ i = 6 ∨ i = 7 ∨ i = 8 ∨ i = 9 ∨ i = 10 ∨ i = 11 := by omega
            rcases hc with rfl | rfl | rfl | rfl | rfl | rfl | rfl | rfl | rfl | rfl | rfl | rfl
            all_goals
              simp only [List.getElem?_toArray, List.getElem?_cons_zero, List.getElem?_cons_succ, Option.some.injEq] at ho
              subst ho
              simp [Region.binds] at hall
            · --<op0
              refine wpOp_step rfl (fun K hK => ?_)
              go_simp
              rw [TS_set T f 26 _ rfl]
              exact hK _ _ ⟨_, rfl, HI.out.u0 rfl⟩
              -->op0
            · --<op1
              have g0 := HI.out.l0 (by simp [hall])
              rw [g0] at q26
              refine wpOp_step rfl (fun K hK => ?_)
              go_simp
              rw [TS_set T f 27 _ rfl]
              exact hK _ _ ⟨_, rfl, HI.out.u1 rfl⟩
              -->op1
            · --<op2
              refine wpOp_step rfl (fun K hK => ?_)
              go_simp
              rw [TS_set T f 28 _ rfl]
              exact hK _ _ ⟨_, rfl, HI.out.u2 rfl⟩
              -->op2
            · --<op3
              refine wpOp_step rfl (fun K hK => ?_)
              go_simp
              rw [TS_set T f 29 _ rfl]
              exact hK _ _ ⟨_, rfl, HI.out.u3 rfl⟩
              -->op3
            · --<op4
              have g3 := HI.out.l3 (by simp [hall])
              rw [g3] at q29
              refine wpOp_step rfl (fun K hK => ?_)
              go_simp
              rw [TS_set T f 30 _ rfl]
              exact hK _ _ ⟨_, rfl, HI.out.u4 rfl⟩
              -->op4
            · --<op5
              refine wpOp_step rfl (fun K hK => ?_)
              go_simp
              rw [TS_set T f 31 _ rfl]
              exact hK _ _ ⟨_, rfl, HI.out.u5 rfl⟩
              -->op5
            · --<op6
              have g4 := HI.out.l4 (by simp [hall])
              rw [g4] at q30
              have g5 := HI.out.l5 (by simp [hall])
              rw [g5] at q31
              refine wpOp_step rfl (fun K hK => ?_)
              go_simp
              rw [TS_set T f 32 _ rfl]
              exact hK _ _ ⟨_, rfl, HI.out.u6 rfl⟩
              -->op6
            · --<op7
              have g6 := HI.out.l6 (by simp [hall])
              rw [g6] at q32
              refine wpOp_step rfl (fun K hK => ?_)
              go_simp
              rw [TS_set T f 33 _ rfl]
              exact hK _ _ ⟨_, rfl, HI.out.u7 rfl⟩
              -->op7
            · --<op8
              refine wpOp_step rfl (fun K hK => ?_)
              go_simp
              rw [TS_set T f 34 _ rfl]
              exact hK _ _ ⟨_, rfl, HI.out.u8 rfl⟩
              -->op8
            · --<op9
              have g7 := HI.out.l7 (by simp [hall])
              rw [g7] at q33
              have g8 := HI.out.l8 (by simp [hall])
              rw [g8] at q34
              unfold SbV at q33
              refine wpOp_step rfl (fun K hK => ?_)
              go_simp
              refine (changed_any x' B a k c s nu na v lo w _ HXO.out (AgL.of_below ?_) hB).mono ?_
              · exact HWD.out.trans ((HI.out.bel h11).mono HWD.out.size)
              rintro e w4 ⟨⟨y, rfl, hid, hok⟩, hb4⟩
              dsimp only
              rw [TS_set T f 35 _ rfl]
              exact hK _ _ ⟨_, rfl, HI.out.u9 h11 ((HI.out.bel h11).trans (hb4.mono hB')) ⟨w4, AgL.refl _ _, Nat.le_refl _, fun W' a1 a2 => hok W' a1 (a2.mono hB')⟩⟩
              -->op9
            · --<op10
              have g1 := HI.out.l1 (by simp [hall])
              rw [g1] at q27
              have g2 := HI.out.l2 (by simp [hall])
              rw [g2] at q28
              refine wpOp_step rfl (fun K hK => ?_)
              go_simp
              rw [TS_set T f 36 _ rfl]
              exact hK _ _ ⟨_, rfl, HI.out.u10 rfl⟩
              -->op10
            · --<op11
              obtain ⟨y, g9, hy⟩ := HI.out.l9 (by simp [hall])
              rw [g9] at q35
              have g10 := HI.out.l10 (by simp [hall])
              rw [g10] at q36
              have hap4 := HAD.out.below (HI.out.bel h11)
              obtain ⟨gl', gf', -⟩ := own_sb8 hap4.o2 hx'
              have gf0' := gf' (k' * 8)
              have gf1' := gf' (k' * 8 + 1)
              have gf2' := gf' (k' * 8 + 2)
              have gf3' := gf' (k' * 8 + 3)
              have gf4' := gf' (k' * 8 + 4)
              have gf5' := gf' (k' * 8 + 5)
              have gf6' := gf' (k' * 8 + 6)
              have gf7' := gf' (k' * 8 + 7)
              have HP := Lib.hid (hap4.set8 y hk')
              obtain ⟨w5, a1, a2, a3⟩ := hy
              have HY : Hid (ChV lo (B + 1) w wd _ y) := ⟨w5, (((((((((a1.set (i := k' * 8) (v := .int .i64 y.id) gl).set (i := k' * 8 + 1) (v := .int .i64 y.acc) gl).set (i := k' * 8 + 2) (v := .int .i64 y.since) gl).set (i := k' * 8 + 3) (v := .string y.plan) gl).set (i := k' * 8 + 4) (v := .slice y.na y.nn y.nc) gl).set (i := k' * 8 + 5) (v := .slice y.pa y.pn y.pc) gl).set (i := k' * 8 + 6) (v := .bool y.su) gl).set (i := k' * 8 + 7) (v := .bool y.fa) gl)), by simpa using a2, a3⟩
              clear hap4 gf' a1 a2 a3
              unfold SbV at q35
              refine wpOp_step rfl (fun K hK => ?_)
              go_simp
              exact hK _ _ ⟨_, rfl, HI.out.u11 HY.out HP.out g9 (fun j hj => by
                have : j = 0 ∨ j = 1 ∨ j = 2 ∨ j = 3 ∨ j = 4 ∨ j = 5 ∨ j = 6 ∨ j = 7 ∨ j = 8 ∨ j = 9 ∨ j = 10 := by omega
                rcases this with rfl | rfl | rfl | rfl | rfl | rfl | rfl | rfl | rfl | rfl | rfl <;> simp [hall])⟩
              -->op11
          · rintro L a_ w' ⟨f, rfl, hI⟩ hr
            rw [List.eq_nil_iff_forall_not_mem] at hr
            have hs := hI.sz
            have gd : ∀ i, i < 12 → L.getD i false = false → L.getD i true = false := fun i hi he => by
              simp [hs, hi] at he ⊢
              exact he
            have a0 : L.getD 0 false = true := by
              cases hc : L.getD 0 false with
              | true => rfl
              | false => exact (hr 0 (mem_ready.2 ⟨gd 0 (by decide) hc, _, rfl, fun e he _ => by simp at he⟩)).elim
            have a1 : L.getD 1 false = true := by
              cases hc : L.getD 1 false with
              | true => rfl
              | false => exact (hr 1 (mem_ready.2 ⟨gd 1 (by decide) hc, _, rfl, fun e he _ => by simp at he; first | (subst he; assumption) | (rcases he with rfl | rfl <;> assumption) | (rcases he with rfl | rfl | rfl <;> assumption) | (rcases he with rfl | rfl | rfl | rfl <;> assumption) | (rcases he with rfl | rfl | rfl | rfl | rfl <;> assumption) | (rcases he with rfl | rfl | rfl | rfl | rfl | rfl | rfl | rfl | rfl | rfl | rfl <;> assumption) | (rcases he with rfl | rfl | rfl | rfl | rfl | rfl | rfl | rfl | rfl | rfl | rfl | rfl <;> assumption) | (rcases he with rfl | rfl | rfl | rfl | rfl | rfl | rfl | rfl | rfl | rfl | rfl | rfl | rfl <;> assumption) | (rcases he with rfl | rfl | rfl | rfl | rfl | rfl | rfl | rfl | rfl | rfl | rfl | rfl | rfl | rfl <;> assumption)⟩)).elim
            have a2 : L.getD 2 false = true := by
              cases hc : L.getD 2 false with
              | true => rfl
              | false => exact (hr 2 (mem_ready.2 ⟨gd 2 (by decide) hc, _, rfl, fun e he _ => by simp at he⟩)).elim
            have a3 : L.getD 3 false = true := by
              cases hc : L.getD 3 false with
              | true => rfl
              | false => exact (hr 3 (mem_ready.2 ⟨gd 3 (by decide) hc, _, rfl, fun e he _ => by simp at he⟩)).elim
            have a4 : L.getD 4 false = true := by
              cases hc : L.getD 4 false with
              | true => rfl
              | false => exact (hr 4 (mem_ready.2 ⟨gd 4 (by decide) hc, _, rfl, fun e he _ => by simp at he; first | (subst he; assumption) | (rcases he with rfl | rfl <;> assumption) | (rcases he with rfl | rfl | rfl <;> assumption) | (rcases he with rfl | rfl | rfl | rfl <;> assumption) | (rcases he with rfl | rfl | rfl | rfl | rfl <;> assumption) | (rcases he with rfl | rfl | rfl | rfl | rfl | rfl | rfl | rfl | rfl | rfl | rfl <;> assumption) | (rcases he with rfl | rfl | rfl | rfl | rfl | rfl | rfl | rfl | rfl | rfl | rfl | rfl <;> assumption) | (rcases he with rfl | rfl | rfl | rfl | rfl | rfl | rfl | rfl | rfl | rfl | rfl | rfl | rfl <;> assumption) | (rcases he with rfl | rfl | rfl | rfl | rfl | rfl | rfl | rfl | rfl | rfl | rfl | rfl | rfl | rfl <;> assumption)⟩)).elim
            have a5 : L.getD 5 false = true := by
              cases hc : L.getD 5 false with
              | true => rfl
              | false => exact (hr 5 (mem_ready.2 ⟨gd 5 (by decide) hc, _, rfl, fun e he _ => by simp at he⟩)).elim
            have a6 : L.getD 6 false = true := by
              cases hc : L.getD 6 false with
              | true => rfl
              | false => exact (hr 6 (mem_ready.2 ⟨gd 6 (by decide) hc, _, rfl, fun e he _ => by simp at he; first | (subst he; assumption) | (rcases he with rfl | rfl <;> assumption) | (rcases he with rfl | rfl | rfl <;> assumption) | (rcases he with rfl | rfl | rfl | rfl <;> assumption) | (rcases he with rfl | rfl | rfl | rfl | rfl <;> assumption) | (rcases he with rfl | rfl | rfl | rfl | rfl | rfl | rfl | rfl | rfl | rfl | rfl <;> assumption) | (rcases he with rfl | rfl | rfl | rfl | rfl | rfl | rfl | rfl | rfl | rfl | rfl | rfl <;> assumption) | (rcases he with rfl | rfl | rfl | rfl | rfl | rfl | rfl | rfl | rfl | rfl | rfl | rfl | rfl <;> assumption) | (rcases he with rfl | rfl | rfl | rfl | rfl | rfl | rfl | rfl | rfl | rfl | rfl | rfl | rfl | rfl <;> assumption)⟩)).elim
            have a7 : L.getD 7 false = true := by
              cases hc : L.getD 7 false with
              | true => rfl
              | false => exact (hr 7 (mem_ready.2 ⟨gd 7 (by decide) hc, _, rfl, fun e he _ => by simp at he; first | (subst he; assumption) | (rcases he with rfl | rfl <;> assumption) | (rcases he with rfl | rfl | rfl <;> assumption) | (rcases he with rfl | rfl | rfl | rfl <;> assumption) | (rcases he with rfl | rfl | rfl | rfl | rfl <;> assumption) | (rcases he with rfl | rfl | rfl | rfl | rfl | rfl | rfl | rfl | rfl | rfl | rfl <;> assumption) | (rcases he with rfl | rfl | rfl | rfl | rfl | rfl | rfl | rfl | rfl | rfl | rfl | rfl <;> assumption) | (rcases he with rfl | rfl | rfl | rfl | rfl | rfl | rfl | rfl | rfl | rfl | rfl | rfl | rfl <;> assumption) | (rcases he with rfl | rfl | rfl | rfl | rfl | rfl | rfl | rfl | rfl | rfl | rfl | rfl | rfl | rfl <;> assumption)⟩)).elim
            have a8 : L.getD 8 false = true := by
              cases hc : L.getD 8 false with
              | true => rfl
              | false => exact (hr 8 (mem_ready.2 ⟨gd 8 (by decide) hc, _, rfl, fun e he _ => by simp at he⟩)).elim
            have a9 : L.getD 9 false = true := by
              cases hc : L.getD 9 false with
              | true => rfl
              | false => exact (hr 9 (mem_ready.2 ⟨gd 9 (by decide) hc, _, rfl, fun e he _ => by simp at he; first | (subst he; assumption) | (rcases he with rfl | rfl <;> assumption) | (rcases he with rfl | rfl | rfl <;> assumption) | (rcases he with rfl | rfl | rfl | rfl <;> assumption) | (rcases he with rfl | rfl | rfl | rfl | rfl <;> assumption) | (rcases he with rfl | rfl | rfl | rfl | rfl | rfl | rfl | rfl | rfl | rfl | rfl <;> assumption) | (rcases he with rfl | rfl | rfl | rfl | rfl | rfl | rfl | rfl | rfl | rfl | rfl | rfl <;> assumption) | (rcases he with rfl | rfl | rfl | rfl | rfl | rfl | rfl | rfl | rfl | rfl | rfl | rfl | rfl <;> assumption) | (rcases he with rfl | rfl | rfl | rfl | rfl | rfl | rfl | rfl | rfl | rfl | rfl | rfl | rfl | rfl <;> assumption)⟩)).elim
            have a10 : L.getD 10 false = true := by
              cases hc : L.getD 10 false with
              | true => rfl
              | false => exact (hr 10 (mem_ready.2 ⟨gd 10 (by decide) hc, _, rfl, fun e he _ => by simp at he; first | (subst he; assumption) | (rcases he with rfl | rfl <;> assumption) | (rcases he with rfl | rfl | rfl <;> assumption) | (rcases he with rfl | rfl | rfl | rfl <;> assumption) | (rcases he with rfl | rfl | rfl | rfl | rfl <;> assumption) | (rcases he with rfl | rfl | rfl | rfl | rfl | rfl | rfl | rfl | rfl | rfl | rfl <;> assumption) | (rcases he with rfl | rfl | rfl | rfl | rfl | rfl | rfl | rfl | rfl | rfl | rfl | rfl <;> assumption) | (rcases he with rfl | rfl | rfl | rfl | rfl | rfl | rfl | rfl | rfl | rfl | rfl | rfl | rfl <;> assumption) | (rcases he with rfl | rfl | rfl | rfl | rfl | rfl | rfl | rfl | rfl | rfl | rfl | rfl | rfl | rfl <;> assumption)⟩)).elim
            have a11 : L.getD 11 false = true := by
              cases hc : L.getD 11 false with
              | true => rfl
              | false => exact (hr 11 (mem_ready.2 ⟨gd 11 (by decide) hc, _, rfl, fun e he _ => by simp at he; first | (subst he; assumption) | (rcases he with rfl | rfl <;> assumption) | (rcases he with rfl | rfl | rfl <;> assumption) | (rcases he with rfl | rfl | rfl | rfl <;> assumption) | (rcases he with rfl | rfl | rfl | rfl | rfl <;> assumption) | (rcases he with rfl | rfl | rfl | rfl | rfl | rfl | rfl | rfl | rfl | rfl | rfl <;> assumption) | (rcases he with rfl | rfl | rfl | rfl | rfl | rfl | rfl | rfl | rfl | rfl | rfl | rfl <;> assumption) | (rcases he with rfl | rfl | rfl | rfl | rfl | rfl | rfl | rfl | rfl | rfl | rfl | rfl | rfl <;> assumption) | (rcases he with rfl | rfl | rfl | rfl | rfl | rfl | rfl | rfl | rfl | rfl | rfl | rfl | rfl | rfl <;> assumption)⟩)).elim
            exact hQ f w' (hI.l11 a11)
        -->reg4
      case rest =>
        --<rest4
        obtain ⟨y', hch, hap4⟩ := hcut
        have HA8 := Lib.hid hap4
        have HCH := Lib.hid hch
        replace e1 := (hap4.bl.cell (p := ⟨w.heap.size + 1, 1, none⟩) hlt2).trans E1.out
        replace e3 := (hap4.bl.cell (p := ⟨w.heap.size + 1, 3, none⟩) hlt2).trans E3.out
        obtain ⟨-, Nl4, -, n1, n2, n3, n4, n5, n6⟩ := hap4.bk
        have hs4 := hap4.bl.size
        have hw41 : w.heap.size + 1 < wc.heap.size := by omega
        have hwd9 : W1.heap.size ≤ wd.heap.size := by omega
        clear g0 g1 g2 g3 g4 g5 g6 g7 gf0 gf1 gf2 gf3 gf4 gf5 gf6 gf7 e0 e2 e4 e5 e6 hch hap4
        by_cases h4 : k = 4
        · subst h4
          go_upto_region 16 with (first
            | (at_builtin; refine wpList_append_any rfl _ _ _ rfl W1.heap.size 3 t0 _ 1 8 Try.underlying102 ht0 hu0 hu1 hu2 rfl (by omega) (.slice B3 m.el.length k3) m.el.length (m.el.flatMap ntc) rfl (World.ownsRow.alloc HA8.out.o3 _) (some ⟨wc.heap.size, 0, none⟩) 1 1 (ntc s) rfl (fun h => by cases h) rfl (fun ad had => by obtain rfl := Option.some.inj had; exact cells_new _ rfl) (by simpa using ntc_one [s]) (by simp only [maxLen]; omega) (by omega) (by simp; omega) ?_; intro v2 w2 hown2 hg2; obtain ⟨B4, k4, rfl, -⟩ := own_form hown2; have hap2 := HA8.out.below ((Below.refl wc.heap.size wc).alloc (Nat.le_refl _) (.cells (ntc s).toArray 3)); have HA9 := Lib.hid (hap2.app3 hown2 hg2); obtain ⟨-, l2, -, f20, f21, f22, c20, c21, c22⟩ := hap2.bk.heap hg2.size (hg2.block N hap2.bk.lt (typed_ne hap2.bk.ty hap2.o3 (by decide))); have HCH9 : Hid (ChV lo (B + 1) w wd (w2.setCell ⟨N, 2, none⟩ (.slice B4 (m.el.length + 1) k4)) y') := (by obtain ⟨w5, a1, a2, a3⟩ := HCH.out; exact ⟨w5, ((a1.trans (AgL.of_below ((Below.refl wc.heap.size wc).alloc (Nat.le_refl _) (.cells (ntc s).toArray 3)))).grown hg2 (fun q hq => (World.ownsRow.lt HAD.out.o3 q hq).2)).set Nld, (by have := hg2.size; simp at this ⊢; omega), a3⟩); clear hap2 hown2 hg2))
          clear f20 f21 f22 c20 c21 c22 l2
          generalize (w2.setCell ⟨N, 2, none⟩ (.slice B4 (m.el.length + 1) k4)) = W9 at *
          have hok : ∀ s' ∈ m.sl.set k' y', ∀ W', AgL lo w W' → AgL W1.heap.size W9 W' → s'.Ok W' (B + 1) := fun s' hs' W' ag ag2 => by
            rcases List.mem_or_eq_of_mem_set hs' with h | rfl
            · exact ((HBF.out W' ag).ok s' h).mono (Nat.le_succ _)
            · obtain ⟨w5, a1, a2, a3⟩ := HCH9.out
              exact a3 W' ag (a1.trans (ag2.mono (by omega)))
          obtain ⟨-, nl, -, m0, m1, m2, m3, m4, m5⟩ := HA9.out.bk
          obtain ⟨-, rl, -, r0, r1, r2, r3, r4, r5⟩ := HRB.out.below HA9.out.bl
          go_wp2
          refine bodyPost_ret (by simp [results, Try.results63, go_sem, r3, r4, r5, rl, nl]; first | done | rfl) rfl ?_
          exact ApS.fin HA9.out HBW.out hlo (by omega) (by omega) _ _ _ (hok) (by first | omega | (simp; omega)) (by first | omega | (simp; omega)) (by first | omega | (simp; omega)) rfl
        · have h4b : (k == 4) = false := beq_eq_false_iff_ne.2 h4
          go_upto_region 16 with fail
          have HA9 := HA8
          have HCH9 := HCH
          have hok : ∀ s' ∈ m.sl.set k' y', ∀ W', AgL lo w W' → AgL W1.heap.size wc W' → s'.Ok W' (B + 1) := fun s' hs' W' ag ag2 => by
            rcases List.mem_or_eq_of_mem_set hs' with h | rfl
            · exact ((HBF.out W' ag).ok s' h).mono (Nat.le_succ _)
            · obtain ⟨w5, a1, a2, a3⟩ := HCH9.out
              exact a3 W' ag (a1.trans (ag2.mono (by omega)))
          obtain ⟨-, nl, -, m0, m1, m2, m3, m4, m5⟩ := HA9.out.bk
          obtain ⟨-, rl, -, r0, r1, r2, r3, r4, r5⟩ := HRB.out.below HA9.out.bl
          go_wp2
          refine bodyPost_ret (by simp [results, Try.results63, go_sem, r3, r4, r5, rl, nl]; first | done | rfl) rfl ?_
          exact ApS.fin HA9.out HBW.out hlo (by omega) (by omega) _ _ _ (hok) (by first | omega | (simp; omega)) (by first | omega | (simp; omega)) (by first | omega | (simp; omega)) rfl
        -->rest4
      -->kd
end Go.Proofs.Ythkollhebabhbaa

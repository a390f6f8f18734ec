/-
  ConsumeWallets: texts joined (by joinw.py).
-/
import Derived.Test.YthkollhebabhbaaYc
import Derived.BigQuiet

/-!
  Wallets of the program, where the account is a prepaid one.
-/
namespace Go.Proofs.Ythkollhebabhbaa
open Go.RowKit
open Go.Maps
set_option linter.unusedSimpArgs false
set_option linter.unusedVariables false

theorem OwnSt.setY {w : World} {B N i : Nat} {vb vw vc x : Value} {s : St} (h : OwnSt w B vb vw vc s) (hN : Typed w N 26) : OwnSt (w.setCell ⟨N, i, none⟩ x) B vb vw vc s := by
  obtain ⟨⟨Z, b1, b2, b3⟩, h2, h3⟩ := h
  exact ⟨⟨Z, b1, own_setY b2 hN (by decide), fun j y z hy hz => own_setY (b3 j y z hy hz) hN (by decide)⟩, own_setY h2 hN (by decide), own_setY h3 hN (by decide)⟩

theorem Box3.other {w : World} {O O' j : Nat} {a b c v : Value} (h : Box3 w O a b c) (hne : O ≠ O') : Box3 (w.setCell ⟨O', j, none⟩ v) O a b c := by
  obtain ⟨h0, h1, h2, h3, h5, h6, h7⟩ := h
  have hb : (w.setCell ⟨O', j, none⟩ v).heap[O]? = w.heap[O]? := Below.heap_setCell w ⟨O', j, none⟩ v O hne
  exact ⟨by simpa using h0, (World.cell?_of_block (w := w) (a := ⟨O, 0, none⟩) hb).trans h1, (World.cell?_of_block (w := w) (a := ⟨O, 1, none⟩) hb).trans h2, (World.cell?_of_block (w := w) (a := ⟨O, 2, none⟩) hb).trans h3, (World.frozen?_of_block (w := w) (a := ⟨O, 0, none⟩) hb).trans h5, (World.frozen?_of_block (w := w) (a := ⟨O, 1, none⟩) hb).trans h6, (World.frozen?_of_block (w := w) (a := ⟨O, 2, none⟩) hb).trans h7⟩
theorem Box3.set1 {w : World} {O : Nat} {a b c v : Value} (h : Box3 w O a b c) : Box3 (w.setCell ⟨O, 1, none⟩ v) O a v c := by
  obtain ⟨h0, h1, h2, h3, h5, h6, h7⟩ := h
  constructor <;> simp [go_sem, h0, h1, h2, h3, h5, h6, h7]

set_option maxRecDepth 100000 in
set_option maxHeartbeats 8000000 in
theorem wal_yes (evs : List Ev) (st : St) (Ae Ab Aw Ac : Option Addr) (ce cb cw cc : Nat) (acc t : Int) (w : World) (h : WaIn w Ae evs Ab Aw Ac cw cc st) (ht1 : 0 ≤ t) (ht2 : t < 12622780800) (hp : popB acc t evs = true)
    (ws' : List W5) (k : Nat) (x : W5) (hx : ws'[k]? = some x) (hl : ws'.length ≤ 1000)
    (HWI : ∀ (W : World) (A : Option Addr) (c : Nat), Fives W A st.ws → (A = none → c = 0) → st.ws.length ≤ c → Calls Try.prog 41 #[.slice A st.ws.length c, .int .i64 acc] W (WithR ws' k W)) :
    Calls Try.prog 19 #[.slice Ae evs.length ce, .agg #[.slice Ab st.bs.length cb, .slice Aw st.ws.length cw, .slice Ac st.cs.length cc], .int .i64 acc, .int .i64 t] w (ClonedSt { st with ws := ws'.set k (endW acc t x evs) } w) := by
  have hnw := h.nw
  have HC1 := Lib.hid (fun W (hb : Bks W Ab st.bs) (hw : Fives W Aw st.ws) (hc : Fives W Ac st.cs) => cclone_any st Ab Aw Ac cb cw cc W h.nb (by omega) h.nc h.z hb hw hc h.wn h.cn)
  have HE := Lib.hid h.e
  have HB := Lib.hid h.b
  have HW := Lib.hid h.s
  have HC := Lib.hid h.c
  have hne := h.ne
  have HP := Lib.hid hp
  have HX := Lib.hid hx
  have HWH := Lib.hid HWI
  have hkl : k < ws'.length := (List.getElem?_eq_some_iff.1 hx).1
  clear h hp hx HWI
  unfold ClonedSt
  go_enter Try.func19, Try.ntmps19
  go_upto_region 5 with (first
    | (go_at_call 26; refine (HC1.out _ ((HB.out.alloc _).alloc _) ((HW.out.alloc _).alloc _) ((HC.out.alloc _).alloc _)).mono ?_; rintro e w1 ⟨v1, v2, v3, rfl, os1, hb1⟩; obtain ⟨A1, c1, rfl, _, _⟩ := os1.1.form; obtain ⟨A2, c2, rfl, hF2, hA2, hle2⟩ := own_rws (f := W5.cells) (n := 5) (fun _ => rfl) os1.2.1; obtain ⟨A3, c3, rfl, _, _⟩ := os1.2.2.form; have hsz1 := hb1.size; simp at hsz1; have hz1 : w.heap.size < w1.heap.size := (by omega); have hz2 : w.heap.size + 1 < w1.heap.size := (by omega); have HO1 := Lib.hid (os1.mono (B' := w.heap.size + 2) (by simp)); have HF2 := Lib.hid hF2; have HA2 := Lib.hid hA2; have HBN0 := Lib.hid ((Box3.new (w.alloc (.cells #[.slice Ab st.bs.length cb, .slice Aw st.ws.length cw, .slice Ac st.cs.length cc] 26)) (.slice none 0 0) (.slice none 0 0) (.slice none 0 0) 26).below hb1); have HBW := Lib.hid ((((Below.refl w.heap.size w).alloc (Nat.le_refl _) _).alloc (by simp) _).trans (hb1.mono (by simp; omega))); clear os1 hF2 hA2 hb1)
    | (go_at_call 40; refine (opened_any evs Ae ce acc t _ (HE.out.below ((HBW.out.alloc (by omega) _).mono (Nat.le_refl _))) hne).mono ?_; rw [HP.out]; rintro e w2 ⟨rfl, hb2⟩; obtain ⟨s2, rfl⟩ := ext_of_below hb2; clear hb2)
    | (go_at_call 41; refine (HWH.out _ A2 c2 ((Fives.alloc HF2.out _).ext s2) HA2.out hle2).mono ?_; rintro e w3 ⟨⟨A4, c4, rfl, hof⟩, hb3⟩; have HOF := Lib.hid hof; have HB3 := Lib.hid hb3; clear hof hb3))
  have hofl := HOF.out
  obtain ⟨g, hA4, hg1, hg2, -⟩ := hofl.some_ (by omega)
  subst hA4
  have HBO : Hid (Below (w1.heap.size + 1) (w1.alloc (.cells #[.slice A1 st.bs.length c1, .slice A2 st.ws.length c2, .slice A3 st.cs.length c3] 26)) w3) := by
    have h1 := (below_ext (Below.refl (w1.heap.size + 1) (w1.alloc (.cells #[.slice A1 st.bs.length c1, .slice A2 st.ws.length c2, .slice A3 st.cs.length c3] 26))) (by simp) s2)
    exact h1.trans (HB3.out.mono (by first | (simp [go_sem]; done) | (simp [go_sem]; omega)))
  have HBN1 := Lib.hid ((Box3.new w1 (.slice A1 st.bs.length c1) (.slice A2 st.ws.length c2) (.slice A3 st.cs.length c3) 26).below (HBO.out.mono (by simp)))
  have HT1 := Lib.hid ((typed_new (Z := w1) (cs := #[.slice A1 st.bs.length c1, .slice A2 st.ws.length c2, .slice A3 st.cs.length c3]) (e := 26) (fr := (0, 0)) rfl).below (HBO.out.mono (by simp)))
  have HB1w3 := Lib.hid (((Below.refl w1.heap.size w1).alloc (Nat.le_refl _) _).trans (HBO.out.mono (Nat.le_succ _)))
  have HN0 := Lib.hid (HBN0.out.below HB1w3.out)
  have HOS : Hid (OwnSt w3 (w.heap.size + 2) (.slice A1 st.bs.length c1) (.slice (some ⟨g, 0, none⟩) ws'.length c4) (.slice A3 st.cs.length c3) { st with ws := ws' }) := by
    have h1 := HO1.out.below HB1w3.out
    have hsz0 := HBW.out.size
    exact ⟨h1.1, own_mono HOF.out (by simp [go_sem]; omega), h1.2.2⟩
  have HBW3 := Lib.hid (HBW.out.trans (HB1w3.out.mono HBW.out.size))
  have hs13 := HB1w3.out.size
  clear HOF HB3 HBO HBN0 HO1 HF2 HA2 hofl HB1w3
  simp only [size_ext, World.size_alloc] at hg1
  have hg0 : w1.heap.size < g := by omega
  obtain ⟨hkb1, hkb2⟩ : (k : Int) < (ws'.length : Int) ∧ (0 : Int) ≤ (k : Int) := by omega
  obtain ⟨xa, xb, xf, xh, xu⟩ := x
  have hform := (OwnF.form HOS.out.2.1)
  obtain ⟨A5, c5, hv5, hF5, -⟩ := hform
  simp only [Value.slice.injEq, true_and] at hv5
  obtain ⟨rfl, rfl⟩ := hv5
  obtain ⟨g', o', hgo, -, x0, x1, x2, x3, x4⟩ := fives_cells hF5 HX.out
  simp only [Option.some.injEq, Addr.mk.injEq, and_true] at hgo
  obtain ⟨rfl, rfl⟩ := hgo
  simp only [Nat.zero_add] at x0 x1 x2 x3 x4
  clear hF5
  go_wp2
  go_loopw [46] (fun i wr => ∃ n : Nat, n ≤ evs.length ∧ i = .int .i64 n ∧ PwC wr w3.heap.size (evW acc t xu ⟨xa, xb, xf, xh, xu⟩ (evs.take n)) ∧ Below w3.heap.size w3 wr) (fun i _ => evs.length - (intOf i).toNat)
  case atStart => exact ⟨0, Nat.zero_le _, rfl, PwC.new w3 ⟨xa, xb, xf, xh, xu⟩, Below.alloc (Below.refl _ _) (Nat.le_refl _) _⟩
  case round =>
    obtain ⟨n, hn, rfl, hpw, hbw⟩ := hrel
    have HPW := Lib.hid hpw
    have HBR := Lib.hid hbw
    have hsz := hbw.size
    have y4 : wr.cell? ⟨g, k * 5 + 4, none⟩ = some (.int .i64 xu) := (hbw.cell (p := ⟨g, k * 5 + 4, none⟩) hg2).trans x4
    have hglt : g < wr.heap.size := by omega
    have hgne : ¬ g = wr.heap.size := by omega
    have HWW := Lib.hid (HBW3.out.trans (hbw.mono (by have := HBW3.out.size; omega)))
    clear hpw hbw
    by_cases hlt : n < evs.length
    · --<rnd
      obtain ⟨e, he⟩ : ∃ s, evs[n]? = some s := ⟨_, List.getElem?_eq_getElem hlt⟩
      obtain ⟨b, o, hA, hb, e0, e1, e2, e3, e4, e5, e6⟩ := ev_cells (HE.out.below HWW.out) he
      have HS := Lib.hid (evW_snoc acc t xu ⟨xa, xb, xf, xh, xu⟩ he)
      subst hA
      clear he
      have hbne : ¬ b = wr.heap.size := by omega
      obtain ⟨ea, ek, ec, es, en, em, ev⟩ := e
      dsimp only at e0 e1 e2 e3 e4 e5 e6
      generalize evW acc t xu ⟨xa, xb, xf, xh, xu⟩ (evs.take n) = y at *
      obtain ⟨ya, yb, yf, yh, yu⟩ := y
      obtain ⟨hplt, q0, q1, q2, q3, q4, r0, r1, r2, r3, r4⟩ := HPW.out
      dsimp only at q0 q1 q2 q3 q4
      have hpne : ¬ w3.heap.size = wr.heap.size := by omega
      have hcs : (¬ ec = acc ∨ (ec = acc ∧ ea ≤ xu) ∨ (ec = acc ∧ xu < ea ∧ t < ea)) ∨ (ec = acc ∧ xu < ea ∧ ea ≤ t) := by omega
      rcases hcs with hcs | ⟨hc1, hc2, hc3⟩
      · have HS2 : Hid (evW acc t xu ⟨xa, xb, xf, xh, xu⟩ (evs.take (n + 1)) = ⟨ya, yb, yf, yh, yu⟩) := by
          unfold Hid
          rw [HS.out]
          unfold stepW
          rw [if_neg (by dsimp only; omega)]
        clear HS
        rcases hcs with hc1 | ⟨hc1, hc2⟩ | ⟨hc1, hc2, hc3⟩
        all_goals
          go_upto_region 10 with fail
          refine wp_region_more (by kernel_rfl) (by kernel_rfl) ?_
          repeat (first | go_big_quiet_skip | quiet_step (fail))
          refine wpQuiet_nil ?_
          rintro _ ⟨s4, rfl⟩
          go_wp2
          go_roundw
          case rel => exact ⟨n + 1, by omega, by go_num, by rw [HS2.out]; exact HPW.out.below (below_ext (Below.alloc (Below.refl _ _) (Nat.le_refl _) _) (by simp) _), below_ext (HBR.out.alloc hsz _) (by simp; omega) _⟩
          case measure => simp [intOf]; omega
      · have HS1 : Hid (evW acc t xu ⟨xa, xb, xf, xh, xu⟩ (evs.take (n + 1)) = carryF ⟨ya, yb, yf, yh, yu⟩ ek ev) := by
          unfold Hid
          rw [HS.out]
          unfold stepW
          rw [if_pos ⟨hc1, hc2, hc3⟩]
        clear HS
        by_cases h14 : ek = 14
        · have HCR := Lib.hid (fun W => credit_any ya yb yf yh yu ev W)
          have HS2 : Hid (evW acc t xu ⟨xa, xb, xf, xh, xu⟩ (evs.take (n + 1)) = if (W5.credit ⟨ya, yb, yf, yh, yu⟩ ev).2 = 0 then (W5.credit ⟨ya, yb, yf, yh, yu⟩ ev).1 else ⟨ya, yb, yf, yh, yu⟩) := by
            unfold Hid
            rw [HS1.out]
            unfold carryF
            rw [if_pos h14]
          clear HS1
          subst h14
          generalize W5.credit ⟨ya, yb, yf, yh, yu⟩ ev = r at *
          obtain ⟨⟨pa, pb, pf, ph, pu⟩, pe⟩ := r
          dsimp only at HCR HS2
          go_upto_region 10 with fail
          refine wp_region_more (by kernel_rfl) (by kernel_rfl) ?_
          repeat (first | go_big_quiet_skip | quiet_step (fail))
          refine wpQuiet_nil ?_
          rintro _ ⟨s4, rfl⟩
          go_wp2_with (first
            | (go_at_call 35; (with_reducible refine (HCR.out _).mono ?_); rintro e1 w4 ⟨rfl, hb4⟩; obtain ⟨s5, rfl⟩ := ext_of_below hb4; clear hb4)
            | (go_at_call 42; (with_reducible refine (clo_any ⟨pa, pb, pf, ph, pu⟩ ⟨ya, yb, yf, yh, yu⟩ pe w3.heap.size _ (HPW.out.below ?_)).mono ?_); (· repeat' (first | exact Below.refl _ _ | refine below_ext ?_ ?_ _ | refine Below.alloc ?_ ?_ _ | refine Below.setCell ?_ ?_ _ | refine Below.drew ?_ | (rw [size_ext]; refine Nat.le_add_right_of_le ?_) | go_size | (rw [World.size_alloc]; refine Nat.le_add_right_of_le ?_))); rintro en w5 ⟨⟨vv, rfl⟩, hpc, hbl⟩; have HPC := Lib.hid hpc; have HB5 := Lib.hid (hbl w3.heap.size (Nat.le_refl _)); clear hpc hbl))
          go_roundw
          case rel => exact ⟨n + 1, by omega, by go_num, by rw [HS2.out]; exact HPC.out, (below_ext (HBR.out.alloc hsz _) (by simp; omega) _).trans HB5.out⟩
          case measure => simp [intOf]; omega
        · by_cases h15 : ek = 15
          · have HCR := Lib.hid (fun W => floor_any ya yb yf yh yu ev W)
            have HS2 : Hid (evW acc t xu ⟨xa, xb, xf, xh, xu⟩ (evs.take (n + 1)) = if (W5.floor ⟨ya, yb, yf, yh, yu⟩ ev).2 = 0 then (W5.floor ⟨ya, yb, yf, yh, yu⟩ ev).1 else ⟨ya, yb, yf, yh, yu⟩) := by
              unfold Hid
              rw [HS1.out]
              unfold carryF
              rw [if_neg h14, if_pos h15]
            clear HS1
            subst h15
            generalize W5.floor ⟨ya, yb, yf, yh, yu⟩ ev = r at *
            obtain ⟨⟨pa, pb, pf, ph, pu⟩, pe⟩ := r
            dsimp only at HCR HS2
            go_upto_region 10 with fail
            refine wp_region_more (by kernel_rfl) (by kernel_rfl) ?_
            repeat (first | go_big_quiet_skip | quiet_step (fail))
            refine wpQuiet_nil ?_
            rintro _ ⟨s4, rfl⟩
            go_wp2_with (first
              | (go_at_call 43; (with_reducible refine (HCR.out _).mono ?_); rintro e1 w4 ⟨rfl, hb4⟩; obtain ⟨s5, rfl⟩ := ext_of_below hb4; clear hb4)
              | (go_at_call 42; (with_reducible refine (clo_any ⟨pa, pb, pf, ph, pu⟩ ⟨ya, yb, yf, yh, yu⟩ pe w3.heap.size _ (HPW.out.below ?_)).mono ?_); (· repeat' (first | exact Below.refl _ _ | refine below_ext ?_ ?_ _ | refine Below.alloc ?_ ?_ _ | refine Below.setCell ?_ ?_ _ | refine Below.drew ?_ | (rw [size_ext]; refine Nat.le_add_right_of_le ?_) | go_size | (rw [World.size_alloc]; refine Nat.le_add_right_of_le ?_))); rintro en w5 ⟨⟨vv, rfl⟩, hpc, hbl⟩; have HPC := Lib.hid hpc; have HB5 := Lib.hid (hbl w3.heap.size (Nat.le_refl _)); clear hpc hbl))
            go_roundw
            case rel => exact ⟨n + 1, by omega, by go_num, by rw [HS2.out]; exact HPC.out, (below_ext (HBR.out.alloc hsz _) (by simp; omega) _).trans HB5.out⟩
            case measure => simp [intOf]; omega
          · have HS2 : Hid (evW acc t xu ⟨xa, xb, xf, xh, xu⟩ (evs.take (n + 1)) = ⟨ya, yb, yf, yh, yu⟩) := by
              unfold Hid
              rw [HS1.out]
              unfold carryF
              rw [if_neg h14, if_neg h15]
            clear HS1
            go_upto_region 10 with fail
            refine wp_region_more (by kernel_rfl) (by kernel_rfl) ?_
            repeat (first | go_big_quiet_skip | quiet_step (fail))
            refine wpQuiet_nil ?_
            rintro _ ⟨s4, rfl⟩
            go_wp2
            go_roundw
            case rel => exact ⟨n + 1, by omega, by go_num, by rw [HS2.out]; exact HPW.out.below (below_ext (Below.alloc (Below.refl _ _) (Nat.le_refl _) _) (by simp) _), below_ext (HBR.out.alloc hsz _) (by simp; omega) _⟩
            case measure => simp [intOf]; omega
      -->rnd
    · --<end
      have HX2 := Lib.hid HX.out
      obtain rfl : n = evs.length := by omega
      have HKU := Lib.hid (evW_keeps acc t xu evs ⟨xa, xb, xf, xh, xu⟩)
      have hpw := HPW.out
      rw [List.take_length] at hpw
      have HEND : Hid (endW acc t ⟨xa, xb, xf, xh, xu⟩ evs = { evW acc t xu ⟨xa, xb, xf, xh, xu⟩ evs with u := max xu t }) := rfl
      generalize evW acc t xu ⟨xa, xb, xf, xh, xu⟩ evs = y at *
      obtain ⟨ya, yb, yf, yh, yu⟩ := y
      have hyu : yu = xu := HKU.out.1
      subst hyu
      obtain ⟨hplt, q0, q1, q2, q3, q4, r0, r1, r2, r3, r4⟩ := hpw
      dsimp only at q0 q1 q2 q3 q4
      obtain ⟨N0lt, m0, m1, m2, n0, n1, n2⟩ := HN0.out.below HBR.out
      obtain ⟨N1lt, a0, a1, a2, d0, d1, d2⟩ := HBN1.out.below HBR.out
      have HOR := Lib.hid (HOS.out.below HBR.out)
      obtain ⟨z0, z1, z2, z3, z4⟩ := HOR.out.2.1.frozen5 k
      have w0 := (HBR.out.cell (p := ⟨g, k * 5, none⟩) hg2).trans x0
      have w1' := (HBR.out.cell (p := ⟨g, k * 5 + 1, none⟩) hg2).trans x1
      have w2' := (HBR.out.cell (p := ⟨g, k * 5 + 2, none⟩) hg2).trans x2
      have w3' := (HBR.out.cell (p := ⟨g, k * 5 + 3, none⟩) hg2).trans x3
      have w4' := (HBR.out.cell (p := ⟨g, k * 5 + 4, none⟩) hg2).trans x4
      have i1 : ¬ g = w3.heap.size := by omega
      have i2 : ¬ w1.heap.size = w3.heap.size := by omega
      have i3 : ¬ w.heap.size + 1 = w3.heap.size := by omega
      have i4 : ¬ w1.heap.size = g := by omega
      have i5 : ¬ w.heap.size + 1 = g := by omega
      have i6 : ¬ w.heap.size + 1 = w1.heap.size := by omega
      have i7 : ¬ w3.heap.size = g := by omega
      have i8 : ¬ g = w1.heap.size := by omega
      have i9 : ¬ w1.heap.size = w.heap.size + 1 := by omega
      clear HWW HWH HX HP HC HW HB HE HC1
      have HN0r := Lib.hid (show Box3 wr (w.heap.size + 1) (.slice none 0 0) (.slice none 0 0) (.slice none 0 0) from by have h := HN0.out.below HBR.out; rw [World.size_alloc] at h; exact h)
      have HN1r := Lib.hid (HBN1.out.below HBR.out)
      have HT1r := Lib.hid (HT1.out.below HBR.out)
      clear HN0 HBN1 HT1 HPW
      go_upto_region 18 with fail
      go_upto_region 19 with fail
      go_upto_region 20 with fail
      have hmx : (if yu < t then t else yu) = max yu t := by omega
      rw [hmx]
      have k1 := ((((((HN1r.out.other (j := 4) (v := .int .i64 (max yu t)) i2).other (j := k * 5) (v := .int .i64 ya) i4).other (j := k * 5 + 1) (v := .int .i64 yb) i4).other (j := k * 5 + 2) (v := .int .i64 yf) i4).other (j := k * 5 + 3) (v := .int .i64 yh) i4).other (j := k * 5 + 4) (v := .int .i64 (max yu t)) i4).set1 (v := .slice (some ⟨g, 0, none⟩) ws'.length c4)
      have k0 := ((((((HN0r.out.other (j := 4) (v := .int .i64 (max yu t)) i3).other (j := k * 5) (v := .int .i64 ya) i5).other (j := k * 5 + 1) (v := .int .i64 yb) i5).other (j := k * 5 + 2) (v := .int .i64 yf) i5).other (j := k * 5 + 3) (v := .int .i64 yh) i5).other (j := k * 5 + 4) (v := .int .i64 (max yu t)) i5).other (j := 1) (v := .slice (some ⟨g, 0, none⟩) ws'.length c4) i6
      have hbp := (Below.setCell HBR.out (p := ⟨w3.heap.size, 4, none⟩) (Nat.le_refl _) (.int .i64 (max yu t)))
      have os1 := ((HOS.out.below hbp).stored HX2.out ⟨ya, yb, yf, yh, max yu t⟩).setY (i := 1) (x := .slice (some ⟨g, 0, none⟩) ws'.length c4) (HT1r.out.set.set.set.set.set.set)
      have hb2 : Below w.heap.size w ((((((((wr.setCell ⟨w3.heap.size, 4, none⟩ (.int .i64 (max yu t))).setCell ⟨g, k * 5, none⟩ (.int .i64 ya)).setCell ⟨g, k * 5 + 1, none⟩ (.int .i64 yb)).setCell ⟨g, k * 5 + 2, none⟩ (.int .i64 yf)).setCell ⟨g, k * 5 + 3, none⟩ (.int .i64 yh)).setCell ⟨g, k * 5 + 4, none⟩ (.int .i64 (max yu t))).setCell ⟨w1.heap.size, 1, none⟩ (.slice (some ⟨g, 0, none⟩) ws'.length c4))) := by
        have hwg : w.heap.size ≤ g := by omega
        have hw1 : w.heap.size ≤ w1.heap.size := by omega
        have hwp : w.heap.size ≤ w3.heap.size := by omega
        exact Below.setCell (Below.setCell (Below.setCell (Below.setCell (Below.setCell (Below.setCell (Below.setCell (HBW3.out.trans (HBR.out.mono hwp)) (p := ⟨w3.heap.size, 4, none⟩) hwp _) (p := ⟨g, k * 5, none⟩) hwg _) (p := ⟨g, k * 5 + 1, none⟩) hwg _) (p := ⟨g, k * 5 + 2, none⟩) hwg _) (p := ⟨g, k * 5 + 3, none⟩) hwg _) (p := ⟨g, k * 5 + 4, none⟩) hwg _) (p := ⟨w1.heap.size, 1, none⟩) hw1 _
      have HK1 := Lib.hid k1
      have HK0 := Lib.hid k0
      have HOS1 := Lib.hid os1
      have HBB2 := Lib.hid hb2
      clear k1 k0 os1 hb2 hbp q0 q1 q2 q3 q4 r0 r1 r2 r3 r4 m0 m1 m2 n0 n1 n2 a0 a1 a2 d0 d1 d2 w0 w1' w2' w3' w4' z0 z1 z2 z3 z4
      generalize (((((((wr.setCell ⟨w3.heap.size, 4, none⟩ (.int .i64 (max yu t))).setCell ⟨g, k * 5, none⟩ (.int .i64 ya)).setCell ⟨g, k * 5 + 1, none⟩ (.int .i64 yb)).setCell ⟨g, k * 5 + 2, none⟩ (.int .i64 yf)).setCell ⟨g, k * 5 + 3, none⟩ (.int .i64 yh)).setCell ⟨g, k * 5 + 4, none⟩ (.int .i64 (max yu t))).setCell ⟨w1.heap.size, 1, none⟩ (.slice (some ⟨g, 0, none⟩) ws'.length c4)) = W9 at *
      obtain ⟨l1, a0, a1, a2, d0, d1, d2⟩ := HK1.out
      obtain ⟨l0, m0, m1, m2, n0, n1, n2⟩ := HK0.out
      go_wp2
      refine bodyPost_ret (by simp [results, Try.results19, go_sem, m0, m1, m2, l0]; first | done | rfl) rfl ?_
      have hl5 : ws'.length = (ws'.set k ⟨ya, yb, yf, yh, max yu t⟩).length := by simp
      rw [HEND.out]
      refine ⟨_, _, _, rfl, OwnSt.mono (B := w.heap.size + 2) (OwnSt.low (OwnSt.low (OwnSt.low HOS1.out (by omega)) (by omega)) (by omega)) (by omega), ?_⟩
      exact Below.setCell (Below.setCell (Below.setCell HBB2.out (p := ⟨w.heap.size + 1, 0, none⟩) (Nat.le_succ _) _) (p := ⟨w.heap.size + 1, 1, none⟩) (Nat.le_succ _) _) (p := ⟨w.heap.size + 1, 2, none⟩) (Nat.le_succ _) _
      -->end
end Go.Proofs.Ythkollhebabhbaa

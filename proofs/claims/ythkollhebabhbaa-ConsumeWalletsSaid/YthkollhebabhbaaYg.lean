/-
  ConsumeWallets: texts joined (by joinw.py).
-/
import Derived.Test.YthkollhebabhbaaYe
import Derived.Test.YthkollhebabhbaaYc
import Derived.Test.YthkollhebabhbaaYd

/-!
  Wallets of the reference, where the account is a prepaid one.
-/
namespace Go.Proofs.Ythkollhebabhbaa
open Go.RowKit
open Go.Maps
set_option linter.unusedSimpArgs false
set_option linter.unusedVariables false

theorem plc_ins (acc : Int) : ∀ ws : List W5, plc acc (insF acc ws) = some (lessN acc ws)
  | [] => by simp [insF, lessN, plc, newW]
  | x :: l => by
    have ih := plc_ins acc l
    by_cases h : x.a < acc
    · have e : insF acc (x :: l) = x :: insF acc l := by simp [insF, lessN, h]
      have hne : ¬ x.a = acc := by omega
      rw [e]
      simp [plc, hne, ih, lessN, h]
    · simp [insF, lessN, h, plc, newW]
theorem pli_some {a : Int} {ws : List W5} {k : Nat} (h : plc a ws = some k) : plI a ws = (k : Int) := by simp [plI, h]
theorem pli_none {a : Int} {ws : List W5} (h : plc a ws = none) : plI a ws = -1 := by simp [plI, h]

theorem PwC.setall {w : World} {p : Nat} {x : W5} (h : PwC w p x) (z : W5) : PwC (((((w.setCell ⟨p, 0, none⟩ (.int .i64 z.a)).setCell ⟨p, 1, none⟩ (.int .i64 z.b)).setCell ⟨p, 2, none⟩ (.int .i64 z.f)).setCell ⟨p, 3, none⟩ (.int .i64 z.h)).setCell ⟨p, 4, none⟩ (.int .i64 z.u)) p z := by
  obtain ⟨hlt, c0, c1, c2, c3, c4, f0, f1, f2, f3, f4⟩ := h
  constructor <;> simp [go_sem, c0, c1, c2, c3, c4, f0, f1, f2, f3, f4, hlt]

set_option maxRecDepth 100000 in
set_option maxHeartbeats 16000000 in
theorem rwal_yes (evs : List Ev) (st : St) (Ae Ab Aw Ac : Option Addr) (ce cb cw cc : Nat) (acc t : Int) (w : World) (h : WaIn w Ae evs Ab Aw Ac cw cc st) (ht : 0 ≤ t ∧ t < 12622780800) (hp : prepB acc t evs = true)
    (ws' : List W5) (k : Nat) (x : W5) (hx : ws'[k]? = some x) (hl : ws'.length ≤ 1000) (hk' : plc acc ws' = some k) (hcase : (plc acc st.ws = some k ∧ ws' = st.ws) ∨ (plc acc st.ws = none ∧ ws' = insF acc st.ws)) :
    Calls Try.prog 20 #[.slice Ae evs.length ce, .agg #[.slice Ab st.bs.length cb, .slice Aw st.ws.length cw, .slice Ac st.cs.length cc], .int .i64 acc, .int .i64 t] w (ClonedSt { st with ws := ws'.set k (endW acc t x evs) } w) := by
  obtain ⟨bs, ws, cs⟩ := st
  have HWA := Lib.hid h
  dsimp only at hcase ⊢
  have hnw : ws.length ≤ 900 := h.nw
  have HC1 := Lib.hid (fun W (hb : Bks W Ab bs) (hw : Fives W Aw ws) (hc : Fives W Ac cs) => rclone_any ⟨bs, ws, cs⟩ Ab Aw Ac cb cw cc W h.nb (by dsimp only; omega) h.nc h.z hb hw hc h.wn h.cn)
  have HE := Lib.hid h.e
  have HB : Hid (Bks w Ab bs) := Lib.hid h.b
  have HW : Hid (Fives w Aw ws) := Lib.hid h.s
  have HC : Hid (Fives w Ac cs) := Lib.hid h.c
  have hne := h.ne
  have HIN := Lib.hid (fun W => instant_any t W)
  rw [decide_eq_true ht] at HIN
  have HP := Lib.hid hp
  have HX := Lib.hid hx
  have hkl : k < ws'.length := (List.getElem?_eq_some_iff.1 hx).1
  have HPK := Lib.hid (pli_some hk')
  clear h hp hx hk' ht
  unfold ClonedSt
  go_enter Try.func20, Try.ntmps20
  go_upto_region 4 with (first
    | (go_at_call 30; refine (HC1.out _ ((HB.out.alloc _).alloc _) ((HW.out.alloc _).alloc _) ((HC.out.alloc _).alloc _)).mono ?_; rintro e w1 ⟨v1, v2, v3, rfl, os1, hb1⟩; obtain ⟨A1, c1, rfl, _, _⟩ := os1.1.form; obtain ⟨A2, c2, rfl, hF2, hA2, hle2⟩ := own_rws (f := W5.cells) (n := 5) (fun _ => rfl) os1.2.1; obtain ⟨A3, c3, rfl, _, _⟩ := os1.2.2.form; have hsz1 := hb1.size; simp at hsz1; have hz1 : w.heap.size < w1.heap.size := (by omega); have hz2 : w.heap.size + 1 < w1.heap.size := (by omega); have HO1 := Lib.hid (os1.mono (B' := w.heap.size + 2) (by simp)); have HF2 := Lib.hid hF2; have HA2 := Lib.hid hA2; have HBN0 := Lib.hid ((Box3.new (w.alloc (.cells #[.slice Ab bs.length cb, .slice Aw ws.length cw, .slice Ac cs.length cc] 26)) (.slice none 0 0) (.slice none 0 0) (.slice none 0 0) 26).below hb1); have HBW := Lib.hid ((((Below.refl w.heap.size w).alloc (Nat.le_refl _) _).alloc (by simp) _).trans (hb1.mono (by simp; omega))); clear os1 hF2 hA2 hb1)
    | (go_at_call 44; refine (HIN.out _).mono ?_; rintro e w2 ⟨rfl, rfl⟩)
    | (go_at_call 45; refine (prepaid_any evs Ae ce acc t _ (HE.out.below ((HBW.out.alloc (by omega) _).mono (Nat.le_refl _))) hne).mono ?_; rw [HP.out]; rintro e w2 ⟨rfl, hb2⟩; obtain ⟨s2, rfl⟩ := ext_of_below hb2; clear hb2))
  have HBO : Hid (Below (w1.heap.size + 1) (w1.alloc (.cells #[.slice A1 bs.length c1, .slice A2 ws.length c2, .slice A3 cs.length c3] 26)) (ext (w1.alloc (.cells #[.slice A1 bs.length c1, .slice A2 ws.length c2, .slice A3 cs.length c3] 26)) s2)) := below_ext (Below.refl _ _) (by simp) s2
  have HBN1 := Lib.hid ((Box3.new w1 (.slice A1 bs.length c1) (.slice A2 ws.length c2) (.slice A3 cs.length c3) 26).below (HBO.out.mono (by simp)))
  have HT1 := Lib.hid ((typed_new (Z := w1) (cs := #[.slice A1 bs.length c1, .slice A2 ws.length c2, .slice A3 cs.length c3]) (e := 26) (fr := (0, 0)) rfl).below (HBO.out.mono (by simp)))
  have HB1w3 := Lib.hid (((Below.refl w1.heap.size w1).alloc (Nat.le_refl _) _).trans (HBO.out.mono (Nat.le_succ _)))
  have HN0 := Lib.hid (HBN0.out.below HB1w3.out)
  have HOS := Lib.hid (HO1.out.below HB1w3.out)
  have HBW3 := Lib.hid (HBW.out.trans (HB1w3.out.mono HBW.out.size))
  have hs13 := HBO.out.size
  rw [World.size_alloc] at hs13
  have HF3 := Lib.hid (HF2.out.below HB1w3.out)
  clear HBO HBN0 HO1 HF2 HB1w3 HBW
  simp only [World.size_alloc] at HN0 HBN1
  generalize (ext (w1.alloc (.cells #[.slice A1 bs.length c1, .slice A2 ws.length c2, .slice A3 cs.length c3] 26)) s2) = wx at *
  have hwx1 : w.heap.size + 1 < wx.heap.size := by omega
  have hw1x : w1.heap.size < wx.heap.size := by omega
  rcases hcase with ⟨hpk, hws⟩ | ⟨hpk, hws⟩
  case' inl =>
    subst hws
    have HPL := Lib.hid (pli_some hpk)
    obtain ⟨hN1lt, b0, b1, b2, b3, b4, b5⟩ := HBN1.out
    go_upto_region 7 with (first
      | (go_at_call 13; refine (place_any acc ws' A2 c2 _ (by omega) (HF3.out.below (Below.refl _ _))).mono ?_; rw [HPL.out]; rintro e w4 ⟨rfl, hb4⟩; obtain ⟨s4, rfl⟩ := ext_of_below hb4; clear hb4)
      | (go_at_call 13; refine (place_any acc ws' A2 c2 _ (by omega) (HF3.out.below (by repeat' (first | exact Below.refl _ _ | refine below_ext ?_ ?_ _ | refine Below.alloc ?_ ?_ _ | refine Below.setCell ?_ ?_ _ | refine Below.drew ?_ | (rw [size_ext]; refine Nat.le_add_right_of_le ?_) | go_size | (rw [World.size_alloc]; refine Nat.le_add_right_of_le ?_))))).mono ?_; rw [HPL.out]; rintro e w4 ⟨rfl, hb4⟩; obtain ⟨s5, rfl⟩ := ext_of_below hb4; clear hb4))
    have HX3 := Lib.hid (below_ext (Below.refl wx.heap.size wx) (Nat.le_refl _) (s4.cat s5))
    have HN0r := Lib.hid (HN0.out.below HX3.out)
    have HN1r := Lib.hid (HBN1.out.below HX3.out)
    have HOR := Lib.hid (HOS.out.below HX3.out)
    have HT1r := Lib.hid (HT1.out.below HX3.out)
    have HBWr := Lib.hid (HBW3.out.trans (HX3.out.mono HBW3.out.size))
    have hs3 := HX3.out.size
    clear b0 b1 b2 b3 b4 b5 hN1lt HPL HF3 HBN1 HN0 HOS HT1 HBW3 hpk HX3
    generalize (ext wx (s4.cat s5)) = w3 at *
    obtain ⟨A4, rfl⟩ : ∃ A, A = A2 := ⟨_, rfl⟩
    obtain ⟨c4, rfl⟩ : ∃ c, c = c2 := ⟨_, rfl⟩
  case' inr =>
    have HWS := Lib.hid hws
    clear hws
    have HPL := Lib.hid (pli_none hpk)
    obtain ⟨hN1lt, b0, b1, b2, b3, b4, b5⟩ := HBN1.out
    go_upto_region 6 with (first
      | (go_at_call 13; refine (place_any acc ws A2 c2 _ (by omega) (HF3.out.below (Below.refl _ _))).mono ?_; rw [HPL.out]; rintro e w4 ⟨rfl, hb4⟩; obtain ⟨s4, rfl⟩ := ext_of_below hb4; clear hb4)
      | (go_at_call 46; refine (rwith_any ws A2 c2 acc _ (HF3.out.below (below_ext (Below.refl _ _) (Nat.le_refl _) _)) (by omega) HA2.out hle2).mono ?_; rw [← HWS.out]; rintro e w5 ⟨⟨A4, c4, rfl, hof⟩, hb5⟩; have HOF := Lib.hid hof; have HB5 := Lib.hid hb5; obtain ⟨hcc, hff⟩ := bcell hb5; clear hof hb5))
    have HX4 := Lib.hid (below_ext (Below.refl wx.heap.size wx) (Nat.le_refl _) s4)
    have HB4 := Lib.hid (HX4.out.trans (HB5.out.mono HX4.out.size))
    have i6 : ¬ w.heap.size + 1 = w1.heap.size := by omega
    have HN0z := Lib.hid ((HN0.out.below HB4.out).other (j := 1) (v := .slice A4 ws'.length c4) i6)
    have HN1z := Lib.hid ((HBN1.out.below HB4.out).set1 (v := .slice A4 ws'.length c4))
    have HTz := Lib.hid ((HT1.out.below HB4.out).set (M := w1.heap.size) (i := 1) (x := .slice A4 ws'.length c4))
    have HOz : Hid (OwnSt (w5.setCell ⟨w1.heap.size, 1, none⟩ (.slice A4 ws'.length c4)) (w.heap.size + 2) (.slice A1 bs.length c1) (.slice A4 ws'.length c4) (.slice A3 cs.length c3) ⟨bs, ws', cs⟩) := by
      have h1 := HOS.out.below HB4.out
      have h2 : OwnSt w5 (w.heap.size + 2) (.slice A1 bs.length c1) (.slice A4 ws'.length c4) (.slice A3 cs.length c3) ⟨bs, ws', cs⟩ := ⟨h1.1, own_mono HOF.out (by first | (simp [go_sem]; done) | (simp [go_sem]; omega)), h1.2.2⟩
      exact h2.setY (HT1.out.below HB4.out)
    have HBWz := Lib.hid ((HBW3.out.trans (HB4.out.mono HBW3.out.size)).setCell (p := ⟨w1.heap.size, 1, none⟩) (by show w.heap.size ≤ w1.heap.size; omega) (.slice A4 ws'.length c4))
    have hsz4 := HB4.out.size
    have hszz : wx.heap.size ≤ (w5.setCell ⟨w1.heap.size, 1, none⟩ (.slice A4 ws'.length c4)).heap.size := by simpa using hsz4
    clear b0 b1 b2 b3 b4 b5 hN1lt HPL HF3 HBN1 HN0 HOS HT1 HBW3 hpk HX4 HB4 HB5 HOF hcc hff hsz4
    generalize (w5.setCell ⟨w1.heap.size, 1, none⟩ (.slice A4 ws'.length c4)) = wz at *
    obtain ⟨A6, c6, hv6, hF6, -⟩ := OwnF.form (show OwnF _ (w.heap.size + 2) 37 (.slice A4 ws'.length c4) ws' from HOz.out.2.1)
    simp only [Value.slice.injEq, true_and] at hv6
    obtain ⟨rfl, rfl⟩ := hv6
    have HF6 := Lib.hid hF6
    clear hF6
    obtain ⟨hN1lt, b0, b1, b2, b3, b4, b5⟩ := HN1z.out
    go_upto_region 7 with (first
      | (go_at_call 13; refine (place_any acc ws' A4 c4 _ (by omega) (HF6.out.below (Below.refl _ _))).mono ?_; rw [HPK.out]; rintro e w6 ⟨rfl, hb6⟩; obtain ⟨s6, rfl⟩ := ext_of_below hb6; clear hb6))
    have HX3 := Lib.hid (below_ext (Below.refl wz.heap.size wz) (Nat.le_refl _) s6)
    have HN0r := Lib.hid (HN0z.out.below HX3.out)
    have HN1r := Lib.hid (HN1z.out.below HX3.out)
    have HOR := Lib.hid (HOz.out.below HX3.out)
    have HT1r := Lib.hid (HTz.out.below HX3.out)
    have HBWr := Lib.hid (HBWz.out.trans (HX3.out.mono HBWz.out.size))
    have hs3 := HX3.out.size
    clear b0 b1 b2 b3 b4 b5 hN1lt HF6 HN1z HN0z HOz HTz HBWz HX3
    generalize (ext wz s6) = w3 at *
  all_goals
    have hofl : OwnF w3 (w.heap.size + 2) 37 (.slice A4 ws'.length c4) ws' := HOR.out.2.1
    obtain ⟨g, hA4, hg1, hg2, -⟩ := hofl.some_ (by omega)
    subst hA4
    have HOF := Lib.hid hofl
    obtain ⟨hkb1, hkb2⟩ : (k : Int) < (ws'.length : Int) ∧ (0 : Int) ≤ (k : Int) := by omega
    obtain ⟨xa, xb, xf, xh, xu⟩ := x
    have hform := OwnF.form HOF.out
    obtain ⟨A5, c5, hv5, hF5, -⟩ := hform
    simp only [Value.slice.injEq, true_and] at hv5
    obtain ⟨rfl, rfl⟩ := hv5
    obtain ⟨g', o', hgo, -, x0, x1, x2, x3, x4⟩ := fives_cells hF5 HX.out
    simp only [Option.some.injEq, Addr.mk.injEq, and_true] at hgo
    obtain ⟨rfl, rfl⟩ := hgo
    simp only [Nat.zero_add] at x0 x1 x2 x3 x4
    have hgw1 := typed_ne HT1r.out HOF.out (by decide)
    simp only [Value.ownBlock, ne_eq, Option.some.injEq] at hgw1
    clear hF5 hofl
    obtain ⟨hN1lt, b0, b1, b2, b3, b4, b5⟩ := HN1r.out
    go_wp2
    go_loopw [13] (fun i wr => ∃ n : Nat, n ≤ evs.length ∧ i = .int .i64 n ∧ PwC wr w3.heap.size (evW acc t xu ⟨xa, xb, xf, xh, xu⟩ (evs.take n)) ∧ Below w3.heap.size w3 wr) (fun i _ => evs.length - (intOf i).toNat)
    case atStart => exact ⟨0, Nat.zero_le _, rfl, PwC.new w3 ⟨xa, xb, xf, xh, xu⟩, Below.alloc (Below.refl _ _) (Nat.le_refl _) _⟩
    case round =>
      obtain ⟨n, hn, rfl, hpw, hbw⟩ := hrel
      have HPW := Lib.hid hpw
      have HBR := Lib.hid hbw
      have hsz := hbw.size
      have hglt : g < wr.heap.size := by omega
      have HWW := Lib.hid (HBWr.out.trans (hbw.mono (by have := HBWr.out.size; omega)))
      clear hpw hbw b0 b1 b2 b3 b4 b5
      by_cases hlt : n < evs.length
      · --<rnd
        obtain ⟨e, he⟩ : ∃ s, evs[n]? = some s := ⟨_, List.getElem?_eq_getElem hlt⟩
        obtain ⟨b, o, hA, hb, e0, e1, e2, e3, e4, e5, e6⟩ := ev_cells (HE.out.below HWW.out) he
        have HS := Lib.hid (evW_snoc acc t xu ⟨xa, xb, xf, xh, xu⟩ he)
        subst hA
        clear he
        obtain ⟨ea, ek, ec, es, en, em, ev⟩ := e
        dsimp only at e0 e1 e2 e3 e4 e5 e6
        generalize evW acc t xu ⟨xa, xb, xf, xh, xu⟩ (evs.take n) = y at *
        obtain ⟨ya, yb, yf, yh, yu⟩ := y
        obtain ⟨hplt, q0, q1, q2, q3, q4, r0, r1, r2, r3, r4⟩ := HPW.out
        dsimp only at q0 q1 q2 q3 q4
        obtain ⟨hn1, hn2⟩ : (n : Int) < (evs.length : Int) ∧ (0 : Int) ≤ (n : Int) := by omega
        have hcs : (¬ ec = acc ∨ (ec = acc ∧ ea ≤ xu) ∨ (ec = acc ∧ xu < ea ∧ t < ea)) ∨ (ec = acc ∧ xu < ea ∧ ea ≤ t) := by omega
        rcases hcs with hcs | ⟨hc1, hc2, hc3⟩
        · have HS2 : Hid (evW acc t xu ⟨xa, xb, xf, xh, xu⟩ (evs.take (n + 1)) = ⟨ya, yb, yf, yh, yu⟩) := by
            unfold Hid
            rw [HS.out]
            unfold stepW
            rw [if_neg (by dsimp only; omega)]
          clear HS
          rcases hcs with hc1 | ⟨hc1, hc2⟩ | ⟨hc1, hc2, hc3⟩
          all_goals
            go_wp2
            go_roundw
            case rel => exact ⟨n + 1, by omega, by go_num, by rw [HS2.out]; exact HPW.out, HBR.out⟩
            case measure => simp [intOf]; omega
        · have HS1 : Hid (evW acc t xu ⟨xa, xb, xf, xh, xu⟩ (evs.take (n + 1)) = carryF ⟨ya, yb, yf, yh, yu⟩ ek ev) := by
            unfold Hid
            rw [HS.out]
            unfold stepW
            rw [if_pos ⟨hc1, hc2, hc3⟩]
          clear HS
          subst ec
          have HCR := Lib.hid (fun W => carry_any ⟨ya, yb, yf, yh, yu⟩ ea ek acc es en em ev W)
          generalize carryF ⟨ya, yb, yf, yh, yu⟩ ek ev = z at *
          obtain ⟨za, zb, zf, zh, zu⟩ := z
          dsimp only at HCR
          go_upto_region 13 with fail
          refine region_genS (S := [80, 81, 82, 83, 84, 85]) 85 (fun f w' => (fun wx => PwC wx w3.heap.size ⟨za, zb, zf, zh, zu⟩ ∧ Below w3.heap.size w3 wx) w') ?_ (by simp) ?_
          · rintro f wf hfin
            simp only [TS, List.mapIdx_toArray, List.mapIdx_cons, List.mapIdx_nil]
            have HP_ := Lib.hid hfin.1
            have HB_ := Lib.hid hfin.2
            clear hfin q0 q1 q2 q3 q4 e0 e1 e2 e3 e4 e5 e6
            go_wp2
            go_roundw
            case rel => exact ⟨n + 1, by omega, by go_num, by rw [HS1.out]; exact HP_.out, HB_.out⟩
            case measure => simp [intOf]; omega
          · intro T Q' hT hTs hQ
            have hT0 : T[0]? = some (.slice (some ⟨b, o, none⟩) evs.length ce) := (hT 0 rfl).trans (by rfl)
            have hT11 : T[11]? = some (.pointer (some ⟨w3.heap.size, 0, none⟩)) := (hT 11 rfl).trans (by rfl)
            have hT13 : T[13]? = some (.int .i64 (n : Int)) := (hT 13 rfl).trans (by rfl)
            clear hT
            refine wp_region_inv (by kernel_rfl) (fun L a_ w' => ∃ f, a_ = ⟨TS [80, 81, 82, 83, 84, 85] T f, []⟩ ∧ RK 80 (.agg #[.int .i64 ya, .int .i64 yb, .int .i64 yf, .int .i64 yh, .int .i64 yu]) (.slice (some ⟨b, o, none⟩) evs.length ce) (.int .i64 (n : Int)) (.pointer (some ⟨b, o + n * 7, none⟩)) (.agg #[.int .i64 ea, .int .i64 ek, .int .i64 acc, .int .i64 es, .string en, .string em, .int .i64 ev]) (fun _ v => v = .agg #[.int .i64 za, .int .i64 zb, .int .i64 zf, .int .i64 zh, .int .i64 zu]) (fun wx => PwC wx w3.heap.size ⟨za, zb, zf, zh, zu⟩ ∧ Below w3.heap.size w3 wx) (wr) L f w') ?_ ?_ ?_
            · refine ⟨fun i => T.getD i undef, congrArg (fun x => Act.mk x []) (TS_self T), ?_⟩
              simp only [List.size_toArray, List.length_cons, List.length_nil, Nat.reduceAdd]
              exact RK.start (Below.drew (by repeat' (first | exact Below.refl _ _ | refine below_ext ?_ ?_ _ | refine Below.alloc ?_ ?_ _ | refine Below.setCell ?_ ?_ _ | refine Below.drew ?_ | (rw [size_ext]; refine Nat.le_add_right_of_le ?_) | go_size | (rw [World.size_alloc]; refine Nat.le_add_right_of_le ?_))))
            · rintro L a_ w' ⟨f, rfl, hI⟩ i hi
              obtain ⟨h0, o_, ho, hall⟩ := mem_ready.1 hi
              have hlti : i < 7 := (Array.getElem?_eq_some_iff.1 ho).1
              have qq0 : (TS [80, 81, 82, 83, 84, 85] T f)[0]? = some (.slice (some ⟨b, o, none⟩) evs.length ce) := (TS_old T f 0 rfl).trans hT0
              have qq11 : (TS [80, 81, 82, 83, 84, 85] T f)[11]? = some (.pointer (some ⟨w3.heap.size, 0, none⟩)) := (TS_old T f 11 rfl).trans hT11
              have qq13 : (TS [80, 81, 82, 83, 84, 85] T f)[13]? = some (.int .i64 (n : Int)) := (TS_old T f 13 rfl).trans hT13
              have q80 : (TS [80, 81, 82, 83, 84, 85] T f)[80]? = some (f 80) := TS_get T f 80 rfl (by omega)
              have q81 : (TS [80, 81, 82, 83, 84, 85] T f)[81]? = some (f 81) := TS_get T f 81 rfl (by omega)
              have q82 : (TS [80, 81, 82, 83, 84, 85] T f)[82]? = some (f 82) := TS_get T f 82 rfl (by omega)
              have q83 : (TS [80, 81, 82, 83, 84, 85] T f)[83]? = some (f 83) := TS_get T f 83 rfl (by omega)
              have q84 : (TS [80, 81, 82, 83, 84, 85] T f)[84]? = some (f 84) := TS_get T f 84 rfl (by omega)
              have q85 : (TS [80, 81, 82, 83, 84, 85] T f)[85]? = some (f 85) := TS_get T f 85 rfl (by omega)
              have hs7 := hI.sz
              have h6 : L.getD 6 false = false := by
                cases hc : L.getD 6 false with
                | false => rfl
                | true =>
                  have := hI.da hc i hlti
                  simp [hs7, hlti] at this h0
                  rw [h0] at this
                  cases this
              have hbw := hI.bel h6
              have hB' := hbw.size
              have q0' := keepL hbw hplt q0
              have q1' := keepL hbw hplt q1
              have q2' := keepL hbw hplt q2
              have q3' := keepL hbw hplt q3
              have q4' := keepL hbw hplt q4
              have e0' := keepL hbw hb e0
              have e1' := keepL hbw hb e1
              have e2' := keepL hbw hb e2
              have e3' := keepL hbw hb e3
              have e4' := keepL hbw hb e4
              have e5' := keepL hbw hb e5
              have e6' := keepL hbw hb e6
              have HI := Lib.hid hI
              clear hi hI hT0 hT11 hT13
              have hc : i = 0 ∨ i = 1 ∨ i = 2 ∨ i = 3 ∨ i = 4 ∨ i = 5 ∨ i = 6 := by omega
              rcases hc with rfl | rfl | rfl | rfl | rfl | rfl | rfl
              all_goals
                simp only [List.getElem?_toArray, List.getElem?_cons_zero, List.getElem?_cons_succ, Option.some.injEq] at ho
                subst ho
                simp [Region.binds] at hall
              · --<op0
                refine wpOp_step rfl (fun K hK => ?_)
                go_simp
                rw [TS_set T f 80 _ rfl]
                exact hK _ _ ⟨_, rfl, HI.out.u0⟩
                -->op0
              · --<op1
                refine wpOp_step rfl (fun K hK => ?_)
                go_simp
                rw [TS_set T f 81 _ rfl]
                exact hK _ _ ⟨_, rfl, HI.out.u1⟩
                -->op1
              · --<op2
                refine wpOp_step rfl (fun K hK => ?_)
                go_simp
                rw [TS_set T f 82 _ rfl]
                exact hK _ _ ⟨_, rfl, HI.out.u2⟩
                -->op2
              · --<op3
                have g1_ : f 81 = _ := HI.out.l1 (by simp [hall])
                rw [g1_] at q81
                have g2_ : f 82 = _ := HI.out.l2 (by simp [hall])
                rw [g2_] at q82
                refine wpOp_step rfl (fun K hK => ?_)
                go_simp
                rw [TS_set T f 83 _ rfl]
                exact hK _ _ ⟨_, rfl, HI.out.u3⟩
                -->op3
              · --<op4
                have g3_ : f 83 = _ := HI.out.l3 (by simp [hall])
                rw [g3_] at q83
                refine wpOp_step rfl (fun K hK => ?_)
                go_simp
                rw [TS_set T f 84 _ rfl]
                exact hK _ _ ⟨_, rfl, HI.out.u4⟩
                -->op4
              · --<op5
                have g0_ : f 80 = _ := HI.out.l0 (by simp [hall])
                rw [g0_] at q80
                have g4_ : f 84 = _ := HI.out.l4 (by simp [hall])
                rw [g4_] at q84
                refine wpOp_step rfl (fun K hK => ?_)
                go_simp
                refine (HCR.out _).mono ?_
                rintro e w4 ⟨rfl, hb4⟩
                dsimp only
                rw [TS_set T f 85 _ rfl]
                exact hK _ _ ⟨_, rfl, HI.out.u5 h6 (hbw.trans (hb4.mono hB')) rfl⟩
                -->op5
              · --<op6
                have hm_ := HI.out.l5 (by simp [hall]) h6
                change f 85 = _ at hm_
                rw [hm_] at q85
                have hpw := HPW.out.below hbw
                have HFIN := Lib.hid (show (fun wx => PwC wx w3.heap.size ⟨za, zb, zf, zh, zu⟩ ∧ Below w3.heap.size w3 wx) _ from ⟨hpw.setall ⟨za, zb, zf, zh, zu⟩, (((((HBR.out.trans (hbw.mono HBR.out.size)).setCell (p := ⟨w3.heap.size, 0, none⟩) (Nat.le_refl _) (.int .i64 za)).setCell (p := ⟨w3.heap.size, 1, none⟩) (Nat.le_refl _) (.int .i64 zb)).setCell (p := ⟨w3.heap.size, 2, none⟩) (Nat.le_refl _) (.int .i64 zf)).setCell (p := ⟨w3.heap.size, 3, none⟩) (Nat.le_refl _) (.int .i64 zh)).setCell (p := ⟨w3.heap.size, 4, none⟩) (Nat.le_refl _) (.int .i64 zu)⟩)
                obtain ⟨plt', -, -, -, -, -, z0, z1, z2, z3, z4⟩ := hpw
                refine wpOp_step rfl (fun K hK => ?_)
                go_simp
                exact hK _ _ ⟨_, rfl, HI.out.u6 (fun j hj => by
          have : j = 0 ∨ j = 1 ∨ j = 2 ∨ j = 3 ∨ j = 4 ∨ j = 5 := by omega
          rcases this with rfl | rfl | rfl | rfl | rfl | rfl <;> simp [hall]) HFIN.out⟩
                -->op6
            · rintro L a_ w' ⟨f, rfl, hI⟩ hr
              rw [List.eq_nil_iff_forall_not_mem] at hr
              have hs := hI.sz
              have gd : ∀ i, i < 7 → L.getD i false = false → L.getD i true = false := fun i hi he => by
                simp [hs, hi] at he ⊢
                exact he
              have a0_ : L.getD 0 false = true := by
                cases hc : L.getD 0 false with
                | true => rfl
                | false => exact (hr 0 (mem_ready.2 ⟨gd 0 (by decide) hc, _, rfl, fun e he _ => by simp at he⟩)).elim
              have a1_ : L.getD 1 false = true := by
                cases hc : L.getD 1 false with
                | true => rfl
                | false => exact (hr 1 (mem_ready.2 ⟨gd 1 (by decide) hc, _, rfl, fun e he _ => by simp at he⟩)).elim
              have a2_ : L.getD 2 false = true := by
                cases hc : L.getD 2 false with
                | true => rfl
                | false => exact (hr 2 (mem_ready.2 ⟨gd 2 (by decide) hc, _, rfl, fun e he _ => by simp at he⟩)).elim
              have a3_ : L.getD 3 false = true := by
                cases hc : L.getD 3 false with
                | true => rfl
                | false => exact (hr 3 (mem_ready.2 ⟨gd 3 (by decide) hc, _, rfl, fun e he _ => by simp at he; first | (subst he; assumption) | (rcases he with rfl | rfl <;> assumption) | (rcases he with rfl | rfl | rfl <;> assumption) | (rcases he with rfl | rfl | rfl | rfl <;> assumption) | (rcases he with rfl | rfl | rfl | rfl | rfl <;> assumption) | (rcases he with rfl | rfl | rfl | rfl | rfl | rfl <;> assumption) | (rcases he with rfl | rfl | rfl | rfl | rfl | rfl | rfl <;> assumption) | (rcases he with rfl | rfl | rfl | rfl | rfl | rfl | rfl | rfl <;> assumption) | (rcases he with rfl | rfl | rfl | rfl | rfl | rfl | rfl | rfl | rfl <;> assumption) | (rcases he with rfl | rfl | rfl | rfl | rfl | rfl | rfl | rfl | rfl | rfl <;> assumption) | (rcases he with rfl | rfl | rfl | rfl | rfl | rfl | rfl | rfl | rfl | rfl | rfl <;> assumption) | (rcases he with rfl | rfl | rfl | rfl | rfl | rfl | rfl | rfl | rfl | rfl | rfl | rfl <;> assumption)⟩)).elim
              have a4_ : L.getD 4 false = true := by
                cases hc : L.getD 4 false with
                | true => rfl
                | false => exact (hr 4 (mem_ready.2 ⟨gd 4 (by decide) hc, _, rfl, fun e he _ => by simp at he; first | (subst he; assumption) | (rcases he with rfl | rfl <;> assumption) | (rcases he with rfl | rfl | rfl <;> assumption) | (rcases he with rfl | rfl | rfl | rfl <;> assumption) | (rcases he with rfl | rfl | rfl | rfl | rfl <;> assumption) | (rcases he with rfl | rfl | rfl | rfl | rfl | rfl <;> assumption) | (rcases he with rfl | rfl | rfl | rfl | rfl | rfl | rfl <;> assumption) | (rcases he with rfl | rfl | rfl | rfl | rfl | rfl | rfl | rfl <;> assumption) | (rcases he with rfl | rfl | rfl | rfl | rfl | rfl | rfl | rfl | rfl <;> assumption) | (rcases he with rfl | rfl | rfl | rfl | rfl | rfl | rfl | rfl | rfl | rfl <;> assumption) | (rcases he with rfl | rfl | rfl | rfl | rfl | rfl | rfl | rfl | rfl | rfl | rfl <;> assumption) | (rcases he with rfl | rfl | rfl | rfl | rfl | rfl | rfl | rfl | rfl | rfl | rfl | rfl <;> assumption)⟩)).elim
              have a5_ : L.getD 5 false = true := by
                cases hc : L.getD 5 false with
                | true => rfl
                | false => exact (hr 5 (mem_ready.2 ⟨gd 5 (by decide) hc, _, rfl, fun e he _ => by simp at he; first | (subst he; assumption) | (rcases he with rfl | rfl <;> assumption) | (rcases he with rfl | rfl | rfl <;> assumption) | (rcases he with rfl | rfl | rfl | rfl <;> assumption) | (rcases he with rfl | rfl | rfl | rfl | rfl <;> assumption) | (rcases he with rfl | rfl | rfl | rfl | rfl | rfl <;> assumption) | (rcases he with rfl | rfl | rfl | rfl | rfl | rfl | rfl <;> assumption) | (rcases he with rfl | rfl | rfl | rfl | rfl | rfl | rfl | rfl <;> assumption) | (rcases he with rfl | rfl | rfl | rfl | rfl | rfl | rfl | rfl | rfl <;> assumption) | (rcases he with rfl | rfl | rfl | rfl | rfl | rfl | rfl | rfl | rfl | rfl <;> assumption) | (rcases he with rfl | rfl | rfl | rfl | rfl | rfl | rfl | rfl | rfl | rfl | rfl <;> assumption) | (rcases he with rfl | rfl | rfl | rfl | rfl | rfl | rfl | rfl | rfl | rfl | rfl | rfl <;> assumption)⟩)).elim
              have a6_ : L.getD 6 false = true := by
                cases hc : L.getD 6 false with
                | true => rfl
                | false => exact (hr 6 (mem_ready.2 ⟨gd 6 (by decide) hc, _, rfl, fun e he _ => by simp at he; first | (subst he; assumption) | (rcases he with rfl | rfl <;> assumption) | (rcases he with rfl | rfl | rfl <;> assumption) | (rcases he with rfl | rfl | rfl | rfl <;> assumption) | (rcases he with rfl | rfl | rfl | rfl | rfl <;> assumption) | (rcases he with rfl | rfl | rfl | rfl | rfl | rfl <;> assumption) | (rcases he with rfl | rfl | rfl | rfl | rfl | rfl | rfl <;> assumption) | (rcases he with rfl | rfl | rfl | rfl | rfl | rfl | rfl | rfl <;> assumption) | (rcases he with rfl | rfl | rfl | rfl | rfl | rfl | rfl | rfl | rfl <;> assumption) | (rcases he with rfl | rfl | rfl | rfl | rfl | rfl | rfl | rfl | rfl | rfl <;> assumption) | (rcases he with rfl | rfl | rfl | rfl | rfl | rfl | rfl | rfl | rfl | rfl | rfl <;> assumption) | (rcases he with rfl | rfl | rfl | rfl | rfl | rfl | rfl | rfl | rfl | rfl | rfl | rfl <;> assumption)⟩)).elim
              exact hQ f w' (hI.l6 a6_)
        -->rnd
      · --<end
        have HX2 := Lib.hid HX.out
        obtain rfl : n = evs.length := by omega
        have HKU := Lib.hid (evW_keeps acc t xu evs ⟨xa, xb, xf, xh, xu⟩)
        have hpw := HPW.out
        rw [List.take_length] at hpw
        have HEND : Hid (endW acc t ⟨xa, xb, xf, xh, xu⟩ evs = { evW acc t xu ⟨xa, xb, xf, xh, xu⟩ evs with u := max xu t }) := rfl
        generalize evW acc t xu ⟨xa, xb, xf, xh, xu⟩ evs = y at *
        obtain ⟨ya, yb, yf, yh, yu⟩ := y
        have hyu : yu = xu := HKU.out.1
        subst hyu
        obtain ⟨hplt, q0, q1, q2, q3, q4, r0, r1, r2, r3, r4⟩ := hpw
        dsimp only at q0 q1 q2 q3 q4
        have HORr := Lib.hid (HOR.out.below HBR.out)
        obtain ⟨z0, z1, z2, z3, z4⟩ := (show OwnF wr (w.heap.size + 2) 37 (.slice (some ⟨g, 0, none⟩) ws'.length c4) ws' from HORr.out.2.1).frozen5 k
        have w0 := (HBR.out.cell (p := ⟨g, k * 5, none⟩) hg2).trans x0
        have w1' := (HBR.out.cell (p := ⟨g, k * 5 + 1, none⟩) hg2).trans x1
        have w2' := (HBR.out.cell (p := ⟨g, k * 5 + 2, none⟩) hg2).trans x2
        have w3' := (HBR.out.cell (p := ⟨g, k * 5 + 3, none⟩) hg2).trans x3
        have w4' := (HBR.out.cell (p := ⟨g, k * 5 + 4, none⟩) hg2).trans x4
        have i1 : ¬ g = w3.heap.size := by omega
        have i2 : ¬ w1.heap.size = w3.heap.size := by omega
        have i3 : ¬ w.heap.size + 1 = w3.heap.size := by omega
        have i4 : ¬ w1.heap.size = g := hgw1
        have i5 : ¬ w.heap.size + 1 = g := by omega
        have i6 : ¬ w.heap.size + 1 = w1.heap.size := by omega
        have i7 : ¬ w3.heap.size = g := by omega
        have HN0q := Lib.hid (HN0r.out.below HBR.out)
        have HN1q := Lib.hid (HN1r.out.below HBR.out)
        obtain ⟨N1lt, a0, a1, a2, d0, d1, d2⟩ := HN1q.out
        clear HWW HX HP HC HW HB HE HC1 HPW HWA
        go_upto_region 15 with fail
        go_upto_region 16 with fail
        have hmx : (if yu < t then t else yu) = max yu t := by omega
        rw [hmx]
        have k1 := (((((HN1q.out.other (j := 4) (v := .int .i64 (max yu t)) i2).other (j := k * 5) (v := .int .i64 ya) i4).other (j := k * 5 + 1) (v := .int .i64 yb) i4).other (j := k * 5 + 2) (v := .int .i64 yf) i4).other (j := k * 5 + 3) (v := .int .i64 yh) i4).other (j := k * 5 + 4) (v := .int .i64 (max yu t)) i4
        have k0 := (((((HN0q.out.other (j := 4) (v := .int .i64 (max yu t)) i3).other (j := k * 5) (v := .int .i64 ya) i5).other (j := k * 5 + 1) (v := .int .i64 yb) i5).other (j := k * 5 + 2) (v := .int .i64 yf) i5).other (j := k * 5 + 3) (v := .int .i64 yh) i5).other (j := k * 5 + 4) (v := .int .i64 (max yu t)) i5
        have hbp := (Below.setCell HBR.out (p := ⟨w3.heap.size, 4, none⟩) (Nat.le_refl _) (.int .i64 (max yu t)))
        have os1 := (HOR.out.below hbp).stored HX2.out ⟨ya, yb, yf, yh, max yu t⟩
        have hb2 : Below w.heap.size w (((((((wr.setCell ⟨w3.heap.size, 4, none⟩ (.int .i64 (max yu t))).setCell ⟨g, k * 5, none⟩ (.int .i64 ya)).setCell ⟨g, k * 5 + 1, none⟩ (.int .i64 yb)).setCell ⟨g, k * 5 + 2, none⟩ (.int .i64 yf)).setCell ⟨g, k * 5 + 3, none⟩ (.int .i64 yh)).setCell ⟨g, k * 5 + 4, none⟩ (.int .i64 (max yu t)))) := by
          have hwg : w.heap.size ≤ g := by omega
          have hwp : w.heap.size ≤ w3.heap.size := by omega
          exact Below.setCell (Below.setCell (Below.setCell (Below.setCell (Below.setCell (Below.setCell (HBWr.out.trans (HBR.out.mono hwp)) (p := ⟨w3.heap.size, 4, none⟩) hwp _) (p := ⟨g, k * 5, none⟩) hwg _) (p := ⟨g, k * 5 + 1, none⟩) hwg _) (p := ⟨g, k * 5 + 2, none⟩) hwg _) (p := ⟨g, k * 5 + 3, none⟩) hwg _) (p := ⟨g, k * 5 + 4, none⟩) hwg _
        have HK1 := Lib.hid k1
        have HK0 := Lib.hid k0
        have HOS1 := Lib.hid os1
        have HBB2 := Lib.hid hb2
        clear k1 k0 os1 hb2 hbp q0 q1 q2 q3 q4 r0 r1 r2 r3 r4 a0 a1 a2 d0 d1 d2 w0 w1' w2' w3' w4' z0 z1 z2 z3 z4
        generalize ((((((wr.setCell ⟨w3.heap.size, 4, none⟩ (.int .i64 (max yu t))).setCell ⟨g, k * 5, none⟩ (.int .i64 ya)).setCell ⟨g, k * 5 + 1, none⟩ (.int .i64 yb)).setCell ⟨g, k * 5 + 2, none⟩ (.int .i64 yf)).setCell ⟨g, k * 5 + 3, none⟩ (.int .i64 yh)).setCell ⟨g, k * 5 + 4, none⟩ (.int .i64 (max yu t))) = W9 at *
        obtain ⟨l1, a0, a1, a2, d0, d1, d2⟩ := HK1.out
        obtain ⟨l0, m0, m1, m2, n0, n1, n2⟩ := HK0.out
        go_wp2
        refine bodyPost_ret (by simp [results, Try.results20, go_sem, m0, m1, m2, l0]; first | done | rfl) rfl ?_
        have hl5 : ws'.length = (ws'.set k ⟨ya, yb, yf, yh, max yu t⟩).length := by simp
        rw [HEND.out]
        refine ⟨_, _, _, rfl, OwnSt.mono (B := w.heap.size + 2) (OwnSt.low (OwnSt.low (OwnSt.low HOS1.out (by omega)) (by omega)) (by omega)) (by omega), ?_⟩
        exact Below.setCell (Below.setCell (Below.setCell HBB2.out (p := ⟨w.heap.size + 1, 0, none⟩) (Nat.le_succ _) _) (p := ⟨w.heap.size + 1, 1, none⟩) (Nat.le_succ _) _) (p := ⟨w.heap.size + 1, 2, none⟩) (Nat.le_succ _) _
        -->end
end Go.Proofs.Ythkollhebabhbaa

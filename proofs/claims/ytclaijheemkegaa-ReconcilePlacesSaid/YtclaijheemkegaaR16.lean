/-
  The walk of the law on places.
-/
import Derived.Test.YtclaijheemkegaaR15
namespace Go.Proofs.Ytclaijheemkegaa
open Go.RowKit
set_option linter.unusedSimpArgs false
set_option linter.unusedVariables false

def mk (m : List Bool) (l : List Int) : List Bool := l.foldl (fun m i => m.set i.toNat true) m
theorem mk_len (l : List Int) : ∀ m : List Bool, (mk m l).length = m.length := by
  induction l with
  | nil => intro m; rfl
  | cons i l ih => intro m; exact (ih _).trans (by simp)
theorem mk_snoc (m : List Bool) {l : List Int} {k : Nat} {i : Int} (h : l[k]? = some i) : mk m (l.take (k + 1)) = (mk m (l.take k)).set i.toNat true := by
  obtain ⟨h1, h2⟩ := List.getElem?_eq_some_iff.1 h
  rw [List.take_succ_eq_append_getElem h1, h2]
  unfold mk
  rw [List.foldl_append]
  rfl
theorem Marks.at : ∀ {l : List Int} {m m1 : List Bool}, Marks m l m1 → ∀ (k : Nat) (i : Int), l[k]? = some i → 0 ≤ i ∧ (mk m (l.take k))[i.toNat]? = some false
  | [], _, _, _, k, i, hk => by simp at hk
  | j :: l, m, m1, h, 0, i, hk => by
    obtain rfl : j = i := by simpa using hk
    exact ⟨h.1, h.2.1⟩
  | j :: l, m, m1, h, k + 1, i, hk => Marks.at h.2.2 k i (by simpa using hk)
theorem cat_at1 {α : Type} {f : α → Int} {A B : List α} {C : List Int} {k : Nat} {p : α} (h : A[k]? = some p) : (A.map f ++ B.map f ++ C)[k]? = some (f p) := by
  have hl := (List.getElem?_eq_some_iff.1 h).1
  rw [List.getElem?_append_left (by simp; omega), List.getElem?_append_left (by simpa using hl), List.getElem?_map, h]
  rfl
theorem cat_at2 {α : Type} {f : α → Int} {A B : List α} {C : List Int} {k : Nat} {p : α} (h : B[k]? = some p) : (A.map f ++ B.map f ++ C)[A.length + k]? = some (f p) := by
  have hl := (List.getElem?_eq_some_iff.1 h).1
  rw [List.getElem?_append_left (by simp; omega), List.getElem?_append_right (by simp), List.length_map, List.getElem?_map, Nat.add_sub_cancel_left, h]
  rfl
theorem cat_at3 {α : Type} {f : α → Int} {A B : List α} {C : List Int} {k : Nat} {i : Int} (h : C[k]? = some i) : (A.map f ++ B.map f ++ C)[A.length + B.length + k]? = some i := by
  rw [List.getElem?_append_right (by simp)]
  simpa using h

theorem seen_at (f0 : List Bool) (la : List Int) (n : Nat) (hl : f0.length = n) (hn : n ≤ 1000) (k : Nat) (i : Int) (hk : la[k]? = some i) (H : 0 ≤ i ∧ (mk f0 (la.take k))[i.toNat]? = some false) {B L : Nat} {w : World} (h : OwnBs w B L (mk f0 (la.take k))) :
    Calls Try.prog 15 #[.slice (some ⟨L, 0, none⟩) n n, .int .i64 i] w fun e w' => e = .returned (.bool true) ∧ OwnBs w' B L (mk f0 (la.take (k + 1))) ∧ Kp L L w w' := by
  have hm : (mk f0 (la.take k)).length = n := by rw [mk_len, hl]
  have hc := seen_yes (mk f0 (la.take k)) L B i.toNat w h H.2 (by omega)
  rw [mk_snoc f0 hk]
  rw [hm, Int.toNat_of_nonneg H.1] at hc
  exact hc

set_option maxRecDepth 100000 in
set_option maxHeartbeats 4000000 in
theorem walk_reconcilePlaces (A0 : Option Addr) (n0 c0 : Nat) (A1 : Option Addr) (n1 c1 : Nat) (a : Int) (w : World) (h0 : InIts w A0 n0) (h1 : InIts w A1 n1) (ha : fits a) :
    Calls Try.prog 5 #[.slice A0 n0 c0, .slice A1 n1 c1, .int .i64 a] w fun e w' => e = .returned (.bool true) ∧ Below w.heap.size w w' := by
  obtain ⟨xs, rfl, hm0, hx, hwx⟩ := h0
  obtain ⟨ts, rfl, hm1, ht, hwt⟩ := h1
  have HX := Lib.hid hx
  have HT := Lib.hid ht
  have HWX := Lib.hid hwx
  have HWT := Lib.hid hwt
  have HA := Lib.hid ha
  clear hx ht hwx hwt ha
  by_cases g0 : (24 : Int) < (xs.length : Int)
  · go_enter Try.func5, Try.ntmps5
    go_wp2_with (go_at_call 9; with_reducible refine (alive_any _).mono ?_; rintro e w1 ⟨rfl, hb⟩; obtain ⟨s, rfl⟩ := ext_of_below hb; clear hb)
    go_ret
    refine ⟨rfl, ?_⟩
    repeat' (first | exact Below.refl _ _ | refine below_ext ?_ ?_ _ | refine Below.alloc ?_ ?_ _ | refine Below.setCell ?_ ?_ _ | refine Below.drew ?_ | (rw [size_ext]; refine Nat.le_add_right_of_le ?_) | go_size | (rw [World.size_alloc]; refine Nat.le_add_right_of_le ?_))
  by_cases g1 : (24 : Int) < (ts.length : Int)
  · go_enter Try.func5, Try.ntmps5
    go_wp2_with (go_at_call 9; with_reducible refine (alive_any _).mono ?_; rintro e w1 ⟨rfl, hb⟩; obtain ⟨s, rfl⟩ := ext_of_below hb; clear hb)
    go_ret
    refine ⟨rfl, ?_⟩
    repeat' (first | exact Below.refl _ _ | refine below_ext ?_ ?_ _ | refine Below.alloc ?_ ?_ _ | refine Below.setCell ?_ ?_ _ | refine Below.drew ?_ | (rw [size_ext]; refine Nat.le_add_right_of_le ?_) | go_size | (rw [World.size_alloc]; refine Nat.le_add_right_of_le ?_))
  have hxl : xs.length ≤ 24 := by omega
  have htl : ts.length ≤ 24 := by omega
  have hmx := make_bools xs.length hxl
  have hmt := make_bools ts.length htl
  have HC1 := Lib.hid (fun W (h : Below w.heap.size w W) => comp_any xs ts a A0 A1 c0 c1 W (HX.out.below h) (HT.out.below h) hxl htl HA.out HWX.out HWT.out)
  obtain ⟨n1, n2, n3, n4⟩ := cmp_lens xs ts a hxl htl
  obtain ⟨e1, e2⟩ := cmp_places xs ts a
  obtain ⟨⟨ma, a1, -⟩, ⟨mb, b1, -⟩, -, -⟩ := cmp_marks xs ts a
  have KA := Lib.hid a1.at
  have KB := Lib.hid b1.at
  clear a1 b1
  generalize cmp xs ts a = m at *
  obtain ⟨ps, ds, us, vs⟩ := m
  dsimp only at *
  obtain ⟨la, hla⟩ : ∃ la, la = ps.map Prod.fst ++ ds.map Prod.fst ++ us := ⟨_, rfl⟩
  obtain ⟨lb, hlb⟩ : ∃ lb, lb = ps.map Prod.snd ++ ds.map Prod.snd ++ vs := ⟨_, rfl⟩
  rw [← hla] at KA
  rw [← hlb] at KB
  have HLA := Lib.hid hla
  have HLB := Lib.hid hlb
  clear hla hlb
  obtain ⟨fa, hfa⟩ : ∃ fa, fa = List.replicate xs.length false := ⟨_, rfl⟩
  obtain ⟨fb, hfb⟩ : ∃ fb, fb = List.replicate ts.length false := ⟨_, rfl⟩
  rw [← hfa] at KA
  rw [← hfb] at KB
  have lfa : fa.length = xs.length := by rw [hfa]; simp
  have lfb : fb.length = ts.length := by rw [hfb]; simp
  have HFA := Lib.hid hfa
  have HFB := Lib.hid hfb
  clear hfa hfb
  go_enter Try.func5, Try.ntmps5
  go_upto_region 4 with (go_at_call 11; refine (HC1.out _ (Below.refl _ _)).mono ?_; intro e w1 hR; obtain ⟨P1, P2, P3, P4, q1, q2, q3, q4, rfl, o1, o2, o3, o4, hb⟩ := hR.form; have HB1 := Lib.hid hb; have O1 := Lib.hid o1; have O2 := Lib.hid o2; have O3 := Lib.hid o3; have O4 := Lib.hid o4; clear hR hb o1 o2 o3 o4)
  have HBX := Lib.hid (Box4.new w1 (.slice P1 ps.length q1) (.slice P2 ds.length q2) (.slice P3 us.length q3) (.slice P4 vs.length q4) 28)
  have HB2 := Lib.hid (HB1.out.alloc HB1.out.size (.cells #[.slice P1 ps.length q1, .slice P2 ds.length q2, .slice P3 us.length q3, .slice P4 vs.length q4] 28))
  have R1 := Lib.hid (O1.out.alloc (.cells #[.slice P1 ps.length q1, .slice P2 ds.length q2, .slice P3 us.length q3, .slice P4 vs.length q4] 28))
  have R2 := Lib.hid (O2.out.alloc (.cells #[.slice P1 ps.length q1, .slice P2 ds.length q2, .slice P3 us.length q3, .slice P4 vs.length q4] 28))
  have R3 := Lib.hid (O3.out.alloc (.cells #[.slice P1 ps.length q1, .slice P2 ds.length q2, .slice P3 us.length q3, .slice P4 vs.length q4] 28))
  have R4 := Lib.hid (O4.out.alloc (.cells #[.slice P1 ps.length q1, .slice P2 ds.length q2, .slice P3 us.length q3, .slice P4 vs.length q4] 28))
  clear O1 O2 O3 O4 HB1
  generalize w1.alloc (.cells #[.slice P1 ps.length q1, .slice P2 ds.length q2, .slice P3 us.length q3, .slice P4 vs.length q4] 28) = W2 at *
  generalize w1.heap.size = N at *
  clear w1
  have hsz2 := HB2.out.size
  have hNl := HBX.out.lt
  go_cut [8, 9] (fun s8 s9 wx => ∃ L R : Nat, s8 = .slice (some ⟨L, 0, none⟩) xs.length xs.length ∧ s9 = .slice (some ⟨R, 0, none⟩) ts.length ts.length ∧ OwnBs wx W2.heap.size L fa ∧ OwnBs wx W2.heap.size R fb ∧ L ≠ R ∧ Below W2.heap.size W2 wx)
  case first =>
    --<first
    have ha := HFA.out
    have hb := HFB.out
    subst ha
    subst hb
    go_region_held3 (fun w' => True) (trivial) (fail)
    all_goals
      go_wp2_with fail
      go_meet
      refine ⟨_, _, rfl, rfl, ?_, ?_, by omega, ?_⟩
      · first
        | exact OwnBs.below (made_bools xs.length hxl W2 _ _ (by simp) (by simp)) (Below.drew (Below.alloc (Below.refl _ _) (Nat.le_refl _) _))
        | exact OwnBs.below (made_bools xs.length hxl (W2.alloc _) _ _ (by simp) (by simp)) (Below.drew (Below.refl _ _))
      · first
        | exact OwnBs.below (made_bools ts.length htl W2 _ _ (by simp) (by simp)) (Below.drew (Below.alloc (Below.refl _ _) (Nat.le_refl _) _))
        | exact OwnBs.below (made_bools ts.length htl (W2.alloc _) _ _ (by simp) (by simp)) (Below.drew (Below.refl _ _))
      · repeat' (first | exact Below.refl _ _ | refine below_ext ?_ ?_ _ | refine Below.alloc ?_ ?_ _ | refine Below.setCell ?_ ?_ _ | refine Below.drew ?_ | (rw [size_ext]; refine Nat.le_add_right_of_le ?_) | go_size | (rw [World.size_alloc]; refine Nat.le_add_right_of_le ?_))
    -->first
  case rest =>
    obtain ⟨L, R, rfl, rfl, oL, oR, hLR, hbc⟩ := hcut
    have hL1 := oL.lt
    have hR1 := oR.lt
    have OL := Lib.hid oL
    have OR := Lib.hid oR
    have HBC := Lib.hid hbc
    clear oL oR hbc
    have w1 : IntKind.i64.wrap ((ps.length : Int) + (ds.length : Int)) = (ps.length : Int) + (ds.length : Int) := IntWalk.i64_in _ ⟨by omega, by omega⟩
    have w2 : IntKind.i64.wrap ((ps.length : Int) + (ds.length : Int) + (us.length : Int)) = (xs.length : Int) := (IntWalk.i64_in _ ⟨by omega, by omega⟩).trans (by omega)
    have w3 : IntKind.i64.wrap ((ps.length : Int) + (ds.length : Int) + (vs.length : Int)) = (ts.length : Int) := (IntWalk.i64_in _ ⟨by omega, by omega⟩).trans (by omega)
    have hLR' : ¬ L = R := hLR
    have hRL' : ¬ R = L := fun e => hLR e.symm
    have hWc := HBC.out.size
    have OLa : Hid (OwnBs wc W2.heap.size L (mk fa (la.take 0))) := OL
    have ORa : Hid (OwnBs wc W2.heap.size R (mk fb (lb.take 0))) := OR
    clear OL OR
    obtain ⟨wa, hwa⟩ : ∃ wa, wa = wc := ⟨_, rfl⟩
    subst hwa
    have HBa := HBC
    have za : wa.cell? ⟨N, 0, none⟩ = some (.slice P1 ps.length q1) := (HBa.out.cell (p := ⟨N, 0, none⟩) hNl).trans HBX.out.c0
    have zna : N < wa.heap.size := Nat.lt_of_lt_of_le hNl HBa.out.size
    go_wp2
    go_loopw [10] (fun i wr => ∃ k : Nat, k ≤ ps.length ∧ i = .int .i64 k ∧ OwnBs wr W2.heap.size L (mk fa (la.take (0 + k))) ∧ OwnBs wr W2.heap.size R (mk fb (lb.take (0 + k))) ∧ Below W2.heap.size W2 wr) (fun i _ => ps.length - (intOf i).toNat)
    case atStart => exact ⟨0, Nat.zero_le _, rfl, OLa.out, ORa.out, HBa.out⟩
    case round =>
      obtain ⟨wb, hwb⟩ : ∃ wb, wb = wr := ⟨_, rfl⟩
      subst hwb
      obtain ⟨k, hk, rfl, ol, or, hb⟩ := hrel
      have HBb := Lib.hid hb
      have OLb := Lib.hid ol
      have ORb := Lib.hid or
      have cb : wb.cell? ⟨N, 0, none⟩ = some (.slice P1 ps.length q1) := (hb.cell (p := ⟨N, 0, none⟩) hNl).trans HBX.out.c0
      have hsb := hb.size
      have znb : N < wb.heap.size := Nat.lt_of_lt_of_le hNl hsb
      have hlb := ol.lt
      have hrb := or.lt
      clear ol or hb
      by_cases hlt : k < ps.length
      · obtain ⟨⟨pi, pj⟩, hpk⟩ : ∃ s, ps[k]? = some s := ⟨_, List.getElem?_eq_getElem hlt⟩
        obtain ⟨bx, ox, rfl, hbx, x0, x1⟩ := prs_cells R1.out hpk
        dsimp only at x0 x1
        have ha : la[0 + k]? = some pi := by rw [HLA.out, Nat.zero_add]; exact cat_at1 hpk
        have hbb : lb[0 + k]? = some pj := by rw [HLB.out, Nat.zero_add]; exact cat_at1 hpk
        have HA1 := Lib.hid ha
        have HB1 := Lib.hid hbb
        clear ha hbb hpk
        have y0 : wb.cell? ⟨bx, ox + k * 2, none⟩ = some (.int .i64 pi) := (HBb.out.cell (p := ⟨bx, ox + k * 2, none⟩) hbx).trans x0
        have y1 : wb.cell? ⟨bx, ox + k * 2 + 1, none⟩ = some (.int .i64 pj) := (HBb.out.cell (p := ⟨bx, ox + k * 2 + 1, none⟩) hbx).trans x1
        have hbxb : bx < wb.heap.size := Nat.lt_of_lt_of_le hbx hsb
        go_wp2_with (first
          | (go_at_call 15; (with_reducible refine (seen_at fa la xs.length lfa (by omega) (0 + k) pi HA1.out (KA.out _ _ HA1.out) OLb.out).mono ?_); rintro e w3 ⟨rfl, o3, k3⟩; have HB3 := Lib.hid (k3.toBelow HBb.out hsb hlb.1 hlb.1); have OR3 := Lib.hid (ORb.out.block (k3.block R hrb.2 hRL' hRL')); have OL3 := Lib.hid o3; have c3 := (HB3.out.cell (p := ⟨N, 0, none⟩) hNl).trans HBX.out.c0; have v0 := (HB3.out.cell (p := ⟨bx, ox + k * 2, none⟩) hbx).trans x0; have v1 := (HB3.out.cell (p := ⟨bx, ox + k * 2 + 1, none⟩) hbx).trans x1; have zn3 : N < w3.heap.size := Nat.lt_of_lt_of_le hNl HB3.out.size; have hbx3 : bx < w3.heap.size := Nat.lt_of_lt_of_le hbx HB3.out.size; have hs3 := HB3.out.size; have hr3 := OR3.out.lt; have hl3 := OL3.out.lt; clear o3 k3)
          | (go_at_call 15; (with_reducible refine (seen_at fb lb ts.length lfb (by omega) (0 + k) pj HB1.out (KB.out _ _ HB1.out) OR3.out).mono ?_); rintro e w5 ⟨rfl, o5, k5⟩; have HB5 := Lib.hid (k5.toBelow HB3.out hs3 hr3.1 hr3.1); have OL5 := Lib.hid (OL3.out.block (k5.block L hl3.2 hLR' hLR')); have OR5 := Lib.hid o5; clear o5 k5))
        go_roundw
        case rel => exact ⟨k + 1, by omega, by go_num, OL5.out, OR5.out, HB5.out⟩
        case measure => simp [intOf]; omega
      · obtain rfl : k = ps.length := by omega
        clear hlt hk za zna HBa OLa ORa
        rw [Nat.zero_add] at OLb ORb
        have zb : wb.cell? ⟨N, 1, none⟩ = some (.slice P2 ds.length q2) := (HBb.out.cell (p := ⟨N, 1, none⟩) hNl).trans HBX.out.c1
        have znb : N < wb.heap.size := Nat.lt_of_lt_of_le hNl HBb.out.size
        go_wp2
        go_loopw [11] (fun i wr => ∃ k : Nat, k ≤ ds.length ∧ i = .int .i64 k ∧ OwnBs wr W2.heap.size L (mk fa (la.take (ps.length + k))) ∧ OwnBs wr W2.heap.size R (mk fb (lb.take (ps.length + k))) ∧ Below W2.heap.size W2 wr) (fun i _ => ds.length - (intOf i).toNat)
        case atStart => exact ⟨0, Nat.zero_le _, rfl, OLb.out, ORb.out, HBb.out⟩
        case round =>
          obtain ⟨wc, hwc⟩ : ∃ wc, wc = wr := ⟨_, rfl⟩
          subst hwc
          obtain ⟨k, hk, rfl, ol, or, hb⟩ := hrel
          have HBc := Lib.hid hb
          have OLc := Lib.hid ol
          have ORc := Lib.hid or
          have cc : wc.cell? ⟨N, 1, none⟩ = some (.slice P2 ds.length q2) := (hb.cell (p := ⟨N, 1, none⟩) hNl).trans HBX.out.c1
          have hsc := hb.size
          have znc : N < wc.heap.size := Nat.lt_of_lt_of_le hNl hsc
          have hlc := ol.lt
          have hrc := or.lt
          clear ol or hb
          by_cases hlt : k < ds.length
          · obtain ⟨⟨pi, pj⟩, hpk⟩ : ∃ s, ds[k]? = some s := ⟨_, List.getElem?_eq_getElem hlt⟩
            obtain ⟨bx, ox, rfl, hbx, x0, x1⟩ := prs_cells R2.out hpk
            dsimp only at x0 x1
            have ha : la[ps.length + k]? = some pi := by rw [HLA.out]; exact cat_at2 hpk
            have hbb : lb[ps.length + k]? = some pj := by rw [HLB.out]; exact cat_at2 hpk
            have HA1 := Lib.hid ha
            have HB1 := Lib.hid hbb
            clear ha hbb hpk
            have y0 : wc.cell? ⟨bx, ox + k * 2, none⟩ = some (.int .i64 pi) := (HBc.out.cell (p := ⟨bx, ox + k * 2, none⟩) hbx).trans x0
            have y1 : wc.cell? ⟨bx, ox + k * 2 + 1, none⟩ = some (.int .i64 pj) := (HBc.out.cell (p := ⟨bx, ox + k * 2 + 1, none⟩) hbx).trans x1
            have hbxc : bx < wc.heap.size := Nat.lt_of_lt_of_le hbx hsc
            go_wp2_with (first
              | (go_at_call 15; (with_reducible refine (seen_at fa la xs.length lfa (by omega) (ps.length + k) pi HA1.out (KA.out _ _ HA1.out) OLc.out).mono ?_); rintro e w3 ⟨rfl, o3, k3⟩; have HB3 := Lib.hid (k3.toBelow HBc.out hsc hlc.1 hlc.1); have OR3 := Lib.hid (ORc.out.block (k3.block R hrc.2 hRL' hRL')); have OL3 := Lib.hid o3; have c3 := (HB3.out.cell (p := ⟨N, 1, none⟩) hNl).trans HBX.out.c1; have v0 := (HB3.out.cell (p := ⟨bx, ox + k * 2, none⟩) hbx).trans x0; have v1 := (HB3.out.cell (p := ⟨bx, ox + k * 2 + 1, none⟩) hbx).trans x1; have zn3 : N < w3.heap.size := Nat.lt_of_lt_of_le hNl HB3.out.size; have hbx3 : bx < w3.heap.size := Nat.lt_of_lt_of_le hbx HB3.out.size; have hs3 := HB3.out.size; have hr3 := OR3.out.lt; have hl3 := OL3.out.lt; clear o3 k3)
              | (go_at_call 15; (with_reducible refine (seen_at fb lb ts.length lfb (by omega) (ps.length + k) pj HB1.out (KB.out _ _ HB1.out) OR3.out).mono ?_); rintro e w5 ⟨rfl, o5, k5⟩; have HB5 := Lib.hid (k5.toBelow HB3.out hs3 hr3.1 hr3.1); have OL5 := Lib.hid (OL3.out.block (k5.block L hl3.2 hLR' hLR')); have OR5 := Lib.hid o5; clear o5 k5))
            go_roundw
            case rel => exact ⟨k + 1, by omega, by go_num, OL5.out, OR5.out, HB5.out⟩
            case measure => simp [intOf]; omega
          · obtain rfl : k = ds.length := by omega
            clear hlt hk zb znb HBb OLb ORb
            have zc : wc.cell? ⟨N, 2, none⟩ = some (.slice P3 us.length q3) := (HBc.out.cell (p := ⟨N, 2, none⟩) hNl).trans HBX.out.c2
            have znc : N < wc.heap.size := Nat.lt_of_lt_of_le hNl HBc.out.size
            go_wp2
            go_loopw [12] (fun i wr => ∃ k : Nat, k ≤ us.length ∧ i = .int .i64 k ∧ OwnBs wr W2.heap.size L (mk fa (la.take (ps.length + ds.length + k))) ∧ OwnBs wr W2.heap.size R (mk fb (lb.take (ps.length + ds.length))) ∧ Below W2.heap.size W2 wr) (fun i _ => us.length - (intOf i).toNat)
            case atStart => exact ⟨0, Nat.zero_le _, rfl, OLc.out, ORc.out, HBc.out⟩
            case round =>
              obtain ⟨wd, hwd⟩ : ∃ wd, wd = wr := ⟨_, rfl⟩
              subst hwd
              obtain ⟨k, hk, rfl, ol, or, hb⟩ := hrel
              have HBd := Lib.hid hb
              have OLd := Lib.hid ol
              have ORd := Lib.hid or
              have cd : wd.cell? ⟨N, 2, none⟩ = some (.slice P3 us.length q3) := (hb.cell (p := ⟨N, 2, none⟩) hNl).trans HBX.out.c2
              have hsd := hb.size
              have znd : N < wd.heap.size := Nat.lt_of_lt_of_le hNl hsd
              have hld := ol.lt
              have hrd := or.lt
              clear ol or hb
              by_cases hlt : k < us.length
              · obtain ⟨pi, hpk⟩ : ∃ s, us[k]? = some s := ⟨_, List.getElem?_eq_getElem hlt⟩
                obtain ⟨bx, ox, rfl, hbx, x0⟩ := nts_cells R3.out hpk
                have ha : la[ps.length + ds.length + k]? = some pi := by rw [HLA.out]; exact cat_at3 hpk
                have HA1 := Lib.hid ha
                clear ha hpk
                have y0 := (HBd.out.cell (p := ⟨bx, _, none⟩) hbx).trans x0
                have hbxd : bx < wd.heap.size := Nat.lt_of_lt_of_le hbx hsd
                go_wp2_with (go_at_call 15; (with_reducible refine (seen_at fa la xs.length lfa (by omega) (ps.length + ds.length + k) pi HA1.out (KA.out _ _ HA1.out) OLd.out).mono ?_); rintro e w3 ⟨rfl, o3, k3⟩; have HB3 := Lib.hid (k3.toBelow HBd.out hsd hld.1 hld.1); have OO3 := Lib.hid (ORd.out.block (k3.block R hrd.2 hRL' hRL')); have OX3 := Lib.hid o3; clear o3 k3)
                go_roundw
                case rel => exact ⟨k + 1, by omega, by go_num, OX3.out, OO3.out, HB3.out⟩
                case measure => simp [intOf]; omega
              · obtain rfl : k = us.length := by omega
                clear hlt hk zc znc HBc OLc ORc
                have zd : wd.cell? ⟨N, 3, none⟩ = some (.slice P4 vs.length q4) := (HBd.out.cell (p := ⟨N, 3, none⟩) hNl).trans HBX.out.c3
                have znd : N < wd.heap.size := Nat.lt_of_lt_of_le hNl HBd.out.size
                go_wp2
                go_loopw [13] (fun i wr => ∃ k : Nat, k ≤ vs.length ∧ i = .int .i64 k ∧ OwnBs wr W2.heap.size L (mk fa (la.take (ps.length + ds.length + us.length))) ∧ OwnBs wr W2.heap.size R (mk fb (lb.take (ps.length + ds.length + k))) ∧ Below W2.heap.size W2 wr) (fun i _ => vs.length - (intOf i).toNat)
                case atStart => exact ⟨0, Nat.zero_le _, rfl, OLd.out, ORd.out, HBd.out⟩
                case round =>
                  obtain ⟨we, hwe⟩ : ∃ we, we = wr := ⟨_, rfl⟩
                  subst hwe
                  obtain ⟨k, hk, rfl, ol, or, hb⟩ := hrel
                  have HBe := Lib.hid hb
                  have OLe := Lib.hid ol
                  have ORe := Lib.hid or
                  have ce : we.cell? ⟨N, 3, none⟩ = some (.slice P4 vs.length q4) := (hb.cell (p := ⟨N, 3, none⟩) hNl).trans HBX.out.c3
                  have hse := hb.size
                  have zne : N < we.heap.size := Nat.lt_of_lt_of_le hNl hse
                  have hle := ol.lt
                  have hre := or.lt
                  clear ol or hb
                  by_cases hlt : k < vs.length
                  · obtain ⟨pi, hpk⟩ : ∃ s, vs[k]? = some s := ⟨_, List.getElem?_eq_getElem hlt⟩
                    obtain ⟨bx, ox, rfl, hbx, x0⟩ := nts_cells R4.out hpk
                    have ha : lb[ps.length + ds.length + k]? = some pi := by rw [HLB.out]; exact cat_at3 hpk
                    have HA1 := Lib.hid ha
                    clear ha hpk
                    have y0 := (HBe.out.cell (p := ⟨bx, _, none⟩) hbx).trans x0
                    have hbxe : bx < we.heap.size := Nat.lt_of_lt_of_le hbx hse
                    go_wp2_with (go_at_call 15; (with_reducible refine (seen_at fb lb ts.length lfb (by omega) (ps.length + ds.length + k) pi HA1.out (KB.out _ _ HA1.out) ORe.out).mono ?_); rintro e w3 ⟨rfl, o3, k3⟩; have HB3 := Lib.hid (k3.toBelow HBe.out hse hre.1 hre.1); have OO3 := Lib.hid (OLe.out.block (k3.block L hle.2 hLR' hLR')); have OX3 := Lib.hid o3; clear o3 k3)
                    go_roundw
                    case rel => exact ⟨k + 1, by omega, by go_num, OO3.out, OX3.out, HB3.out⟩
                    case measure => simp [intOf]; omega
                  · obtain rfl : k = vs.length := by omega
                    clear hlt hk zd znd HBd OLd ORd
                    have r0 := (HBe.out.cell (p := ⟨N, 0, none⟩) hNl).trans HBX.out.c0
                    have r1 := (HBe.out.cell (p := ⟨N, 1, none⟩) hNl).trans HBX.out.c1
                    have r2 := (HBe.out.cell (p := ⟨N, 2, none⟩) hNl).trans HBX.out.c2
                    have r3 := (HBe.out.cell (p := ⟨N, 3, none⟩) hNl).trans HBX.out.c3
                    have HBW := Lib.hid (HB2.out.trans (HBe.out.mono hsz2))
                    go_wp2_with (go_at_call 9; with_reducible refine (alive_any _).mono ?_; rintro e w1 ⟨rfl, hb⟩; obtain ⟨s, rfl⟩ := ext_of_below hb; clear hb)
                    go_ret
                    exact ⟨rfl, below_ext HBW.out HBW.out.size _⟩
end Go.Proofs.Ytclaijheemkegaa

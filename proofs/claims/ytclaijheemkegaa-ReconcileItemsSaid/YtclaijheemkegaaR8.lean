/-
  Units of the reference.
-/
import Derived.Test.YtclaijheemkegaaR7
namespace Go.Proofs.Ytclaijheemkegaa
open Go.RowKit
set_option linter.unusedSimpArgs false
set_option linter.unusedVariables false

theorem rcount_any (xs : List It) (A : Option Addr) (c : Nat) (i : Int) (w : World) (h : Its w A xs) (hn : xs.length ≤ maxLen) :
    Calls Try.prog 29 #[.slice A xs.length c, .int .i64 i] w fun e w' => e = .returned (.tuple #[.int .i64 (uamt xs i), .bool (uin xs i)]) ∧ Below w.heap.size w w' := count_any xs A c i w h hn

set_option maxRecDepth 100000 in
set_option maxHeartbeats 4000000 in
theorem rsums_any (ps ds : List (Int × Int)) (us vs : List Int) (xs ts : List It) (Ap Ad Au Av Ax At : Option Addr) (cp cd cu cv cx ct : Nat) (w : World) (hp : Prs w Ap ps) (hd : Prs w Ad ds) (hu : Nts w Au us) (hv : Nts w Av vs) (hx : Its w Ax xs) (ht : Its w At ts) (hpl : ps.length ≤ 24) (hdl : ds.length ≤ 24) (hul : us.length ≤ 24) (hvl : vs.length ≤ 24) (hxl : xs.length ≤ 24) (htl : ts.length ≤ 24) :
    Calls Try.prog 14 #[.agg #[.slice Ap ps.length cp, .slice Ad ds.length cd, .slice Au us.length cu, .slice Av vs.length cv], .slice Ax xs.length cx, .slice At ts.length ct] w fun e w' => e = .returned (.tuple #[.int .i64 (agP xs ts ps + sm (dA xs ts) ds), .int .i64 (sm (dM xs ts) ds + sm (uamt xs) us), .int .i64 (sm (dN xs ts) ds + sm (uamt ts) vs)]) ∧ Below w.heap.size w w' := by
  have HP := Lib.hid hp
  have HX := Lib.hid hx
  have HT := Lib.hid ht
  have HDS := Lib.hid hd
  have HUS := Lib.hid hu
  have HVS := Lib.hid hv
  clear hp hx ht hd hu hv
  go_enter Try.func14, Try.ntmps14
  go_wp2
  generalize hW : w.alloc (Obj.cells #[.slice Ap ps.length cp, .slice Ad ds.length cd, .slice Au us.length cu, .slice Av vs.length cv] 28) = w0
  go_loopw [9, 12] (fun ag i wr => ∃ k : Nat, k ≤ ps.length ∧ i = .int .i64 k ∧ ag = .int .i64 (agP xs ts (ps.take k)) ∧ Below w0.heap.size w0 wr) (fun _ i _ => ps.length - (intOf i).toNat)
  case atStart => exact ⟨0, Nat.zero_le _, rfl, rfl, Below.refl _ _⟩
  case round =>
    obtain ⟨k, hk, rfl, rfl, hbw⟩ := hrel
    have hs0 : w0.heap.size = w.heap.size + 1 := by subst hW; simp
    have hsz := hbw.size
    have m0 : wr.cell? ⟨w.heap.size, 0, none⟩ = some (.slice Ap ps.length cp) := (hbw.cell (p := ⟨w.heap.size, 0, none⟩) (by simp [hs0])).trans (by subst hW; simp [go_sem])
    have m1 : wr.cell? ⟨w.heap.size, 1, none⟩ = some (.slice Ad ds.length cd) := (hbw.cell (p := ⟨w.heap.size, 1, none⟩) (by simp [hs0])).trans (by subst hW; simp [go_sem])
    have m2 : wr.cell? ⟨w.heap.size, 2, none⟩ = some (.slice Au us.length cu) := (hbw.cell (p := ⟨w.heap.size, 2, none⟩) (by simp [hs0])).trans (by subst hW; simp [go_sem])
    have m3 : wr.cell? ⟨w.heap.size, 3, none⟩ = some (.slice Av vs.length cv) := (hbw.cell (p := ⟨w.heap.size, 3, none⟩) (by simp [hs0])).trans (by subst hW; simp [go_sem])
    have hz0 : w.heap.size < wr.heap.size := by omega
    have hW0 : Below w.heap.size w w0 := by
      subst hW
      exact (Below.refl w.heap.size w).alloc (Nat.le_refl _) _
    have HBW := Lib.hid hbw
    have HBB := Lib.hid ((hW0.trans (hbw.mono (by omega))).mono (Nat.le_refl _))
    have hag := agP_in xs ts (ps.take k)
    have hkl : (ps.take k).length ≤ 24 := by simp; omega
    by_cases hlt : k < ps.length
    --<a
    · obtain ⟨⟨pi, pk⟩, hpk⟩ : ∃ s, ps[k]? = some s := ⟨_, List.getElem?_eq_getElem hlt⟩
      obtain ⟨b, o, rfl, hb, x0, x1⟩ := prs_cells (HP.out.below HBB.out) hpk
      have HS := Lib.hid (agP_snoc xs ts hpk)
      have hu := uamt_in xs pi
      clear hpk hbw hW0
      generalize agP xs ts (ps.take k) = ag at *
      generalize hua : uamt xs pi = ua at *
      generalize hub : uamt ts pk = ub at *
      cases h1 : uin xs pi
      · have HS2 : Hid (agP xs ts (ps.take (k + 1)) = ag) := by
          have := HS.out
          simp only [h1, Bool.false_and, Bool.false_eq_true, if_false] at this
          unfold Hid
          omega
        clear HS
        go_wp2_with (first
          | (go_at_call 29; (with_reducible refine (rcount_any xs Ax cx pi _ (HX.out.below HBB.out) (by simp only [maxLen]; omega)).mono ?_); rw [h1, hua]; rintro e w1 ⟨rfl, hb⟩; obtain ⟨s, rfl⟩ := ext_of_below hb; clear hb)
          | (go_at_call 29; (with_reducible refine (rcount_any ts At ct pk _ ((HT.out.below HBB.out).ext _) (by simp only [maxLen]; omega)).mono ?_); rw [hub]; rintro e w1 ⟨rfl, hb⟩; obtain ⟨s, rfl⟩ := ext_of_below hb; clear hb))
        go_roundw
        case rel => exact ⟨k + 1, by omega, by go_num, by rw [HS2.out], below_ext HBW.out (by omega) _⟩
        case measure => simp [intOf]; omega
      · cases h2 : uin ts pk
        · have HS2 : Hid (agP xs ts (ps.take (k + 1)) = ag) := by
            have := HS.out
            simp only [h1, h2, Bool.and_false, Bool.false_eq_true, if_false] at this
            unfold Hid
            omega
          clear HS
          go_wp2_with (first
            | (go_at_call 29; (with_reducible refine (rcount_any xs Ax cx pi _ (HX.out.below HBB.out) (by simp only [maxLen]; omega)).mono ?_); rw [h1, hua]; rintro e w1 ⟨rfl, hb⟩; obtain ⟨s, rfl⟩ := ext_of_below hb; clear hb)
            | (go_at_call 29; (with_reducible refine (rcount_any ts At ct pk _ ((HT.out.below HBB.out).ext _) (by simp only [maxLen]; omega)).mono ?_); rw [h2, hub]; rintro e w1 ⟨rfl, hb⟩; obtain ⟨s, rfl⟩ := ext_of_below hb; clear hb))
          go_roundw
          case rel => exact ⟨k + 1, by omega, by go_num, by rw [HS2.out], below_ext HBW.out (by omega) _⟩
          case measure => simp [intOf]; omega
        · have HS2 : Hid (agP xs ts (ps.take (k + 1)) = ag + ua) := by
            have := HS.out
            simp only [h1, h2, Bool.and_true, if_true, hua] at this
            exact this
          clear HS
          have hw : wrap64 (ag + ua) = ag + ua := by go_arith
          go_wp2_with (first
            | (go_at_call 29; (with_reducible refine (rcount_any xs Ax cx pi _ (HX.out.below HBB.out) (by simp only [maxLen]; omega)).mono ?_); rw [h1, hua]; rintro e w1 ⟨rfl, hb⟩; obtain ⟨s, rfl⟩ := ext_of_below hb; clear hb)
            | (go_at_call 29; (with_reducible refine (rcount_any ts At ct pk _ ((HT.out.below HBB.out).ext _) (by simp only [maxLen]; omega)).mono ?_); rw [h2, hub]; rintro e w1 ⟨rfl, hb⟩; obtain ⟨s, rfl⟩ := ext_of_below hb; clear hb))
          go_roundw
          case rel => exact ⟨k + 1, by omega, by go_num, by rw [HS2.out], below_ext HBW.out (by omega) _⟩
          case measure => simp [intOf]; omega
    -->a
    · have hk' : ps.take k = ps := List.take_of_length_le (by omega)
      rw [hk'] at hag ⊢
      clear hk' hbw hW0 hk hkl
      generalize hPP : agP xs ts ps = ap at *
      have HAP := Lib.hid hag
      clear hag
      go_wp2
      clear m0 m1 m2 m3 hz0
      go_loopw [9, 10, 11, 17] (fun ag mo mt i wq => ∃ k : Nat, k ≤ ds.length ∧ i = .int .i64 k ∧ ag = .int .i64 (ap + sm (dA xs ts) (ds.take k)) ∧ mo = .int .i64 (sm (dM xs ts) (ds.take k)) ∧ mt = .int .i64 (sm (dN xs ts) (ds.take k)) ∧ Below w0.heap.size w0 wq) (fun _ _ _ i _ => ds.length - (intOf i).toNat)
      case atStart => exact ⟨0, Nat.zero_le _, rfl, by simp [sm], rfl, rfl, HBW.out⟩
      case round =>
        clear HBW HBB hsz hs0
        obtain ⟨k, hk, rfl, rfl, rfl, rfl, hbw⟩ := hrel
        have hs0 : w0.heap.size = w.heap.size + 1 := by subst hW; simp
        have hsz := hbw.size
        have m0 : wr.cell? ⟨w.heap.size, 0, none⟩ = some (.slice Ap ps.length cp) := (hbw.cell (p := ⟨w.heap.size, 0, none⟩) (by simp [hs0])).trans (by subst hW; simp [go_sem])
        have m1 : wr.cell? ⟨w.heap.size, 1, none⟩ = some (.slice Ad ds.length cd) := (hbw.cell (p := ⟨w.heap.size, 1, none⟩) (by simp [hs0])).trans (by subst hW; simp [go_sem])
        have m2 : wr.cell? ⟨w.heap.size, 2, none⟩ = some (.slice Au us.length cu) := (hbw.cell (p := ⟨w.heap.size, 2, none⟩) (by simp [hs0])).trans (by subst hW; simp [go_sem])
        have m3 : wr.cell? ⟨w.heap.size, 3, none⟩ = some (.slice Av vs.length cv) := (hbw.cell (p := ⟨w.heap.size, 3, none⟩) (by simp [hs0])).trans (by subst hW; simp [go_sem])
        have hz0 : w.heap.size < wr.heap.size := by omega
        have hW0 : Below w.heap.size w w0 := by
          subst hW
          exact (Below.refl w.heap.size w).alloc (Nat.le_refl _) _
        have HBW := Lib.hid hbw
        have HBB := Lib.hid ((hW0.trans (hbw.mono (by omega))).mono (Nat.le_refl _))
        have HAP2 := HAP.out
        have i1 := sm_in (dA_in xs ts) (ds.take k)
        have i2 := sm_in (dM_in xs ts) (ds.take k)
        have i3 := sm_in (dN_in xs ts) (ds.take k)
        have hkl : (ds.take k).length ≤ 24 := by simp; omega
        by_cases hlt : k < ds.length
        --<b
        · obtain ⟨⟨pi, pk⟩, hpk⟩ : ∃ s, ds[k]? = some s := ⟨_, List.getElem?_eq_getElem hlt⟩
          obtain ⟨b, o, rfl, hb, x0, x1⟩ := prs_cells (HDS.out.below HBB.out) hpk
          have S1 := Lib.hid (sm_snoc (dA xs ts) hpk)
          have S2 := Lib.hid (sm_snoc (dM xs ts) hpk)
          have S3 := Lib.hid (sm_snoc (dN xs ts) hpk)
          have hu := uamt_in xs pi
          have hu2 := uamt_in ts pk
          clear hpk hbw hW0
          generalize sm (dA xs ts) (ds.take k) = sA at *
          generalize sm (dM xs ts) (ds.take k) = sM at *
          generalize sm (dN xs ts) (ds.take k) = sN at *
          generalize hua : uamt xs pi = ua at *
          generalize hub : uamt ts pk = ub at *
          cases h1 : uin xs pi
          · skip
            have T1 : Hid (sm (dA xs ts) (ds.take (k + 1)) = sA) := by
              have := S1.out
              simp only [dA, h1, Bool.false_and, Bool.false_eq_true, if_false] at this
              unfold Hid
              simpa using this
            have T2 : Hid (sm (dM xs ts) (ds.take (k + 1)) = sM) := by
              have := S2.out
              simp only [dM, h1, Bool.false_and, Bool.false_eq_true, if_false] at this
              unfold Hid
              simpa using this
            have T3 : Hid (sm (dN xs ts) (ds.take (k + 1)) = sN) := by
              have := S3.out
              simp only [dN, h1, Bool.false_and, Bool.false_eq_true, if_false] at this
              unfold Hid
              simpa using this
            clear S1 S2 S3
            go_wp2_with (first
              | (go_at_call 29; (with_reducible refine (rcount_any xs Ax cx pi _ (HX.out.below HBB.out) (by simp only [maxLen]; omega)).mono ?_); rw [h1, hua]; rintro e w1 ⟨rfl, hb⟩; obtain ⟨s, rfl⟩ := ext_of_below hb; clear hb)
              | (go_at_call 29; (with_reducible refine (rcount_any ts At ct pk _ ((HT.out.below HBB.out).ext _) (by simp only [maxLen]; omega)).mono ?_); rw [hub]; rintro e w1 ⟨rfl, hb⟩; obtain ⟨s, rfl⟩ := ext_of_below hb; clear hb))
            go_roundw
            case rel => exact ⟨k + 1, by omega, by go_num, by rw [T1.out], by rw [T2.out], by rw [T3.out], below_ext HBW.out (by omega) _⟩
            case measure => simp [intOf]; omega
          · cases h2 : uin ts pk
            · skip
              have T1 : Hid (sm (dA xs ts) (ds.take (k + 1)) = sA) := by
                have := S1.out
                simp only [dA, h1, h2, Bool.and_false, Bool.false_eq_true, if_false] at this
                unfold Hid
                simpa using this
              have T2 : Hid (sm (dM xs ts) (ds.take (k + 1)) = sM) := by
                have := S2.out
                simp only [dM, h1, h2, Bool.and_false, Bool.false_eq_true, if_false] at this
                unfold Hid
                simpa using this
              have T3 : Hid (sm (dN xs ts) (ds.take (k + 1)) = sN) := by
                have := S3.out
                simp only [dN, h1, h2, Bool.and_false, Bool.false_eq_true, if_false] at this
                unfold Hid
                simpa using this
              clear S1 S2 S3
              go_wp2_with (first
                | (go_at_call 29; (with_reducible refine (rcount_any xs Ax cx pi _ (HX.out.below HBB.out) (by simp only [maxLen]; omega)).mono ?_); rw [h1, hua]; rintro e w1 ⟨rfl, hb⟩; obtain ⟨s, rfl⟩ := ext_of_below hb; clear hb)
                | (go_at_call 29; (with_reducible refine (rcount_any ts At ct pk _ ((HT.out.below HBB.out).ext _) (by simp only [maxLen]; omega)).mono ?_); rw [h2, hub]; rintro e w1 ⟨rfl, hb⟩; obtain ⟨s, rfl⟩ := ext_of_below hb; clear hb))
              go_roundw
              case rel => exact ⟨k + 1, by omega, by go_num, by rw [T1.out], by rw [T2.out], by rw [T3.out], below_ext HBW.out (by omega) _⟩
              case measure => simp [intOf]; omega
            · have T1 : Hid (sm (dA xs ts) (ds.take (k + 1)) = sA + min ua ub) := by
                have := S1.out
                simp only [dA, h1, h2, Bool.and_true, if_true, hua, hub] at this
                exact this
              have T2 : Hid (sm (dM xs ts) (ds.take (k + 1)) = sM + max (ua - ub) 0) := by
                have := S2.out
                simp only [dM, h1, h2, Bool.and_true, if_true, hua, hub] at this
                exact this
              have T3 : Hid (sm (dN xs ts) (ds.take (k + 1)) = sN + max (ub - ua) 0) := by
                have := S3.out
                simp only [dN, h1, h2, Bool.and_true, if_true, hua, hub] at this
                exact this
              clear S1 S2 S3
              go_wp2_with (first
                | (go_at_call 29; (with_reducible refine (rcount_any xs Ax cx pi _ (HX.out.below HBB.out) (by simp only [maxLen]; omega)).mono ?_); rw [h1, hua]; rintro e w1 ⟨rfl, hb⟩; obtain ⟨s, rfl⟩ := ext_of_below hb; clear hb)
                | (go_at_call 29; (with_reducible refine (rcount_any ts At ct pk _ ((HT.out.below HBB.out).ext _) (by simp only [maxLen]; omega)).mono ?_); rw [h2, hub]; rintro e w1 ⟨rfl, hb⟩; obtain ⟨s, rfl⟩ := ext_of_below hb; clear hb))
              go_roundw
              case rel => exact ⟨k + 1, by omega, by go_num, congrArg (Value.int .i64) (by rw [T1.out]; go_arith), congrArg (Value.int .i64) (by rw [T2.out]; go_arith), congrArg (Value.int .i64) (by rw [T3.out]; go_arith), below_ext HBW.out (by omega) _⟩
              case measure => simp [intOf]; omega
        -->b
        · have hk' : ds.take k = ds := List.take_of_length_le (by omega)
          rw [hk'] at i1 i2 i3 ⊢
          clear hk' hbw hW0 hk hkl HAP2
          generalize hAd : sm (dA xs ts) ds = ad at *
          generalize hMd : sm (dM xs ts) ds = md at *
          generalize hNd : sm (dN xs ts) ds = nd at *
          go_wp2
          go_loopw [10, 22] (fun mo i wq => ∃ k : Nat, k ≤ us.length ∧ i = .int .i64 k ∧ mo = .int .i64 (md + sm (uamt xs) (us.take k)) ∧ Below w0.heap.size w0 wq) (fun _ i _ => us.length - (intOf i).toNat)
          case atStart => exact ⟨0, Nat.zero_le _, rfl, by simp [sm], HBW.out⟩
          case round =>
            clear HBW HBB hsz m0 m1 m2 m3 hs0 hz0
            obtain ⟨k, hk, rfl, rfl, hbw⟩ := hrel
            have hs0 : w0.heap.size = w.heap.size + 1 := by subst hW; simp
            have hsz := hbw.size
            have m0 : wr.cell? ⟨w.heap.size, 0, none⟩ = some (.slice Ap ps.length cp) := (hbw.cell (p := ⟨w.heap.size, 0, none⟩) (by simp [hs0])).trans (by subst hW; simp [go_sem])
            have m1 : wr.cell? ⟨w.heap.size, 1, none⟩ = some (.slice Ad ds.length cd) := (hbw.cell (p := ⟨w.heap.size, 1, none⟩) (by simp [hs0])).trans (by subst hW; simp [go_sem])
            have m2 : wr.cell? ⟨w.heap.size, 2, none⟩ = some (.slice Au us.length cu) := (hbw.cell (p := ⟨w.heap.size, 2, none⟩) (by simp [hs0])).trans (by subst hW; simp [go_sem])
            have m3 : wr.cell? ⟨w.heap.size, 3, none⟩ = some (.slice Av vs.length cv) := (hbw.cell (p := ⟨w.heap.size, 3, none⟩) (by simp [hs0])).trans (by subst hW; simp [go_sem])
            have hz0 : w.heap.size < wr.heap.size := by omega
            have hW0 : Below w.heap.size w w0 := by
              subst hW
              exact (Below.refl w.heap.size w).alloc (Nat.le_refl _) _
            have HBW := Lib.hid hbw
            have HBB := Lib.hid ((hW0.trans (hbw.mono (by omega))).mono (Nat.le_refl _))
            have i1 := sm_in (uamt_in xs) (us.take k)
            have hkl : (us.take k).length ≤ 24 := by simp; omega
            by_cases hlt : k < us.length
            --<c
            · obtain ⟨pi, hpk⟩ : ∃ s, us[k]? = some s := ⟨_, List.getElem?_eq_getElem hlt⟩
              obtain ⟨b, o, rfl, hb, x0⟩ := nts_cells (HUS.out.below HBB.out) hpk
              have S1 := Lib.hid (sm_snoc (uamt xs) hpk)
              have hu := uamt_in xs pi
              clear hpk hbw hW0
              generalize sm (uamt xs) (us.take k) = sM at *
              generalize hua : uamt xs pi = ua at *
              have hw : wrap64 (md + sM + ua) = md + sM + ua := by go_arith
              go_wp2_with (first
                | (go_at_call 29; (with_reducible refine (rcount_any xs Ax cx pi _ (HX.out.below HBB.out) (by simp only [maxLen]; omega)).mono ?_); rw [hua]; rintro e w1 ⟨rfl, hb⟩; obtain ⟨s, rfl⟩ := ext_of_below hb; clear hb))
              go_roundw
              case rel => exact ⟨k + 1, by omega, by go_num, congrArg (Value.int .i64) (by rw [S1.out]; omega), below_ext HBW.out (by omega) _⟩
              case measure => simp [intOf]; omega
            -->c
            · have hk' : us.take k = us := List.take_of_length_le (by omega)
              rw [hk'] at i1 ⊢
              clear hk' hbw hW0 hk hkl
              generalize hM : sm (uamt xs) us = mu at *
              have HI := Lib.hid i1
              clear i1
              go_wp2
              go_loopw [11, 25] (fun mo i wq => ∃ k : Nat, k ≤ vs.length ∧ i = .int .i64 k ∧ mo = .int .i64 (nd + sm (uamt ts) (vs.take k)) ∧ Below w0.heap.size w0 wq) (fun _ i _ => vs.length - (intOf i).toNat)
              case atStart => exact ⟨0, Nat.zero_le _, rfl, by simp [sm], HBW.out⟩
              case round =>
                clear HBW HBB hsz m0 m1 m2 m3 hs0 hz0
                obtain ⟨k, hk, rfl, rfl, hbw⟩ := hrel
                have hs0 : w0.heap.size = w.heap.size + 1 := by subst hW; simp
                have hsz := hbw.size
                have m0 : wr.cell? ⟨w.heap.size, 0, none⟩ = some (.slice Ap ps.length cp) := (hbw.cell (p := ⟨w.heap.size, 0, none⟩) (by simp [hs0])).trans (by subst hW; simp [go_sem])
                have m1 : wr.cell? ⟨w.heap.size, 1, none⟩ = some (.slice Ad ds.length cd) := (hbw.cell (p := ⟨w.heap.size, 1, none⟩) (by simp [hs0])).trans (by subst hW; simp [go_sem])
                have m2 : wr.cell? ⟨w.heap.size, 2, none⟩ = some (.slice Au us.length cu) := (hbw.cell (p := ⟨w.heap.size, 2, none⟩) (by simp [hs0])).trans (by subst hW; simp [go_sem])
                have m3 : wr.cell? ⟨w.heap.size, 3, none⟩ = some (.slice Av vs.length cv) := (hbw.cell (p := ⟨w.heap.size, 3, none⟩) (by simp [hs0])).trans (by subst hW; simp [go_sem])
                have hz0 : w.heap.size < wr.heap.size := by omega
                have hW0 : Below w.heap.size w w0 := by
                  subst hW
                  exact (Below.refl w.heap.size w).alloc (Nat.le_refl _) _
                have HBW := Lib.hid hbw
                have HBB := Lib.hid ((hW0.trans (hbw.mono (by omega))).mono (Nat.le_refl _))
                have i1 := sm_in (uamt_in ts) (vs.take k)
                have hkl : (vs.take k).length ≤ 24 := by simp; omega
                by_cases hlt : k < vs.length
                --<d
                · obtain ⟨pi, hpk⟩ : ∃ s, vs[k]? = some s := ⟨_, List.getElem?_eq_getElem hlt⟩
                  obtain ⟨b, o, rfl, hb, x0⟩ := nts_cells (HVS.out.below HBB.out) hpk
                  have S1 := Lib.hid (sm_snoc (uamt ts) hpk)
                  have hu := uamt_in ts pi
                  clear hpk hbw hW0
                  generalize sm (uamt ts) (vs.take k) = sM at *
                  generalize hua : uamt ts pi = ua at *
                  have hw : wrap64 (nd + sM + ua) = nd + sM + ua := by go_arith
                  go_wp2_with (first
                    | (go_at_call 29; (with_reducible refine (rcount_any ts At ct pi _ (HT.out.below HBB.out) (by simp only [maxLen]; omega)).mono ?_); rw [hua]; rintro e w1 ⟨rfl, hb⟩; obtain ⟨s, rfl⟩ := ext_of_below hb; clear hb))
                  go_roundw
                  case rel => exact ⟨k + 1, by omega, by go_num, congrArg (Value.int .i64) (by rw [S1.out]; omega), below_ext HBW.out (by omega) _⟩
                  case measure => simp [intOf]; omega
                -->d
                · have hk' : vs.take k = vs := List.take_of_length_le (by omega)
                  rw [hk'] at i1 ⊢
                  clear hk' hbw hW0 hk hkl
                  generalize hN : sm (uamt ts) vs = nv at *
                  go_wp2
                  refine bodyPost_ret (by simp [results, Try.results14, go_sem]; first | done | rfl) rfl ?_
                  have HMd := Lib.hid hMd
                  refine ⟨by rw [← hPP, ← hAd, ← hMd, ← hNd, ← hM, ← hN], HBB.out⟩
end Go.Proofs.Ytclaijheemkegaa

/-
  Units of the program.
-/
import Derived.Test.YtclaijheemkegaaR6
import Derived.BigQuiet
namespace Go.Proofs.Ytclaijheemkegaa
open Go.RowKit
set_option linter.unusedSimpArgs false
set_option linter.unusedVariables false

/-- What agrees of the pairs. -/
def agP (xs ts : List It) (l : List (Int × Int)) : Int := (l.map fun p => if uin xs p.1 && uin ts p.2 then uamt xs p.1 else 0).sum
theorem agP_snoc (xs ts : List It) {l : List (Int × Int)} {k : Nat} {p : Int × Int} (h : l[k]? = some p) : agP xs ts (l.take (k + 1)) = agP xs ts (l.take k) + if uin xs p.1 && uin ts p.2 then uamt xs p.1 else 0 := by
  obtain ⟨h1, h2⟩ := List.getElem?_eq_some_iff.1 h
  rw [List.take_succ_eq_append_getElem h1, h2]
  simp [agP]
theorem agP_in (xs ts : List It) : ∀ (l : List (Int × Int)), 0 ≤ agP xs ts l ∧ agP xs ts l ≤ 1099511627776 * l.length
  | [] => by simp [agP]
  | p :: l => by
    have ih := agP_in xs ts l
    have := uamt_in xs p.1
    simp only [agP, List.map_cons, List.sum_cons, List.length_cons] at ih ⊢
    split <;> omega

/-- Sums over lists. -/
def sm {α : Type} (f : α → Int) (l : List α) : Int := (l.map f).sum
theorem sm_snoc {α : Type} (f : α → Int) {l : List α} {k : Nat} {x : α} (h : l[k]? = some x) : sm f (l.take (k + 1)) = sm f (l.take k) + f x := by
  obtain ⟨h1, h2⟩ := List.getElem?_eq_some_iff.1 h
  rw [List.take_succ_eq_append_getElem h1, h2]
  simp [sm]
theorem sm_in {α : Type} {f : α → Int} (hf : ∀ x, 0 ≤ f x ∧ f x ≤ 1099511627776) : ∀ (l : List α), 0 ≤ sm f l ∧ sm f l ≤ 1099511627776 * l.length
  | [] => by simp [sm]
  | p :: l => by
    have ih := sm_in hf l
    have := hf p
    simp only [sm, List.map_cons, List.sum_cons, List.length_cons] at ih ⊢
    omega
def dA (xs ts : List It) (p : Int × Int) : Int := if uin xs p.1 && uin ts p.2 then min (uamt xs p.1) (uamt ts p.2) else 0
def dM (xs ts : List It) (p : Int × Int) : Int := if uin xs p.1 && uin ts p.2 then max (uamt xs p.1 - uamt ts p.2) 0 else 0
def dN (xs ts : List It) (p : Int × Int) : Int := if uin xs p.1 && uin ts p.2 then max (uamt ts p.2 - uamt xs p.1) 0 else 0
theorem dA_in (xs ts : List It) (p : Int × Int) : 0 ≤ dA xs ts p ∧ dA xs ts p ≤ 1099511627776 := by
  have := uamt_in xs p.1
  have := uamt_in ts p.2
  unfold dA
  split <;> omega
theorem dM_in (xs ts : List It) (p : Int × Int) : 0 ≤ dM xs ts p ∧ dM xs ts p ≤ 1099511627776 := by
  have := uamt_in xs p.1
  have := uamt_in ts p.2
  unfold dM
  split <;> omega
theorem dN_in (xs ts : List It) (p : Int × Int) : 0 ≤ dN xs ts p ∧ dN xs ts p ≤ 1099511627776 := by
  have := uamt_in xs p.1
  have := uamt_in ts p.2
  unfold dN
  split <;> omega

set_option maxRecDepth 100000 in
set_option maxHeartbeats 4000000 in
theorem units_any (ps ds : List (Int × Int)) (us vs : List Int) (xs ts : List It) (Ap Ad Au Av Ax At : Option Addr) (cp cd cu cv cx ct : Nat) (w : World) (hp : Prs w Ap ps) (hd : Prs w Ad ds) (hu : Nts w Au us) (hv : Nts w Av vs) (hx : Its w Ax xs) (ht : Its w At ts) (hpl : ps.length ≤ 24) (hdl : ds.length ≤ 24) (hul : us.length ≤ 24) (hvl : vs.length ≤ 24) :
    Calls Try.prog 13 #[.agg #[.slice Ap ps.length cp, .slice Ad ds.length cd, .slice Au us.length cu, .slice Av vs.length cv], .slice Ax xs.length cx, .slice At ts.length ct] w fun e w' => e = .returned (.tuple #[.int .i64 (agP xs ts ps + sm (dA xs ts) ds), .int .i64 (sm (dM xs ts) ds + sm (uamt xs) us), .int .i64 (sm (dN xs ts) ds + sm (uamt ts) vs)]) ∧ Below w.heap.size w w' := by
  have HP := Lib.hid hp
  have HX := Lib.hid hx
  have HT := Lib.hid ht
  have HDS := Lib.hid hd
  have HUS := Lib.hid hu
  have HVS := Lib.hid hv
  clear hp hx ht hd hu hv
  go_enter Try.func13, Try.ntmps13
  go_wp2
  generalize hW : ((w.alloc (Obj.cells #[.slice Ap ps.length cp, .slice Ad ds.length cd, .slice Au us.length cu, .slice Av vs.length cv] 28)).alloc (Obj.cells #[.slice Ax xs.length cx] 22)).alloc (Obj.cells #[.slice At ts.length ct] 22) = w0
  go_loopw [9, 27] (fun ag i wr => ∃ k : Nat, k ≤ ps.length ∧ i = .int .i64 k ∧ ag = .int .i64 (agP xs ts (ps.take k)) ∧ Below w0.heap.size w0 wr) (fun _ i _ => ps.length - (intOf i).toNat)
  case atStart => exact ⟨0, Nat.zero_le _, rfl, rfl, Below.refl _ _⟩
  case round =>
    obtain ⟨k, hk, rfl, rfl, hbw⟩ := hrel
    have hs0 : w0.heap.size = w.heap.size + 3 := by subst hW; simp
    have hsz := hbw.size
    have c1 : wr.cell? ⟨w.heap.size + 1, 0, none⟩ = some (.slice Ax xs.length cx) := (hbw.cell (p := ⟨w.heap.size + 1, 0, none⟩) (by simp [hs0])).trans (by subst hW; simp [go_sem])
    have c2 : wr.cell? ⟨w.heap.size + 1 + 1, 0, none⟩ = some (.slice At ts.length ct) := (hbw.cell (p := ⟨w.heap.size + 1 + 1, 0, none⟩) (by simp [hs0])).trans (by subst hW; simp [go_sem])
    have m1 : wr.cell? ⟨w.heap.size, 1, none⟩ = some (.slice Ad ds.length cd) := (hbw.cell (p := ⟨w.heap.size, 1, none⟩) (by simp [hs0])).trans (by subst hW; simp [go_sem])
    have m2 : wr.cell? ⟨w.heap.size, 2, none⟩ = some (.slice Au us.length cu) := (hbw.cell (p := ⟨w.heap.size, 2, none⟩) (by simp [hs0])).trans (by subst hW; simp [go_sem])
    have m3 : wr.cell? ⟨w.heap.size, 3, none⟩ = some (.slice Av vs.length cv) := (hbw.cell (p := ⟨w.heap.size, 3, none⟩) (by simp [hs0])).trans (by subst hW; simp [go_sem])
    have hz0 : w.heap.size < wr.heap.size := by omega
    have hz1 : w.heap.size + 1 < wr.heap.size := by omega
    have hz2 : w.heap.size + 1 + 1 < wr.heap.size := by omega
    have hn1 : ¬ w.heap.size + 1 = wr.heap.size := by omega
    have hn2 : ¬ w.heap.size + 1 + 1 = wr.heap.size := by omega
    have hz3 : w.heap.size + 1 < wr.heap.size + 1 := by omega
    have hz4 : w.heap.size + 1 + 1 < wr.heap.size + 1 := by omega
    have hW0 : Below w.heap.size w w0 := by
      subst hW
      exact (((Below.refl w.heap.size w).alloc (Nat.le_refl _) _).alloc (by simp) _).alloc (by simp; omega) _
    have HBW := Lib.hid hbw
    have HBB := Lib.hid ((hW0.trans (hbw.mono (by omega))).mono (Nat.le_refl _))
    by_cases hlt : k < ps.length
    --<a
    · obtain ⟨⟨pi, pk⟩, hpk⟩ : ∃ s, ps[k]? = some s := ⟨_, List.getElem?_eq_getElem hlt⟩
      obtain ⟨b, o, rfl, hb, x0, x1⟩ := prs_cells (HP.out.below HBB.out) hpk
      have HS := Lib.hid (agP_snoc xs ts hpk)
      clear hpk hbw hW0
      have HAI := Lib.hid (agP_in xs ts (ps.take k))
      have hkl : (ps.take k).length ≤ 24 := by simp; omega
      cases hin : (uin xs pi && uin ts pk)
      · rw [hin] at HS
        have HS2 : Hid (agP xs ts (ps.take (k + 1)) = agP xs ts (ps.take k)) := by
          have := HS.out
          rw [if_neg (by simp)] at this
          unfold Hid
          omega
        have HIN := Lib.hid hin
        clear hin
        go_wp2_with (first
          | (go_at_call 27; (refine (inside_any _ _ _ _ _ _ _ _ _ _ _ ((((Below.refl wr.heap.size wr).alloc (Nat.le_refl _) _).cell (p := ⟨w.heap.size + 1, 0, none⟩) hz1).trans c1) ((((Below.refl wr.heap.size wr).alloc (Nat.le_refl _) _).cell (p := ⟨w.heap.size + 1 + 1, 0, none⟩) hz2).trans c2) (by simp; omega) (by simp; omega)).mono ?_); rw [show (decide (0 ≤ pi ∧ pi < (xs.length : Int)) && decide (0 ≤ pk ∧ pk < (ts.length : Int))) = false from HIN.out]; rintro e w1 ⟨rfl, hb⟩; obtain ⟨s, rfl⟩ := ext_of_below hb; clear hb))
        go_roundw
        case rel => exact ⟨k + 1, by omega, by go_num, by rw [HS2.out], below_ext (HBW.out.alloc (by omega) _) (by simp; omega) _⟩
        case measure => simp [intOf]; omega
      · have hin' := hin
        rw [Bool.and_eq_true] at hin'
        obtain ⟨h1, h2⟩ := hin'
        have h1 : 0 ≤ pi ∧ pi < xs.length := of_decide_eq_true h1
        obtain ⟨i, rfl⟩ := Int.eq_ofNat_of_zero_le h1.1
        have hil : (i : Int) < (xs.length : Int) := h1.2
        obtain ⟨⟨xa, xb, xk, xs', xu⟩, hxi⟩ : ∃ s, xs[i]? = some s := ⟨_, List.getElem?_eq_getElem (by omega)⟩
        obtain ⟨b', o', rfl, hb', z0, z1, z2, z3, z4⟩ := its_cells (HX.out.below HBB.out) hxi
        have hcn := (⟨xa, xb, xk, xs', xu⟩ : It).cnt_in
        rw [hin] at HS
        have HS2 : Hid (agP xs ts (ps.take (k + 1)) = agP xs ts (ps.take k) + (⟨xa, xb, xk, xs', xu⟩ : It).cnt) := by
          have := HS.out
          rw [if_pos rfl] at this
          unfold Hid
          rw [this, uamt_at hxi]
        have HIN := Lib.hid hin
        have hag := HAI.out
        clear hin hxi h1 h2
        generalize hcc : (⟨xa, xb, xk, xs', xu⟩ : It).cnt = cn at *
        have HCN := Lib.hid hcc
        clear hcc
        generalize agP xs ts (ps.take k) = ag at *
        have hb2 : b' < wr.heap.size + 1 := by omega
        have hn3 : ¬ b' = wr.heap.size := by omega
        have hw : wrap64 (ag + cn) = ag + cn := by go_arith
        go_wp2_with (first
          | (go_at_call 27; (refine (inside_any _ _ _ _ _ _ _ _ _ _ _ ((((Below.refl wr.heap.size wr).alloc (Nat.le_refl _) _).cell (p := ⟨w.heap.size + 1, 0, none⟩) hz1).trans c1) ((((Below.refl wr.heap.size wr).alloc (Nat.le_refl _) _).cell (p := ⟨w.heap.size + 1 + 1, 0, none⟩) hz2).trans c2) (by simp; omega) (by simp; omega)).mono ?_); rw [show (decide (0 ≤ (i : Int) ∧ (i : Int) < (xs.length : Int)) && decide (0 ≤ pk ∧ pk < (ts.length : Int))) = true from HIN.out]; rintro e w1 ⟨rfl, hb⟩; obtain ⟨s, rfl⟩ := ext_of_below hb; clear hb)
          | (go_at_call 28; (with_reducible refine (runits_any xa xb xk xs' xu _).mono ?_); rw [HCN.out]; rintro e w1 ⟨rfl, hb⟩; obtain ⟨s, rfl⟩ := ext_of_below hb; clear hb))
        go_roundw
        case rel => exact ⟨k + 1, by omega, by go_num, by rw [HS2.out], below_ext (HBW.out.alloc (by omega) _) (by simp; omega) _⟩
        case measure => simp [intOf]; omega
    -->a
    · have hk' : ps.take k = ps := List.take_of_length_le (by omega)
      rw [hk']
      have HAP := Lib.hid (agP_in xs ts ps)
      clear hk' hbw hW0 hk
      generalize hPP : agP xs ts ps = ap at *
      go_wp2
      clear c1 c2 m1 m2 m3 hz0 hz1 hz2 hz3 hz4 hn1 hn2
      go_loopw [9, 10, 11, 46] (fun ag mo mt i wq => ∃ k : Nat, k ≤ ds.length ∧ i = .int .i64 k ∧ ag = .int .i64 (ap + sm (dA xs ts) (ds.take k)) ∧ mo = .int .i64 (sm (dM xs ts) (ds.take k)) ∧ mt = .int .i64 (sm (dN xs ts) (ds.take k)) ∧ Below w0.heap.size w0 wq) (fun _ _ _ i _ => ds.length - (intOf i).toNat)
      case atStart => exact ⟨0, Nat.zero_le _, rfl, by simp [sm], rfl, rfl, HBW.out⟩
      case round =>
        clear HBW HBB hsz
        obtain ⟨k, hk, rfl, rfl, rfl, rfl, hbw⟩ := hrel
        have hs0 : w0.heap.size = w.heap.size + 3 := by subst hW; simp
        have hsz := hbw.size
        have c1 : wr.cell? ⟨w.heap.size + 1, 0, none⟩ = some (.slice Ax xs.length cx) := (hbw.cell (p := ⟨w.heap.size + 1, 0, none⟩) (by simp [hs0])).trans (by subst hW; simp [go_sem])
        have c2 : wr.cell? ⟨w.heap.size + 1 + 1, 0, none⟩ = some (.slice At ts.length ct) := (hbw.cell (p := ⟨w.heap.size + 1 + 1, 0, none⟩) (by simp [hs0])).trans (by subst hW; simp [go_sem])
        have m1 : wr.cell? ⟨w.heap.size, 1, none⟩ = some (.slice Ad ds.length cd) := (hbw.cell (p := ⟨w.heap.size, 1, none⟩) (by simp [hs0])).trans (by subst hW; simp [go_sem])
        have m2 : wr.cell? ⟨w.heap.size, 2, none⟩ = some (.slice Au us.length cu) := (hbw.cell (p := ⟨w.heap.size, 2, none⟩) (by simp [hs0])).trans (by subst hW; simp [go_sem])
        have m3 : wr.cell? ⟨w.heap.size, 3, none⟩ = some (.slice Av vs.length cv) := (hbw.cell (p := ⟨w.heap.size, 3, none⟩) (by simp [hs0])).trans (by subst hW; simp [go_sem])
        have hz0 : w.heap.size < wr.heap.size := by omega
        have hz1 : w.heap.size + 1 < wr.heap.size := by omega
        have hz2 : w.heap.size + 1 + 1 < wr.heap.size := by omega
        have hn1 : ¬ w.heap.size + 1 = wr.heap.size := by omega
        have hn2 : ¬ w.heap.size + 1 + 1 = wr.heap.size := by omega
        have hz3 : w.heap.size + 1 < wr.heap.size + 1 := by omega
        have hz4 : w.heap.size + 1 + 1 < wr.heap.size + 1 := by omega
        have hW0 : Below w.heap.size w w0 := by
          subst hW
          exact (((Below.refl w.heap.size w).alloc (Nat.le_refl _) _).alloc (by simp) _).alloc (by simp; omega) _
        have HBW := Lib.hid hbw
        have HBB := Lib.hid ((hW0.trans (hbw.mono (by omega))).mono (Nat.le_refl _))
        have HAP2 := HAP.out
        have i1 := sm_in (dA_in xs ts) (ds.take k)
        have i2 := sm_in (dM_in xs ts) (ds.take k)
        have i3 := sm_in (dN_in xs ts) (ds.take k)
        have hkl : (ds.take k).length ≤ 24 := by simp; omega
        by_cases hlt : k < ds.length
        · obtain ⟨⟨pi, pk⟩, hpk⟩ : ∃ s, ds[k]? = some s := ⟨_, List.getElem?_eq_getElem hlt⟩
          obtain ⟨b, o, rfl, hb, x0, x1⟩ := prs_cells (HDS.out.below HBB.out) hpk
          have S1 := Lib.hid (sm_snoc (dA xs ts) hpk)
          have S2 := Lib.hid (sm_snoc (dM xs ts) hpk)
          have S3 := Lib.hid (sm_snoc (dN xs ts) hpk)
          clear hpk hbw hW0
          generalize sm (dA xs ts) (ds.take k) = sA at *
          generalize sm (dM xs ts) (ds.take k) = sM at *
          generalize sm (dN xs ts) (ds.take k) = sN at *
          cases hin : (uin xs pi && uin ts pk)
          --<b
          · have HIN := Lib.hid hin
            have T1 : Hid (sm (dA xs ts) (ds.take (k + 1)) = sA) := by
              have := S1.out
              simp only [dA, hin] at this
              unfold Hid
              simpa using this
            have T2 : Hid (sm (dM xs ts) (ds.take (k + 1)) = sM) := by
              have := S2.out
              simp only [dM, hin] at this
              unfold Hid
              simpa using this
            have T3 : Hid (sm (dN xs ts) (ds.take (k + 1)) = sN) := by
              have := S3.out
              simp only [dN, hin] at this
              unfold Hid
              simpa using this
            clear hin S1 S2 S3
            go_wp2_with (first
              | (go_at_call 27; (refine (inside_any _ _ _ _ _ _ _ _ _ _ _ ((((Below.refl wr.heap.size wr).alloc (Nat.le_refl _) _).cell (p := ⟨w.heap.size + 1, 0, none⟩) hz1).trans c1) ((((Below.refl wr.heap.size wr).alloc (Nat.le_refl _) _).cell (p := ⟨w.heap.size + 1 + 1, 0, none⟩) hz2).trans c2) (by simp; omega) (by simp; omega)).mono ?_); rw [show (decide (0 ≤ pi ∧ pi < (xs.length : Int)) && decide (0 ≤ pk ∧ pk < (ts.length : Int))) = false from HIN.out]; rintro e w1 ⟨rfl, hb⟩; obtain ⟨s, rfl⟩ := ext_of_below hb; clear hb))
            go_roundw
            case rel => exact ⟨k + 1, by omega, by go_num, by rw [T1.out], by rw [T2.out], by rw [T3.out], below_ext (HBW.out.alloc (by omega) _) (by simp; omega) _⟩
            case measure => simp [intOf]; omega
          -->b
          · have hin' := hin
            rw [Bool.and_eq_true] at hin'
            obtain ⟨h1, h2⟩ := hin'
            have h1 : 0 ≤ pi ∧ pi < xs.length := of_decide_eq_true h1
            have h2 : 0 ≤ pk ∧ pk < ts.length := of_decide_eq_true h2
            obtain ⟨i, rfl⟩ := Int.eq_ofNat_of_zero_le h1.1
            obtain ⟨j, rfl⟩ := Int.eq_ofNat_of_zero_le h2.1
            have hil : (i : Int) < (xs.length : Int) := h1.2
            have hjl : (j : Int) < (ts.length : Int) := h2.2
            obtain ⟨⟨xa, xb, xk, xs', xu⟩, hxi⟩ : ∃ s, xs[i]? = some s := ⟨_, List.getElem?_eq_getElem (by omega)⟩
            obtain ⟨⟨ya, yb, yk, ys', yu⟩, hyj⟩ : ∃ s, ts[j]? = some s := ⟨_, List.getElem?_eq_getElem (by omega)⟩
            obtain ⟨b', o', rfl, hb', z0, z1, z2, z3, z4⟩ := its_cells (HX.out.below HBB.out) hxi
            obtain ⟨b'', o'', rfl, hb'', v0, v1, v2, v3, v4⟩ := its_cells (HT.out.below HBB.out) hyj
            have hcn := (⟨xa, xb, xk, xs', xu⟩ : It).cnt_in
            have hdn := (⟨ya, yb, yk, ys', yu⟩ : It).cnt_in
            have E1 := uamt_at hxi
            have E2 := uamt_at hyj
            have HIN := Lib.hid hin
            generalize hcc : (⟨xa, xb, xk, xs', xu⟩ : It).cnt = cn at *
            generalize hdd : (⟨ya, yb, yk, ys', yu⟩ : It).cnt = dn at *
            have HU1 : Hid (∀ W, Calls Try.prog 28 #[.agg #[.string xa, .string xb, .int .i64 xk, .int .i64 xs', .int .i64 xu]] W fun e w' => e = .returned (.int .i64 cn) ∧ Below W.heap.size W w') := fun W => by
              rw [← hcc]
              exact runits_any xa xb xk xs' xu W
            have HU2 : Hid (∀ W, Calls Try.prog 28 #[.agg #[.string ya, .string yb, .int .i64 yk, .int .i64 ys', .int .i64 yu]] W fun e w' => e = .returned (.int .i64 dn) ∧ Below W.heap.size W w') := fun W => by
              rw [← hdd]
              exact runits_any ya yb yk ys' yu W
            have T1 : Hid (sm (dA xs ts) (ds.take (k + 1)) = sA + min cn dn) := by
              have := S1.out
              simp only [dA, hin, if_true, E1, E2] at this
              exact this
            have T2 : Hid (sm (dM xs ts) (ds.take (k + 1)) = sM + max (cn - dn) 0) := by
              have := S2.out
              simp only [dM, hin, if_true, E1, E2] at this
              exact this
            have T3 : Hid (sm (dN xs ts) (ds.take (k + 1)) = sN + max (dn - cn) 0) := by
              have := S3.out
              simp only [dN, hin, if_true, E1, E2] at this
              exact this
            clear hin hxi hyj h1 h2 E1 E2 hcc hdd S1 S2 S3
            have hb2 : b' < wr.heap.size + 1 := by omega
            have hn3 : ¬ b' = wr.heap.size := by omega
            have hb4 : b'' < wr.heap.size + 1 := by omega
            have hn4 : ¬ b'' = wr.heap.size := by omega
            go_wp2_with (first
              | (go_at_call 27; (refine (inside_any _ _ _ _ _ _ _ _ _ _ _ ((((Below.refl wr.heap.size wr).alloc (Nat.le_refl _) _).cell (p := ⟨w.heap.size + 1, 0, none⟩) hz1).trans c1) ((((Below.refl wr.heap.size wr).alloc (Nat.le_refl _) _).cell (p := ⟨w.heap.size + 1 + 1, 0, none⟩) hz2).trans c2) (by simp; omega) (by simp; omega)).mono ?_); rw [show (decide (0 ≤ (i : Int) ∧ (i : Int) < (xs.length : Int)) && decide (0 ≤ (j : Int) ∧ (j : Int) < (ts.length : Int))) = true from HIN.out]; rintro e w1 ⟨rfl, hb⟩; obtain ⟨s, rfl⟩ := ext_of_below hb; clear hb))
            refine wp_region_more (by kernel_rfl) (by kernel_rfl) ?_
            repeat (first | go_big_quiet_skip | quiet_step (first
              | (go_at_call 28; first | with_reducible exact more_call2 (HU1.out _) | with_reducible exact more_call2 (HU2.out _) | with_reducible exact more_call (HU1.out _) | with_reducible exact more_call (HU2.out _))))
            refine wpQuiet_nil ?_
            rintro _ ⟨s4, rfl⟩
            go_wp2_with fail
            go_roundw
            case rel => exact ⟨k + 1, by omega, by go_num, congrArg (Value.int .i64) (by rw [T1.out]; split <;> omega), congrArg (Value.int .i64) (by rw [T2.out]; split <;> omega), congrArg (Value.int .i64) (by rw [T3.out]; split <;> omega), below_ext (HBW.out.alloc (by omega) _) (by simp; omega) _⟩
            case measure => simp [intOf]; omega
        --<e
        · have hk' : ds.take k = ds := List.take_of_length_le (by omega)
          rw [hk'] at i1 i2 i3 ⊢
          clear hk' hbw hW0 hk hkl hz0 hz1 hz2 hz3 hz4 hn1 hn2 m1 HAP2
          generalize hAd : sm (dA xs ts) ds = ad at *
          generalize hMd : sm (dM xs ts) ds = md at *
          generalize hNd : sm (dN xs ts) ds = nd at *
          go_wp2
          go_loopw [10, 86] (fun mo i wq => ∃ k : Nat, k ≤ us.length ∧ i = .int .i64 k ∧ mo = .int .i64 (md + sm (uamt xs) (us.take k)) ∧ Below w0.heap.size w0 wq) (fun _ i _ => us.length - (intOf i).toNat)
          case atStart => exact ⟨0, Nat.zero_le _, rfl, by simp [sm], HBW.out⟩
          case round =>
            clear HBW HBB hsz c1 c2 m2 m3 hs0
            obtain ⟨k, hk, rfl, rfl, hbw⟩ := hrel
            have hs0 : w0.heap.size = w.heap.size + 3 := by subst hW; simp
            have hsz := hbw.size
            have c1 : wr.cell? ⟨w.heap.size + 1, 0, none⟩ = some (.slice Ax xs.length cx) := (hbw.cell (p := ⟨w.heap.size + 1, 0, none⟩) (by simp [hs0])).trans (by subst hW; simp [go_sem])
            have c2 : wr.cell? ⟨w.heap.size + 1 + 1, 0, none⟩ = some (.slice At ts.length ct) := (hbw.cell (p := ⟨w.heap.size + 1 + 1, 0, none⟩) (by simp [hs0])).trans (by subst hW; simp [go_sem])
            have m2 : wr.cell? ⟨w.heap.size, 2, none⟩ = some (.slice Au us.length cu) := (hbw.cell (p := ⟨w.heap.size, 2, none⟩) (by simp [hs0])).trans (by subst hW; simp [go_sem])
            have m3 : wr.cell? ⟨w.heap.size, 3, none⟩ = some (.slice Av vs.length cv) := (hbw.cell (p := ⟨w.heap.size, 3, none⟩) (by simp [hs0])).trans (by subst hW; simp [go_sem])
            have hW0 : Below w.heap.size w w0 := by
                subst hW
                exact (((Below.refl w.heap.size w).alloc (Nat.le_refl _) _).alloc (by simp) _).alloc (by simp; omega) _
            have HBW := Lib.hid hbw
            have HBB := Lib.hid ((hW0.trans (hbw.mono (by omega))).mono (Nat.le_refl _))
            have i1 := sm_in (uamt_in xs) (us.take k)
            have hkl : (us.take k).length ≤ 24 := by simp; omega
            by_cases hlt : k < us.length
            --<c
            · obtain ⟨pi, hpk⟩ : ∃ s, us[k]? = some s := ⟨_, List.getElem?_eq_getElem hlt⟩
              obtain ⟨b, o, rfl, hb, x0⟩ := nts_cells (HUS.out.below HBB.out) hpk
              have S1 := Lib.hid (sm_snoc (uamt xs) hpk)
              clear hpk hbw hW0
              generalize sm (uamt xs) (us.take k) = sM at *
              cases hin : uin xs pi
              · have E0 := uamt_out hin
                have hno : ¬ (0 ≤ pi ∧ pi < (xs.length : Int)) := of_decide_eq_false hin
                have T1 : Hid (sm (uamt xs) (us.take (k + 1)) = sM) := by
                  have := S1.out
                  unfold Hid
                  omega
                clear hin E0 S1
                by_cases hp0 : 0 ≤ pi
                · have hp1 : ¬ pi < (xs.length : Int) := by omega
                  clear hno
                  go_wp2
                  go_roundw
                  case rel => exact ⟨k + 1, by omega, by go_num, by rw [T1.out], HBW.out⟩
                  case measure => simp [intOf]; omega
                · clear hno
                  go_wp2
                  go_roundw
                  case rel => exact ⟨k + 1, by omega, by go_num, by rw [T1.out], HBW.out⟩
                  case measure => simp [intOf]; omega
              · have h1 : 0 ≤ pi ∧ pi < xs.length := of_decide_eq_true hin
                obtain ⟨i, rfl⟩ := Int.eq_ofNat_of_zero_le h1.1
                have hil : (i : Int) < (xs.length : Int) := h1.2
                obtain ⟨⟨xa, xb, xk, xs', xu⟩, hxi⟩ : ∃ s, xs[i]? = some s := ⟨_, List.getElem?_eq_getElem (by omega)⟩
                obtain ⟨b', o', rfl, hb', z0, z1, z2, z3, z4⟩ := its_cells (HX.out.below HBB.out) hxi
                have hcn := (⟨xa, xb, xk, xs', xu⟩ : It).cnt_in
                have E1 := uamt_at hxi
                generalize hcc : (⟨xa, xb, xk, xs', xu⟩ : It).cnt = cn at *
                have HCN := Lib.hid hcc
                have T1 : Hid (sm (uamt xs) (us.take (k + 1)) = sM + cn) := by
                  have := S1.out
                  rw [E1] at this
                  exact this
                clear hin hxi h1 E1 hcc S1
                have hw : wrap64 (md + sM + cn) = md + sM + cn := by go_arith
                go_wp2_with (first
                  | (go_at_call 28; (with_reducible refine (runits_any xa xb xk xs' xu _).mono ?_); rw [HCN.out]; rintro e w1 ⟨rfl, hb⟩; obtain ⟨s, rfl⟩ := ext_of_below hb; clear hb))
                go_roundw
                case rel => exact ⟨k + 1, by omega, by go_num, congrArg (Value.int .i64) (by rw [T1.out]; omega), below_ext HBW.out (by omega) _⟩
                case measure => simp [intOf]; omega
            -->c
            · have hk' : us.take k = us := List.take_of_length_le (by omega)
              rw [hk'] at i1 ⊢
              clear hk' hbw hW0 hk hkl
              generalize hM : sm (uamt xs) us = mu at *
              have HI := Lib.hid i1
              clear i1
              go_wp2
              go_loopw [11, 109] (fun mo i wq => ∃ k : Nat, k ≤ vs.length ∧ i = .int .i64 k ∧ mo = .int .i64 (nd + sm (uamt ts) (vs.take k)) ∧ Below w0.heap.size w0 wq) (fun _ i _ => vs.length - (intOf i).toNat)
              case atStart => exact ⟨0, Nat.zero_le _, rfl, by simp [sm], HBW.out⟩
              case round =>
                clear HBW HBB hsz c1 c2 m2 m3 hs0
                obtain ⟨k, hk, rfl, rfl, hbw⟩ := hrel
                have hs0 : w0.heap.size = w.heap.size + 3 := by subst hW; simp
                have hsz := hbw.size
                have c1 : wr.cell? ⟨w.heap.size + 1, 0, none⟩ = some (.slice Ax xs.length cx) := (hbw.cell (p := ⟨w.heap.size + 1, 0, none⟩) (by simp [hs0])).trans (by subst hW; simp [go_sem])
                have c2 : wr.cell? ⟨w.heap.size + 1 + 1, 0, none⟩ = some (.slice At ts.length ct) := (hbw.cell (p := ⟨w.heap.size + 1 + 1, 0, none⟩) (by simp [hs0])).trans (by subst hW; simp [go_sem])
                have m2 : wr.cell? ⟨w.heap.size, 2, none⟩ = some (.slice Au us.length cu) := (hbw.cell (p := ⟨w.heap.size, 2, none⟩) (by simp [hs0])).trans (by subst hW; simp [go_sem])
                have m3 : wr.cell? ⟨w.heap.size, 3, none⟩ = some (.slice Av vs.length cv) := (hbw.cell (p := ⟨w.heap.size, 3, none⟩) (by simp [hs0])).trans (by subst hW; simp [go_sem])
                have hW0 : Below w.heap.size w w0 := by
                    subst hW
                    exact (((Below.refl w.heap.size w).alloc (Nat.le_refl _) _).alloc (by simp) _).alloc (by simp; omega) _
                have HBW := Lib.hid hbw
                have HBB := Lib.hid ((hW0.trans (hbw.mono (by omega))).mono (Nat.le_refl _))
                have i1 := sm_in (uamt_in ts) (vs.take k)
                have hkl : (vs.take k).length ≤ 24 := by simp; omega
                by_cases hlt : k < vs.length
                --<d
                · obtain ⟨pi, hpk⟩ : ∃ s, vs[k]? = some s := ⟨_, List.getElem?_eq_getElem hlt⟩
                  obtain ⟨b, o, rfl, hb, x0⟩ := nts_cells (HVS.out.below HBB.out) hpk
                  have S1 := Lib.hid (sm_snoc (uamt ts) hpk)
                  clear hpk hbw hW0
                  generalize sm (uamt ts) (vs.take k) = sM at *
                  cases hin : uin ts pi
                  · have E0 := uamt_out hin
                    have hno : ¬ (0 ≤ pi ∧ pi < (ts.length : Int)) := of_decide_eq_false hin
                    have T1 : Hid (sm (uamt ts) (vs.take (k + 1)) = sM) := by
                      have := S1.out
                      unfold Hid
                      omega
                    clear hin E0 S1
                    by_cases hp0 : 0 ≤ pi
                    · have hp1 : ¬ pi < (ts.length : Int) := by omega
                      clear hno
                      go_wp2
                      go_roundw
                      case rel => exact ⟨k + 1, by omega, by go_num, by rw [T1.out], HBW.out⟩
                      case measure => simp [intOf]; omega
                    · clear hno
                      go_wp2
                      go_roundw
                      case rel => exact ⟨k + 1, by omega, by go_num, by rw [T1.out], HBW.out⟩
                      case measure => simp [intOf]; omega
                  · have h1 : 0 ≤ pi ∧ pi < ts.length := of_decide_eq_true hin
                    obtain ⟨i, rfl⟩ := Int.eq_ofNat_of_zero_le h1.1
                    have hil : (i : Int) < (ts.length : Int) := h1.2
                    obtain ⟨⟨xa, xb, xk, xs', xu⟩, hxi⟩ : ∃ s, ts[i]? = some s := ⟨_, List.getElem?_eq_getElem (by omega)⟩
                    obtain ⟨b', o', rfl, hb', z0, z1, z2, z3, z4⟩ := its_cells (HT.out.below HBB.out) hxi
                    have hcn := (⟨xa, xb, xk, xs', xu⟩ : It).cnt_in
                    have E1 := uamt_at hxi
                    generalize hcc : (⟨xa, xb, xk, xs', xu⟩ : It).cnt = cn at *
                    have HCN := Lib.hid hcc
                    have T1 : Hid (sm (uamt ts) (vs.take (k + 1)) = sM + cn) := by
                      have := S1.out
                      rw [E1] at this
                      exact this
                    clear hin hxi h1 E1 hcc S1
                    have hw : wrap64 (nd + sM + cn) = nd + sM + cn := by go_arith
                    go_wp2_with (first
                      | (go_at_call 28; (with_reducible refine (runits_any xa xb xk xs' xu _).mono ?_); rw [HCN.out]; rintro e w1 ⟨rfl, hb⟩; obtain ⟨s, rfl⟩ := ext_of_below hb; clear hb))
                    go_roundw
                    case rel => exact ⟨k + 1, by omega, by go_num, congrArg (Value.int .i64) (by rw [T1.out]; omega), below_ext HBW.out (by omega) _⟩
                    case measure => simp [intOf]; omega
                -->d
                · have hk' : vs.take k = vs := List.take_of_length_le (by omega)
                  rw [hk'] at i1 ⊢
                  clear hk' hbw hW0 hk hkl
                  generalize hN : sm (uamt ts) vs = nv at *
                  go_wp2
                  refine bodyPost_ret (by simp [results, Try.results13, go_sem]; first | done | rfl) rfl ?_
                  have HMd := Lib.hid hMd
                  refine ⟨by rw [← hPP, ← hAd, ← hMd, ← hNd, ← hM, ← hN], HBB.out⟩
        -->e
end Go.Proofs.Ytclaijheemkegaa

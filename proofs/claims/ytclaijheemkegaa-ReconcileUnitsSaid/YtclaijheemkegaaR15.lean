/-
  The walks of the laws on Compare and Units.
-/
import Derived.Test.YtclaijheemkegaaOpenR
import Derived.Test.YtclaijheemkegaaRq
namespace Go.Proofs.Ytclaijheemkegaa
open Go.RowKit
set_option linter.unusedSimpArgs false
set_option linter.unusedVariables false

theorem CmpR.form {m : Mt} {w w' : World} {e : Ending} (h : CmpR m w e w') : ∃ (A1 A2 A3 A4 : Option Addr) (c1 c2 c3 c4 : Nat), e = .returned (.agg #[.slice A1 m.pairs.length c1, .slice A2 m.differ.length c2, .slice A3 m.ours.length c3, .slice A4 m.theirs.length c4]) ∧ Prs w' A1 m.pairs ∧ Prs w' A2 m.differ ∧ Nts w' A3 m.ours ∧ Nts w' A4 m.theirs ∧ Below w.heap.size w w' := by
  obtain ⟨v1, v2, v3, v4, rfl, o1, o2, o3, o4, hb⟩ := h
  obtain ⟨A1, c1, rfl, p1⟩ := o1.form
  obtain ⟨A2, c2, rfl, p2⟩ := o2.form
  obtain ⟨A3, c3, rfl, p3⟩ := o3.form
  obtain ⟨A4, c4, rfl, p4⟩ := o4.form
  exact ⟨A1, A2, A3, A4, c1, c2, c3, c4, rfl, p1, p2, p3, p4, hb⟩

set_option maxRecDepth 100000 in
set_option maxHeartbeats 2000000 in
theorem walk_reconcileMatches (A0 : Option Addr) (n0 c0 : Nat) (A1 : Option Addr) (n1 c1 : Nat) (a : Int) (w : World) (h0 : InIts w A0 n0) (h1 : InIts w A1 n1) (ha : fits a) :
    Calls Try.prog 3 #[.slice A0 n0 c0, .slice A1 n1 c1, .int .i64 a] w fun e w' => e = .returned (.bool true) ∧ Below w.heap.size w w' := by
  obtain ⟨xs, rfl, hm0, hx, hwx⟩ := h0
  obtain ⟨ts, rfl, hm1, ht, hwt⟩ := h1
  have HX := Lib.hid hx
  have HT := Lib.hid ht
  have HWX := Lib.hid hwx
  have HWT := Lib.hid hwt
  have HA := Lib.hid ha
  clear hx ht hwx hwt ha
  by_cases g0 : (24 : Int) < (xs.length : Int)
  · go_enter Try.func3, Try.ntmps3
    go_wp2_with (go_at_call 9; with_reducible refine (alive_any _).mono ?_; rintro e w1 ⟨rfl, hb⟩; obtain ⟨s, rfl⟩ := ext_of_below hb; clear hb)
    go_ret
    refine ⟨rfl, ?_⟩
    repeat' (first | exact Below.refl _ _ | refine below_ext ?_ ?_ _ | refine Below.alloc ?_ ?_ _ | refine Below.setCell ?_ ?_ _ | refine Below.drew ?_ | (rw [size_ext]; refine Nat.le_add_right_of_le ?_) | go_size | (rw [World.size_alloc]; refine Nat.le_add_right_of_le ?_))
  by_cases g1 : (24 : Int) < (ts.length : Int)
  · go_enter Try.func3, Try.ntmps3
    go_wp2_with (go_at_call 9; with_reducible refine (alive_any _).mono ?_; rintro e w1 ⟨rfl, hb⟩; obtain ⟨s, rfl⟩ := ext_of_below hb; clear hb)
    go_ret
    refine ⟨rfl, ?_⟩
    repeat' (first | exact Below.refl _ _ | refine below_ext ?_ ?_ _ | refine Below.alloc ?_ ?_ _ | refine Below.setCell ?_ ?_ _ | refine Below.drew ?_ | (rw [size_ext]; refine Nat.le_add_right_of_le ?_) | go_size | (rw [World.size_alloc]; refine Nat.le_add_right_of_le ?_))
  have hxl : xs.length ≤ 24 := by omega
  have htl : ts.length ≤ 24 := by omega
  have HC1 := Lib.hid (fun W (h : Below w.heap.size w W) => comp_any xs ts a A0 A1 c0 c1 W (HX.out.below h) (HT.out.below h) hxl htl HA.out HWX.out HWT.out)
  have HC2 := Lib.hid (fun W (h : Below w.heap.size w W) => rcomp_any xs ts a A0 A1 c0 c1 W (HX.out.below h) (HT.out.below h) hxl htl HA.out HWX.out HWT.out)
  obtain ⟨n1, n2, n3, n4⟩ := cmp_lens xs ts a hxl htl
  generalize cmp xs ts a = m at *
  go_enter Try.func3, Try.ntmps3
  go_wp2_with (first
    | (go_at_call 11; refine (HC1.out _ (Below.refl _ _)).mono ?_; intro e w1 hR; obtain ⟨P1, P2, P3, P4, q1, q2, q3, q4, rfl, o1, o2, o3, o4, hb⟩ := hR.form; have HB1 := Lib.hid hb; have O1 := Lib.hid o1; have O2 := Lib.hid o2; have O3 := Lib.hid o3; have O4 := Lib.hid o4; clear hR hb o1 o2 o3 o4)
    | (go_at_call 12; refine (HC2.out _ HB1.out).mono ?_; intro e w2 hR; obtain ⟨R1, R2, R3, R4, r1, r2, r3, r4, rfl, o1, o2, o3, o4, hb⟩ := hR.form; obtain ⟨s2, rfl⟩ := ext_of_below hb; have T1 := Lib.hid o1; have T2 := Lib.hid o2; have T3 := Lib.hid o3; have T4 := Lib.hid o4; clear hR hb o1 o2 o3 o4)
    | (go_at_call 10; refine (same_any m P1 P2 P3 P4 R1 R2 R3 R4 q1 q2 q3 q4 r1 r2 r3 r4 _ (O1.out.ext s2) (O2.out.ext s2) (O3.out.ext s2) (O4.out.ext s2) T1.out T2.out T3.out T4.out (by omega) (by omega) (by omega) (by omega)).mono ?_; rintro e w1 ⟨rfl, hb⟩; obtain ⟨s, rfl⟩ := ext_of_below hb; clear hb)
    | (go_at_call 9; with_reducible refine (alive_any _).mono ?_; rintro e w1 ⟨rfl, hb⟩; obtain ⟨s, rfl⟩ := ext_of_below hb; clear hb))
  go_ret
  exact ⟨rfl, below_ext HB1.out HB1.out.size _⟩

set_option maxRecDepth 100000 in
set_option maxHeartbeats 2000000 in
theorem walk_reconcileSums (A0 : Option Addr) (n0 c0 : Nat) (A1 : Option Addr) (n1 c1 : Nat) (a : Int) (w : World) (h0 : InIts w A0 n0) (h1 : InIts w A1 n1) (ha : fits a) :
    Calls Try.prog 6 #[.slice A0 n0 c0, .slice A1 n1 c1, .int .i64 a] w fun e w' => e = .returned (.bool true) ∧ Below w.heap.size w w' := by
  obtain ⟨xs, rfl, hm0, hx, hwx⟩ := h0
  obtain ⟨ts, rfl, hm1, ht, hwt⟩ := h1
  have HX := Lib.hid hx
  have HT := Lib.hid ht
  have HWX := Lib.hid hwx
  have HWT := Lib.hid hwt
  have HA := Lib.hid ha
  clear hx ht hwx hwt ha
  by_cases g0 : (24 : Int) < (xs.length : Int)
  · go_enter Try.func6, Try.ntmps6
    go_wp2_with (go_at_call 9; with_reducible refine (alive_any _).mono ?_; rintro e w1 ⟨rfl, hb⟩; obtain ⟨s, rfl⟩ := ext_of_below hb; clear hb)
    go_ret
    refine ⟨rfl, ?_⟩
    repeat' (first | exact Below.refl _ _ | refine below_ext ?_ ?_ _ | refine Below.alloc ?_ ?_ _ | refine Below.setCell ?_ ?_ _ | refine Below.drew ?_ | (rw [size_ext]; refine Nat.le_add_right_of_le ?_) | go_size | (rw [World.size_alloc]; refine Nat.le_add_right_of_le ?_))
  by_cases g1 : (24 : Int) < (ts.length : Int)
  · go_enter Try.func6, Try.ntmps6
    go_wp2_with (go_at_call 9; with_reducible refine (alive_any _).mono ?_; rintro e w1 ⟨rfl, hb⟩; obtain ⟨s, rfl⟩ := ext_of_below hb; clear hb)
    go_ret
    refine ⟨rfl, ?_⟩
    repeat' (first | exact Below.refl _ _ | refine below_ext ?_ ?_ _ | refine Below.alloc ?_ ?_ _ | refine Below.setCell ?_ ?_ _ | refine Below.drew ?_ | (rw [size_ext]; refine Nat.le_add_right_of_le ?_) | go_size | (rw [World.size_alloc]; refine Nat.le_add_right_of_le ?_))
  have hxl : xs.length ≤ 24 := by omega
  have htl : ts.length ≤ 24 := by omega
  have HC1 := Lib.hid (fun W (h : Below w.heap.size w W) => comp_any xs ts a A0 A1 c0 c1 W (HX.out.below h) (HT.out.below h) hxl htl HA.out HWX.out HWT.out)
  obtain ⟨n1, n2, n3, n4⟩ := cmp_lens xs ts a hxl htl
  obtain ⟨e1, e2⟩ := cmp_sums xs ts a
  generalize cmp xs ts a = m at *
  have HU := Lib.hid (fun P1 P2 P3 P4 q1 q2 q3 q4 W (h : Below w.heap.size w W) (o1 : Prs W P1 m.pairs) (o2 : Prs W P2 m.differ) (o3 : Nts W P3 m.ours) (o4 : Nts W P4 m.theirs) => units_any m.pairs m.differ m.ours m.theirs xs ts P1 P2 P3 P4 A0 A1 q1 q2 q3 q4 c0 c1 W o1 o2 o3 o4 (HX.out.below h) (HT.out.below h) n1 n2 n3 n4)
  have b1 := agP_in xs ts m.pairs
  have b2 := sm_in (dA_in xs ts) m.differ
  have b3 := sm_in (dM_in xs ts) m.differ
  have b4 := sm_in (dN_in xs ts) m.differ
  have b5 := sm_in (uamt_in xs) m.ours
  have b6 := sm_in (uamt_in ts) m.theirs
  have HT1 := Lib.hid (fun W (h : Below w.heap.size w W) => total_any xs A0 c0 W (HX.out.below h) hxl)
  have HT2 := Lib.hid (fun W (h : Below w.heap.size w W) => total_any ts A1 c1 W (HT.out.below h) htl)
  have f1 : 0 ≤ agP xs ts m.pairs + sm (dA xs ts) m.differ ∧ agP xs ts m.pairs + sm (dA xs ts) m.differ ≤ 1099511627776 * 48 := by omega
  have f2 : 0 ≤ sm (dM xs ts) m.differ + sm (uamt xs) m.ours ∧ sm (dM xs ts) m.differ + sm (uamt xs) m.ours ≤ 1099511627776 * 48 := by omega
  have f3 : 0 ≤ sm (dN xs ts) m.differ + sm (uamt ts) m.theirs ∧ sm (dN xs ts) m.differ + sm (uamt ts) m.theirs ≤ 1099511627776 * 48 := by omega
  clear b1 b2 b3 b4 b5 b6
  generalize agP xs ts m.pairs + sm (dA xs ts) m.differ = ag at *
  generalize sm (dM xs ts) m.differ + sm (uamt xs) m.ours = mo at *
  generalize sm (dN xs ts) m.differ + sm (uamt ts) m.theirs = mt at *
  generalize sm It.cnt xs = t1 at *
  generalize sm It.cnt ts = t2 at *
  subst e1
  subst e2
  have hw1 : IntKind.i64.wrap (ag + mo) = ag + mo := IntWalk.i64_in _ ⟨by omega, by omega⟩
  have hw2 : IntKind.i64.wrap (ag + mt) = ag + mt := IntWalk.i64_in _ ⟨by omega, by omega⟩
  obtain ⟨f1, -⟩ := f1
  obtain ⟨f2, -⟩ := f2
  obtain ⟨f3, -⟩ := f3
  go_enter Try.func6, Try.ntmps6
  go_wp2_with (first
    | (go_at_call 11; refine (HC1.out _ (Below.refl _ _)).mono ?_; intro e w1 hR; obtain ⟨P1, P2, P3, P4, q1, q2, q3, q4, rfl, o1, o2, o3, o4, hb⟩ := hR.form; have HB1 := Lib.hid hb; have O1 := Lib.hid o1; have O2 := Lib.hid o2; have O3 := Lib.hid o3; have O4 := Lib.hid o4; clear hR hb o1 o2 o3 o4)
    | (go_at_call 13; refine (HU.out P1 P2 P3 P4 q1 q2 q3 q4 _ HB1.out O1.out O2.out O3.out O4.out).mono ?_; rintro e w1 ⟨rfl, hb⟩; obtain ⟨s, rfl⟩ := ext_of_below hb; clear hb)
    | (go_at_call 16; with_reducible refine (HT1.out _ ?_).mono ?_; (· exact below_ext HB1.out HB1.out.size _); rintro e w3 ⟨rfl, hb⟩; obtain ⟨s3, rfl⟩ := ext_of_below hb; clear hb)
    | (go_at_call 16; with_reducible refine (HT2.out _ ?_).mono ?_; (· exact below_ext HB1.out HB1.out.size _); rintro e w3 ⟨rfl, hb⟩; obtain ⟨s4, rfl⟩ := ext_of_below hb; clear hb)
    | (go_at_call 9; with_reducible refine (alive_any _).mono ?_; rintro e w1 ⟨rfl, hb⟩; obtain ⟨s, rfl⟩ := ext_of_below hb; clear hb))
  go_ret
  exact ⟨rfl, below_ext HB1.out HB1.out.size _⟩

set_option maxRecDepth 100000 in
set_option maxHeartbeats 2000000 in
theorem walk_reconcileSame (A0 : Option Addr) (n0 c0 : Nat) (a : Int) (w : World) (h0 : InIts w A0 n0) (ha : fits a) :
    Calls Try.prog 7 #[.slice A0 n0 c0, .int .i64 a] w fun e w' => e = .returned (.bool true) ∧ Below w.heap.size w w' := by
  obtain ⟨xs, rfl, hm0, hx, hwx⟩ := h0
  have HX := Lib.hid hx
  have HWX := Lib.hid hwx
  have HA := Lib.hid ha
  clear hx hwx ha
  by_cases g0 : (24 : Int) < (xs.length : Int)
  · go_enter Try.func7, Try.ntmps7
    go_wp2_with (go_at_call 9; with_reducible refine (alive_any _).mono ?_; rintro e w1 ⟨rfl, hb⟩; obtain ⟨s, rfl⟩ := ext_of_below hb; clear hb)
    go_ret
    refine ⟨rfl, ?_⟩
    repeat' (first | exact Below.refl _ _ | refine below_ext ?_ ?_ _ | refine Below.alloc ?_ ?_ _ | refine Below.setCell ?_ ?_ _ | refine Below.drew ?_ | (rw [size_ext]; refine Nat.le_add_right_of_le ?_) | go_size | (rw [World.size_alloc]; refine Nat.le_add_right_of_le ?_))
  by_cases g1 : a < 0
  · go_enter Try.func7, Try.ntmps7
    go_wp2_with (go_at_call 9; with_reducible refine (alive_any _).mono ?_; rintro e w1 ⟨rfl, hb⟩; obtain ⟨s, rfl⟩ := ext_of_below hb; clear hb)
    go_ret
    refine ⟨rfl, ?_⟩
    repeat' (first | exact Below.refl _ _ | refine below_ext ?_ ?_ _ | refine Below.alloc ?_ ?_ _ | refine Below.setCell ?_ ?_ _ | refine Below.drew ?_ | (rw [size_ext]; refine Nat.le_add_right_of_le ?_) | go_size | (rw [World.size_alloc]; refine Nat.le_add_right_of_le ?_))
  have hxl : xs.length ≤ 24 := by omega
  have HC1 := Lib.hid (fun W (h : Below w.heap.size w W) => comp_any xs xs a A0 A0 c0 c0 W (HX.out.below h) (HX.out.below h) hxl hxl HA.out HWX.out HWX.out)
  obtain ⟨n1, n2, n3, n4⟩ := cmp_lens xs xs a hxl hxl
  have e1 := self_sums xs a (by omega)
  have hm := cmp_self xs a (by omega)
  have l1 : (cmp xs xs a).pairs.length = xs.length := by rw [hm]; exact upto_len _
  have l2 : (cmp xs xs a).differ.length = 0 := by rw [hm]; rfl
  have l3 : (cmp xs xs a).ours.length = 0 := by rw [hm]; rfl
  have l4 : (cmp xs xs a).theirs.length = 0 := by rw [hm]; rfl
  have z1 : agP xs xs (cmp xs xs a).pairs + sm (dA xs xs) (cmp xs xs a).differ = sm It.cnt xs := by rw [hm]; show agP xs xs (upto xs.length) + sm (dA xs xs) [] = sm It.cnt xs; rw [e1]; simp [sm]
  have z2 : sm (dM xs xs) (cmp xs xs a).differ + sm (uamt xs) (cmp xs xs a).ours = 0 := by rw [hm]; rfl
  have z3 : sm (dN xs xs) (cmp xs xs a).differ + sm (uamt xs) (cmp xs xs a).theirs = 0 := by rw [hm]; rfl
  clear hm e1
  generalize cmp xs xs a = m at *
  have hu := fun P1 P2 P3 P4 q1 q2 q3 q4 W (h : Below w.heap.size w W) (o1 : Prs W P1 m.pairs) (o2 : Prs W P2 m.differ) (o3 : Nts W P3 m.ours) (o4 : Nts W P4 m.theirs) => units_any m.pairs m.differ m.ours m.theirs xs xs P1 P2 P3 P4 A0 A0 q1 q2 q3 q4 c0 c0 W o1 o2 o3 o4 (HX.out.below h) (HX.out.below h) n1 n2 n3 n4
  rw [z1, z2, z3] at hu
  simp only [l1, l2, l3, l4] at hu
  have HU := Lib.hid hu
  have HT1 := Lib.hid (fun W (h : Below w.heap.size w W) => total_any xs A0 c0 W (HX.out.below h) hxl)
  clear hu z1 z2 z3
  generalize sm It.cnt xs = t1 at *
  go_enter Try.func7, Try.ntmps7
  go_wp2_with (first
    | (go_at_call 11; refine (HC1.out _ (Below.refl _ _)).mono ?_; intro e w1 hR; obtain ⟨P1, P2, P3, P4, q1, q2, q3, q4, rfl, o1, o2, o3, o4, hb⟩ := hR.form; have HB1 := Lib.hid hb; have O1 := Lib.hid o1; have O2 := Lib.hid o2; have O3 := Lib.hid o3; have O4 := Lib.hid o4; clear hR hb o1 o2 o3 o4)
    | (go_at_call 13; refine (HU.out P1 P2 P3 P4 q1 q2 q3 q4 _ (HB1.out.alloc HB1.out.size _) (O1.out.alloc _) (O2.out.alloc _) (O3.out.alloc _) (O4.out.alloc _)).mono ?_; rintro e w1 ⟨rfl, hb⟩; obtain ⟨s, rfl⟩ := ext_of_below hb; clear hb)
    | (go_at_call 16; refine (HT1.out _ ?_).mono ?_; (· exact below_ext (HB1.out.alloc HB1.out.size _) (by simp; have := HB1.out.size; omega) _); rintro e w3 ⟨rfl, hb⟩; obtain ⟨s3, rfl⟩ := ext_of_below hb; clear hb)
    | (go_at_call 9; with_reducible refine (alive_any _).mono ?_; rintro e w1 ⟨rfl, hb⟩; obtain ⟨s, rfl⟩ := ext_of_below hb; clear hb))
  go_ret
  exact ⟨rfl, below_ext (HB1.out.alloc HB1.out.size _) (by simp; have := HB1.out.size; omega) _⟩

set_option maxRecDepth 100000 in
set_option maxHeartbeats 4000000 in
theorem walk_reconcileUnits (v : Value) (A0 : Option Addr) (n0 c0 : Nat) (A1 : Option Addr) (n1 c1 : Nat) (w : World) (hv : InMt w v) (h0 : InIts w A0 n0) (h1 : InIts w A1 n1) :
    Calls Try.prog 4 #[v, .slice A0 n0 c0, .slice A1 n1 c1] w fun e w' => e = .returned (.bool true) ∧ Below w.heap.size w w' := by
  obtain ⟨xs, rfl, hm0, hx, hwx⟩ := h0
  obtain ⟨ts, rfl, hm1, ht, hwt⟩ := h1
  obtain ⟨Ap, Ad, Au, Av, np, nd, nu, nv, cp, cd, cu, cv, rfl, ⟨ps, rfl, hm2, hp⟩, ⟨ds, rfl, hm3, hd⟩, ⟨us, rfl, hm4, hu⟩, ⟨vs, rfl, hm5, hv⟩⟩ := hv
  have HX := Lib.hid hx
  have HT := Lib.hid ht
  have HP := Lib.hid hp
  have HD := Lib.hid hd
  have HU := Lib.hid hu
  have HV := Lib.hid hv
  clear hx ht hwx hwt hp hd hu hv
  by_cases hall : xs.length ≤ 24 ∧ ts.length ≤ 24 ∧ ps.length ≤ 24 ∧ ds.length ≤ 24 ∧ us.length ≤ 24 ∧ vs.length ≤ 24
  · obtain ⟨a1, a2, a3, a4, a5, a6⟩ := hall
    have b1 : ¬ (24 : Int) < (xs.length : Int) := by omega
    have b2 : ¬ (24 : Int) < (ts.length : Int) := by omega
    have b3 : ¬ (24 : Int) < (ps.length : Int) := by omega
    have b4 : ¬ (24 : Int) < (ds.length : Int) := by omega
    have b5 : ¬ (24 : Int) < (us.length : Int) := by omega
    have b6 : ¬ (24 : Int) < (vs.length : Int) := by omega
    have HC1 := Lib.hid (fun W (h : Below w.heap.size w W) => units_any ps ds us vs xs ts Ap Ad Au Av A0 A1 cp cd cu cv c0 c1 W (HP.out.below h) (HD.out.below h) (HU.out.below h) (HV.out.below h) (HX.out.below h) (HT.out.below h) a3 a4 a5 a6)
    have HC2 := Lib.hid (fun W (h : Below w.heap.size w W) => rsums_any ps ds us vs xs ts Ap Ad Au Av A0 A1 cp cd cu cv c0 c1 W (HP.out.below h) (HD.out.below h) (HU.out.below h) (HV.out.below h) (HX.out.below h) (HT.out.below h) a3 a4 a5 a6 a1 a2)
    generalize agP xs ts ps + sm (dA xs ts) ds = r1 at *
    generalize sm (dM xs ts) ds + sm (uamt xs) us = r2 at *
    generalize sm (dN xs ts) ds + sm (uamt ts) vs = r3 at *
    go_enter Try.func4, Try.ntmps4
    go_wp2_with (first
      | (go_at_call 13; with_reducible refine (HC1.out _ ?_).mono ?_; (· repeat' (first | exact Below.refl _ _ | refine below_ext ?_ ?_ _ | refine Below.alloc ?_ ?_ _ | refine Below.setCell ?_ ?_ _ | refine Below.drew ?_ | (rw [size_ext]; refine Nat.le_add_right_of_le ?_) | go_size | (rw [World.size_alloc]; refine Nat.le_add_right_of_le ?_))); rintro e w3 ⟨rfl, hb⟩; obtain ⟨s3, rfl⟩ := ext_of_below hb; clear hb)
      | (go_at_call 14; with_reducible refine (HC2.out _ ?_).mono ?_; (· repeat' (first | exact Below.refl _ _ | refine below_ext ?_ ?_ _ | refine Below.alloc ?_ ?_ _ | refine Below.setCell ?_ ?_ _ | refine Below.drew ?_ | (rw [size_ext]; refine Nat.le_add_right_of_le ?_) | go_size | (rw [World.size_alloc]; refine Nat.le_add_right_of_le ?_))); rintro e w3 ⟨rfl, hb⟩; obtain ⟨s4, rfl⟩ := ext_of_below hb; clear hb)
      | (go_at_call 9; with_reducible refine (alive_any _).mono ?_; rintro e w1 ⟨rfl, hb⟩; obtain ⟨s, rfl⟩ := ext_of_below hb; clear hb))
    go_ret
    refine ⟨rfl, ?_⟩
    repeat' (first | exact Below.refl _ _ | refine below_ext ?_ ?_ _ | refine Below.alloc ?_ ?_ _ | refine Below.setCell ?_ ?_ _ | refine Below.drew ?_ | (rw [size_ext]; refine Nat.le_add_right_of_le ?_) | go_size | (rw [World.size_alloc]; refine Nat.le_add_right_of_le ?_))
  · have hsome : (24 : Int) < (xs.length : Int) ∨ (¬ (24 : Int) < (xs.length : Int) ∧ (24 : Int) < (ts.length : Int)) ∨ (¬ (24 : Int) < (xs.length : Int) ∧ ¬ (24 : Int) < (ts.length : Int) ∧ (24 : Int) < (ps.length : Int)) ∨ (¬ (24 : Int) < (xs.length : Int) ∧ ¬ (24 : Int) < (ts.length : Int) ∧ ¬ (24 : Int) < (ps.length : Int) ∧ (24 : Int) < (ds.length : Int)) ∨ (¬ (24 : Int) < (xs.length : Int) ∧ ¬ (24 : Int) < (ts.length : Int) ∧ ¬ (24 : Int) < (ps.length : Int) ∧ ¬ (24 : Int) < (ds.length : Int) ∧ (24 : Int) < (us.length : Int)) ∨ (¬ (24 : Int) < (xs.length : Int) ∧ ¬ (24 : Int) < (ts.length : Int) ∧ ¬ (24 : Int) < (ps.length : Int) ∧ ¬ (24 : Int) < (ds.length : Int) ∧ ¬ (24 : Int) < (us.length : Int) ∧ (24 : Int) < (vs.length : Int)) := by omega
    clear hall
    rcases hsome with b1 | ⟨b1, b2⟩ | ⟨b1, b2, b3⟩ | ⟨b1, b2, b3, b4⟩ | ⟨b1, b2, b3, b4, b5⟩ | ⟨b1, b2, b3, b4, b5, b6⟩
    all_goals
      go_enter Try.func4, Try.ntmps4
      go_wp2_with (go_at_call 9; with_reducible refine (alive_any _).mono ?_; rintro e w1 ⟨rfl, hb⟩; obtain ⟨s, rfl⟩ := ext_of_below hb; clear hb)
      go_ret
      refine ⟨rfl, ?_⟩
      repeat' (first | exact Below.refl _ _ | refine below_ext ?_ ?_ _ | refine Below.alloc ?_ ?_ _ | refine Below.setCell ?_ ?_ _ | refine Below.drew ?_ | (rw [size_ext]; refine Nat.le_add_right_of_le ?_) | go_size | (rw [World.size_alloc]; refine Nat.le_add_right_of_le ?_))
end Go.Proofs.Ytclaijheemkegaa

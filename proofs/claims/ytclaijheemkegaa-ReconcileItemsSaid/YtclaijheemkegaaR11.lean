/-
  The walk of the reference's Compare.
-/
import Derived.Test.YtclaijheemkegaaR10
import Derived.Deep.DeepCutAuto
import Derived.Deep.RegionHeld3
import Derived.Laws.MakeOwn
import Derived.Laws.OwnMore
namespace Go.Proofs.Ytclaijheemkegaa
open Go.RowKit
set_option linter.unusedSimpArgs false
set_option linter.unusedVariables false

/-- What a Compare returns. -/
def CmpR (m : Mt) (w : World) (e : Ending) (w' : World) : Prop := ∃ v1 v2 v3 v4, e = .returned (.agg #[v1, v2, v3, v4]) ∧ OwnPrs w' w.heap.size v1 m.pairs ∧ OwnPrs w' w.heap.size v2 m.differ ∧ OwnNts w' w.heap.size v3 m.ours ∧ OwnNts w' w.heap.size v4 m.theirs ∧ Below w.heap.size w w'

theorem own_low {w : World} {B size n k i : Nat} {e : TypeId} {v x : Value} {xs : List Value} (h : w.ownsRow B e size v n xs) (hk : k < B) : (w.setCell ⟨k, i, none⟩ x).ownsRow B e size v n xs :=
  own_heap h fun j hj _ => Below.heap_setCell w ⟨k, i, none⟩ x j (fun e => by
    simp only at e
    omega)
/-- A row of bools is made. -/
theorem make_bools (n : Nat) (hn : n ≤ 24) (W : World) : (Instr.makeSlice 34 (.int .i64 (n : Int)) (.int .i64 (n : Int))).run Try.prog W = .ok (.slice (some ⟨W.heap.size, 0, none⟩) n n) (W.alloc (.cells (Array.replicate n (.bool false)) 4)) := by
  obtain ⟨i0, hi0, hz0, hz1, hz2⟩ := info_parts info_bool
  have h := run_makeSlice (P := Try.prog) (w := W) 34 4 i0 _ Try.underlying34 hi0 hz0 .i64 .i64 (n : Int) (n : Int) (by omega) (Int.le_refl _) (by rw [hz1]; omega) (by rw [hz2]; omega) (by omega)
  rw [h, hz1]
  simp only [Int.toNat_natCast, Nat.mul_one]
  congr 2
  congr 1
  rw [← Array.toList_inj]
  rw [Array.toList_replicate]
  exact toList_madeCells_one _ _
theorem made_bools (n : Nat) (hn : n ≤ 24) (W : World) (B N : Nat) (hN : N = W.heap.size) (hB : B ≤ W.heap.size) : OwnBs (W.alloc (.cells (Array.replicate n (Value.bool false)) 4)) B N (List.replicate n false) := by
  subst hN
  have h := World.ownsRow_lit (base := B) (e := 4) (size := 1) W (Array.replicate n (Value.bool false)) n hB (by simp only [maxLen]; omega) (by simp)
  unfold OwnBs
  simpa using h
theorem Kp.frozen {M U : Nat} {w w' : World} (h : Kp M U w w') {g j : Nat} (hg : g < w.heap.size) (h1 : g ≠ M) (h2 : g ≠ U) : w'.frozen? ⟨g, j, none⟩ = w.frozen? ⟨g, j, none⟩ := World.frozen?_of_block (w := w) (a := ⟨g, j, none⟩) (h.block g hg h1 h2)

theorem rpass_any' (xs ts : List It) (slack : Int) (ex : Bool) (mine used : List Bool) (Ax At : Option Addr) (cx ct : Nat) (M U : Nat) (w0 w : World) (hb0 : Below w0.heap.size w0 w) (hx : Its w0 Ax xs) (ht : Its w0 At ts) (hM : OwnBs w w0.heap.size M mine) (hU : OwnBs w w0.heap.size U used) (hMU : M ≠ U)
    (hm : mine.length = xs.length) (hu : used.length = ts.length) (hxl : xs.length ≤ 24) (htl : ts.length ≤ 24) (hsl : fits slack) (hwx : Wide xs) (hwt : Wide ts) :
    Calls Try.prog 25 #[.slice Ax xs.length cx, .slice At ts.length ct, .int .i64 slack, .bool ex, .slice (some ⟨M, 0, none⟩) xs.length xs.length, .slice (some ⟨U, 0, none⟩) ts.length ts.length] w (PassR (passN xs ts slack ex mine used xs.length) w0.heap.size M U w) := by
  have h := rpass_any xs ts slack ex mine used Ax At cx ct M U w0 w hb0 hx ht hM hU hMU hm hu hxl htl hsl hwx hwt
  rw [hm, hu] at h
  exact h
theorem left_any' (l : List Bool) (L c n : Nat) (w : World) (hl : l.length = n) (hn : n ≤ 1000) {B : Nat} (h : OwnBs w B L l) :
    Calls Try.prog 26 #[.slice (some ⟨L, 0, none⟩) n c] w fun e w' => ∃ v, e = .returned v ∧ OwnNts w' w.heap.size v (leftN l n) ∧ Below w.heap.size w w' := by
  subst hl
  exact left_any l L c w hn (fun j b hj => (h.at hj).1) h.lt.2
theorem open_any' (l : List Bool) (L c n : Nat) (w : World) (hl : l.length = n) (hn : n ≤ 1000) {B : Nat} (h : OwnBs w B L l) :
    Calls Try.prog 24 #[.slice (some ⟨L, 0, none⟩) n c] w fun e w' => ∃ v, e = .returned v ∧ OwnNts w' w.heap.size v (leftN l n) ∧ Below w.heap.size w w' := by
  subst hl
  exact open_any l L c w hn (fun j b hj => (h.at hj).1) h.lt.2

/-- A block of four cells. -/
structure Box4 (w : World) (O : Nat) (a b c d : Value) : Prop where
  lt : O < w.heap.size
  c0 : w.cell? ⟨O, 0, none⟩ = some a
  c1 : w.cell? ⟨O, 1, none⟩ = some b
  c2 : w.cell? ⟨O, 2, none⟩ = some c
  c3 : w.cell? ⟨O, 3, none⟩ = some d
  f0 : w.frozen? ⟨O, 0, none⟩ = false
  f1 : w.frozen? ⟨O, 1, none⟩ = false
  f2 : w.frozen? ⟨O, 2, none⟩ = false
  f3 : w.frozen? ⟨O, 3, none⟩ = false
theorem Box4.kp {M U : Nat} {w w' : World} {O : Nat} {a b c d : Value} (h : Box4 w O a b c d) (k : Kp M U w w') (h1 : O ≠ M) (h2 : O ≠ U) : Box4 w' O a b c d :=
  ⟨Nat.lt_of_lt_of_le h.lt k.size, (k.cell h.lt h1 h2).trans h.c0, (k.cell h.lt h1 h2).trans h.c1, (k.cell h.lt h1 h2).trans h.c2, (k.cell h.lt h1 h2).trans h.c3, (k.frozen h.lt h1 h2).trans h.f0, (k.frozen h.lt h1 h2).trans h.f1, (k.frozen h.lt h1 h2).trans h.f2, (k.frozen h.lt h1 h2).trans h.f3⟩
theorem Box4.below {w w' : World} {O : Nat} {a b c d : Value} (h : Box4 w O a b c d) (k : Below w.heap.size w w') : Box4 w' O a b c d :=
  ⟨Nat.lt_of_lt_of_le h.lt k.size, (k.cell (p := ⟨O, 0, none⟩) h.lt).trans h.c0, (k.cell (p := ⟨O, 1, none⟩) h.lt).trans h.c1, (k.cell (p := ⟨O, 2, none⟩) h.lt).trans h.c2, (k.cell (p := ⟨O, 3, none⟩) h.lt).trans h.c3, (k.frozen (p := ⟨O, 0, none⟩) h.lt).trans h.f0, (k.frozen (p := ⟨O, 1, none⟩) h.lt).trans h.f1, (k.frozen (p := ⟨O, 2, none⟩) h.lt).trans h.f2, (k.frozen (p := ⟨O, 3, none⟩) h.lt).trans h.f3⟩
theorem Box4.other {w : World} {O O' j : Nat} {a b c d v : Value} (h : Box4 w O a b c d) (hne : O ≠ O') : Box4 (w.setCell ⟨O', j, none⟩ v) O a b c d := by
  obtain ⟨h0, h1, h2, h3, h4, h5, h6, h7, h8⟩ := h
  have hb : (w.setCell ⟨O', j, none⟩ v).heap[O]? = w.heap[O]? := Below.heap_setCell w ⟨O', j, none⟩ v O hne
  exact ⟨by simpa using h0, (World.cell?_of_block (w := w) (a := ⟨O, 0, none⟩) hb).trans h1, (World.cell?_of_block (w := w) (a := ⟨O, 1, none⟩) hb).trans h2, (World.cell?_of_block (w := w) (a := ⟨O, 2, none⟩) hb).trans h3, (World.cell?_of_block (w := w) (a := ⟨O, 3, none⟩) hb).trans h4, (World.frozen?_of_block (w := w) (a := ⟨O, 0, none⟩) hb).trans h5, (World.frozen?_of_block (w := w) (a := ⟨O, 1, none⟩) hb).trans h6, (World.frozen?_of_block (w := w) (a := ⟨O, 2, none⟩) hb).trans h7, (World.frozen?_of_block (w := w) (a := ⟨O, 3, none⟩) hb).trans h8⟩
theorem Box4.set0 {w : World} {O : Nat} {a b c d v : Value} (h : Box4 w O a b c d) : Box4 (w.setCell ⟨O, 0, none⟩ v) O v b c d := by
  obtain ⟨h0, h1, h2, h3, h4, h5, h6, h7, h8⟩ := h
  constructor <;> simp [go_sem, h0, h1, h2, h3, h4, h5, h6, h7, h8]
theorem Box4.set1 {w : World} {O : Nat} {a b c d v : Value} (h : Box4 w O a b c d) : Box4 (w.setCell ⟨O, 1, none⟩ v) O a v c d := by
  obtain ⟨h0, h1, h2, h3, h4, h5, h6, h7, h8⟩ := h
  constructor <;> simp [go_sem, h0, h1, h2, h3, h4, h5, h6, h7, h8]
theorem Box4.set2 {w : World} {O : Nat} {a b c d v : Value} (h : Box4 w O a b c d) : Box4 (w.setCell ⟨O, 2, none⟩ v) O a b v d := by
  obtain ⟨h0, h1, h2, h3, h4, h5, h6, h7, h8⟩ := h
  constructor <;> simp [go_sem, h0, h1, h2, h3, h4, h5, h6, h7, h8]
theorem Box4.set3 {w : World} {O : Nat} {a b c d v : Value} (h : Box4 w O a b c d) : Box4 (w.setCell ⟨O, 3, none⟩ v) O a b c v := by
  obtain ⟨h0, h1, h2, h3, h4, h5, h6, h7, h8⟩ := h
  constructor <;> simp [go_sem, h0, h1, h2, h3, h4, h5, h6, h7, h8]
theorem Box4.new (w : World) (a b c d : Value) (e : TypeId) : Box4 (w.alloc (.cells #[a, b, c, d] e)) w.heap.size a b c d := by
  constructor <;> simp [go_sem]

set_option maxRecDepth 100000 in
set_option maxHeartbeats 4000000 in
theorem rcomp_any (xs ts : List It) (slack : Int) (Ax At : Option Addr) (cx ct : Nat) (w : World) (hx : Its w Ax xs) (ht : Its w At ts) (hxl : xs.length ≤ 24) (htl : ts.length ≤ 24) (hsl : fits slack) (hwx : Wide xs) (hwt : Wide ts) :
    Calls Try.prog 12 #[.slice Ax xs.length cx, .slice At ts.length ct, .int .i64 slack] w (CmpR (cmp xs ts slack) w) := by
  have HX := Lib.hid hx
  have HT := Lib.hid ht
  have HWX := Lib.hid hwx
  have HWT := Lib.hid hwt
  have HSL := Lib.hid hsl
  have hmx := make_bools xs.length hxl
  have hmt := make_bools ts.length htl
  clear hx ht hwx hwt hsl
  unfold CmpR
  go_enter Try.func12, Try.ntmps12
  go_upto_region 1 with fail
  go_cut [7, 8] (fun s7 s8 wx => ∃ M U : Nat, s7 = .slice (some ⟨M, 0, none⟩) xs.length xs.length ∧ s8 = .slice (some ⟨U, 0, none⟩) ts.length ts.length ∧ OwnBs wx w.heap.size M (List.replicate xs.length false) ∧ OwnBs wx w.heap.size U (List.replicate ts.length false) ∧ M ≠ U ∧ w.heap.size < M ∧ w.heap.size < U ∧ Below w.heap.size w wx ∧
    Box4 wx w.heap.size (.slice none 0 0) (.slice none 0 0) (.slice none 0 0) (.slice none 0 0))
  case first =>
    go_region_held3 (fun w' => True) (trivial) (fail)
    all_goals
      go_wp2_with fail
      go_meet
      refine ⟨_, _, rfl, rfl, ?_, ?_, by omega, by omega, by omega, ?_, ?_⟩
      · first
        | exact OwnBs.below (made_bools xs.length hxl (w.alloc _) _ _ (by simp) (by simp)) (Below.drew (Below.alloc (Below.refl _ _) (Nat.le_refl _) _))
        | exact OwnBs.below (made_bools xs.length hxl ((w.alloc _).alloc _) _ _ (by simp) (by simp; omega)) (Below.drew (Below.refl _ _))
      · first
        | exact OwnBs.below (made_bools ts.length htl (w.alloc _) _ _ (by simp) (by simp)) (Below.drew (Below.alloc (Below.refl _ _) (Nat.le_refl _) _))
        | exact OwnBs.below (made_bools ts.length htl ((w.alloc _).alloc _) _ _ (by simp) (by simp; omega)) (Below.drew (Below.refl _ _))
      · repeat' (first | exact Below.refl _ _ | refine below_ext ?_ ?_ _ | refine Below.alloc ?_ ?_ _ | refine Below.setCell ?_ ?_ _ | refine Below.drew ?_ | (rw [size_ext]; refine Nat.le_add_right_of_le ?_) | go_size | (rw [World.size_alloc]; refine Nat.le_add_right_of_le ?_))
      · refine (Box4.new w _ _ _ _ 28).below ?_
        repeat' (first | exact Below.refl _ _ | refine below_ext ?_ ?_ _ | refine Below.alloc ?_ ?_ _ | refine Below.setCell ?_ ?_ _ | refine Below.drew ?_ | (rw [size_ext]; refine Nat.le_add_right_of_le ?_) | go_size | (rw [World.size_alloc]; refine Nat.le_add_right_of_le ?_))
  case rest =>
    obtain ⟨M, U, rfl, rfl, oM, oU, hMU, hM, hU, hbw, hR⟩ := hcut
    have hlt := oM.lt
    have hlu := oU.lt
    have HB := Lib.hid hbw
    have HM := Lib.hid oM
    have HU := Lib.hid oU
    clear oM oU hbw
    have hOM : wc.heap.size ≠ M := by omega
    have hOU : wc.heap.size ≠ U := by omega
    have hRO : w.heap.size ≠ wc.heap.size := by omega
    have BR1 := Lib.hid (hR.below (Below.alloc (Below.refl _ _) (Nat.le_refl _) (Obj.cells #[.slice none 0 0, .slice none 0 0, .slice none 0 0, .slice none 0 0] 28)))
    have BO1 := Lib.hid (Box4.new wc (.slice none 0 0) (.slice none 0 0) (.slice none 0 0) (.slice none 0 0) 28)
    clear hR
    go_wp2_with fail
    have HB1 := Lib.hid (HB.out.alloc (by omega) (Obj.cells #[.slice none 0 0, .slice none 0 0, .slice none 0 0, .slice none 0 0] 28))
    have HM1 := Lib.hid (HM.out.below (Below.alloc (Below.refl _ _) (Nat.le_refl _) (Obj.cells #[.slice none 0 0, .slice none 0 0, .slice none 0 0, .slice none 0 0] 28)))
    have HU1 := Lib.hid (HU.out.below (Below.alloc (Below.refl _ _) (Nat.le_refl _) (Obj.cells #[.slice none 0 0, .slice none 0 0, .slice none 0 0, .slice none 0 0] 28)))
    refine (rpass_any' xs ts slack true (List.replicate xs.length false) (List.replicate ts.length false) Ax At cx ct M U w _ HB1.out HX.out HT.out HM1.out HU1.out hMU (by simp) (by simp) hxl htl HSL.out HWX.out HWT.out).mono ?_
    rintro e w3 ⟨v1, rfl, o1, m1, u1, k1⟩
    have hpl := passN_len xs ts slack true (List.replicate xs.length false) (List.replicate ts.length false) xs.length
    have hs1 : wc.heap.size + 1 ≤ w3.heap.size := by simpa using k1.size
    have BO3 := Lib.hid (BO1.out.kp k1 hOM hOU)
    have BR3 := Lib.hid (BR1.out.kp k1 (by omega) (by omega))
    have HB3 := Lib.hid (k1.toBelow HB1.out HB1.out.size hlt.1 hlu.1)
    have o1 : OwnPrs w3 (wc.heap.size + 1) v1 (cmp xs ts slack).pairs := own_mono o1 (by simp)
    obtain ⟨A1, q1, rfl, -⟩ := o1.form
    have HP1 := Lib.hid o1
    have HM3 := Lib.hid m1
    have HU3 := Lib.hid u1
    clear BO1 BR1 HB1 HM1 HU1 HB HM HU o1 m1 u1 k1
    have hp1 : passN xs ts slack true (List.replicate xs.length false) (List.replicate ts.length false) xs.length = p1 xs ts slack := rfl
    rw [hp1] at HM3 HU3 hpl
    clear hp1
    obtain ⟨_, c0, c1, c2, c3, f0, f1, f2, f3⟩ := BO3.out
    go_wp2_with fail
    clear c0 c1 c2 c3 f0 f1 f2 f3
    have HB4 := Lib.hid (HB3.out.setCell (p := ⟨wc.heap.size, 0, none⟩) (show w.heap.size ≤ wc.heap.size by omega) (.slice A1 (cmp xs ts slack).pairs.length q1))
    have HM4 := Lib.hid (HM3.out.other (j := 0) (u := (.slice A1 (cmp xs ts slack).pairs.length q1)) (fun e => hOM e.symm))
    have HU4 := Lib.hid (HU3.out.other (j := 0) (u := (.slice A1 (cmp xs ts slack).pairs.length q1)) (fun e => hOU e.symm))
    refine (rpass_any' xs ts slack false (p1 xs ts slack).mine (p1 xs ts slack).used Ax At cx ct M U w _ HB4.out HX.out HT.out HM4.out HU4.out hMU (by rw [hpl.1]; simp) (by rw [hpl.2]; simp) hxl htl HSL.out HWX.out HWT.out).mono ?_
    rintro e w5 ⟨v2, rfl, o2, m2, u2, k2⟩
    have hpl2 := passN_len xs ts slack false (p1 xs ts slack).mine (p1 xs ts slack).used xs.length
    have hs2 : w3.heap.size ≤ w5.heap.size := by simpa using k2.size
    have BO5 := Lib.hid (BO3.out.set0.kp k2 hOM hOU)
    have BR5 := Lib.hid ((BR3.out.other hRO).kp k2 (by omega) (by omega))
    have HB5 := Lib.hid (k2.toBelow HB4.out HB4.out.size hlt.1 hlu.1)
    have HP1' := Lib.hid (k2.keep (own_low HP1.out (k := wc.heap.size) (by omega)) HM4.out HU4.out (by decide))
    have o2 : OwnPrs w5 (wc.heap.size + 1) v2 (cmp xs ts slack).differ := own_mono o2 (by simpa using hs1)
    obtain ⟨A2, q2, rfl, -⟩ := o2.form
    have HP2 := Lib.hid o2
    have HM5 := Lib.hid m2
    have HU5 := Lib.hid u2
    clear BO3 BR3 HB3 HB4 HM4 HU4 HM3 HU3 HP1 o2 m2 u2 k2
    have hp2 : passN xs ts slack false (p1 xs ts slack).mine (p1 xs ts slack).used xs.length = p2 xs ts slack := rfl
    rw [hp2] at HM5 HU5 hpl2
    clear hp2
    have hl1 : (p2 xs ts slack).mine.length = xs.length := by rw [hpl2.1, hpl.1]; simp
    have hl2 : (p2 xs ts slack).used.length = ts.length := by rw [hpl2.2, hpl.2]; simp
    clear hpl hpl2
    obtain ⟨_, c0, c1, c2, c3, f0, f1, f2, f3⟩ := BO5.out
    go_wp2_with fail
    clear c0 c1 c2 c3 f0 f1 f2 f3
    refine (left_any' (p2 xs ts slack).mine M xs.length xs.length _ hl1 (by omega) (HM5.out.other (j := 1) (u := (.slice A2 (cmp xs ts slack).differ.length q2)) (fun e => hOM e.symm))).mono ?_
    rintro e w7 ⟨v3, rfl, o3, b3⟩
    have hs3 : w5.heap.size ≤ w7.heap.size := by simpa using b3.size
    have BO7 := Lib.hid (BO5.out.set1.below b3)
    have BR7 := Lib.hid ((BR5.out.other hRO).below b3)
    have HB7 := Lib.hid ((HB5.out.setCell (p := ⟨wc.heap.size, 1, none⟩) (show w.heap.size ≤ wc.heap.size by omega) (.slice A2 (cmp xs ts slack).differ.length q2)).trans (b3.mono (by simp; omega)))
    have HP17 := Lib.hid (own_below (own_low HP1'.out (k := wc.heap.size) (by omega)) b3)
    have HP27 := Lib.hid (own_below (own_low HP2.out (k := wc.heap.size) (by omega)) b3)
    have o3 : OwnNts w7 (wc.heap.size + 1) v3 (cmp xs ts slack).ours := own_mono o3 (by simp; omega)
    obtain ⟨A3, q3, rfl, -⟩ := o3.form
    have HN3 := Lib.hid o3
    have HU7 := Lib.hid ((HU5.out.other (j := 1) (u := (.slice A2 (cmp xs ts slack).differ.length q2)) (fun e => hOU e.symm)).below b3)
    clear BO5 BR5 HB5 HM5 HU5 HP1' HP2 o3 b3
    obtain ⟨_, c0, c1, c2, c3, f0, f1, f2, f3⟩ := BO7.out
    go_wp2_with fail
    clear c0 c1 c2 c3 f0 f1 f2 f3
    refine (left_any' (p2 xs ts slack).used U ts.length ts.length _ hl2 (by omega) (HU7.out.other (j := 2) (u := (.slice A3 (cmp xs ts slack).ours.length q3)) (fun e => hOU e.symm))).mono ?_
    rintro e w9 ⟨v4, rfl, o4, b4⟩
    have hs4 : w7.heap.size ≤ w9.heap.size := by simpa using b4.size
    have BO9 := (BO7.out.set2.below b4)
    have BR9 := ((BR7.out.other hRO).below b4)
    have HB9 := Lib.hid ((HB7.out.setCell (p := ⟨wc.heap.size, 2, none⟩) (show w.heap.size ≤ wc.heap.size by omega) (.slice A3 (cmp xs ts slack).ours.length q3)).trans (b4.mono (by simp; omega)))
    have HP19 := Lib.hid (own_below (own_low HP17.out (k := wc.heap.size) (by omega)) b4)
    have HP29 := Lib.hid (own_below (own_low HP27.out (k := wc.heap.size) (by omega)) b4)
    have HN39 := Lib.hid (own_below (own_low HN3.out (k := wc.heap.size) (by omega)) b4)
    have o4 : OwnNts w9 (wc.heap.size + 1) v4 (cmp xs ts slack).theirs := own_mono o4 (by simp; omega)
    obtain ⟨A4, q4, rfl, -⟩ := o4.form
    have HN4 := Lib.hid o4
    clear BO7 BR7 HB7 HU7 HP17 HP27 HN3 o4 b4
    obtain ⟨hO9, c0, c1, c2, c3, f0, f1, f2, f3⟩ := BO9
    obtain ⟨hR9, r0, r1, r2, r3, g0, g1, g2, g3⟩ := BR9
    go_wp2_with fail
    refine bodyPost_ret (by simp [results, Try.results12, go_sem, r0, r1, r2, r3, hR9]; first | done | rfl) rfl ?_
    have hww : w.heap.size < wc.heap.size := by omega
    refine ⟨_, _, _, _, rfl, ?_, ?_, ?_, ?_, ?_⟩
    · exact own_mono (own_low (own_low (own_low (own_low (own_low HP19.out (by omega)) (by omega)) (by omega)) (by omega)) (by omega)) (by omega)
    · exact own_mono (own_low (own_low (own_low (own_low (own_low HP29.out (by omega)) (by omega)) (by omega)) (by omega)) (by omega)) (by omega)
    · exact own_mono (own_low (own_low (own_low (own_low (own_low HN39.out (by omega)) (by omega)) (by omega)) (by omega)) (by omega)) (by omega)
    · exact own_mono (own_low (own_low (own_low (own_low (own_low HN4.out (by omega)) (by omega)) (by omega)) (by omega)) (by omega)) (by omega)
    · exact Below.setCell (Below.setCell (Below.setCell (Below.setCell (Below.setCell HB9.out (p := ⟨wc.heap.size, 3, none⟩) (by show w.heap.size ≤ wc.heap.size; omega) _) (p := ⟨w.heap.size, 0, none⟩) (Nat.le_refl _) _) (p := ⟨w.heap.size, 1, none⟩) (Nat.le_refl _) _) (p := ⟨w.heap.size, 2, none⟩) (Nat.le_refl _) _) (p := ⟨w.heap.size, 3, none⟩) (Nat.le_refl _) _
end Go.Proofs.Ytclaijheemkegaa

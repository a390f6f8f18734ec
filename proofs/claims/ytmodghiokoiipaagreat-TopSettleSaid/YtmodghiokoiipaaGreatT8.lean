/-
  The check of agreements.
-/
import Derived.Test.YtmodghiokoiipaaGreatT7
namespace Go.Proofs.YtmodghiokoiipaaGreat
open Go.RowKit
set_option linter.unusedSimpArgs false
set_option linter.unusedVariables false

def Ag.flt (x : Ag) : Int := fltF x.p x.k x.f x.t x.st x.cap
def clash (a b : Ag) : Bool := meetB a.f a.t b.f b.t && decide (a.p = b.p ∧ a.k = b.k ∧ a.ib = b.ib)
def chkL : List Ag → List Ag → Int
  | _, [] => 0
  | pre, a :: l => if a.flt ≠ 0 then a.flt else if pre.any (clash a) = true then 10 else chkL (pre ++ [a]) l
def chkF (xs : List Ag) : Int := if 4096 < xs.length then 5 else chkL [] xs
def cntK (l : List Ag) (j : Nat) : Nat := (l.filter fun x => decide (x.k = (j : Int))).length
theorem cntK_none {l : List Ag} {a : Ag} {j : Nat} (ha : a.k = (j : Int)) (h : cntK l j = 0) : l.any (clash a) = false := by
  unfold cntK at h
  rw [List.length_eq_zero_iff, List.filter_eq_nil_iff] at h
  rw [List.any_eq_false]
  intro x hx hc
  unfold clash at hc
  rw [Bool.and_eq_true, decide_eq_true_eq] at hc
  exact h x hx (by rw [decide_eq_true_eq, ← hc.2.2.1]; exact ha)
theorem cntK_le (l : List Ag) (j : Nat) : cntK l j ≤ l.length := List.length_filter_le _ _
theorem cntK_snoc (l : List Ag) (a : Ag) (i j : Nat) (ha : a.k = (i : Int)) : cntK (l ++ [a]) j = cntK l j + if i = j then 1 else 0 := by
  unfold cntK
  rw [List.filter_append, List.length_append]
  congr 1
  by_cases h : i = j
  · rw [if_pos h, List.filter_cons, if_pos (by rw [decide_eq_true_eq, ha, h])]
    rfl
  · rw [if_neg h, List.filter_cons, if_neg (by rw [decide_eq_true_eq, ha]; omega)]
    rfl
/-- The numbers by kind. -/
def Seen (w : World) (S : Nat) (g : Nat → Nat) : Prop := S < w.heap.size ∧ ∀ j, j < 5 → w.cell? ⟨S, j, none⟩ = some (.int .i64 (g j : Int)) ∧ w.frozen? ⟨S, j, none⟩ = false
theorem Seen.below {w w' : World} {S : Nat} {g : Nat → Nat} (h : Seen w S g) (hb : Below w.heap.size w w') : Seen w' S g :=
  ⟨Nat.lt_of_lt_of_le h.1 hb.size, fun j hj => ⟨(hb.cell (p := ⟨S, j, none⟩) h.1).trans (h.2 j hj).1, (hb.frozen (p := ⟨S, j, none⟩) h.1).trans (h.2 j hj).2⟩⟩
theorem Seen.set {w : World} {S : Nat} {g g' : Nat → Nat} (h : Seen w S g) (i : Nat) (hi : i < 5) (hg : ∀ j, g' j = g j + if i = j then 1 else 0) : Seen (w.setCell ⟨S, i, none⟩ (.int .i64 ((g i : Int) + 1))) S g' := by
  refine ⟨by simpa [World.setCell] using h.1, fun j hj => ?_⟩
  obtain ⟨h1, h2⟩ := h.2 j hj
  obtain ⟨k1, k2⟩ := h.2 i hi
  rw [hg j]
  by_cases hij : i = j
  · subst hij
    rw [if_pos rfl]
    refine ⟨?_, ?_⟩
    · rw [World.cell?_setCell_same (h := k1)]
      simp
    · rw [World.frozen?_setCell]
      exact h2
  · rw [if_neg hij, Nat.add_zero]
    refine ⟨?_, ?_⟩
    · rw [World.cell?_setCell_other (h := by intro e; cases e; exact hij rfl)]
      exact h1
    · rw [World.frozen?_setCell]
      exact h2
theorem flt_kind {a : Ag} (h : a.flt = 0) : ∃ j : Nat, a.k = (j : Int) ∧ 1 ≤ j ∧ j < 5 := by
  unfold Ag.flt fltF at h
  split at h
  · cases h
  · split at h
    · cases h
    · exact ⟨a.k.toNat, by omega, by omega, by omega⟩
theorem drop_cons {α : Type} {xs : List α} {k : Nat} {x : α} (hx : xs[k]? = some x) : xs.drop k = x :: xs.drop (k + 1) := by
  have hlt := (List.getElem?_eq_some_iff.1 hx).1
  rw [List.drop_eq_getElem_cons hlt]
  have := (List.getElem?_eq_some_iff.1 hx).2
  rw [this]
theorem take_snoc {α : Type} {xs : List α} {k : Nat} {x : α} (hx : xs[k]? = some x) : xs.take (k + 1) = xs.take k ++ [x] := by
  have hlt := (List.getElem?_eq_some_iff.1 hx).1
  rw [List.take_add_one, hx]
  rfl
theorem chk_step {xs : List Ag} {k : Nat} {a : Ag} (hx : xs[k]? = some a) : chkL (xs.take k) (xs.drop k) = if a.flt ≠ 0 then a.flt else if (xs.take k).any (clash a) = true then 10 else chkL (xs.take (k + 1)) (xs.drop (k + 1)) := by
  rw [drop_cons hx, chkL, take_snoc hx]
set_option maxRecDepth 100000 in
set_option maxHeartbeats 8000000 in
theorem check_any (xs : List Ag) (A : Option Addr) (c : Nat) (w : World) (h : Ags w A xs) (hst : AgS w xs) (hm : xs.length ≤ maxLen) (hl : ∀ x ∈ xs, x.st.length ≤ maxLen) (hc : xs.length ≤ c) :
    Calls Tryz.prog 12 #[.slice A xs.length c] w fun e w' => e = .returned (.int .i64 (chkF xs)) ∧ Below w.heap.size w w' := by
  have H := Lib.hid h
  have HST := Lib.hid hst
  have HL := Lib.hid hl
  clear h hst hl
  simp only [maxLen] at hm
  unfold chkF
  by_cases h40 : 4096 < xs.length
  · rw [if_pos h40]
    have h40' : (4096 : Int) < xs.length := by omega
    go_enter Tryz.func12, Tryz.ntmps12
    go_wp2
    go_ret
    refine ⟨rfl, ?_⟩
    repeat' (first | exact Below.refl _ _ | refine below_ext ?_ ?_ _ | refine Below.alloc ?_ ?_ _ | refine Below.setCell ?_ ?_ _ | refine Below.drew ?_ | (rw [size_ext]; refine Nat.le_add_right_of_le ?_) | go_size | (rw [World.size_alloc]; refine Nat.le_add_right_of_le ?_))
  rw [if_neg h40]
  have h40' : (xs.length : Int) ≤ 4096 := by omega
  go_enter Tryz.func12, Tryz.ntmps12
  go_wp2
  go_loopw [16] (fun i wr => ∃ k : Nat, k ≤ xs.length ∧ i = .int .i64 k ∧ Hid (chkL [] xs = chkL (xs.take k) (xs.drop k)) ∧ Hid (Seen wr w.heap.size (cntK (xs.take k))) ∧ Below w.heap.size w wr) (fun i _ => xs.length - (intOf i).toNat)
  case atStart =>
    refine ⟨0, Nat.zero_le _, rfl, rfl, ⟨by simp, fun j hj => ?_⟩, by repeat' (first | exact Below.refl _ _ | refine below_ext ?_ ?_ _ | refine Below.alloc ?_ ?_ _ | refine Below.setCell ?_ ?_ _ | refine Below.drew ?_ | (rw [size_ext]; refine Nat.le_add_right_of_le ?_) | go_size | (rw [World.size_alloc]; refine Nat.le_add_right_of_le ?_))⟩
    match j, hj with
    | 0, _ => simp [go_sem, cntK]
    | 1, _ => simp [go_sem, cntK]
    | 2, _ => simp [go_sem, cntK]
    | 3, _ => simp [go_sem, cntK]
    | 4, _ => simp [go_sem, cntK]
  case round =>
    obtain ⟨k, hk, rfl, he, hsn, hbw⟩ := hrel
    have HB := Lib.hid hbw
    by_cases hlt : k < xs.length
    · obtain ⟨x, hx⟩ : ∃ s, xs[k]? = some s := ⟨_, List.getElem?_eq_getElem hlt⟩
      obtain ⟨B, o, rfl, hB, x0, x1, x2, x3, x4, x5, x6⟩ := ags_cells (H.out.below hbw) hx
      have hs := Lib.hid (he.out.trans (chk_step hx))
      have hmem := List.mem_of_getElem? hx
      have HF := Lib.hid (fun W (hb : Below w.heap.size w W) => fault_any x.p x.k x.ib x.f x.t x.A x.c x.st x.cap W ((HST.out.below hb) x hmem) (HL.out x hmem))
      have hwr := hsn.out.1
      by_cases hf : x.flt = 0
      · have hf2 : fltF x.p x.k x.f x.t x.st x.cap = 0 := hf
        rw [hf2] at HF
        obtain ⟨j, hj, j1, j5⟩ := flt_kind hf
        rw [if_neg (by simpa using hf)] at hs
        obtain ⟨s1, s2⟩ := hsn.out.2 j j5
        rw [hj] at x1 HF
        have hj2 := Lib.hid hj
        have hjI : (j : Int) < 5 := by omega
        have hjI1 : 1 ≤ (j : Int) := by omega
        have hcl : cntK (xs.take k) j ≤ 4096 := Nat.le_trans (cntK_le _ _) (by rw [List.length_take]; omega)
        by_cases hz : cntK (xs.take k) j = 0
        · rw [cntK_none hj hz, if_neg (by decide)] at hs
          have hs2 : Hid (Seen wr w.heap.size (cntK (xs.take k))) := hsn
          have hsnoc := Lib.hid (fun i => cntK_snoc (xs.take k) x j i hj)
          rw [← take_snoc hx] at hsnoc
          rw [hz] at s1
          clear hf hf2 hbw hx he hmem hsn hj
          go_wp2_with (go_at_call 27; (with_reducible refine (HF.out _ ?_).mono ?_); (· repeat' (first | with_reducible exact HB.out | with_reducible exact Below.refl _ _ | with_reducible refine below_ext ?_ ?_ _ | with_reducible refine Below.alloc ?_ ?_ _ | with_reducible refine Below.setCell ?_ ?_ _ | with_reducible refine Below.drew ?_ | (have := HB.out.size; simp only [size_ext, World.size_alloc, World.size_setCell, World.size_drew]; omega) | exact Nat.le_trans HB.out.size (by go_size) | (have := HB.out.size; simp; omega) | (have := HB.out.size; simp [go_sem]; omega) | (have := HB.out.size; simp [go_sem]; done) | (simp; done) | omega)); rintro e w1 ⟨rfl, hb⟩; obtain ⟨s, rfl⟩ := ext_of_below hb; clear hb)
          go_roundw
          case rel =>
            refine ⟨k + 1, by omega, by go_num, hs.out, ?_, by repeat' (first | with_reducible exact HB.out | with_reducible exact Below.refl _ _ | with_reducible refine below_ext ?_ ?_ _ | with_reducible refine Below.alloc ?_ ?_ _ | with_reducible refine Below.setCell ?_ ?_ _ | with_reducible refine Below.drew ?_ | (have := HB.out.size; simp only [size_ext, World.size_alloc, World.size_setCell, World.size_drew]; omega) | exact Nat.le_trans HB.out.size (by go_size) | (have := HB.out.size; simp; omega) | (have := HB.out.size; simp [go_sem]; omega) | (have := HB.out.size; simp [go_sem]; done) | (simp; done) | omega)⟩
            have q := hs2.out.set j j5 hsnoc.out
            rw [show ((cntK (xs.take k) j : Nat) : Int) + 1 = 1 by rw [hz]; rfl] at q
            exact q.below (by repeat' (first | with_reducible exact Below.refl _ _ | with_reducible refine below_ext ?_ ?_ _ | with_reducible refine Below.alloc ?_ ?_ _ | with_reducible refine Below.drew ?_ | (simp only [size_ext, World.size_alloc, World.size_setCell, World.size_drew]; omega) | (simp; omega) | (simp [go_sem]; omega) | (simp [go_sem]; done) | (simp; done) | omega))
          case measure => simp [intOf]; omega
        · have hpos : 0 < cntK (xs.take k) j := by omega
          have hposd : decide (0 < cntK (xs.take k) j) = true := decide_eq_true hpos
          have hs2 : Hid (Seen wr w.heap.size (cntK (xs.take k))) := hsn
          have hsnoc := Lib.hid (fun i => cntK_snoc (xs.take k) x j i hj)
          rw [← take_snoc hx] at hsnoc
          clear hf hf2 hbw hx he hmem hsn hz
          go_wp2_with (go_at_call 27; (with_reducible refine (HF.out _ ?_).mono ?_); (· repeat' (first | with_reducible exact HB.out | with_reducible exact Below.refl _ _ | with_reducible refine below_ext ?_ ?_ _ | with_reducible refine Below.alloc ?_ ?_ _ | with_reducible refine Below.setCell ?_ ?_ _ | with_reducible refine Below.drew ?_ | (have := HB.out.size; simp only [size_ext, World.size_alloc, World.size_setCell, World.size_drew]; omega) | exact Nat.le_trans HB.out.size (by go_size) | (have := HB.out.size; simp; omega) | (have := HB.out.size; simp [go_sem]; omega) | (have := HB.out.size; simp [go_sem]; done) | (simp; done) | omega)); rintro e w1 ⟨rfl, hb⟩; obtain ⟨s, rfl⟩ := ext_of_below hb; clear hb)
          obtain ⟨W1, hW1⟩ : ∃ W1, W1 = wr.alloc (.cells #[.int .i64 x.p, .int .i64 j, .bool x.ib, .int .i64 x.f, .int .i64 x.t, .slice x.A x.st.length x.c, .int .i64 x.cap] 42) := ⟨_, rfl⟩
          obtain ⟨sz, hsz⟩ : ∃ sz, sz = wr.heap.size := ⟨_, rfl⟩
          have HX := Lib.hid (show W1.cell? ⟨sz, 1, none⟩ = some (.int .i64 j) ∧ W1.cell? ⟨sz, 3, none⟩ = some (.int .i64 x.f) ∧ W1.cell? ⟨sz, 4, none⟩ = some (.int .i64 x.t) ∧ W1.cell? ⟨sz, 0, none⟩ = some (.int .i64 x.p) ∧ W1.cell? ⟨sz, 2, none⟩ = some (.bool x.ib) ∧ W1.cell? ⟨sz, 5, none⟩ = some (.slice x.A x.st.length x.c) ∧ W1.cell? ⟨sz, 6, none⟩ = some (.int .i64 x.cap) by
            rw [hW1, hsz]
            refine ⟨?_, ?_, ?_, ?_, ?_, ?_, ?_⟩ <;> simp [go_sem])
          have HB1 : Hid (Below w.heap.size w W1) := by
            rw [hW1]
            exact HB.out.alloc HB.out.size _
          have HS1 : Hid (Seen W1 w.heap.size (cntK (xs.take k))) := by
            rw [hW1]
            exact hs2.out.below ((Below.refl _ _).alloc (Nat.le_refl _) _)
          have hsz1 : w.heap.size < sz := by rw [hsz]; exact hwr
          have hW1s : W1.heap.size = sz + 1 := by rw [hW1, hsz]; simp
          rw [← hW1, ← hsz]
          clear hW1 hsz
          have HIN := Lib.hid (fun f2 t2 W => inter_any x.f x.t f2 t2 W)
          go_loopw [35] (fun m w3 => ∃ i : Nat, i ≤ k ∧ m = .int .i64 i ∧ Hid ((xs.take k).any (clash x) = ((xs.take k).drop i).any (clash x)) ∧ Below (sz + 1) W1 w3) (fun m _ => k - (intOf m).toNat)
          case atStart => exact ⟨0, Nat.zero_le _, rfl, rfl, below_ext (Below.refl _ _) (by omega) _⟩
          case round =>
            obtain ⟨i, hi, rfl, hei, hbi⟩ := hrel
            have HBI := Lib.hid hbi
            have hszw := hbi.size
            have hb3 : Below w.heap.size w wr := HB1.out.trans (hbi.mono (by omega))
            have HB3 := Lib.hid hb3
            obtain ⟨y1, y2, y3, y4, y5, y6, y7⟩ := HX.out
            have z1 := (hbi.cell (p := ⟨sz, 1, none⟩) (by show sz < _; omega)).trans y1
            have z2 := (hbi.cell (p := ⟨sz, 3, none⟩) (by show sz < _; omega)).trans y2
            have z3 := (hbi.cell (p := ⟨sz, 4, none⟩) (by show sz < _; omega)).trans y3
            have z4 := (hbi.cell (p := ⟨sz, 0, none⟩) (by show sz < _; omega)).trans y4
            have z5 := (hbi.cell (p := ⟨sz, 2, none⟩) (by show sz < _; omega)).trans y5
            have z6 := (hbi.cell (p := ⟨sz, 5, none⟩) (by show sz < _; omega)).trans y6
            have z7 := (hbi.cell (p := ⟨sz, 6, none⟩) (by show sz < _; omega)).trans y7
            have hsw : sz < wr.heap.size := by omega
            have hww : w.heap.size < wr.heap.size := by omega
            clear y1 y2 y3 y4 y5 y6 y7
            by_cases hik : i < k
            · obtain ⟨y, hy⟩ : ∃ s, xs[i]? = some s := ⟨_, List.getElem?_eq_getElem (by omega)⟩
              have hyt : (xs.take k)[i]? = some y := by rw [List.getElem?_take, if_pos hik]; exact hy
              have he2 : Hid ((xs.take k).any (clash x) = (clash x y || ((xs.take k).drop (i + 1)).any (clash x))) := by
                rw [Hid, hei.out, drop_cons hyt, List.any_cons]
              obtain ⟨B', o', hA, hB', v0, v1, v2, v3, v4, v5, v6⟩ := ags_cells (H.out.below hb3) hy
              cases hA
              cases hmt : meetB x.f x.t y.f y.t
              · have hcl : clash x y = false := by unfold clash; rw [hmt]; rfl
                rw [hcl, Bool.false_or] at he2
                have HI1 := Lib.hid (HIN.out y.f y.t)
                rw [hmt] at HI1
                clear hmt hcl hy hyt hei hbi hb3
                go_wp2_with (go_at_call 28; (with_reducible refine (HI1.out _).mono ?_); rintro e w1 ⟨rfl, hb⟩; obtain ⟨s, rfl⟩ := ext_of_below hb; clear hb)
                go_quiet (fail)
                rw [drewN_more]
                go_wp2
                go_roundw
                case rel => exact ⟨i + 1, by omega, by go_num, he2.out, by repeat' (first | with_reducible exact HBI.out | with_reducible refine below_ext ?_ ?_ _ | with_reducible refine Below.alloc ?_ ?_ _ | with_reducible refine Below.drew ?_ | (simp only [size_ext, World.size_alloc, World.size_setCell, World.size_drew]; omega) | omega)⟩
                case measure => simp [intOf]; omega
              · have HI1 := Lib.hid (HIN.out y.f y.t)
                rw [hmt] at HI1
                have HO1 := Lib.hid (fun W => of_any x W)
                have HO2 := Lib.hid (fun W => of_any y W)
                rw [hj2.out] at HO1
                clear hy hyt hei hbi hb3
                by_cases hal : x.p = y.p ∧ x.k = y.k ∧ x.ib = y.ib
                · have hcl : clash x y = true := by unfold clash; rw [hmt, decide_eq_true hal]; rfl
                  rw [hcl, Bool.true_or] at he2
                  rw [he2.out, if_pos rfl] at hs
                  clear hmt hcl he2
                  obtain ⟨al1, al2, al3⟩ := hal
                  rw [hj2.out] at al2
                  rw [← al1, ← al2, ← al3] at HO2
                  rw [← al1] at v0
                  rw [← al2] at v1
                  rw [← al3] at v2
                  clear al1 al2 al3
                  go_wp2_with (go_at_call 28; (with_reducible refine (HI1.out _).mono ?_); rintro e w1 ⟨rfl, hb⟩; obtain ⟨s, rfl⟩ := ext_of_below hb; clear hb)
                  refine wp_region_more (by kernel_rfl) (by kernel_rfl) ?_
                  repeat (first | go_big_quiet_skip | quiet_step (first
                    | (go_at_call 29; first | with_reducible exact more_call2 (HO1.out _) | with_reducible exact more_call2 (HO2.out _) | with_reducible exact more_call (HO1.out _) | with_reducible exact more_call (HO2.out _))))
                  refine wpQuiet_nil ?_
                  rintro _ ⟨s4, rfl⟩
                  go_wp2
                  go_ret
                  exact ⟨ret_int hs.out.symm, by repeat' (first | with_reducible exact HB3.out | with_reducible exact Below.refl _ _ | with_reducible refine below_ext ?_ ?_ _ | with_reducible refine Below.alloc ?_ ?_ _ | with_reducible refine Below.setCell ?_ ?_ _ | with_reducible refine Below.drew ?_ | (have := HB3.out.size; simp only [size_ext, World.size_alloc, World.size_setCell, World.size_drew]; omega) | exact Nat.le_refl _ | omega)⟩
                · have hcl : clash x y = false := by unfold clash; rw [hmt, decide_eq_false hal]; rfl
                  rw [hcl, Bool.false_or] at he2
                  clear hmt hcl
                  by_cases c1 : x.p = y.p
                  · by_cases c2 : x.k = y.k
                    · have c3 : (x.ib == y.ib) = false := by
                        cases hx1 : x.ib <;> cases hy1 : y.ib <;> first | rfl | exact absurd ⟨c1, c2, by rw [hx1, hy1]⟩ hal
                      rw [hj2.out] at c2
                      rw [← c1, ← c2] at HO2
                      rw [← c1] at v0
                      rw [← c2] at v1
                      clear c1 c2 hal
                      go_wp2_with (go_at_call 28; (with_reducible refine (HI1.out _).mono ?_); rintro e w1 ⟨rfl, hb⟩; obtain ⟨s, rfl⟩ := ext_of_below hb; clear hb)
                      refine wp_region_more (by kernel_rfl) (by kernel_rfl) ?_
                      repeat (first | go_big_quiet_skip | quiet_step (first
                        | (go_at_call 29; first | with_reducible exact more_call2 (HO1.out _) | with_reducible exact more_call2 (HO2.out _) | with_reducible exact more_call (HO1.out _) | with_reducible exact more_call (HO2.out _))))
                      refine wpQuiet_nil ?_
                      rintro _ ⟨s4, rfl⟩
                      go_wp2
                      go_roundw
                      case rel => exact ⟨i + 1, by omega, by go_num, he2.out, by repeat' (first | with_reducible exact HBI.out | with_reducible refine below_ext ?_ ?_ _ | with_reducible refine Below.alloc ?_ ?_ _ | with_reducible refine Below.drew ?_ | (simp only [size_ext, World.size_alloc, World.size_setCell, World.size_drew]; omega) | omega)⟩
                      case measure => simp [intOf]; omega
                    · have c3 : ((j : Int) == y.k) = false := by rw [← hj2.out]; simpa using c2
                      rw [← c1] at HO2 v0
                      clear c1 c2 hal
                      go_wp2_with (go_at_call 28; (with_reducible refine (HI1.out _).mono ?_); rintro e w1 ⟨rfl, hb⟩; obtain ⟨s, rfl⟩ := ext_of_below hb; clear hb)
                      refine wp_region_more (by kernel_rfl) (by kernel_rfl) ?_
                      repeat (first | go_big_quiet_skip | quiet_step (first
                        | (go_at_call 29; first | with_reducible exact more_call2 (HO1.out _) | with_reducible exact more_call2 (HO2.out _) | with_reducible exact more_call (HO1.out _) | with_reducible exact more_call (HO2.out _))))
                      refine wpQuiet_nil ?_
                      rintro _ ⟨s4, rfl⟩
                      go_wp2
                      go_roundw
                      case rel => exact ⟨i + 1, by omega, by go_num, he2.out, by repeat' (first | with_reducible exact HBI.out | with_reducible refine below_ext ?_ ?_ _ | with_reducible refine Below.alloc ?_ ?_ _ | with_reducible refine Below.drew ?_ | (simp only [size_ext, World.size_alloc, World.size_setCell, World.size_drew]; omega) | omega)⟩
                      case measure => simp [intOf]; omega
                  · have c3 : (x.p == y.p) = false := by simpa using c1
                    clear c1 hal
                    go_wp2_with (go_at_call 28; (with_reducible refine (HI1.out _).mono ?_); rintro e w1 ⟨rfl, hb⟩; obtain ⟨s, rfl⟩ := ext_of_below hb; clear hb)
                    refine wp_region_more (by kernel_rfl) (by kernel_rfl) ?_
                    repeat (first | go_big_quiet_skip | quiet_step (first
                      | (go_at_call 29; first | with_reducible exact more_call2 (HO1.out _) | with_reducible exact more_call2 (HO2.out _) | with_reducible exact more_call (HO1.out _) | with_reducible exact more_call (HO2.out _))))
                    refine wpQuiet_nil ?_
                    rintro _ ⟨s4, rfl⟩
                    go_wp2
                    go_roundw
                    case rel => exact ⟨i + 1, by omega, by go_num, he2.out, by repeat' (first | with_reducible exact HBI.out | with_reducible refine below_ext ?_ ?_ _ | with_reducible refine Below.alloc ?_ ?_ _ | with_reducible refine Below.drew ?_ | (simp only [size_ext, World.size_alloc, World.size_setCell, World.size_drew]; omega) | omega)⟩
                    case measure => simp [intOf]; omega
            · obtain rfl : i = k := by omega
              have hno : (xs.take i).any (clash x) = false := by rw [hei.out, List.drop_take_self]; rfl
              rw [hno, if_neg (by decide)] at hs
              have hs3 : Seen wr w.heap.size (cntK (xs.take i)) := HS1.out.below (by rw [hW1s]; exact hbi)
              obtain ⟨s3, s4⟩ := hs3.2 j j5
              have HS3 := Lib.hid hs3
              clear hei hbi hs3
              go_wp2
              go_roundw
              case rel =>
                refine ⟨i + 1, by omega, by go_num, hs.out, ?_, by repeat' (first | with_reducible exact HB3.out | with_reducible exact Below.refl _ _ | with_reducible refine below_ext ?_ ?_ _ | with_reducible refine Below.alloc ?_ ?_ _ | with_reducible refine Below.setCell ?_ ?_ _ | with_reducible refine Below.drew ?_ | (have := HB3.out.size; simp only [size_ext, World.size_alloc, World.size_setCell, World.size_drew]; omega) | exact Nat.le_refl _ | omega)⟩
                exact HS3.out.set j j5 hsnoc.out
              case measure => simp [intOf]; omega
      · have hf2 : Hid (chkL [] xs = fltF x.p x.k x.f x.t x.st x.cap) := by
          have := hs.out
          rw [if_pos hf] at this
          exact this
        have hf3 : (fltF x.p x.k x.f x.t x.st x.cap == 0) = false := by simpa [Ag.flt] using hf
        clear hf hs hbw hx he hmem
        go_wp2_with (go_at_call 27; (with_reducible refine (HF.out _ ?_).mono ?_); (· repeat' (first | with_reducible exact HB.out | with_reducible exact Below.refl _ _ | with_reducible refine below_ext ?_ ?_ _ | with_reducible refine Below.alloc ?_ ?_ _ | with_reducible refine Below.setCell ?_ ?_ _ | with_reducible refine Below.drew ?_ | (have := HB.out.size; simp only [size_ext, World.size_alloc, World.size_setCell, World.size_drew]; omega) | exact Nat.le_trans HB.out.size (by go_size) | (have := HB.out.size; simp; omega) | (have := HB.out.size; simp [go_sem]; omega) | (have := HB.out.size; simp [go_sem]; done) | (simp; done) | omega)); rintro e w1 ⟨rfl, hb⟩; obtain ⟨s, rfl⟩ := ext_of_below hb; clear hb)
        go_ret
        exact ⟨ret_int hf2.out.symm, by repeat' (first | with_reducible exact HB.out | with_reducible exact Below.refl _ _ | with_reducible refine below_ext ?_ ?_ _ | with_reducible refine Below.alloc ?_ ?_ _ | with_reducible refine Below.setCell ?_ ?_ _ | with_reducible refine Below.drew ?_ | (have := HB.out.size; simp only [size_ext, World.size_alloc, World.size_setCell, World.size_drew]; omega) | exact Nat.le_trans HB.out.size (by go_size) | (have := HB.out.size; simp; omega) | (have := HB.out.size; simp [go_sem]; omega) | (have := HB.out.size; simp [go_sem]; done) | (simp; done) | omega)⟩
    · obtain rfl : k = xs.length := by omega
      have hr : Hid (chkL [] xs = 0) := by rw [Hid, he.out, List.drop_length]; rfl
      clear hbw he
      go_wp2
      go_ret
      exact ⟨ret_int hr.out.symm, HB.out⟩
end Go.Proofs.YtmodghiokoiipaaGreat

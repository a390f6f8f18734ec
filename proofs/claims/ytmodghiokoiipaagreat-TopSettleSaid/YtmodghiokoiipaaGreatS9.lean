/-
  The totals of a month, walked.
-/
import Derived.Test.YtmodghiokoiipaaGreatS8
import Derived.BigQuiet
namespace Go.Proofs.YtmodghiokoiipaaGreat
open Go.RowKit
set_option linter.unusedSimpArgs false
set_option linter.unusedVariables false

/-- The month's cells. -/
def Mon (w : World) (B : Nat) : Prop := B < w.heap.size ∧ w.cell? ⟨B, 0, none⟩ = some (.int .i64 0) ∧ w.cell? ⟨B, 1, none⟩ = some (.int .i64 2678400)
theorem Mon.below {w w' : World} {B : Nat} (h : Mon w B) (hb : Below w.heap.size w w') : Mon w' B :=
  ⟨Nat.lt_of_lt_of_le h.1 hb.size, (hb.cell (p := ⟨B, 0, none⟩) h.1).trans h.2.1, (hb.cell (p := ⟨B, 1, none⟩) h.1).trans h.2.2⟩
theorem Mon.grown {w w' : World} {B M : Nat} (h : Mon w B) (hg : w.grownBy w' (some M)) (hn : B ≠ M) : Mon w' B :=
  ⟨Nat.lt_of_lt_of_le h.1 hg.size, hg.cell h.2.1 (by simpa using hn), hg.cell h.2.2 (by simpa using hn)⟩
theorem hit_none {zs : List Ag} {u : Ug} (h : ∀ a ∈ zs, hitB a u = false) : hit zs u = none := by
  unfold hit
  split
  · rw [List.findIdx?_eq_none_iff]
    exact h
  · rfl
theorem hit_first {zs : List Ag} {u : Ug} {i : Nat} {a : Ag} (hu : (decide (u.tr = 7) && contB 0 2678400 u.s) = true) (ha : zs[i]? = some a) (hh : hitB a u = true) (hf : ∀ (j : Nat) (b : Ag), j < i → zs[j]? = some b → hitB b u = false) : hit zs u = some i := by
  unfold hit
  rw [if_pos hu]
  obtain ⟨hl, he⟩ := List.getElem?_eq_some_iff.1 ha
  rw [List.findIdx?_eq_some_iff_getElem]
  refine ⟨hl, by rw [he]; exact hh, fun j hj => ?_⟩
  rw [hf j zs[j] hj (List.getElem?_eq_getElem (by omega))]
  decide
theorem tot_none {zs : List Ag} {us : List Ug} {k : Nat} {u : Ug} (hx : us[k]? = some u) (h : hit zs u = none) : totF zs (us.take (k + 1)) = totF zs (us.take k) := by
  funext j
  rw [take_snoc hx, totF_snoc, h, if_neg (by simp)]
theorem Tots.fresh (w : World) (o : Obj) : Tots ((w.alloc o).alloc (.map #[] 0)) (w.heap.size + 1) 0 (fun _ => (0, 0)) := by
  refine Tots.made ?_
  have := (MapKept.heap_alloc (w.alloc o) (.map #[] 0)).1
  rw [World.size_alloc] at this
  exact this
theorem lt_of_two {n a b c : Nat} (h : n = a + b + c) (hc : 0 < c) : a < n := by omega
/-- A usage in a block of its own. -/
def UgC (w : World) (sz : Nat) (x : Ug) : Prop := sz < w.heap.size ∧ ∀ i v, x.cells[i]? = some v → w.cell? ⟨sz, i, none⟩ = some v
theorem UgC.below {w w' : World} {sz : Nat} {x : Ug} (h : UgC w sz x) (hb : Below w.heap.size w w') : UgC w' sz x :=
  ⟨Nat.lt_of_lt_of_le h.1 hb.size, fun i v hv => (hb.cell (p := ⟨sz, i, none⟩) h.1).trans (h.2 i v hv)⟩
theorem UgC.made (w : World) (x : Ug) (s : More) : UgC (ext (w.alloc (.cells x.cells.toArray 31)) s) w.heap.size x := by
  refine ⟨by simp only [size_ext, World.size_alloc]; omega, fun i v hv => ?_⟩
  rw [cell?_ext _ _ _ _ (by simp), ← hv]
  have hi := (List.getElem?_eq_some_iff.1 hv).1
  rw [show x.cells.length = 12 from rfl] at hi
  match i, hi with
  | 0, _ | 1, _ | 2, _ | 3, _ | 4, _ | 5, _ | 6, _ | 7, _ | 8, _ | 9, _ | 10, _ | 11, _ => simp [go_sem, Ug.cells]
theorem miss_next {zs : List Ag} {x : Ug} {i : Nat} {a : Ag} (h : ∀ (j : Nat) (b : Ag), j < i → zs[j]? = some b → hitB b x = false) (ha : zs[i]? = some a) (hn : hitB a x = false) : ∀ (j : Nat) (b : Ag), j < i + 1 → zs[j]? = some b → hitB b x = false := by
  intro j b hj hb
  by_cases hji : j < i
  · exact h j b hji hb
  · obtain rfl : j = i := by omega
    rw [ha] at hb
    obtain rfl := Option.some.inj hb
    exact hn
theorem miss_all {zs : List Ag} {x : Ug} {i : Nat} (hi : i = zs.length) (h : ∀ (j : Nat) (b : Ag), j < i → zs[j]? = some b → hitB b x = false) : hit zs x = none := by
  refine hit_none fun a ha => ?_
  obtain ⟨j, hj⟩ := List.getElem?_of_mem ha
  exact h j a (by rw [hi]; exact (List.getElem?_eq_some_iff.1 hj).1) hj
theorem tot_hit {zs : List Ag} {us : List Ug} {k i : Nat} {u : Ug} (hx : us[k]? = some u) (h : hit zs u = some i) (j : Nat) : totF zs (us.take (k + 1)) j = if j = i then ((totF zs (us.take k) i).1 + 1, (totF zs (us.take k) i).2 + un u.n) else totF zs (us.take k) j := by
  rw [take_snoc hx, totF_snoc, h]
  by_cases e : j = i
  · subst e
    rw [if_pos rfl, if_pos rfl]
  · rw [if_neg (fun x => e (Option.some.inj x).symm), if_neg e]
theorem tot_f0 (x y : Int) (W : World) : (Instr.field 64 (.agg #[.int .i64 x, .int .i64 y]) 0).run Tryz.prog W = .ok (.int .i64 x) W := by kernel_rfl
theorem tot_f1 (x y : Int) (W : World) : (Instr.field 64 (.agg #[.int .i64 x, .int .i64 y]) 1).run Tryz.prog W = .ok (.int .i64 y) W := by kernel_rfl
/-- What is handed back: a map of totals. -/
def GaR (w : World) (zs : List Ag) (us : List Ug) (e : Ending) (w' : World) : Prop := ∃ M n, e = .returned (.map (some M)) ∧ w.heap.size ≤ M ∧ Tots w' M n (totF zs us) ∧ Below w.heap.size w w'
set_option maxRecDepth 100000 in
set_option maxHeartbeats 8000000 in
theorem gather_any (zs : List Ag) (us : List Ug) (D c cu : Nat) (A : Option Addr) (w : World) (hz : Ags w (some ⟨D, 0, none⟩) zs) (hu : Ugs w A us) (hzl : zs.length ≤ 20) (hul : us.length ≤ 40) :
    Calls Tryz.prog 17 #[.slice (some ⟨D, 0, none⟩) zs.length c, .slice A us.length cu, .int .i64 7, .agg #[.int .i64 0, .int .i64 2678400]] w (GaR w zs us) := by
  have HZ := Lib.hid hz
  have HU := Lib.hid hu
  have HC := Lib.hid (fun p q t W => contp_any p q t W)
  have HN := Lib.hid (fun x W => sunits_any x W)
  have hmm := fun W => run_makeMap (P := Tryz.prog) 61 W
  clear hz hu
  go_enter Tryz.func17, Tryz.ntmps17
  go_wp2
  go_step3
  go_wp2
  go_step3
  go_wp2
  go_loopw [17] (fun i wr => ∃ k n : Nat, k ≤ us.length ∧ i = .int .i64 k ∧ n ≤ k ∧ Hid (Tots wr (w.heap.size + 1) n (totF zs (us.take k))) ∧ Hid (Mon wr w.heap.size) ∧ Below w.heap.size w wr) (fun i _ => us.length - (intOf i).toNat)
  case atStart =>
    refine ⟨0, 0, Nat.zero_le _, rfl, Nat.le_refl _, ?_, ?_, by repeat' (first | exact Below.refl _ _ | refine below_ext ?_ ?_ _ | refine Below.alloc ?_ ?_ _ | refine Below.setCell ?_ ?_ _ | refine Below.drew ?_ | (rw [size_ext]; refine Nat.le_add_right_of_le ?_) | go_size | (rw [World.size_alloc]; refine Nat.le_add_right_of_le ?_))⟩
    · have : totF zs (us.take 0) = fun _ => (0, 0) := by funext j; rfl
      rw [Hid, this]
      exact Tots.fresh w _
    · exact ⟨by simp only [World.size_alloc]; omega, by simp [go_sem], by simp [go_sem]⟩
  case round =>
    obtain ⟨k, n, hk, rfl, hn, ht, hm, hbw⟩ := hrel
    have HB := Lib.hid hbw
    have hsz := hbw.size
    have hm1 := hm.out.1
    have htl := ht.out.lt
    by_cases hlt : k < us.length
    · obtain ⟨x, hx⟩ : ∃ s, us[k]? = some s := ⟨_, List.getElem?_eq_getElem hlt⟩
      obtain ⟨B, o, rfl, hB, x0, x1, x2, x3, x4, x5, x6, x7, x8, x9, x10, x11⟩ := ugs_cells (HU.out.below hbw) hx
      obtain ⟨-, m1, m2⟩ := hm.out
      by_cases c1 : x.tr = 7
      · obtain ⟨xid, xk, xac, xsu, xa, xb, xs, xn, xtr, xib, xso, xse⟩ := x
        dsimp only at c1 x0 x1 x2 x3 x4 x5 x6 x7 x8 x9 x10 x11
        subst c1
        cases hc2 : contB 0 2678400 xs
        · have hh : Hid (totF zs (us.take (k + 1)) = totF zs (us.take k)) := tot_none hx (by unfold hit; dsimp only; rw [hc2, Bool.and_false]; rfl)
          have HC1 := Lib.hid (HC.out 0 2678400 xs)
          rw [hc2] at HC1
          clear hx hc2
          go_wp2_with (go_at_call 34; (with_reducible refine (HC1.out _).mono ?_); rintro e w1 ⟨rfl, hb⟩; obtain ⟨s, rfl⟩ := ext_of_below hb; clear hb)
          go_roundw
          case rel => exact ⟨k + 1, n, by omega, by go_num, by omega, by rw [hh.out]; exact ht.out.below (by repeat' (first | with_reducible exact Below.refl _ _ | with_reducible refine below_ext ?_ ?_ _ | with_reducible refine Below.alloc ?_ ?_ _ | with_reducible refine Below.drew ?_ | (simp only [size_ext, World.size_alloc, World.size_setCell, World.size_drew]; omega) | (simp; omega) | (simp [go_sem]; omega) | (simp [go_sem]; done) | (simp; done) | omega)), hm.out.below (by repeat' (first | with_reducible exact Below.refl _ _ | with_reducible refine below_ext ?_ ?_ _ | with_reducible refine Below.alloc ?_ ?_ _ | with_reducible refine Below.drew ?_ | (simp only [size_ext, World.size_alloc, World.size_setCell, World.size_drew]; omega) | (simp; omega) | (simp [go_sem]; omega) | (simp [go_sem]; done) | (simp; done) | omega)), by repeat' (first | with_reducible exact HB.out | with_reducible exact Below.refl _ _ | with_reducible refine below_ext ?_ ?_ _ | with_reducible refine Below.alloc ?_ ?_ _ | with_reducible refine Below.setCell ?_ ?_ _ | with_reducible refine Below.drew ?_ | (have := HB.out.size; simp only [size_ext, World.size_alloc, World.size_setCell, World.size_drew]; omega) | exact Nat.le_trans HB.out.size (by go_size) | (have := HB.out.size; simp; omega) | (have := HB.out.size; simp [go_sem]; omega) | (have := HB.out.size; simp [go_sem]; done) | (simp; done) | omega)⟩
          case measure => simp [intOf]; omega
        · have HC1 := Lib.hid (HC.out 0 2678400 xs)
          rw [hc2] at HC1
          have HX := Lib.hid hx
          have HH : Hid ((decide ((7 : Int) = 7) && contB 0 2678400 xs) = true) := by rw [Hid, hc2]; rfl
          clear hx hc2
          go_wp2_with (go_at_call 34; (with_reducible refine (HC1.out _).mono ?_); rintro e w1 ⟨rfl, hb⟩; obtain ⟨s, rfl⟩ := ext_of_below hb; clear hb)
          have hUC : UgC (ext (wr.alloc (.cells #[.int .i64 xid, .int .i64 xk, .int .i64 xac, .int .i64 xsu, .string xa, .string xb, .int .i64 xs, .int .i64 xn, .int .i64 7, .bool xib, .int .i64 xso, .int .i64 xse] 31)) s) wr.heap.size ⟨xid, xk, xac, xsu, xa, xb, xs, xn, 7, xib, xso, xse⟩ := UgC.made wr ⟨xid, xk, xac, xsu, xa, xb, xs, xn, 7, xib, xso, xse⟩ s
          have hB1 : Below w.heap.size w (ext (wr.alloc (.cells #[.int .i64 xid, .int .i64 xk, .int .i64 xac, .int .i64 xsu, .string xa, .string xb, .int .i64 xs, .int .i64 xn, .int .i64 7, .bool xib, .int .i64 xso, .int .i64 xse] 31)) s) := by repeat' (first | with_reducible exact HB.out | with_reducible exact Below.refl _ _ | with_reducible refine below_ext ?_ ?_ _ | with_reducible refine Below.alloc ?_ ?_ _ | with_reducible refine Below.setCell ?_ ?_ _ | with_reducible refine Below.drew ?_ | (have := HB.out.size; simp only [size_ext, World.size_alloc, World.size_setCell, World.size_drew]; omega) | exact Nat.le_trans HB.out.size (by go_size) | (have := HB.out.size; simp; omega) | (have := HB.out.size; simp [go_sem]; omega) | (have := HB.out.size; simp [go_sem]; done) | (simp; done) | omega)
          have hT1 : Tots (ext (wr.alloc (.cells #[.int .i64 xid, .int .i64 xk, .int .i64 xac, .int .i64 xsu, .string xa, .string xb, .int .i64 xs, .int .i64 xn, .int .i64 7, .bool xib, .int .i64 xso, .int .i64 xse] 31)) s) (w.heap.size + 1) n (totF zs (us.take k)) := ht.out.below (by repeat' (first | with_reducible exact Below.refl _ _ | with_reducible refine below_ext ?_ ?_ _ | with_reducible refine Below.alloc ?_ ?_ _ | with_reducible refine Below.drew ?_ | (simp only [size_ext, World.size_alloc, World.size_setCell, World.size_drew]; omega) | (simp; omega) | (simp [go_sem]; omega) | (simp [go_sem]; done) | (simp; done) | omega))
          have hM1 : Mon (ext (wr.alloc (.cells #[.int .i64 xid, .int .i64 xk, .int .i64 xac, .int .i64 xsu, .string xa, .string xb, .int .i64 xs, .int .i64 xn, .int .i64 7, .bool xib, .int .i64 xso, .int .i64 xse] 31)) s) w.heap.size := hm.out.below (by repeat' (first | with_reducible exact Below.refl _ _ | with_reducible refine below_ext ?_ ?_ _ | with_reducible refine Below.alloc ?_ ?_ _ | with_reducible refine Below.drew ?_ | (simp only [size_ext, World.size_alloc, World.size_setCell, World.size_drew]; omega) | (simp; omega) | (simp [go_sem]; omega) | (simp [go_sem]; done) | (simp; done) | omega))
          clear x0 x1 x2 x3 x4 x5 x6 x7 x8 x9 x10 x11 HB ht hm m1 m2 hbw hB HC1
          generalize ext (wr.alloc (.cells #[.int .i64 xid, .int .i64 xk, .int .i64 xac, .int .i64 xsu, .string xa, .string xb, .int .i64 xs, .int .i64 xn, .int .i64 7, .bool xib, .int .i64 xso, .int .i64 xse] 31)) s = W1 at *
          have HUC := Lib.hid hUC
          have HB1 := Lib.hid hB1
          have HT1 := Lib.hid hT1
          have HM1 := Lib.hid hM1
          obtain ⟨sz, hsz2⟩ : ∃ sz, sz = wr.heap.size := ⟨_, rfl⟩
          rw [← hsz2] at HUC hUC ⊢
          have hsz1 := hUC.1
          have hm1' := hM1.1
          have htl' := hT1.lt
          have hb1' := hB1.size
          have hsw : w.heap.size < sz := by omega
          have hsw2 : w.heap.size + 1 < sz := by omega
          clear hUC hB1 hT1 hM1 hsz2 hm1 htl hsz
          go_loopw [34] (fun m w3 => ∃ i : Nat, i ≤ zs.length ∧ m = .int .i64 i ∧ Hid (∀ (j : Nat) (b : Ag), j < i → zs[j]? = some b → hitB b ⟨xid, xk, xac, xsu, xa, xb, xs, xn, 7, xib, xso, xse⟩ = false) ∧ Below W1.heap.size W1 w3) (fun m _ => zs.length - (intOf m).toNat)
          case atStart => exact ⟨0, Nat.zero_le _, rfl, fun j b hj => absurd hj (Nat.not_lt_zero _), Below.refl _ _⟩
          case round =>
            obtain ⟨i, hi, rfl, hmi, hbi⟩ := hrel
            have HBI := Lib.hid hbi
            have hszw := hbi.size
            have hb3 : Below w.heap.size w wr := HB1.out.trans (hbi.mono (by omega))
            have HB3 := Lib.hid hb3
            have HT3 := Lib.hid (HT1.out.below hbi)
            have HM3 := Lib.hid (HM1.out.below hbi)
            obtain ⟨hu1, hu2⟩ := HUC.out.below hbi
            have y0 := hu2 0 _ rfl
            have y1 := hu2 1 _ rfl
            have y2 := hu2 2 _ rfl
            have y3 := hu2 3 _ rfl
            have y4 := hu2 4 _ rfl
            have y5 := hu2 5 _ rfl
            have y6 := hu2 6 _ rfl
            have y7 := hu2 7 _ rfl
            have y8 := hu2 8 _ rfl
            have y9 := hu2 9 _ rfl
            have y10 := hu2 10 _ rfl
            have y11 := hu2 11 _ rfl
            dsimp only at y0 y1 y2 y3 y4 y5 y6 y7 y8 y9 y10 y11
            by_cases hil : i < zs.length
            · obtain ⟨a, ha⟩ : ∃ s, zs[i]? = some s := ⟨_, List.getElem?_eq_getElem hil⟩
              obtain ⟨b, o2, hA, hBb, z0, z1, z2, z3, z4, z5, z6⟩ := ags_cells (HZ.out.below hb3) ha
              cases hA
              have HA := Lib.hid ha
              obtain ⟨ap, ak, aib, af, at', aA, ast, ac, acap⟩ := a
              simp only [Nat.zero_add] at z0 z1 z2 z3 z4 z5 z6
              clear hu2 ha hb3 hbi
              have HC2 := Lib.hid (HC.out af at' xs)
              by_cases e1 : ap = 7
              · by_cases e2 : ak = xk
                · by_cases e3 : aib = xib
                  · cases e4 : contB af at' xs
                    · --<m4
                      have hn : hitB ⟨ap, ak, aib, af, at', aA, ast, ac, acap⟩ ⟨xid, xk, xac, xsu, xa, xb, xs, xn, 7, xib, xso, xse⟩ = false := by unfold hitB; dsimp only; rw [e4, Bool.and_false]
                      have hm2 := Lib.hid (miss_next hmi.out HA.out hn)
                      clear hn
                      rw [e4] at HC2
                      subst e1 e2 e3
                      go_wp2_with (go_at_call 34; (with_reducible refine (HC2.out _).mono ?_); rintro e w1 ⟨rfl, hb⟩; obtain ⟨s, rfl⟩ := ext_of_below hb; clear hb)
                      go_roundw
                      case rel => exact ⟨i + 1, by omega, by go_num, hm2.out, by repeat' (first | with_reducible exact HBI.out | with_reducible refine below_ext ?_ ?_ _ | with_reducible refine Below.alloc ?_ ?_ _ | with_reducible refine Below.drew ?_ | (simp only [size_ext, World.size_alloc, World.size_setCell, World.size_drew]; omega) | omega)⟩
                      case measure => simp [intOf]; omega
                      -->m4
                    · --<hit
                      have hh : hitB ⟨ap, ak, aib, af, at', aA, ast, ac, acap⟩ ⟨xid, xk, xac, xsu, xa, xb, xs, xn, 7, xib, xso, xse⟩ = true := by unfold hitB; dsimp only; rw [e4, decide_eq_true ⟨e1, e2, e3⟩]; rfl
                      have hth := Lib.hid (tot_hit HX.out (hit_first HH.out HA.out hh hmi.out))
                      rw [e4] at HC2
                      subst e1 e2 e3
                      clear hh e4
                      have hun := un_in xn
                      have htin := totF_in zs i (us.take k)
                      have htk : (us.take k).length ≤ 40 := by rw [List.length_take]; omega
                      have HL : ∀ (o : Obj) (s : More), (Instr.lookup 61 (.map (some (w.heap.size + 1))) (.int .i64 (i : Int)) false).run Tryz.prog (ext (wr.alloc o) s) = .ok (.agg #[.int .i64 (totF zs (us.take k) i).1, .int .i64 (totF zs (us.take k) i).2]) (ext (wr.alloc o) s) := fun o s => Tots.look (HT3.out.below (by repeat' (first | with_reducible exact Below.refl _ _ | with_reducible refine below_ext ?_ ?_ _ | with_reducible refine Below.alloc ?_ ?_ _ | with_reducible refine Below.drew ?_ | (simp only [size_ext, World.size_alloc, World.size_setCell, World.size_drew]; omega) | (simp; omega) | (simp [go_sem]; omega) | (simp [go_sem]; done) | (simp; done) | omega))) (by omega)
                      have HN1 : Hid (∀ W, Calls Tryz.prog 35 #[.agg #[.int .i64 xid, .int .i64 ak, .int .i64 xac, .int .i64 xsu, .string xa, .string xb, .int .i64 xs, .int .i64 xn, .int .i64 7, .bool aib, .int .i64 xso, .int .i64 xse]] W fun e w' => e = .returned (.int .i64 (un xn)) ∧ Below W.heap.size W w') := fun W => HN.out ⟨xid, ak, xac, xsu, xa, xb, xs, xn, 7, aib, xso, xse⟩ W
                      simp only [hitB] at hth
                      generalize totF zs (us.take k) i = G at *
                      obtain ⟨G1, G2⟩ := G
                      generalize un xn = N at *
                      dsimp only at htin HL hth
                      have hw1 : IntKind.i64.wrap (G1 + 1) = G1 + 1 := by simp (disch := omega) only [IntWalk.i64_in]
                      have hw2 : IntKind.i64.wrap (G2 + N) = G2 + N := by simp (disch := omega) only [IntWalk.i64_in]
                      have HF0 := fun x y W => tot_f0 x y W
                      have HF1 := fun x y W => tot_f1 x y W
                      go_wp2_with (go_at_call 34; (with_reducible refine (HC2.out _).mono ?_); rintro e w1 ⟨rfl, hb⟩; obtain ⟨s, rfl⟩ := ext_of_below hb; clear hb)
                      refine wp_region_front (front := [_, _, _, _, _, _, _, _, _, _, _, _, _, _, _]) (back := [_]) (C := fun w' => ∃ s : More, w' = ext _ s) rfl (by kernel_rfl) (by kernel_rfl) (by kernel_rfl) ⟨_, drew_ext _ _⟩ ?_
                      repeat (first | go_big_quiet_skip | quiet_step (first
                        | (go_at_call 35; first | with_reducible exact more_call2 (HN1.out _) | with_reducible exact more_call (HN1.out _))))
                      refine wpQuiet_nil ?_
                      rintro _ ⟨s4, rfl⟩
                      have HT4 : Tots (ext (wr.alloc (.cells #[.int .i64 7, .int .i64 ak, .bool aib, .int .i64 af, .int .i64 at', .slice aA ac.length ast, .int .i64 acap] 42)) s4) (w.heap.size + 1) n (totF zs (us.take k)) := HT3.out.below (by repeat' (first | with_reducible exact Below.refl _ _ | with_reducible refine below_ext ?_ ?_ _ | with_reducible refine Below.alloc ?_ ?_ _ | with_reducible refine Below.drew ?_ | (simp only [size_ext, World.size_alloc, World.size_setCell, World.size_drew]; omega) | (simp; omega) | (simp [go_sem]; omega) | (simp [go_sem]; done) | (simp; done) | omega))
                      have HB4 : Below w.heap.size w (ext (wr.alloc (.cells #[.int .i64 7, .int .i64 ak, .bool aib, .int .i64 af, .int .i64 at', .slice aA ac.length ast, .int .i64 acap] 42)) s4) := by repeat' (first | with_reducible exact HB3.out | with_reducible exact Below.refl _ _ | with_reducible refine below_ext ?_ ?_ _ | with_reducible refine Below.alloc ?_ ?_ _ | with_reducible refine Below.setCell ?_ ?_ _ | with_reducible refine Below.drew ?_ | (have := HB3.out.size; simp only [size_ext, World.size_alloc, World.size_setCell, World.size_drew]; omega) | exact Nat.le_refl _ | omega)
                      have HM4 : Mon (ext (wr.alloc (.cells #[.int .i64 7, .int .i64 ak, .bool aib, .int .i64 af, .int .i64 at', .slice aA ac.length ast, .int .i64 acap] 42)) s4) w.heap.size := HM3.out.below (by repeat' (first | with_reducible exact Below.refl _ _ | with_reducible refine below_ext ?_ ?_ _ | with_reducible refine Below.alloc ?_ ?_ _ | with_reducible refine Below.drew ?_ | (simp only [size_ext, World.size_alloc, World.size_setCell, World.size_drew]; omega) | (simp; omega) | (simp [go_sem]; omega) | (simp [go_sem]; done) | (simp; done) | omega))
                      obtain ⟨w5, hrun5, ht5, hg5⟩ := Tots.put (g' := totF zs (us.take (k + 1))) HT4 (by simp only [maxLen]; omega) (i := i) (c := G1 + 1) (u := G2 + N) (by omega) (by omega) hth.out
                      have HT5 := Lib.hid ht5
                      have HB5 := Lib.hid (below_grown HB4 hg5 (by simp only [size_ext, World.size_alloc]; omega) (fun k hk => by obtain rfl := Option.some.inj hk; omega))
                      have HM5 := Lib.hid (HM4.grown hg5 (by omega))
                      clear ht5 hg5 HT4 HB4 HM4
                      go_wp2
                      go_roundw
                      case rel => exact ⟨k + 1, n + 1, by omega, by go_num, by omega, HT5.out, HM5.out, HB5.out⟩
                      case measure => simp [intOf]; omega
                      -->hit
                  · --<m3
                    have hn : hitB ⟨ap, ak, aib, af, at', aA, ast, ac, acap⟩ ⟨xid, xk, xac, xsu, xa, xb, xs, xn, 7, xib, xso, xse⟩ = false := by unfold hitB; dsimp only; rw [decide_eq_false (fun x => e3 x.2.2)]; rfl
                    have hm2 := Lib.hid (miss_next hmi.out HA.out hn)
                    clear hn
                    have e3' : (aib == xib) = false := by simpa using e3
                    subst e1 e2
                    go_wp2_with (go_at_call 34; (with_reducible refine (HC2.out _).mono ?_); rintro e w1 ⟨rfl, hb⟩; obtain ⟨s, rfl⟩ := ext_of_below hb; clear hb)
                    go_roundw
                    case rel => exact ⟨i + 1, by omega, by go_num, hm2.out, by repeat' (first | with_reducible exact HBI.out | with_reducible refine below_ext ?_ ?_ _ | with_reducible refine Below.alloc ?_ ?_ _ | with_reducible refine Below.drew ?_ | (simp only [size_ext, World.size_alloc, World.size_setCell, World.size_drew]; omega) | omega)⟩
                    case measure => simp [intOf]; omega
                    -->m3
                · --<m2
                  have hn : hitB ⟨ap, ak, aib, af, at', aA, ast, ac, acap⟩ ⟨xid, xk, xac, xsu, xa, xb, xs, xn, 7, xib, xso, xse⟩ = false := by unfold hitB; dsimp only; rw [decide_eq_false (fun x => e2 x.2.1)]; rfl
                  have hm2 := Lib.hid (miss_next hmi.out HA.out hn)
                  clear hn
                  have e2' : (ak == xk) = false := by simpa using e2
                  subst e1
                  go_wp2_with (go_at_call 34; (with_reducible refine (HC2.out _).mono ?_); rintro e w1 ⟨rfl, hb⟩; obtain ⟨s, rfl⟩ := ext_of_below hb; clear hb)
                  go_roundw
                  case rel => exact ⟨i + 1, by omega, by go_num, hm2.out, by repeat' (first | with_reducible exact HBI.out | with_reducible refine below_ext ?_ ?_ _ | with_reducible refine Below.alloc ?_ ?_ _ | with_reducible refine Below.drew ?_ | (simp only [size_ext, World.size_alloc, World.size_setCell, World.size_drew]; omega) | omega)⟩
                  case measure => simp [intOf]; omega
                  -->m2
              · --<m1
                have hn : hitB ⟨ap, ak, aib, af, at', aA, ast, ac, acap⟩ ⟨xid, xk, xac, xsu, xa, xb, xs, xn, 7, xib, xso, xse⟩ = false := by unfold hitB; dsimp only; rw [decide_eq_false (fun x => e1 x.1)]; rfl
                have hm2 := Lib.hid (miss_next hmi.out HA.out hn)
                clear hn
                have e1' : (ap == 7) = false := by simpa using e1
                go_wp2_with (go_at_call 34; (with_reducible refine (HC2.out _).mono ?_); rintro e w1 ⟨rfl, hb⟩; obtain ⟨s, rfl⟩ := ext_of_below hb; clear hb)
                go_roundw
                case rel => exact ⟨i + 1, by omega, by go_num, hm2.out, by repeat' (first | with_reducible exact HBI.out | with_reducible refine below_ext ?_ ?_ _ | with_reducible refine Below.alloc ?_ ?_ _ | with_reducible refine Below.drew ?_ | (simp only [size_ext, World.size_alloc, World.size_setCell, World.size_drew]; omega) | omega)⟩
                case measure => simp [intOf]; omega
                -->m1
            · obtain rfl : i = zs.length := by omega
              have hh : Hid (totF zs (us.take (k + 1)) = totF zs (us.take k)) := tot_none HX.out (miss_all rfl hmi.out)
              clear hu2 hb3 hbi
              go_wp2
              go_roundw
              case rel => exact ⟨k + 1, n, by omega, by go_num, by omega, by rw [hh.out]; exact HT3.out, HM3.out, HB3.out⟩
              case measure => simp [intOf]; omega
      · have hh : Hid (totF zs (us.take (k + 1)) = totF zs (us.take k)) := tot_none hx (by unfold hit; rw [decide_eq_false c1]; rfl)
        have c1' : (x.tr == 7) = false := by simpa using c1
        clear hx
        go_wp2
        go_roundw
        case rel => exact ⟨k + 1, n, by omega, by go_num, by omega, by rw [hh.out]; exact ht.out.below (by repeat' (first | with_reducible exact Below.refl _ _ | with_reducible refine below_ext ?_ ?_ _ | with_reducible refine Below.alloc ?_ ?_ _ | with_reducible refine Below.drew ?_ | (simp only [size_ext, World.size_alloc, World.size_setCell, World.size_drew]; omega) | (simp; omega) | (simp [go_sem]; omega) | (simp [go_sem]; done) | (simp; done) | omega)), hm.out.below (by repeat' (first | with_reducible exact Below.refl _ _ | with_reducible refine below_ext ?_ ?_ _ | with_reducible refine Below.alloc ?_ ?_ _ | with_reducible refine Below.drew ?_ | (simp only [size_ext, World.size_alloc, World.size_setCell, World.size_drew]; omega) | (simp; omega) | (simp [go_sem]; omega) | (simp [go_sem]; done) | (simp; done) | omega)), by repeat' (first | with_reducible exact HB.out | with_reducible exact Below.refl _ _ | with_reducible refine below_ext ?_ ?_ _ | with_reducible refine Below.alloc ?_ ?_ _ | with_reducible refine Below.setCell ?_ ?_ _ | with_reducible refine Below.drew ?_ | (have := HB.out.size; simp only [size_ext, World.size_alloc, World.size_setCell, World.size_drew]; omega) | exact Nat.le_trans HB.out.size (by go_size) | (have := HB.out.size; simp; omega) | (have := HB.out.size; simp [go_sem]; omega) | (have := HB.out.size; simp [go_sem]; done) | (simp; done) | omega)⟩
        case measure => simp [intOf]; omega
    · obtain rfl : k = us.length := by omega
      have ht2 : Hid (Tots wr (w.heap.size + 1) n (totF zs us)) := by
        have := ht.out
        rw [List.take_length] at this
        exact this
      go_wp2
      try rw [Exit.noGoto_ret]
      go_ret
      exact ⟨_, n, rfl, by omega, ht2.out, HB.out⟩
end Go.Proofs.YtmodghiokoiipaaGreat

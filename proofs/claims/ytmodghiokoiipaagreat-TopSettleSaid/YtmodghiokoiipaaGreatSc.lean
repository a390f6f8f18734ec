/-
  Lists of numbers and of periods; the reference's add, In and limits, as far as what they hand back can be read.
-/
import Derived.Test.YtmodghiokoiipaaGreatS6
import Derived.Deep.RegionHeld3
namespace Go.Proofs.YtmodghiokoiipaaGreat
open Go.RowKit
set_option linter.unusedSimpArgs false
set_option linter.unusedVariables false

theorem keepL {W w' : World} {b i : Nat} {v : Value} (hb : Below W.heap.size W w') (hlt : b < W.heap.size) (h : W.cell? ⟨b, i, none⟩ = some v) : w'.cell? ⟨b, i, none⟩ = some v := (hb.cell (p := ⟨b, i, none⟩) hlt).trans h
def ntCells (x : Int) : List Value := [.int .i64 x]
abbrev Nts := Recs 1 ntCells
def pdCells (x : Int × Int) : List Value := [.int .i64 x.1, .int .i64 x.2]
abbrev Pds := Recs 2 pdCells
theorem nt_cell {w : World} {A : Option Addr} {xs : List Int} (h : Nts w A xs) {j : Nat} {x : Int} (hx : xs[j]? = some x) : ∃ b o, A = some ⟨b, o, none⟩ ∧ b < w.heap.size ∧ w.cell? ⟨b, o + j, none⟩ = some (.int .i64 x) := by
  obtain ⟨b, o, hA, hlt, hc⟩ := h j x hx
  have := hc 0 _ rfl
  rw [Nat.mul_one, Nat.add_zero] at this
  exact ⟨b, o, hA, hlt, this⟩
theorem pd_cells {w : World} {A : Option Addr} {xs : List (Int × Int)} (h : Pds w A xs) {j : Nat} {x : Int × Int} (hx : xs[j]? = some x) : ∃ b o, A = some ⟨b, o, none⟩ ∧ b < w.heap.size ∧ w.cell? ⟨b, o + j * 2, none⟩ = some (.int .i64 x.1) ∧ w.cell? ⟨b, o + j * 2 + 1, none⟩ = some (.int .i64 x.2) := by
  obtain ⟨b, o, hA, hlt, hc⟩ := h j x hx
  exact ⟨b, o, hA, hlt, hc 0 _ rfl, hc 1 _ rfl⟩
theorem nt_one (x : Int) : ∀ u ∈ ntCells x, u.oneCell' = true := by
  intro u hu
  simp only [ntCells, List.mem_cons, List.not_mem_nil, or_false] at hu
  rcases hu with rfl
  rfl
theorem pd_one (x : Int × Int) : ∀ u ∈ pdCells x, u.oneCell' = true := by
  intro u hu
  simp only [pdCells, List.mem_cons, List.not_mem_nil, or_false] at hu
  rcases hu with rfl | rfl <;> rfl
theorem own_lt {w : World} {g : Nat} {cur : Array Value} {e : TypeId} (hh : w.heap[g]? = some (.cells cur e)) : g < w.heap.size := by
  rcases Nat.lt_or_ge g w.heap.size with hlt | hge
  · exact hlt
  · rw [Array.getElem?_eq_none hge] at hh
    cases hh
theorem cells_new {W : World} {N : Nat} {T : TypeId} (cs : List Value) (hN : N = W.heap.size) : ∀ (j : Nat) (u : Value), cs[j]? = some u → (W.alloc (.cells cs.toArray T)).cell? ((⟨N, 0, none⟩ : Addr).add j) = some u := by
  intro j u hu
  subst hN
  have ha : ((⟨W.heap.size, 0, none⟩ : Addr).add j) = ⟨W.heap.size, j, none⟩ := by
    unfold Addr.add
    split
    · rename_i h0
      rw [h0]
    · simp
  rw [ha, World.cell?_alloc_at]
  · simpa using hu
  · rfl
theorem own_rec {α : Type} {f : α → List Value} {n : Nat} (hf : ∀ x, (f x).length = n) {w : World} {B : Nat} {e : TypeId} {v : Value} {ts : List α} (h : w.ownsRow B e n v ts.length (ts.flatMap f)) : ∃ A c, v = .slice A ts.length c ∧ Recs n f w A ts := by
  rcases h.2 with ⟨rfl, h0⟩ | ⟨g, cap, cur, rfl, _, hh, _⟩
  · refine ⟨none, 0, by rw [h0], fun j x hx => ?_⟩
    have hj : j < ts.length := (List.getElem?_eq_some_iff.1 hx).1
    omega
  · refine ⟨some ⟨g, 0, none⟩, cap, rfl, fun j x hx => ?_⟩
    have hj : j < ts.length := (List.getElem?_eq_some_iff.1 hx).1
    refine ⟨g, 0, rfl, own_lt hh, fun i u hu => ?_⟩
    have hi : i < n := by
      have := (List.getElem?_eq_some_iff.1 hu).1
      rwa [hf] at this
    have hlt : j * n + i < ts.length * n := by
      have : (j + 1) * n ≤ ts.length * n := Nat.mul_le_mul_right _ hj
      rw [Nat.add_mul] at this
      omega
    rw [Nat.zero_add, h.cellAt (j * n + i) hlt, ← hu]
    exact flat_at hf ts j i x hx hi
theorem info_int : (Tryz.prog.info? 3).map (fun i => (i.zero, i.size, i.bytes)) = some (some (.int .i64 0), 1, 8) := by kernel_rfl
theorem info_pd : (Tryz.prog.info? 29).map (fun i => (i.zero, i.size, i.bytes)) = some (some (.agg #[.int .i64 0, .int .i64 0]), 2, 16) := by kernel_rfl
def OwnN (w : World) (B : Nat) (v : Value) (l : List Int) : Prop := w.ownsRow B 3 1 v l.length (l.flatMap ntCells)
theorem OwnN.nil (w : World) (B : Nat) : OwnN w B (.slice none 0 0) [] := World.ownsRow_nil _ _ _ _
theorem OwnN.snoc {w : World} {B : Nat} {v : Value} {l : List Int} {x : Int} (h : w.ownsRow B 3 1 v (l.length + 1) (l.flatMap ntCells ++ ntCells x)) : OwnN w B v (l ++ [x]) := by
  unfold OwnN
  rw [List.length_append, List.flatMap_append]
  simpa using h
/-- A list of at most m numbers is handed back. -/
def NtR (w : World) (m : Nat) (e : Ending) (w' : World) : Prop := ∃ A xs c, e = .returned (.slice A xs.length c) ∧ xs.length ≤ m ∧ Nts w' A xs ∧ Below w.heap.size w w'
theorem ntR_mk {w w' : World} {m : Nat} {v : Value} {l : List Int} (h : OwnN w' w.heap.size v l) (hl : l.length ≤ m) (hb : Below w.heap.size w w') : NtR w m (.returned v) w' := by
  obtain ⟨A, c, rfl, hr⟩ := own_rec (f := ntCells) (fun _ => rfl) h
  exact ⟨A, l, c, rfl, hl, hr, hb⟩

set_option maxRecDepth 100000 in
set_option maxHeartbeats 4000000 in
theorem add_any (xs : List Int) (A : Option Addr) (c : Nat) (n : Int) (w : World) (h : Nts w A xs) (hn : xs.length ≤ 1000) :
    Calls Tryz.prog 75 #[.slice A xs.length c, .int .i64 n] w (NtR w (xs.length + 1)) := by
  obtain ⟨i0, hi0, hz0, hz1, hz2⟩ := info_parts info_int
  have H := Lib.hid h
  clear h
  go_enter Tryz.func75, Tryz.ntmps75
  go_wp2
  go_loopw [5, 6, 7] (fun vo d i wr => ∃ (k : Nat) (b : Bool) (ys : List Int), k ≤ xs.length ∧ i = .int .i64 k ∧ d = .bool b ∧ ys.length ≤ k + (if b then 1 else 0) ∧ Hid (OwnN wr w.heap.size vo ys) ∧ Hid (Below w.heap.size w wr)) (fun _ _ i _ => xs.length - (intOf i).toNat)
  case atStart => exact ⟨0, false, [], Nat.zero_le _, rfl, rfl, Nat.zero_le _, OwnN.nil _ _, Below.refl _ _⟩
  case round =>
    obtain ⟨k, d, ys, hk, rfl, rfl, hy, HO, HBW⟩ := hrel
    have hsz := HBW.out.size
    by_cases hlt : k < xs.length
    · obtain ⟨x, hx⟩ : ∃ s, xs[k]? = some s := ⟨_, List.getElem?_eq_getElem hlt⟩
      obtain ⟨b, o, rfl, hb, hc⟩ := nt_cell H.out hx
      have x0 := (HBW.out.cell (p := ⟨b, o + k, none⟩) hb).trans hc
      have hbr : b < wr.heap.size := by omega
      clear hx
      cases d
      · simp only [Bool.false_eq_true, if_false, Nat.add_zero] at hy
        by_cases hge : n ≤ x
        · by_cases hne : x = n
          · subst hne
            go_wp2_with (at_builtin; refine wpList_append_own _ rfl _ _ _ rfl w.heap.size 3 i0 _ 1 8 Tryz.underlying24 hi0 hz0 hz1 hz2 rfl (by omega) _ ys.length (ys.flatMap ntCells) rfl (World.ownsRow.alloc HO.out _) ⟨wr.heap.size, 0, none⟩ 1 1 (ntCells x) rfl rfl (cells_new _ rfl) (nt_one _) (by simp only [maxLen]; omega) (by omega) (by simp [go_sem]; omega) ?_; intro v6 w6 hown6 hg6 hnil6; clear hnil6; have HO6 := Lib.hid (OwnN.snoc hown6); have HB6 := Lib.hid ((HBW.out.alloc HBW.out.size _).grown hg6 (by simp [go_sem]; omega) (fun i hi => (World.ownsRow.lt HO.out i hi).1)); have x6 := (HB6.out.cell (p := ⟨b, o + k, none⟩) hb).trans hc; have hb6 : b < w6.heap.size := Nat.lt_of_lt_of_le hb HB6.out.size; clear hown6 hg6)
            go_roundw
            case rel => exact ⟨k + 1, true, ys ++ [x], by omega, by go_num, rfl, by simp; omega, HO6.out, HB6.out⟩
            case measure => simp [intOf]; omega
          · have hne' : (x == n) = false := by simpa using hne
            go_wp2_with (first
              | (at_builtin; refine wpList_append_own _ rfl _ _ _ rfl w.heap.size 3 i0 _ 1 8 Tryz.underlying24 hi0 hz0 hz1 hz2 rfl (by omega) _ ys.length (ys.flatMap ntCells) rfl (World.ownsRow.alloc HO.out _) ⟨wr.heap.size, 0, none⟩ 1 1 (ntCells n) rfl rfl (cells_new _ rfl) (nt_one _) (by simp only [maxLen]; omega) (by omega) (by simp [go_sem]; omega) ?_; intro v6 w6 hown6 hg6 hnil6; clear hnil6; have HO6 := Lib.hid (OwnN.snoc hown6); have HB6 := Lib.hid ((HBW.out.alloc HBW.out.size _).grown hg6 (by simp [go_sem]; omega) (fun i hi => (World.ownsRow.lt HO.out i hi).1)); have x6 := (HB6.out.cell (p := ⟨b, o + k, none⟩) hb).trans hc; have hb6 : b < w6.heap.size := Nat.lt_of_lt_of_le hb HB6.out.size; have h66 := HB6.out.size; clear hown6 hg6)
              | (at_builtin; refine wpList_append_own _ rfl _ _ _ rfl w.heap.size 3 i0 _ 1 8 Tryz.underlying24 hi0 hz0 hz1 hz2 rfl (by omega) _ (ys ++ [n]).length ((ys ++ [n]).flatMap ntCells) rfl (World.ownsRow.alloc HO6.out _) ⟨w6.heap.size, 0, none⟩ 1 1 (ntCells x) rfl rfl (cells_new _ rfl) (nt_one _) (by simp [maxLen]; omega) (by simp; omega) (by simp [go_sem]; omega) ?_; intro v7 w7 hown7 hg7 hnil7; clear hnil7; have HO7 := Lib.hid (OwnN.snoc hown7); have HB7 := Lib.hid ((HB6.out.alloc HB6.out.size _).grown hg7 (by simp [go_sem]; omega) (fun i hi => (World.ownsRow.lt HO6.out i hi).1)); clear hown7 hg7))
            go_roundw
            case rel => exact ⟨k + 1, true, ys ++ [n] ++ [x], by omega, by go_num, rfl, by simp; omega, HO7.out, HB7.out⟩
            case measure => simp [intOf]; omega
        · have hne : ¬ x = n := by omega
          have hne' : (x == n) = false := by simpa using hne
          go_wp2_with (at_builtin; refine wpList_append_own _ rfl _ _ _ rfl w.heap.size 3 i0 _ 1 8 Tryz.underlying24 hi0 hz0 hz1 hz2 rfl (by omega) _ ys.length (ys.flatMap ntCells) rfl (World.ownsRow.alloc HO.out _) ⟨wr.heap.size, 0, none⟩ 1 1 (ntCells x) rfl rfl (cells_new _ rfl) (nt_one _) (by simp only [maxLen]; omega) (by omega) (by simp [go_sem]; omega) ?_; intro v6 w6 hown6 hg6 hnil6; clear hnil6; have HO6 := Lib.hid (OwnN.snoc hown6); have HB6 := Lib.hid ((HBW.out.alloc HBW.out.size _).grown hg6 (by simp [go_sem]; omega) (fun i hi => (World.ownsRow.lt HO.out i hi).1)); clear hown6 hg6)
          go_roundw
          case rel => exact ⟨k + 1, false, ys ++ [x], by omega, by go_num, rfl, by simp; omega, HO6.out, HB6.out⟩
          case measure => simp [intOf]; omega
      · simp only [if_true] at hy
        by_cases hne : x = n
        · subst hne
          go_wp2
          go_roundw
          case rel => exact ⟨k + 1, true, ys, by omega, by go_num, rfl, by simp; omega, HO.out, HBW.out⟩
          case measure => simp [intOf]; omega
        · have hne' : (x == n) = false := by simpa using hne
          go_wp2_with (at_builtin; refine wpList_append_own _ rfl _ _ _ rfl w.heap.size 3 i0 _ 1 8 Tryz.underlying24 hi0 hz0 hz1 hz2 rfl (by omega) _ ys.length (ys.flatMap ntCells) rfl (World.ownsRow.alloc HO.out _) ⟨wr.heap.size, 0, none⟩ 1 1 (ntCells x) rfl rfl (cells_new _ rfl) (nt_one _) (by simp only [maxLen]; omega) (by omega) (by simp [go_sem]; omega) ?_; intro v6 w6 hown6 hg6 hnil6; clear hnil6; have HO6 := Lib.hid (OwnN.snoc hown6); have HB6 := Lib.hid ((HBW.out.alloc HBW.out.size _).grown hg6 (by simp [go_sem]; omega) (fun i hi => (World.ownsRow.lt HO.out i hi).1)); clear hown6 hg6)
          go_roundw
          case rel => exact ⟨k + 1, true, ys ++ [x], by omega, by go_num, rfl, by simp; omega, HO6.out, HB6.out⟩
          case measure => simp [intOf]; omega
    · obtain rfl : k = xs.length := by omega
      cases d
      · simp only [Bool.false_eq_true, if_false, Nat.add_zero] at hy
        go_wp2_with (at_builtin; refine wpList_append_own _ rfl _ _ _ rfl w.heap.size 3 i0 _ 1 8 Tryz.underlying24 hi0 hz0 hz1 hz2 rfl (by omega) _ ys.length (ys.flatMap ntCells) rfl (World.ownsRow.alloc HO.out _) ⟨wr.heap.size, 0, none⟩ 1 1 (ntCells n) rfl rfl (cells_new _ rfl) (nt_one _) (by simp only [maxLen]; omega) (by omega) (by simp [go_sem]; omega) ?_; intro v6 w6 hown6 hg6 hnil6; clear hnil6; have HO6 := Lib.hid (OwnN.snoc hown6); have HB6 := Lib.hid ((HBW.out.alloc HBW.out.size _).grown hg6 (by simp [go_sem]; omega) (fun i hi => (World.ownsRow.lt HO.out i hi).1)); clear hown6 hg6)
        go_ret
        exact ntR_mk HO6.out (by simp; omega) HB6.out
      · simp only [if_true] at hy
        go_wp2
        go_ret
        exact ntR_mk HO.out (by omega) HBW.out

def inF (ps : List (Int × Int)) (t : Int) : Bool := ps.any fun p => contB p.1 p.2 t
theorem drop_cons' {α : Type} {xs : List α} {k : Nat} {x : α} (hx : xs[k]? = some x) : xs.drop k = x :: xs.drop (k + 1) := by
  have hlt := (List.getElem?_eq_some_iff.1 hx).1
  rw [List.drop_eq_getElem_cons hlt]
  have := (List.getElem?_eq_some_iff.1 hx).2
  rw [this]
set_option maxHeartbeats 2000000 in
theorem in_any (ps : List (Int × Int)) (A : Option Addr) (c : Nat) (t : Int) (w : World) (h : Pds w A ps) (hn : ps.length ≤ 1000) :
    Calls Tryz.prog 59 #[.slice A ps.length c, .int .i64 t] w fun e w' => e = .returned (.bool (inF ps t)) ∧ Below w.heap.size w w' := by
  have H := Lib.hid h
  clear h
  have HC := Lib.hid (fun p q W => contr_any p q t W)
  go_enter Tryz.func59, Tryz.ntmps59
  go_wp2
  go_loopw [5] (fun i wr => ∃ k : Nat, k ≤ ps.length ∧ i = .int .i64 k ∧ Hid (inF ps t = inF (ps.drop k) t) ∧ Hid (Below w.heap.size w wr)) (fun i _ => ps.length - (intOf i).toNat)
  case atStart => exact ⟨0, Nat.zero_le _, rfl, rfl, Below.refl _ _⟩
  case round =>
    obtain ⟨k, hk, rfl, he, HB⟩ := hrel
    have hsz := HB.out.size
    by_cases hlt : k < ps.length
    · obtain ⟨x, hx⟩ : ∃ s, ps[k]? = some s := ⟨_, List.getElem?_eq_getElem hlt⟩
      obtain ⟨b, o, rfl, hb, c0, c1⟩ := pd_cells H.out hx
      have x0 := (HB.out.cell (p := ⟨b, o + k * 2, none⟩) hb).trans c0
      have x1 := (HB.out.cell (p := ⟨b, o + k * 2 + 1, none⟩) hb).trans c1
      have hbr : b < wr.heap.size := by omega
      have he2 : Hid (inF ps t = (contB x.1 x.2 t || inF (ps.drop (k + 1)) t)) := by
        rw [Hid, he.out, drop_cons' hx]
        rfl
      obtain ⟨x1', x2'⟩ := x
      clear hx
      dsimp only at x0 x1 c0 c1 he2
      cases hct : contB x1' x2' t
      · rw [hct] at he2
        go_wp2_with (go_at_call 76; (with_reducible refine (HC.out _ _ _).mono ?_); rw [hct]; rintro e w1 ⟨rfl, hb⟩; obtain ⟨s, rfl⟩ := ext_of_below hb; clear hb)
        go_roundw
        case rel => exact ⟨k + 1, by omega, by go_num, he2.out, Lib.hid (by repeat' (first | with_reducible exact HB.out | with_reducible exact Below.refl _ _ | with_reducible refine below_ext ?_ ?_ _ | with_reducible refine Below.alloc ?_ ?_ _ | with_reducible refine Below.setCell ?_ ?_ _ | with_reducible refine Below.drew ?_ | (have := HB.out.size; simp only [size_ext, World.size_alloc, World.size_setCell, World.size_drew]; omega) | exact Nat.le_trans HB.out.size (by go_size) | (have := HB.out.size; simp; omega) | (have := HB.out.size; simp [go_sem]; omega) | (have := HB.out.size; simp [go_sem]; done) | (simp; done) | omega))⟩
        case measure => simp [intOf]; omega
      · rw [hct] at he2
        go_wp2_with (go_at_call 76; (with_reducible refine (HC.out _ _ _).mono ?_); rw [hct]; rintro e w1 ⟨rfl, hb⟩; obtain ⟨s, rfl⟩ := ext_of_below hb; clear hb)
        try rw [Exit.noGoto_ret]
        go_ret
        exact ⟨ret_bool he2.out.symm, by repeat' (first | with_reducible exact HB.out | with_reducible exact Below.refl _ _ | with_reducible refine below_ext ?_ ?_ _ | with_reducible refine Below.alloc ?_ ?_ _ | with_reducible refine Below.setCell ?_ ?_ _ | with_reducible refine Below.drew ?_ | (have := HB.out.size; simp only [size_ext, World.size_alloc, World.size_setCell, World.size_drew]; omega) | exact Nat.le_trans HB.out.size (by go_size) | (have := HB.out.size; simp; omega) | (have := HB.out.size; simp [go_sem]; omega) | (have := HB.out.size; simp [go_sem]; done) | (simp; done) | omega)⟩
    · obtain rfl : k = ps.length := by omega
      have he2 : Hid (inF ps t = false) := by rw [Hid, he.out, List.drop_length]; rfl
      go_wp2
      go_ret
      exact ⟨ret_bool he2.out.symm, by repeat' (first | with_reducible exact HB.out | with_reducible exact Below.refl _ _ | with_reducible refine below_ext ?_ ?_ _ | with_reducible refine Below.alloc ?_ ?_ _ | with_reducible refine Below.setCell ?_ ?_ _ | with_reducible refine Below.drew ?_ | (have := HB.out.size; simp only [size_ext, World.size_alloc, World.size_setCell, World.size_drew]; omega) | exact Nat.le_trans HB.out.size (by go_size) | (have := HB.out.size; simp; omega) | (have := HB.out.size; simp [go_sem]; omega) | (have := HB.out.size; simp [go_sem]; done) | (simp; done) | omega)⟩

set_option maxRecDepth 100000 in
set_option maxHeartbeats 4000000 in
theorem limits_any (l : List Int) (ps : List (Int × Int)) (A A2 : Option Addr) (c c2 : Nat) (w : World) (h : Nts w A l) (hp : Pds w A2 ps) (hn : l.length ≤ 100) (hpn : ps.length ≤ 100) :
    Calls Tryz.prog 58 #[.slice A l.length c, .slice A2 ps.length c2] w (NtR w (l.length + 2 * ps.length)) := by
  have H := Lib.hid h
  have HP := Lib.hid hp
  clear h hp
  have HV := Lib.hid (fun p q W => validr_any p q W)
  go_enter Tryz.func58, Tryz.ntmps58
  go_wp2
  go_loopw [0, 5] (fun v i wr => ∃ (k : Nat) (Ak : Option Addr) (ck : Nat) (ys : List Int), k ≤ ps.length ∧ i = .int .i64 k ∧ v = .slice Ak ys.length ck ∧ ys.length ≤ l.length + 2 * k ∧ Hid (Nts wr Ak ys) ∧ Hid (Below w.heap.size w wr)) (fun _ i _ => ps.length - (intOf i).toNat)
  case atStart => exact ⟨0, A, c, l, Nat.zero_le _, rfl, rfl, by omega, H.out, Below.refl _ _⟩
  case round =>
    obtain ⟨k, Ak, ck, ys, hk, rfl, rfl, hy, HN, HB⟩ := hrel
    have hsz := HB.out.size
    by_cases hlt : k < ps.length
    · obtain ⟨x, hx⟩ : ∃ s, ps[k]? = some s := ⟨_, List.getElem?_eq_getElem hlt⟩
      obtain ⟨b, o, rfl, hb, c0, c1⟩ := pd_cells HP.out hx
      have x0 := (HB.out.cell (p := ⟨b, o + k * 2, none⟩) hb).trans c0
      have x1 := (HB.out.cell (p := ⟨b, o + k * 2 + 1, none⟩) hb).trans c1
      have hbr : b < wr.heap.size := by omega
      obtain ⟨x1', x2'⟩ := x
      clear hx
      dsimp only at x0 x1 c0 c1
      cases hct : validB x1' x2'
      · go_wp2_with (go_at_call 20; (with_reducible refine (HV.out _ _ _).mono ?_); rw [hct]; rintro e w1 ⟨rfl, hb⟩; obtain ⟨s, rfl⟩ := ext_of_below hb; clear hb)
        go_roundw
        case rel => exact ⟨k + 1, _, _, ys, by omega, by go_num, rfl, by omega, HN.out.ext _, Lib.hid (by repeat' (first | with_reducible exact HB.out | with_reducible exact Below.refl _ _ | with_reducible refine below_ext ?_ ?_ _ | with_reducible refine Below.alloc ?_ ?_ _ | with_reducible refine Below.setCell ?_ ?_ _ | with_reducible refine Below.drew ?_ | (have := HB.out.size; simp only [size_ext, World.size_alloc, World.size_setCell, World.size_drew]; omega) | exact Nat.le_trans HB.out.size (by go_size) | (have := HB.out.size; simp; omega) | (have := HB.out.size; simp [go_sem]; omega) | (have := HB.out.size; simp [go_sem]; done) | (simp; done) | omega))⟩
        case measure => simp [intOf]; omega
      · obtain ⟨hn1, hn2⟩ : (k : Int) < (ps.length : Int) ∧ (0 : Int) ≤ (k : Int) := by omega
        go_wp2_with (go_at_call 20; (with_reducible refine (HV.out _ _ _).mono ?_); rw [hct]; rintro e w1 ⟨rfl, hb⟩; obtain ⟨s, rfl⟩ := ext_of_below hb; clear hb)
        go_region_held3 (fun w' => w'.cell? ⟨b, o + k * 2, none⟩ = some (.int .i64 x1') ∧ w'.cell? ⟨b, o + k * 2 + 1, none⟩ = some (.int .i64 x2'))
          ((with_reducible refine ⟨keepL (W := wr) ?_ hbr x0, keepL (W := wr) ?_ hbr x1⟩ <;> (repeat' (first | exact Below.refl _ _ | refine below_ext ?_ ?_ _ | refine Below.alloc ?_ ?_ _ | refine Below.setCell ?_ ?_ _ | refine Below.drew ?_ | (rw [size_ext]; refine Nat.le_add_right_of_le ?_) | go_size | (rw [World.size_alloc]; refine Nat.le_add_right_of_le ?_)))))
          ((first
            | (go_at_call 75; (with_reducible refine (add_any ys Ak ck x1' _ (HN.out.below ?_) (by omega)).mono ?_); (· repeat' (first | exact Below.refl _ _ | refine below_ext ?_ ?_ _ | refine Below.alloc ?_ ?_ _ | refine Below.setCell ?_ ?_ _ | refine Below.drew ?_ | (rw [size_ext]; refine Nat.le_add_right_of_le ?_) | go_size | (rw [World.size_alloc]; refine Nat.le_add_right_of_le ?_))); rintro e1 w1 ⟨A1, ys1, c1', rfl, hl1, hN1, hb1⟩; obtain ⟨s1, rfl⟩ := ext_of_below hb1; try simp only [ext_ext, drew_ext] at hN1; have HN1 := Lib.hid hN1; clear hN1 hb1)
            | (go_at_call 75; (with_reducible refine (add_any ys1 A1 c1' x2' _ (HN1.out.below ?_) (by omega)).mono ?_); (· repeat' (first | exact Below.refl _ _ | refine below_ext ?_ ?_ _ | refine Below.alloc ?_ ?_ _ | refine Below.setCell ?_ ?_ _ | refine Below.drew ?_ | (rw [size_ext]; refine Nat.le_add_right_of_le ?_) | go_size | (rw [World.size_alloc]; refine Nat.le_add_right_of_le ?_))); rintro e2 w2 ⟨A2', ys2, c2', rfl, hl2, hN2, hb2⟩; obtain ⟨s2, rfl⟩ := ext_of_below hb2; try simp only [ext_ext, drew_ext] at hN2; have HN2 := Lib.hid hN2; clear hN2 hb2)))
        go_wp2
        go_roundw
        case rel => exact ⟨k + 1, _, _, ys2, by omega, by go_num, rfl, by omega, HN2.out, Lib.hid (by repeat' (first | with_reducible exact HB.out | with_reducible exact Below.refl _ _ | with_reducible refine below_ext ?_ ?_ _ | with_reducible refine Below.alloc ?_ ?_ _ | with_reducible refine Below.setCell ?_ ?_ _ | with_reducible refine Below.drew ?_ | (have := HB.out.size; simp only [size_ext, World.size_alloc, World.size_setCell, World.size_drew]; omega) | exact Nat.le_trans HB.out.size (by go_size) | (have := HB.out.size; simp; omega) | (have := HB.out.size; simp [go_sem]; omega) | (have := HB.out.size; simp [go_sem]; done) | (simp; done) | omega))⟩
        case measure => simp [intOf]; omega
    · obtain rfl : k = ps.length := by omega
      go_wp2
      go_ret
      exact ⟨_, _, _, rfl, by omega, HN.out, HB.out⟩
end Go.Proofs.YtmodghiokoiipaaGreat

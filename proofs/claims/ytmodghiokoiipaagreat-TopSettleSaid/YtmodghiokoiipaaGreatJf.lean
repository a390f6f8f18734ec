/-
  TopSettle: texts joined (by joint.py).
-/
import Derived.Test.YtmodghiokoiipaaGreatS1
import Derived.Laws.IdiomCopy
import Derived.Deep.RegionHeld3

/-!
  The order of agreements.
-/
namespace Go.Proofs.YtmodghiokoiipaaGreat
open Go.RowKit
set_option linter.unusedSimpArgs false
set_option linter.unusedVariables false

def orN : List Int → Int
  | [] => 0
  | n :: l => if n = 0 then orN l else n
theorem or_any (ns : List Int) (b c : Nat) (w : World) (h : ∀ j n, ns[j]? = some n → w.cell? ⟨b, j, none⟩ = some (.int .i64 n)) (hb : b < w.heap.size) (hn : ns.length ≤ 100) :
    Calls Tryz.prog 31 #[.slice (some ⟨b, 0, none⟩) ns.length c] w fun e w' => e = .returned (.int .i64 (orN ns)) ∧ Below w.heap.size w w' := by
  have H := Lib.hid h
  clear h
  go_enter Tryz.func31, Tryz.ntmps31
  go_wp2
  go_loop [8] (fun i => ∃ k : Nat, k ≤ ns.length ∧ i = .int .i64 k ∧ Hid (orN ns = orN (ns.drop k))) (fun i => ns.length - (intOf i).toNat)
  case atStart => exact ⟨0, Nat.zero_le _, rfl, rfl⟩
  case round =>
    obtain ⟨k, hk, rfl, he⟩ := hrel
    by_cases hlt : k < ns.length
    · obtain ⟨x, hx⟩ : ∃ s, ns[k]? = some s := ⟨_, List.getElem?_eq_getElem hlt⟩
      have hc := H.out k x hx
      have hd := Lib.hid (drop_cons hx)
      clear hx
      by_cases hin : x = 0
      · have hi : Hid (orN ns = orN (ns.drop (k + 1))) := by rw [Hid, he.out, hd.out, orN, if_pos hin]
        subst hin
        go_wp2
        go_round
        case rel => exact ⟨k + 1, by omega, by go_num, hi.out⟩
        case measure => simp [intOf]; omega
      · have hi : Hid (orN ns = x) := by rw [Hid, he.out, hd.out, orN, if_neg hin]
        have hin' : (x == 0) = false := by simpa using hin
        go_wp2
        go_ret
        exact ⟨ret_int hi.out.symm, Below.refl _ _⟩
    · obtain rfl : k = ns.length := by omega
      have hi : Hid (orN ns = 0) := by rw [Hid, he.out, List.drop_length]; rfl
      go_wp2
      go_ret
      exact ⟨ret_int hi.out.symm, Below.refl _ _⟩
theorem or3 (x y z : Int) (b c : Nat) (w : World) (h0 : w.cell? ⟨b, 0, none⟩ = some (.int .i64 x)) (h1 : w.cell? ⟨b, 1, none⟩ = some (.int .i64 y)) (h2 : w.cell? ⟨b, 2, none⟩ = some (.int .i64 z)) (hb : b < w.heap.size) :
    Calls Tryz.prog 31 #[.slice (some ⟨b, 0, none⟩) 3 c] w fun e w' => e = .returned (.int .i64 (orN [x, y, z])) ∧ Below w.heap.size w w' := by
  have := or_any [x, y, z] b c w (fun j n hj => by
    match j with
    | 0 => cases hj; exact h0
    | 1 => cases hj; exact h1
    | 2 => cases hj; exact h2
    | j + 3 => simp at hj) hb (by simp)
  simpa using this
def rk (b : Bool) : Int := if b then 1 else 0
theorem rank_rk (x : Bool) (w : World) : Calls Tryz.prog 33 #[.bool x] w fun e w' => e = .returned (.int .i64 (rk x)) ∧ Below w.heap.size w w' := rank_any x w
def bf (x y : Ag) : Int := orN [cmpI x.k y.k, cmpI (rk x.ib) (rk y.ib), cmpI x.f y.f]
set_option maxRecDepth 100000 in
set_option maxHeartbeats 4000000 in
theorem before_any (x y : Ag) (w : World) :
    Calls Tryz.prog 16 #[.agg #[.int .i64 x.p, .int .i64 x.k, .bool x.ib, .int .i64 x.f, .int .i64 x.t, .slice x.A x.st.length x.c, .int .i64 x.cap], .agg #[.int .i64 y.p, .int .i64 y.k, .bool y.ib, .int .i64 y.f, .int .i64 y.t, .slice y.A y.st.length y.c, .int .i64 y.cap]] w fun e w' => e = .returned (.int .i64 (bf x y)) ∧ Below w.heap.size w w' := by
  have HC := Lib.hid (fun a b W => compare_any a b W)
  have HR := Lib.hid (fun a W => rank_rk a W)
  go_enter Tryz.func16, Tryz.ntmps16
  go_wp2_with fail
  refine wp_region_front (front := [_, _, _, _, _, _, _, _, _, _, _, _, _, _, _, _, _, _, _]) (back := [_, _, _]) (C := fun w' => ∃ s : More, w' = ext _ s) rfl (by kernel_rfl) (by kernel_rfl) (by kernel_rfl) ⟨⟨[], _⟩, by simp [ext]; rfl⟩ ?_
  repeat (first | go_big_quiet_skip | quiet_step (first
    | (go_at_call 32; first | with_reducible exact more_call2 (HC.out _ _ _) | with_reducible exact more_call (HC.out _ _ _))
    | (go_at_call 33; first | with_reducible exact more_call2 (HR.out _ _) | with_reducible exact more_call (HR.out _ _))))
  refine wpQuiet_nil ?_
  rintro _ ⟨s4, rfl⟩
  go_step
  go_wp2_with (go_at_call 31; (with_reducible refine (or3 (cmpI x.k y.k) (cmpI (rk x.ib) (rk y.ib)) (cmpI x.f y.f) _ _ _ ?_ ?_ ?_ ?_).mono ?_); (· simp [go_sem]); (· simp [go_sem]); (· simp [go_sem]); (· simp [go_sem]); rintro e w1 ⟨rfl, hb⟩; obtain ⟨s, rfl⟩ := ext_of_below hb; clear hb)
  go_ret
  refine ⟨rfl, ?_⟩
  repeat' (first | exact Below.refl _ _ | refine below_ext ?_ ?_ _ | refine Below.alloc ?_ ?_ _ | refine Below.setCell ?_ ?_ _ | refine Below.drew ?_ | (rw [size_ext]; refine Nat.le_add_right_of_le ?_) | go_size | (rw [World.size_alloc]; refine Nat.le_add_right_of_le ?_))
end Go.Proofs.YtmodghiokoiipaaGreat

/-!
  A row of agreements of one's own: its memory, and the order by insertion.
-/
namespace Go.Proofs.YtmodghiokoiipaaGreat
open Go.RowKit
set_option linter.unusedSimpArgs false
set_option linter.unusedVariables false

/-- All but the block D lies as it lay. -/
structure Kq (D : Nat) (w w' : World) : Prop where
  os : w'.os = w.os
  tape : w'.tape = w.tape
  output : w'.output = w.output
  size : w.heap.size ≤ w'.heap.size
  block : ∀ k, k < w.heap.size → k ≠ D → w'.heap[k]? = w.heap[k]?
theorem Kq.refl (D : Nat) (w : World) : Kq D w w := ⟨rfl, rfl, rfl, Nat.le_refl _, fun _ _ _ => rfl⟩
theorem Kq.step {D : Nat} {w a b : World} (h : Kq D w a) (hb : Below a.heap.size a b) : Kq D w b :=
  ⟨hb.os.trans h.os, hb.tape.trans h.tape, hb.output.trans h.output, Nat.le_trans h.size hb.size, fun k hk h1 => (hb.block k (Nat.lt_of_lt_of_le hk h.size)).trans (h.block k hk h1)⟩
theorem Kq.trans {D : Nat} {w a b : World} (h : Kq D w a) (k : Kq D a b) : Kq D w b :=
  ⟨k.os.trans h.os, k.tape.trans h.tape, k.output.trans h.output, Nat.le_trans h.size k.size, fun i hi h1 => (k.block i (Nat.lt_of_lt_of_le hi h.size) h1).trans (h.block i hi h1)⟩
theorem Kq.set {D : Nat} {w a : World} (h : Kq D w a) {j : Nat} {v : Value} : Kq D w (a.setCell ⟨D, j, none⟩ v) :=
  ⟨h.os, h.tape, h.output, by simpa [World.setCell] using h.size, fun k hk h1 => (Below.heap_setCell a ⟨D, j, none⟩ v k h1).trans (h.block k hk h1)⟩
theorem Kq.setCells {D : Nat} : ∀ (vs : List Value) (o : Nat) {w a : World}, Kq D w a → Kq D w (a.setCells D o vs)
  | [], _, _, _, h => h
  | v :: vs, o, _, _, h => Kq.setCells vs (o + 1) h.set
theorem Kq.below {D B : Nat} {w0 w w' : World} (h : Kq D w w') (hb : Below B w0 w) (hB : B ≤ w.heap.size) (hD : B ≤ D) : Below B w0 w' :=
  hb.trans ⟨h.os, h.tape, h.output, h.size, fun k hk => h.block k (by omega) (by omega)⟩
theorem Kq.cell {D : Nat} {w w' : World} (h : Kq D w w') {g j : Nat} (hg : g < w.heap.size) (h1 : g ≠ D) : w'.cell? ⟨g, j, none⟩ = w.cell? ⟨g, j, none⟩ := World.cell?_of_block (w := w) (a := ⟨g, j, none⟩) (h.block g hg h1)
theorem Kq.recs {α : Type} {n : Nat} {cells : α → List Value} {D : Nat} {w w' : World} (h : Kq D w w') {A : Option Addr} {xs : List α} (hA : ∀ b o, A = some ⟨b, o, none⟩ → b ≠ D) (hr : Recs n cells w A xs) : Recs n cells w' A xs := fun j x hx => by
  obtain ⟨b, o, e, hlt, hc⟩ := hr j x hx
  exact ⟨b, o, e, Nat.lt_of_lt_of_le hlt h.size, fun i v hv => (h.cell hlt (hA b o e)).trans (hc i v hv)⟩

/-- A row of agreements that may be written. -/
def OA (w : World) (D : Nat) (zs : List Ag) : Prop := D < w.heap.size ∧ ∀ (j : Nat) (x : Ag), zs[j]? = some x → ∀ i v, x.cells[i]? = some v → w.cell? ⟨D, j * 7 + i, none⟩ = some v ∧ w.frozen? ⟨D, j * 7 + i, none⟩ = false
theorem OA.below {w w' : World} {D : Nat} {zs : List Ag} (h : OA w D zs) (hb : Below w.heap.size w w') : OA w' D zs :=
  ⟨Nat.lt_of_lt_of_le h.1 hb.size, fun j x hx i v hv => ⟨(hb.cell (p := ⟨D, j * 7 + i, none⟩) h.1).trans (h.2 j x hx i v hv).1, (hb.frozen (p := ⟨D, j * 7 + i, none⟩) h.1).trans (h.2 j x hx i v hv).2⟩⟩
theorem OA.ags {w : World} {D : Nat} {zs : List Ag} (h : OA w D zs) : Ags w (some ⟨D, 0, none⟩) zs := fun j x hx => ⟨D, 0, rfl, h.1, fun i v hv => by rw [Nat.zero_add]; exact (h.2 j x hx i v hv).1⟩
theorem cells7 (x : Ag) : x.cells.length = 7 := rfl
theorem OA.put {w : World} {D : Nat} {zs : List Ag} (h : OA w D zs) {j : Nat} (hj : j < zs.length) (x : Ag) : OA (w.setCells D (j * 7) x.cells) D (zs.set j x) := by
  have hsz : ∀ (vs : List Value) (o : Nat) (w : World), (w.setCells D o vs).heap.size = w.heap.size := by
    intro vs
    induction vs with
    | nil => intro o w; rfl
    | cons v vs ih => intro o w; rw [World.setCells, ih]; simp [World.setCell]
  obtain ⟨y, hy⟩ : ∃ y, zs[j]? = some y := ⟨_, List.getElem?_eq_getElem hj⟩
  have old := h.2 j y hy
  refine ⟨by rw [hsz]; exact h.1, fun k z hz i v hv => ?_⟩
  rw [World.frozen?_setCells]
  have hi : i < 7 := (List.getElem?_eq_some_iff.1 hv).1
  by_cases hjk : j = k
  · subst hjk
    rw [List.getElem?_set_self hj] at hz
    cases hz
    refine ⟨?_, ?_⟩
    · rw [World.cell?_setCells_in D x.cells (j * 7) w (fun m hm => by
        obtain ⟨u, hu⟩ : ∃ u, y.cells[m]? = some u := ⟨_, List.getElem?_eq_getElem (by rw [cells7] at hm ⊢; exact hm)⟩
        rw [(old m u hu).1]
        rfl) i (by rw [cells7]; exact hi)]
      rw [List.getElem?_eq_getElem (by rw [cells7]; exact hi)] at hv
      exact hv
    · obtain ⟨u, hu⟩ : ∃ u, y.cells[i]? = some u := ⟨_, List.getElem?_eq_getElem (by rw [cells7]; exact hi)⟩
      exact (old i u hu).2
  · rw [List.getElem?_set_ne hjk] at hz
    obtain ⟨h1, h2⟩ := h.2 k z hz i v hv
    refine ⟨?_, h2⟩
    rw [World.cell?_setCells_out D x.cells (j * 7) w ⟨D, k * 7 + i, none⟩ (fun _ _ => by rw [cells7]; dsimp only; omega)]
    exact h1
/-- Two neighbours change places. -/
def swp (zs : List Ag) (m : Nat) : List Ag := match zs[m]?, zs[m + 1]? with
  | some x, some y => (zs.set (m + 1) x).set m y
  | _, _ => zs
def bfAt (zs : List Ag) (i j : Nat) : Int := match zs[i]?, zs[j]? with
  | some x, some y => bf x y
  | _, _ => 0
def insJ (a : Nat) : List Ag → Nat → List Ag
  | zs, 0 => zs
  | zs, m + 1 => if a ≤ m ∧ bfAt zs (m + 1) m < 0 then insJ a (swp zs m) m else zs
def insI (a : Nat) : Nat → Nat → List Ag → List Ag
  | 0, _, zs => zs
  | n + 1, i, zs => insI a n (i + 1) (insJ a zs i)
def sortI (zs : List Ag) (a b : Nat) : List Ag := insI a (b - (a + 1)) (a + 1) zs
theorem swp_len (zs : List Ag) (m : Nat) : (swp zs m).length = zs.length := by
  unfold swp
  split <;> simp
theorem swp_mem {zs : List Ag} {m : Nat} {x : Ag} (h : x ∈ swp zs m) : x ∈ zs := by
  unfold swp at h
  split at h
  · rename_i a b ha hb
    rcases List.mem_or_eq_of_mem_set h with h | h
    · rcases List.mem_or_eq_of_mem_set h with h | h
      · exact h
      · rw [h]; exact List.mem_of_getElem? ha
    · rw [h]; exact List.mem_of_getElem? hb
  · exact h
theorem insJ_len (a : Nat) : ∀ (m : Nat) (zs : List Ag), (insJ a zs m).length = zs.length
  | 0, zs => by unfold insJ; rfl
  | m + 1, zs => by
    unfold insJ
    split
    · rw [insJ_len a m, swp_len]
    · rfl
theorem insJ_mem (a : Nat) : ∀ (m : Nat) (zs : List Ag) (x : Ag), x ∈ insJ a zs m → x ∈ zs
  | 0, zs, x, h => by unfold insJ at h; exact h
  | m + 1, zs, x, h => by
    unfold insJ at h
    split at h
    · exact swp_mem (insJ_mem a m _ x h)
    · exact h
theorem insI_len (a : Nat) : ∀ (n i : Nat) (zs : List Ag), (insI a n i zs).length = zs.length
  | 0, i, zs => rfl
  | n + 1, i, zs => by rw [insI, insI_len a n, insJ_len]
theorem insI_mem (a : Nat) : ∀ (n i : Nat) (zs : List Ag) (x : Ag), x ∈ insI a n i zs → x ∈ zs
  | 0, i, zs, x, h => h
  | n + 1, i, zs, x, h => insJ_mem a i zs x (insI_mem a n (i + 1) _ x h)
end Go.Proofs.YtmodghiokoiipaaGreat

/-!
  The order by insertion, walked.
-/
namespace Go.Proofs.YtmodghiokoiipaaGreat
open Go.RowKit
set_option linter.unusedSimpArgs false
set_option linter.unusedVariables false

set_option maxRecDepth 100000 in
set_option maxHeartbeats 8000000 in
theorem ins_any (zs : List Ag) (D c a b : Nat) (w : World) (h : OA w D zs) (hab : a ≤ b) (hb : b ≤ zs.length) (hl : zs.length ≤ 4096) :
    Calls Tryz.prog 45 #[.slice (some ⟨D, 0, none⟩) zs.length c, .int .i64 a, .int .i64 b, .func (.func 16) #[] #[]] w fun e w' => e = .returned (.tuple #[]) ∧ OA w' D (sortI zs a b) ∧ Kq D w w' := by
  have H := Lib.hid h
  have HBF := Lib.hid (fun x y W => before_any x y W)
  clear h
  unfold sortI
  obtain ⟨n, hn⟩ : ∃ n, zs.length = n := ⟨_, rfl⟩
  rw [hn] at hb hl ⊢
  go_enter Tryz.func45, Tryz.ntmps45
  go_wp2
  go_loopw [8] (fun iv wr => ∃ (i : Nat) (ys : List Ag), a + 1 ≤ i ∧ iv = .int .i64 i ∧ ys.length = n ∧ Hid (insI a (b - (a + 1)) (a + 1) zs = insI a (b - i) i ys) ∧ Hid (OA wr D ys) ∧ Hid (Kq D w wr)) (fun iv _ => b + 1 - (intOf iv).toNat)
  case atStart => exact ⟨a + 1, zs, Nat.le_refl _, by go_num, hn, rfl, H.out, Kq.refl _ _⟩
  case round =>
    obtain ⟨i, ys, hi, rfl, hys, he, ho, hk⟩ := hrel
    by_cases hib : i < b
    · obtain ⟨W0, hW0⟩ : ∃ W0, W0 = wr := ⟨_, rfl⟩
      have he2 : Hid (insI a (b - (a + 1)) (a + 1) zs = insI a (b - (i + 1)) (i + 1) (insJ a ys i)) := by
        rw [Hid, he.out, show b - i = (b - (i + 1)) + 1 by omega, insI]
      go_wp2
      go_loopw [9] (fun jv w3 => ∃ (j : Nat) (xs : List Ag), j ≤ i ∧ jv = .int .i64 j ∧ xs.length = n ∧ Hid (insJ a ys i = insJ a xs j) ∧ Hid (OA w3 D xs) ∧ Hid (Kq D w w3)) (fun jv _ => (intOf jv).toNat)
      case atStart => exact ⟨i, ys, Nat.le_refl _, rfl, hys, rfl, ho, hk⟩
      case round =>
        obtain ⟨j, xs, hj, rfl, hxs, hej, hoj, hkj⟩ := hrel
        by_cases haj : a < j
        · obtain ⟨m, hjm⟩ : ∃ m, j = m + 1 := ⟨j - 1, by omega⟩
          obtain ⟨x, hx⟩ : ∃ s, xs[m]? = some s := ⟨_, List.getElem?_eq_getElem (by omega)⟩
          obtain ⟨y, hy⟩ : ∃ s, xs[j]? = some s := ⟨_, List.getElem?_eq_getElem (by omega)⟩
          have hD := hoj.out.1
          have cx := fun i v hv => (hoj.out.2 m x hx i v hv).1
          have cy := fun i v hv => (hoj.out.2 j y hy i v hv).1
          have x0 := cx 0 _ rfl
          have x1 := cx 1 _ rfl
          have x2 := cx 2 _ rfl
          have x3 := cx 3 _ rfl
          have x4 := cx 4 _ rfl
          have x5 := cx 5 _ rfl
          have x6 := cx 6 _ rfl
          have y0 := cy 0 _ rfl
          have y1 := cy 1 _ rfl
          have y2 := cy 2 _ rfl
          have y3 := cy 3 _ rfl
          have y4 := cy 4 _ rfl
          have y5 := cy 5 _ rfl
          have y6 := cy 6 _ rfl
          have fx := fun i v hv => (hoj.out.2 m x hx i v hv).2
          have fy := fun i v hv => (hoj.out.2 j y hy i v hv).2
          simp only [Nat.add_zero] at x0 y0
          clear cx cy
          have haj' : (a : Int) < (j : Int) := by omega
          have hmn : (j : Int) < (n : Int) := by omega
          have hm1 : (m : Int) < (n : Int) := by omega
          have e2 : (j : Int) - 1 = (m : Int) := by omega
          have e3 : IntKind.i64.wrap (m : Int) = (m : Int) := by simp (disch := omega) only [IntWalk.i64_in]
          have hbA : bfAt xs (m + 1) m = bf y x := by unfold bfAt; rw [← hjm, hx, hy]
          have HJ := Lib.hid hjm
          have HB1 := Lib.hid (fun W => HBF.out y x W)
          by_cases hlt : bf y x < 0
          · clear hjm
            go_wp2
            refine wp_region_more (by kernel_rfl) (by kernel_rfl) ?_
            repeat (first | go_big_quiet_skip | quiet_step (first
              | (go_at_call 16; first | with_reducible exact more_call2 (HB1.out _) | with_reducible exact more_call (HB1.out _))))
            refine wpQuiet_nil ?_
            rintro _ ⟨s4, rfl⟩
            have fx0 := fx 0 _ rfl
            have fx1 := fx 1 _ rfl
            have fx2 := fx 2 _ rfl
            have fx3 := fx 3 _ rfl
            have fx4 := fx 4 _ rfl
            have fx5 := fx 5 _ rfl
            have fx6 := fx 6 _ rfl
            have fy0 := fy 0 _ rfl
            have fy1 := fy 1 _ rfl
            have fy2 := fy 2 _ rfl
            have fy3 := fy 3 _ rfl
            have fy4 := fy 4 _ rfl
            have fy5 := fy 5 _ rfl
            have fy6 := fy 6 _ rfl
            simp only [Nat.add_zero] at fx0 fy0
            go_wp2
            go_region
            go_wp2
            go_roundw
            case rel =>
              have hsw : swp xs m = (xs.set j x).set m y := by
                unfold swp
                rw [← HJ.out, hx, hy]
              have hju : j < xs.length := by omega
              have q1 := hoj.out.put hju x
              have q2 := q1.put (j := m) (by simp; omega) y
              refine ⟨m, (xs.set j x).set m y, by omega, by go_num, by simpa using hxs, ?_, ?_, ?_⟩
              · rw [Hid, hej.out, HJ.out, insJ, if_pos ⟨by omega, by rw [hbA]; exact hlt⟩, hsw, HJ.out]
              · exact q2.below (below_ext (Below.refl _ _) (Nat.le_refl _) _)
              · exact ((hkj.out.setCells x.cells (j * 7)).setCells y.cells (m * 7)).step (below_ext (Below.refl _ _) (Nat.le_refl _) _)
            case measure => simp [intOf]; omega
          · have hr : Hid (insJ a ys i = xs) := by
              rw [Hid, hej.out, hjm, insJ, if_neg (by rw [hbA]; omega)]
            clear hjm
            go_wp2
            refine wp_region_more (by kernel_rfl) (by kernel_rfl) ?_
            repeat (first | go_big_quiet_skip | quiet_step (first
              | (go_at_call 16; first | with_reducible exact more_call2 (HB1.out _) | with_reducible exact more_call (HB1.out _))))
            refine wpQuiet_nil ?_
            rintro _ ⟨s4, rfl⟩
            go_wp2
            go_roundw
            case rel =>
              refine ⟨i + 1, xs, by omega, by go_num, hxs, ?_, ?_, ?_⟩
              · rw [Hid, he2.out, hr.out]
              · exact hoj.out.below (by repeat' (first | with_reducible exact Below.refl _ _ | with_reducible refine below_ext ?_ ?_ _ | with_reducible refine Below.alloc ?_ ?_ _ | with_reducible refine Below.drew ?_ | (simp only [size_ext, World.size_alloc, World.size_setCell, World.size_drew]; omega) | (simp; omega) | (simp [go_sem]; omega) | (simp [go_sem]; done) | (simp; done) | omega))
              · exact hkj.out.step (by repeat' (first | with_reducible exact Below.refl _ _ | with_reducible refine below_ext ?_ ?_ _ | with_reducible refine Below.alloc ?_ ?_ _ | with_reducible refine Below.drew ?_ | (simp only [size_ext, World.size_alloc, World.size_setCell, World.size_drew]; omega) | (simp; omega) | (simp [go_sem]; omega) | (simp [go_sem]; done) | (simp; done) | omega))
            case measure => simp [intOf]; omega
        · have hr : Hid (insJ a ys i = xs) := by
            rw [Hid, hej.out]
            cases j with
            | zero => rw [insJ]
            | succ m => rw [insJ, if_neg (by omega)]
          have haj' : ¬ (a : Int) < (j : Int) := by omega
          go_wp2
          go_quiet (fail)
          rw [drewN_more]
          go_wp2
          go_roundw
          case rel =>
            refine ⟨i + 1, xs, by omega, by go_num, hxs, ?_, ?_, ?_⟩
            · rw [Hid, he2.out, hr.out]
            · exact hoj.out.below (by repeat' (first | with_reducible exact Below.refl _ _ | with_reducible refine below_ext ?_ ?_ _ | with_reducible refine Below.alloc ?_ ?_ _ | with_reducible refine Below.drew ?_ | (simp only [size_ext, World.size_alloc, World.size_setCell, World.size_drew]; omega) | (simp; omega) | (simp [go_sem]; omega) | (simp [go_sem]; done) | (simp; done) | omega))
            · exact hkj.out.step (by repeat' (first | with_reducible exact Below.refl _ _ | with_reducible refine below_ext ?_ ?_ _ | with_reducible refine Below.alloc ?_ ?_ _ | with_reducible refine Below.drew ?_ | (simp only [size_ext, World.size_alloc, World.size_setCell, World.size_drew]; omega) | (simp; omega) | (simp [go_sem]; omega) | (simp [go_sem]; done) | (simp; done) | omega))
          case measure => simp [intOf]; omega
    · have hr : Hid (insI a (b - (a + 1)) (a + 1) zs = ys) := by
        rw [Hid, he.out, show b - i = 0 by omega]
        rfl
      go_wp2
      go_end0
      exact ⟨rfl, by rw [hr.out]; exact ho.out, hk.out⟩
end Go.Proofs.YtmodghiokoiipaaGreat

/-!
  The stable order of at most twenty agreements.
-/
namespace Go.Proofs.YtmodghiokoiipaaGreat
open Go.RowKit
set_option linter.unusedSimpArgs false
set_option linter.unusedVariables false

def srtF (zs : List Ag) : List Ag := if zs.length = 20 then sortI (sortI zs 0 20) 20 20 else sortI zs 0 zs.length
theorem sortI_len (zs : List Ag) (a b : Nat) : (sortI zs a b).length = zs.length := insI_len a _ _ zs
theorem sortI_mem {zs : List Ag} {a b : Nat} {x : Ag} (h : x ∈ sortI zs a b) : x ∈ zs := insI_mem a _ _ zs x h
theorem srtF_len (zs : List Ag) : (srtF zs).length = zs.length := by
  unfold srtF
  split <;> simp [sortI_len]
theorem srtF_mem {zs : List Ag} {x : Ag} (h : x ∈ srtF zs) : x ∈ zs := by
  unfold srtF at h
  split at h
  · exact sortI_mem (sortI_mem h)
  · exact sortI_mem h
set_option maxRecDepth 100000 in
set_option maxHeartbeats 8000000 in
theorem stable_any (zs : List Ag) (D c : Nat) (w : World) (h : OA w D zs) (hn : zs.length ≤ 20) :
    Calls Tryz.prog 30 #[.slice (some ⟨D, 0, none⟩) zs.length c, .int .i64 zs.length, .func (.func 16) #[] #[]] w fun e w' => e = .returned (.tuple #[]) ∧ OA w' D (srtF zs) ∧ Kq D w w' := by
  have H := Lib.hid h
  clear h
  by_cases h20 : zs.length = 20
  · have HA : Hid (∀ W, OA W D zs → Calls Tryz.prog 45 #[.slice (some ⟨D, 0, none⟩) zs.length c, .int .i64 0, .int .i64 20, .func (.func 16) #[] #[]] W fun e w' => e = .returned (.tuple #[]) ∧ OA w' D (sortI zs 0 20) ∧ Kq D W w') := fun W h => ins_any zs D c 0 20 W h (by omega) (by omega) (by omega)
    have HB : Hid (∀ W, OA W D (sortI zs 0 20) → Calls Tryz.prog 45 #[.slice (some ⟨D, 0, none⟩) (sortI zs 0 20).length c, .int .i64 20, .int .i64 20, .func (.func 16) #[] #[]] W fun e w' => e = .returned (.tuple #[]) ∧ OA w' D (sortI (sortI zs 0 20) 20 20) ∧ Kq D W w') := fun W h => ins_any (sortI zs 0 20) D c 20 20 W h (by omega) (by rw [sortI_len]; omega) (by rw [sortI_len]; omega)
    rw [sortI_len] at HB
    have hs : srtF zs = sortI (sortI zs 0 20) 20 20 := by unfold srtF; rw [if_pos h20]
    rw [hs]
    rw [h20] at HA HB ⊢
    show Calls Tryz.prog 30 #[.slice (some ⟨D, 0, none⟩) 20 c, .int .i64 20, .func (.func 16) #[] #[]] w _
    clear hs h20 hn
    go_enter Tryz.func30, Tryz.ntmps30
    go_wp2
    refine wp_loop_rounds 2 ?_
    rw [rounds_succ]
    go_wp2_with (go_at_call 45; (with_reducible refine (HA.out _ H.out).mono ?_); rintro e w1 ⟨rfl, o1, k1⟩; have O1 := Lib.hid o1; have K1 := Lib.hid k1; clear o1 k1)
    rw [rounds_succ]
    go_wp2_with (go_at_call 45; (with_reducible refine (HB.out _ O1.out).mono ?_); rintro e w2 ⟨rfl, o2, k2⟩; have O2 := Lib.hid o2; have K2 := Lib.hid k2; clear o2 k2)
    refine wp_loop_rounds 1 ?_
    rw [rounds_succ]
    go_wp2
    go_end0
    exact ⟨rfl, O2.out, K1.out.trans K2.out⟩
  · have HA : Hid (∀ W, OA W D zs → Calls Tryz.prog 45 #[.slice (some ⟨D, 0, none⟩) zs.length c, .int .i64 0, .int .i64 zs.length, .func (.func 16) #[] #[]] W fun e w' => e = .returned (.tuple #[]) ∧ OA w' D (sortI zs 0 zs.length) ∧ Kq D W w') := fun W h => ins_any zs D c 0 zs.length W h (by omega) (by omega) (by omega)
    have hs : srtF zs = sortI zs 0 zs.length := by unfold srtF; rw [if_neg h20]
    rw [hs]
    have hlt : (zs.length : Int) < 20 := by omega
    clear hs
    go_enter Tryz.func30, Tryz.ntmps30
    go_wp2
    refine wp_loop_rounds 1 ?_
    rw [rounds_succ]
    go_wp2_with (go_at_call 45; (with_reducible refine (HA.out _ H.out).mono ?_); rintro e w1 ⟨rfl, o1, k1⟩; have O1 := Lib.hid o1; have K1 := Lib.hid k1; clear o1 k1)
    refine wp_loop_rounds 1 ?_
    rw [rounds_succ]
    go_wp2
    go_end0
    exact ⟨rfl, O1.out, K1.out⟩
theorem sort_any (zs : List Ag) (D c : Nat) (w : World) (h : OA w D zs) (hn : zs.length ≤ 20) :
    Calls Tryz.prog 15 #[.slice (some ⟨D, 0, none⟩) zs.length c, .func (.func 16) #[] #[]] w fun e w' => e = .returned (.tuple #[]) ∧ OA w' D (srtF zs) ∧ Kq D w w' := by
  have HA := Lib.hid (stable_any zs D c w h hn)
  clear h
  go_enter Tryz.func15, Tryz.ntmps15
  go_wp2_with (go_at_call 30; (with_reducible refine HA.out.mono ?_); rintro e w1 ⟨rfl, o1, k1⟩; have O1 := Lib.hid o1; have K1 := Lib.hid k1; clear o1 k1)
  go_end0
  exact ⟨rfl, O1.out, K1.out⟩
end Go.Proofs.YtmodghiokoiipaaGreat

/-
  The reference's choose, Common and Intersect, as far as what they hand back can be read.
-/
import Derived.Test.YtmodghiokoiipaaGreatSc
import Derived.Deep.AppendLies
namespace Go.Proofs.YtmodghiokoiipaaGreat
open Go.RowKit
set_option linter.unusedSimpArgs false
set_option linter.unusedVariables false

def OwnP (w : World) (B : Nat) (v : Value) (l : List (Int × Int)) : Prop := w.ownsRow B 29 2 v l.length (l.flatMap pdCells)
theorem OwnP.nil (w : World) (B : Nat) : OwnP w B (.slice none 0 0) [] := World.ownsRow_nil _ _ _ _
theorem OwnP.snoc {w : World} {B : Nat} {v : Value} {l : List (Int × Int)} {x : Int × Int} {cs : List Value} (h : w.ownsRow B 29 2 v (l.length + 1) (l.flatMap pdCells ++ cs)) (hc : cs = pdCells x) : OwnP w B v (l ++ [x]) := by
  unfold OwnP
  rw [List.length_append, List.flatMap_append]
  subst hc
  simpa using h
theorem OwnP.below {w w' : World} {B : Nat} {v : Value} {l : List (Int × Int)} (h : OwnP w B v l) (hb : Below w.heap.size w w') : OwnP w' B v l := own_below h hb
/-- The cells of the last of a row, if there is one. -/
theorem OwnP.last {w : World} {B : Nat} {v : Value} {l : List (Int × Int)} (h : OwnP w B v l) (hl : 0 < l.length) : ∃ g c z, v = .slice (some ⟨g, 0, none⟩) l.length c ∧ B ≤ g ∧ g < w.heap.size ∧ l[l.length - 1]? = some z ∧ w.cell? ⟨g, (l.length - 1) * 2, none⟩ = some (.int .i64 z.1) ∧ w.cell? ⟨g, (l.length - 1) * 2 + 1, none⟩ = some (.int .i64 z.2) ∧ w.frozen? ⟨g, (l.length - 1) * 2 + 1, none⟩ = false := by
  obtain ⟨z, hz⟩ : ∃ z, l[l.length - 1]? = some z := ⟨_, List.getElem?_eq_getElem (by omega)⟩
  rcases own_form h with ⟨A, c, rfl, hA⟩
  rcases hA with ⟨rfl, h1, rfl⟩ | ⟨g, rfl, h1, h2, h3⟩
  · omega
  · obtain ⟨-, -, hc⟩ := own_recs (cells := pdCells) (fun _ => rfl) h
    exact ⟨g, c, z, rfl, h1, h2, hz, (hc _ z hz 0 _ rfl).1, (hc _ z hz 1 _ rfl).1, (hc _ z hz 1 _ rfl).2⟩
theorem flat_set {l : List (Int × Int)} {j : Nat} {z : Int × Int} (hz : l[j]? = some z) (y : Int) : (l.set j (z.1, y)).flatMap pdCells = (l.flatMap pdCells).set (j * 2 + 1) (.int .i64 y) := by
  induction l generalizing j with
  | nil => simp at hz
  | cons a l ih =>
    cases j with
    | zero =>
      obtain rfl := Option.some.inj hz
      simp [pdCells]
    | succ j =>
      have := ih (by simpa using hz)
      simp only [List.set_cons_succ, List.flatMap_cons, this]
      simp [pdCells, show (j + 1) * 2 = j * 2 + 1 + 1 by omega]
theorem OwnP.set {w : World} {B g c j : Nat} {l : List (Int × Int)} {z : Int × Int} (h : OwnP w B (.slice (some ⟨g, 0, none⟩) l.length c) l) (hz : l[j]? = some z) (y : Int) :
    OwnP (w.setCell ⟨g, j * 2 + 1, none⟩ (.int .i64 y)) B (.slice (some ⟨g, 0, none⟩) l.length c) (l.set j (z.1, y)) := by
  unfold OwnP
  rw [flat_set hz, List.length_set]
  exact (World.ownsRow.stored h (j * 2 + 1) (.int .i64 y)).1
/-- A list of periods is handed back. -/
def PdR (w : World) (e : Ending) (w' : World) : Prop := ∃ A xs c, e = .returned (.slice A xs.length c) ∧ Hid (Pds w' A xs) ∧ Below w.heap.size w w'
theorem pdR_mk {w w' : World} {B : Nat} {v : Value} {l : List (Int × Int)} (h : OwnP w' B v l) (hb : Below w.heap.size w w') : PdR w (.returned v) w' := by
  obtain ⟨A, c, rfl, hr⟩ := own_rec (f := pdCells) (fun _ => rfl) h
  exact ⟨A, l, c, rfl, hr, hb⟩

theorem limits_nil (ps : List (Int × Int)) (A : Option Addr) (c : Nat) (w : World) (hp : Pds w A ps) (hpn : ps.length ≤ 100) :
    Calls Tryz.prog 58 #[.slice none 0 0, .slice A ps.length c] w (NtR w (2 * ps.length)) := by
  have := limits_any [] ps none A 0 c w Recs.nil hp (by simp) hpn
  rw [List.length_nil, Nat.zero_add] at this
  exact this
theorem drewN_cat (w : World) (s : More) (n : Nat) : (ext w s).drewN n = ext w ⟨s.L, s.d + n⟩ := by simp [World.drewN, ext]
@[go_sem] theorem n_mk (s : More) (d : Nat) : More.n ⟨s.L, d⟩ = s.n := rfl
set_option maxRecDepth 100000 in
set_option maxHeartbeats 1600000 in
theorem choose_any (ps qs : List (Int × Int)) (A A2 : Option Addr) (c c2 : Nat) (w : World) (hp : Pds w A ps) (hq : Pds w A2 qs) (hpn : ps.length ≤ 10) (hqn : qs.length ≤ 10) :
    Calls Tryz.prog 49 #[.slice A ps.length c, .slice A2 qs.length c2, .bool false, .bool true] w (PdR w) := by
  obtain ⟨i0, hi0, hz0, hz1, hz2⟩ := info_parts info_pd
  have HP := Lib.hid hp
  have HQ := Lib.hid hq
  clear hp hq
  have HIP := Lib.hid (fun t W (h : Below w.heap.size w W) => in_any ps A c t W (HP.out.below h) (by omega))
  have HIQ := Lib.hid (fun t W (h : Below w.heap.size w W) => in_any qs A2 c2 t W (HQ.out.below h) (by omega))
  have HL1 := Lib.hid (limits_nil ps A c w HP.out (by omega))
  go_enter Tryz.func49, Tryz.ntmps49
  go_wp2_with (first
    | (go_at_call 58; (with_reducible refine HL1.out.mono ?_); rintro e1 w1 ⟨A1, ys1, c1, rfl, hl1, hN1, hb1⟩; have HN1 := Lib.hid hN1; have HB1 := Lib.hid hb1; clear hN1 hb1)
    | (go_at_call 58; (with_reducible refine (limits_any ys1 qs A1 A2 c1 c2 w1 HN1.out (HQ.out.below HB1.out) (by omega) (by omega)).mono ?_); rintro e2 w2 ⟨L, ls, cl, rfl, hl2, hN2, hb2⟩; have HN2 := Lib.hid hN2; have HB2 := Lib.hid (HB1.out.trans (hb2.mono HB1.out.size)); clear hN2 hb2))
  have hls : ls.length ≤ 50 := by omega
  clear hl1 hl2 HN1 HB1
  have hw2 := HB2.out.size
  go_loopw [10, 11] (fun v i wr => ∃ (k : Nat) (xs : List (Int × Int)), k ≤ ls.length ∧ i = .int .i64 k ∧ xs.length ≤ k ∧ Hid (OwnP wr w2.heap.size v xs) ∧ Hid (Below w2.heap.size w2 wr)) (fun _ i _ => ls.length - (intOf i).toNat)
  case atStart => exact ⟨0, [], Nat.zero_le _, rfl, Nat.le_refl _, OwnP.nil _ _, Below.refl _ _⟩
  case round =>
    obtain ⟨k, xs, hk, rfl, hx, HO, HB⟩ := hrel
    have hsz := HB.out.size
    have HBW := Lib.hid (HB2.out.trans (HB.out.mono HB2.out.size))
    obtain ⟨vA, vc, rfl, -⟩ := own_form HO.out
    by_cases hlt : k + 1 < ls.length
    · obtain ⟨x, hxk⟩ : ∃ s, ls[k]? = some s := ⟨_, List.getElem?_eq_getElem (by omega)⟩
      obtain ⟨y, hyk⟩ : ∃ s, ls[k + 1]? = some s := ⟨_, List.getElem?_eq_getElem hlt⟩
      obtain ⟨b, o, rfl, hb, cx⟩ := nt_cell HN2.out hxk
      obtain ⟨b', o', hL, -, cy⟩ := nt_cell HN2.out hyk
      cases hL
      have x0 := (HB.out.cell (p := ⟨b, o + k, none⟩) hb).trans cx
      have x1 := (HB.out.cell (p := ⟨b, o + (k + 1), none⟩) hb).trans cy
      have hbr : b < wr.heap.size := by omega
      clear hxk hyk
      have hw1 : IntKind.i64.wrap ((k : Int) + 1) = (k : Int) + 1 := by simp (disch := omega) only [IntWalk.i64_in]
      have HV : Hid ((0 : Int) ≤ (k : Int) ∧ (k : Int) < (ls.length : Int) ∧ (0 : Int) ≤ (k : Int) + 1 ∧ (k : Int) + 1 < (ls.length : Int) ∧ ((k : Int) + 1).toNat = k + 1) := by unfold Hid; omega
      have hml : xs.length + 1 ≤ maxLen := by simp only [maxLen]; omega
      have hby : (xs.length + 1) * 16 ≤ 140737488355328 := by omega
      cases h1 : inF ps x
      · have HI1 := Lib.hid (fun W h => HIP.out x W h)
        rw [h1] at HI1
        go_wp2_with (first
          | (go_at_call 59; (with_reducible refine (HI1.out _ ?_).mono ?_); (· exact HBW.out); rintro e w1 ⟨rfl, hb⟩; obtain ⟨s, rfl⟩ := ext_of_below hb; clear hb))
        go_roundw
        case rel => exact ⟨k + 1, xs, by omega, by go_num, by omega, HO.out.below (by repeat' (first | exact Below.refl _ _ | refine below_ext ?_ ?_ _ | refine Below.alloc ?_ ?_ _ | refine Below.setCell ?_ ?_ _ | refine Below.drew ?_ | (rw [size_ext]; refine Nat.le_add_right_of_le ?_) | go_size | (rw [World.size_alloc]; refine Nat.le_add_right_of_le ?_))), Lib.hid (by repeat' (first | with_reducible exact HB.out | with_reducible exact Below.refl _ _ | with_reducible refine below_ext ?_ ?_ _ | with_reducible refine Below.alloc ?_ ?_ _ | with_reducible refine Below.setCell ?_ ?_ _ | with_reducible refine Below.drew ?_ | (have := HB.out.size; simp only [size_ext, World.size_alloc, World.size_setCell, World.size_drew]; omega) | exact Nat.le_trans HB.out.size (by go_size) | (have := HB.out.size; simp; omega) | (have := HB.out.size; simp [go_sem]; omega) | (have := HB.out.size; simp [go_sem]; done) | (simp; done) | omega))⟩
        case measure => simp [intOf]; omega
      · have HI1 := Lib.hid (fun W h => HIP.out x W h)
        rw [h1] at HI1
        cases h2 : inF qs x
        · have HI2 := Lib.hid (fun W h => HIQ.out x W h)
          rw [h2] at HI2
          go_wp2_with (first
            | (go_at_call 59; (with_reducible refine (HI1.out _ ?_).mono ?_); (· exact HBW.out); rintro e w1 ⟨rfl, hb⟩; obtain ⟨s, rfl⟩ := ext_of_below hb; clear hb)
            | (go_at_call 59; (with_reducible refine (HI2.out _ ?_).mono ?_); (· exact below_ext HBW.out HBW.out.size _); rintro e w1 ⟨rfl, hb⟩; obtain ⟨s, rfl⟩ := ext_of_below hb; clear hb))
          go_roundw
          case rel => exact ⟨k + 1, xs, by omega, by go_num, by omega, HO.out.below (by repeat' (first | exact Below.refl _ _ | refine below_ext ?_ ?_ _ | refine Below.alloc ?_ ?_ _ | refine Below.setCell ?_ ?_ _ | refine Below.drew ?_ | (rw [size_ext]; refine Nat.le_add_right_of_le ?_) | go_size | (rw [World.size_alloc]; refine Nat.le_add_right_of_le ?_))), Lib.hid (by repeat' (first | with_reducible exact HB.out | with_reducible exact Below.refl _ _ | with_reducible refine below_ext ?_ ?_ _ | with_reducible refine Below.alloc ?_ ?_ _ | with_reducible refine Below.setCell ?_ ?_ _ | with_reducible refine Below.drew ?_ | (have := HB.out.size; simp only [size_ext, World.size_alloc, World.size_setCell, World.size_drew]; omega) | exact Nat.le_trans HB.out.size (by go_size) | (have := HB.out.size; simp; omega) | (have := HB.out.size; simp [go_sem]; omega) | (have := HB.out.size; simp [go_sem]; done) | (simp; done) | omega))⟩
          case measure => simp [intOf]; omega
        · have HI2 := Lib.hid (fun W h => HIQ.out x W h)
          rw [h2] at HI2
          by_cases hx0 : xs.length = 0
          · --<a0
            have hd0 : decide (0 < xs.length) = false := decide_eq_false (by omega)
            have HX0 := Lib.hid hx0
            clear hx0
            go_wp2_with (first
              | (go_at_call 59; (with_reducible refine (HI1.out _ ?_).mono ?_); (· exact HBW.out); rintro e w1 ⟨rfl, hb1⟩; obtain ⟨s1, rfl⟩ := ext_of_below hb1; clear hb1)
              | (go_at_call 59; (with_reducible refine (HI2.out _ ?_).mono ?_); (· exact below_ext HBW.out HBW.out.size _); rintro e w3 ⟨rfl, hb1⟩; obtain ⟨s2, rfl⟩ := ext_of_below hb1; clear hb1))
            go_quiet (fail)
            rw [drewN_cat]
            go_wp2_with fail
            obtain ⟨hv1, hv2, hv3, hv4, hv5⟩ := HV.out
            go_region_held3 (fun w' => w'.cell? ⟨b, o + k, none⟩ = some (.int .i64 x) ∧ w'.cell? ⟨b, o + (k + 1), none⟩ = some (.int .i64 y))
              (first
                | (with_reducible exact ⟨keepL (W := w2) HB6.out hb cx, keepL (W := w2) HB6.out hb cy⟩)
                | (with_reducible refine ⟨keepL (W := wr) ?_ hbr x0, keepL (W := wr) ?_ hbr x1⟩ <;> (repeat' (first | exact Below.refl _ _ | refine below_ext ?_ ?_ _ | refine Below.alloc ?_ ?_ _ | refine Below.setCell ?_ ?_ _ | refine Below.drew ?_ | (rw [size_ext]; refine Nat.le_add_right_of_le ?_) | go_size | (rw [World.size_alloc]; refine Nat.le_add_right_of_le ?_)))))
              ((refine step_append_lies _ (by rfl) _ _ _ (by rfl) w2.heap.size 29 i0 _ 2 16 Tryz.underlying118 hi0 hz0 hz1 hz2 rfl (by decide) (.slice vA xs.length vc) xs.length (xs.flatMap pdCells) (by rfl) (OwnP.below HO.out (by repeat' (first | exact Below.refl _ _ | refine below_ext ?_ ?_ _ | refine Below.alloc ?_ ?_ _ | refine Below.setCell ?_ ?_ _ | refine Below.drew ?_ | (rw [size_ext]; refine Nat.le_add_right_of_le ?_) | go_size | (rw [World.size_alloc]; refine Nat.le_add_right_of_le ?_)))) ⟨wr.heap.size + (s1.cat s2).n, 0, none⟩ 1 1 [.int .i64 x, .int .i64 y] (by rfl) (by rfl) (cells_new _ (by simp [go_sem])) (by simp [Value.oneCell']) (by decide) hml hby (by clear hw1 hv5; simp [go_sem]; omega) (wr.heap.size + (s1.cat s2).n + 1) (by simp [go_sem]) ?_; intro gg cap w6 hown6 hg6 hat6 hlt6; have HO6 := Lib.hid (OwnP.snoc (x := (x, y)) hown6 rfl); have HB6 := Lib.hid (below_grown (below_ext HB.out HB.out.size _ |>.alloc (by clear hw1 hv5; simp [go_sem]; omega) _) hg6 (by clear hw1 hv5; simp [go_sem]; omega) (fun i hi => (World.ownsRow.lt HO.out i hi).1)); clear hown6 hg6 hat6))
            go_wp2
            go_roundw
            case rel => exact ⟨k + 1, xs ++ [(x, y)], by omega, by go_num, by simp; omega, HO6, HB6.out⟩
            case measure => simp [intOf]; omega
            -->a0
          · obtain ⟨g, c', z, hv, hg1, hg2, hz, z0, z1, z2⟩ := HO.out.last (by omega)
            obtain ⟨m, hm⟩ : ∃ m, xs.length = m + 1 := ⟨xs.length - 1, by omega⟩
            have hm1 : xs.length - 1 = m := by omega
            rw [hm1] at hz z0 z1 z2
            obtain ⟨rfl, rfl⟩ : vA = some ⟨g, 0, none⟩ ∧ vc = c' := by simpa using hv
            have hw3 : IntKind.i64.wrap ((xs.length : Int) - 1) = (m : Int) := by rw [hm]; simp (disch := omega) only [IntWalk.i64_in]; omega
            have hw4 : (xs.length : Int) - 1 = (m : Int) := by omega
            have hd0 : decide (0 < xs.length) = true := decide_eq_true (by omega)
            clear hv
            by_cases hzx : z.2 = x
            · --<a1
              have HOS := Lib.hid (OwnP.set HO.out hz y)
              go_wp2_with (first
                | (go_at_call 59; (with_reducible refine (HI1.out _ ?_).mono ?_); (· exact HBW.out); rintro e w1 ⟨rfl, hb1⟩; obtain ⟨s1, rfl⟩ := ext_of_below hb1; clear hb1)
                | (go_at_call 59; (with_reducible refine (HI2.out _ ?_).mono ?_); (· exact below_ext HBW.out HBW.out.size _); rintro e w3 ⟨rfl, hb1⟩; obtain ⟨s2, rfl⟩ := ext_of_below hb1; clear hb1))
              go_quiet (fail)
              rw [drewN_cat]
              go_wp2
              go_roundw
              case rel => exact ⟨k + 1, xs.set m (z.1, y), by omega, by go_num, by simp; omega, Lib.hid (by have := HOS.out.below (below_ext (Below.refl _ _) (Nat.le_refl _) ⟨(s1.cat s2).L, (s1.cat s2).d + nq⟩); rw [hm] at this; exact this), Lib.hid (by repeat' (first | with_reducible exact HB.out | with_reducible exact Below.refl _ _ | with_reducible refine below_ext ?_ ?_ _ | with_reducible refine Below.alloc ?_ ?_ _ | with_reducible refine Below.setCell ?_ ?_ _ | with_reducible refine Below.drew ?_ | (have := HB.out.size; simp only [size_ext, World.size_alloc, World.size_setCell, World.size_drew]; omega) | exact Nat.le_trans HB.out.size (by go_size) | (have := HB.out.size; simp; omega) | (have := HB.out.size; simp [go_sem]; omega) | (have := HB.out.size; simp [go_sem]; done) | (simp; done) | omega))⟩
              case measure => simp [intOf]; omega
              -->a1
            · --<a2
              have hzx' : (z.2 == x) = false := by simpa using hzx
              have HM := Lib.hid hm
              clear hm hm1
              go_wp2_with (first
                | (go_at_call 59; (with_reducible refine (HI1.out _ ?_).mono ?_); (· exact HBW.out); rintro e w1 ⟨rfl, hb1⟩; obtain ⟨s1, rfl⟩ := ext_of_below hb1; clear hb1)
                | (go_at_call 59; (with_reducible refine (HI2.out _ ?_).mono ?_); (· exact below_ext HBW.out HBW.out.size _); rintro e w3 ⟨rfl, hb1⟩; obtain ⟨s2, rfl⟩ := ext_of_below hb1; clear hb1))
              go_quiet (fail)
              rw [drewN_cat]
              go_wp2_with fail
              obtain ⟨hv1, hv2, hv3, hv4, hv5⟩ := HV.out
              go_region_held3 (fun w' => w'.cell? ⟨b, o + k, none⟩ = some (.int .i64 x) ∧ w'.cell? ⟨b, o + (k + 1), none⟩ = some (.int .i64 y))
                (first
                  | (with_reducible exact ⟨keepL (W := w2) HB6.out hb cx, keepL (W := w2) HB6.out hb cy⟩)
                  | (with_reducible refine ⟨keepL (W := wr) ?_ hbr x0, keepL (W := wr) ?_ hbr x1⟩ <;> (repeat' (first | exact Below.refl _ _ | refine below_ext ?_ ?_ _ | refine Below.alloc ?_ ?_ _ | refine Below.setCell ?_ ?_ _ | refine Below.drew ?_ | (rw [size_ext]; refine Nat.le_add_right_of_le ?_) | go_size | (rw [World.size_alloc]; refine Nat.le_add_right_of_le ?_)))))
                ((refine step_append_lies _ (by rfl) _ _ _ (by rfl) w2.heap.size 29 i0 _ 2 16 Tryz.underlying118 hi0 hz0 hz1 hz2 rfl (by decide) (.slice (some ⟨g, 0, none⟩) xs.length vc) xs.length (xs.flatMap pdCells) (by rfl) (OwnP.below HO.out (by repeat' (first | exact Below.refl _ _ | refine below_ext ?_ ?_ _ | refine Below.alloc ?_ ?_ _ | refine Below.setCell ?_ ?_ _ | refine Below.drew ?_ | (rw [size_ext]; refine Nat.le_add_right_of_le ?_) | go_size | (rw [World.size_alloc]; refine Nat.le_add_right_of_le ?_)))) ⟨wr.heap.size + (s1.cat s2).n, 0, none⟩ 1 1 [.int .i64 x, .int .i64 y] (by rfl) (by rfl) (cells_new _ (by simp [go_sem])) (by simp [Value.oneCell']) (by decide) hml hby (by clear hw1 hv5; simp [go_sem]; omega) (wr.heap.size + (s1.cat s2).n + 1) (by simp [go_sem]) ?_; intro gg cap w6 hown6 hg6 hat6 hlt6; have HO6 := Lib.hid (OwnP.snoc (x := (x, y)) hown6 rfl); have HB6 := Lib.hid (below_grown (below_ext HB.out HB.out.size _ |>.alloc (by clear hw1 hv5; simp [go_sem]; omega) _) hg6 (by clear hw1 hv5; simp [go_sem]; omega) (fun i hi => (World.ownsRow.lt HO.out i hi).1)); clear hown6 hg6 hat6))
              go_wp2
              go_roundw
              case rel => exact ⟨k + 1, xs ++ [(x, y)], by omega, by go_num, by simp; omega, HO6, HB6.out⟩
              case measure => simp [intOf]; omega
              -->a2
    · go_wp2
      go_ret
      exact pdR_mk HO.out HBW.out

set_option maxHeartbeats 1600000 in
theorem common_one (f1 t1 f2 t2 : Int) (A A2 : Option Addr) (c c2 : Nat) (w : World) (hp : Pds w A [(f1, t1)]) (hq : Pds w A2 [(f2, t2)]) :
    Calls Tryz.prog 37 #[.slice A 1 c, .slice A2 1 c2] w (PdR w) := by
  have HC := Lib.hid (show Calls Tryz.prog 49 #[.slice A 1 c, .slice A2 1 c2, .bool false, .bool true] w (PdR w) from choose_any [(f1, t1)] [(f2, t2)] A A2 c c2 w hp hq (by simp) (by simp))
  clear hp hq
  go_enter Tryz.func37, Tryz.ntmps37
  go_wp2_with (go_at_call 49; (with_reducible refine HC.out.mono ?_); rintro e1 w1 ⟨A1, xs, c1, rfl, hx, hb⟩)
  go_ret
  exact ⟨A1, xs, c1, rfl, hx, hb⟩
theorem pd_new (W : World) (a b : Int) (T : TypeId) (N : Nat) (hN : N = W.heap.size) : Pds (W.alloc (.cells #[.int .i64 a, .int .i64 b] T)) (some ⟨N, 0, none⟩) [(a, b)] := by
  subst hN
  intro j x hx
  match j with
  | 0 =>
    obtain rfl := Option.some.inj hx
    refine ⟨W.heap.size, 0, rfl, by simp, fun i v hv => ?_⟩
    have hi := (List.getElem?_eq_some_iff.1 hv).1
    rw [← hv]
    match i, hi with
    | 0, _ | 1, _ => simp [go_sem, pdCells]
  | j + 1 => simp at hx
theorem pd_head {w : World} {A : Option Addr} {xs : List (Int × Int)} (h : Pds w A xs) : xs.length = 0 ∨ ∃ b o x1 x2, A = some ⟨b, o, none⟩ ∧ b < w.heap.size ∧ 0 < xs.length ∧ w.cell? ⟨b, o, none⟩ = some (.int .i64 x1) ∧ w.cell? ⟨b, o + 1, none⟩ = some (.int .i64 x2) := by
  cases xs with
  | nil => exact .inl rfl
  | cons x l =>
    obtain ⟨b, o, hA, hb, c0, c1⟩ := pd_cells h (j := 0) rfl
    rw [Nat.zero_mul, Nat.add_zero] at c0 c1
    exact .inr ⟨b, o, _, _, hA, hb, Nat.succ_pos _, c0, c1⟩
/-- A period and a truth are handed back. -/
def IsR (w : World) (e : Ending) (w' : World) : Prop := ∃ f t b, e = .returned (.tuple #[.agg #[.int .i64 f, .int .i64 t], .bool b]) ∧ Below w.heap.size w w'
set_option maxRecDepth 100000 in
set_option maxHeartbeats 1600000 in
theorem isect_any (f1 t1 f2 t2 : Int) (w : World) :
    Calls Tryz.prog 22 #[.agg #[.int .i64 f1, .int .i64 t1], .agg #[.int .i64 f2, .int .i64 t2]] w (IsR w) := by
  go_enter Tryz.func22, Tryz.ntmps22
  go_wp2_with (go_at_call 37; (with_reducible refine (common_one f1 t1 f2 t2 _ _ _ _ _ ?_ ?_).mono ?_); (· exact (pd_new _ _ _ _ _ (by simp)).alloc _); (· exact pd_new _ _ _ _ _ (by simp)); rintro e1 w1 ⟨A1, xs, c1, rfl, HX, hb⟩; have HB := Lib.hid (Below.trans (B := w.heap.size) (a := w) (by repeat' (first | exact Below.refl _ _ | refine below_ext ?_ ?_ _ | refine Below.alloc ?_ ?_ _ | refine Below.setCell ?_ ?_ _ | refine Below.drew ?_ | (rw [size_ext]; refine Nat.le_add_right_of_le ?_) | go_size | (rw [World.size_alloc]; refine Nat.le_add_right_of_le ?_))) (hb.mono (by simp only [World.size_alloc]; omega))); obtain ⟨b0, b1⟩ := bcell hb; have hsz := hb.size; simp only [World.size_alloc] at b0 b1 hsz; clear hb; rcases pd_head HX.out with h0 | ⟨b, o, x1, x2, rfl, hlt, h0, c0, c1⟩)
  all_goals
    go_wp2
    refine bodyPost_ret (by simp [results, Tryz.results22, go_sem, b0, b1]; first | done | rfl) rfl ?_
    exact ⟨_, _, _, rfl, by repeat' (first | with_reducible exact HB.out | with_reducible exact Below.refl _ _ | with_reducible refine below_ext ?_ ?_ _ | with_reducible refine Below.alloc ?_ ?_ _ | with_reducible refine Below.setCell ?_ ?_ _ | with_reducible refine Below.drew ?_ | (have := HB.out.size; simp only [size_ext, World.size_alloc, World.size_setCell, World.size_drew]; omega) | exact Nat.le_trans HB.out.size (by go_size) | (have := HB.out.size; simp; omega) | (have := HB.out.size; simp [go_sem]; omega) | (have := HB.out.size; simp [go_sem]; done) | (simp; done) | omega)⟩
end Go.Proofs.YtmodghiokoiipaaGreat

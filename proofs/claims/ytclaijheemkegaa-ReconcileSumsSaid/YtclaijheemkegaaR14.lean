/-
  The example; equal matches; totals.
-/
import Derived.Test.YtclaijheemkegaaR13
import Derived.Test.YtclaijheemkegaaR8
namespace Go.Proofs.Ytclaijheemkegaa
open Go.RowKit
set_option linter.unusedSimpArgs false
set_option linter.unusedVariables false

def exO : List It := [⟨⟨#[49]⟩, ⟨#[50]⟩, 1, 5, 60⟩, ⟨⟨#[49]⟩, ⟨#[50]⟩, 1, 9, 30⟩]
def exT : List It := [⟨⟨#[49]⟩, ⟨#[50]⟩, 1, 7, 61⟩, ⟨⟨#[49]⟩, ⟨#[50]⟩, 1, 3, 60⟩]
theorem ex_cmp : cmp exO exT 2 = ⟨[(0, 1)], [(1, 0)], [], []⟩ := by kernel_rfl
theorem ex_a : agP exO exT [(0, 1)] + sm (dA exO exT) [(1, 0)] = 90 := by kernel_rfl
theorem ex_b : sm (dM exO exT) [(1, 0)] + sm (uamt exO) [] = 0 := by kernel_rfl
theorem ex_c : sm (dN exO exT) [(1, 0)] + sm (uamt exT) [] = 31 := by kernel_rfl

theorem its_lit (xs : List It) (w : World) : Its (w.alloc (.cells (xs.flatMap It.cells).toArray 47)) (some ⟨w.heap.size, 0, none⟩) xs := by
  intro j x hx
  refine ⟨w.heap.size, 0, rfl, by simp, fun i v hv => ?_⟩
  have hi : i < 5 := (List.getElem?_eq_some_iff.1 hv).1
  rw [Nat.zero_add, World.cell?_alloc_at _ _ _ _ rfl]
  have := flat_at (f := It.cells) (n := 5) (fun _ => rfl) xs j i x hx hi
  simpa [hv] using this
theorem wide_exO : Wide exO := by
  intro x hx
  simp only [exO, List.mem_cons, List.not_mem_nil, or_false] at hx
  rcases hx with rfl | rfl <;> (unfold InIt fits maxLen; decide)
theorem wide_exT : Wide exT := by
  intro x hx
  simp only [exT, List.mem_cons, List.not_mem_nil, or_false] at hx
  rcases hx with rfl | rfl <;> (unfold InIt fits maxLen; decide)
set_option maxRecDepth 100000 in
set_option maxHeartbeats 2000000 in
theorem alive_any (w : World) : Calls Try.prog 9 #[] w fun e w' => e = .returned (.bool true) ∧ Below w.heap.size w w' := by
  have HO := Lib.hid (its_lit exO w)
  have HT := Lib.hid (fun W => its_lit exT W)
  go_enter Try.func9, Try.ntmps9
  go_wp2_with fail
  have HO1 := Lib.hid (HO.out.alloc (.cells (exT.flatMap It.cells).toArray 47))
  have HT1 := Lib.hid (HT.out (w.alloc (.cells (exO.flatMap It.cells).toArray 47)))
  have HT2 : Hid (Its ((w.alloc (.cells (exO.flatMap It.cells).toArray 47)).alloc (.cells (exT.flatMap It.cells).toArray 47)) (some ⟨w.heap.size + 1, 0, none⟩) exT) := by
    have h := HT1.out
    rw [World.size_alloc] at h
    exact h
  clear HT HT1 HO
  refine (comp_any exO exT 2 (some ⟨w.heap.size, 0, none⟩) (some ⟨w.heap.size + 1, 0, none⟩) 2 2 _ HO1.out HT2.out (by decide) (by decide) ⟨by decide, by decide⟩ wide_exO wide_exT).mono ?_
  rw [ex_cmp]
  rintro e w1 ⟨v1, v2, v3, v4, rfl, o1, o2, o3, o4, hb⟩
  obtain ⟨A1, q1, rfl, p1⟩ := o1.form
  obtain ⟨A2, q2, rfl, p2⟩ := o2.form
  obtain ⟨A3, q3, rfl, p3⟩ := o3.form
  obtain ⟨A4, q4, rfl, p4⟩ := o4.form
  have HP1 := Lib.hid p1
  have HP2 := Lib.hid p2
  have HP3 := Lib.hid p3
  have HP4 := Lib.hid p4
  have HO3 := Lib.hid (HO1.out.below hb)
  have HT3 := Lib.hid (HT2.out.below hb)
  have HB := Lib.hid (((((Below.refl w.heap.size w).alloc (Nat.le_refl _) (.cells (exO.flatMap It.cells).toArray 47)).alloc (by simp) (.cells (exT.flatMap It.cells).toArray 47)).trans (hb.mono (by simp; omega))))
  obtain ⟨b1, n1, rfl, hb1, x0, x1⟩ := prs_cells (j := 0) p1 rfl
  obtain ⟨b2, n2, rfl, hb2, y0, y1⟩ := prs_cells (j := 0) p2 rfl
  simp only [Nat.zero_mul, Nat.add_zero] at x0 x1 y0 y1
  clear o1 o2 o3 o4 p1 p2 p3 p4 hb HO1 HT2
  go_wp2_with fail
  refine (units_any [(0, 1)] [(1, 0)] [] [] exO exT _ _ A3 A4 (some ⟨w.heap.size, 0, none⟩) (some ⟨w.heap.size + 1, 0, none⟩) q1 q2 q3 q4 2 2 _ (HP1.out.alloc _) (HP2.out.alloc _) (HP3.out.alloc _) (HP4.out.alloc _) (HO3.out.alloc _) (HT3.out.alloc _) (by decide) (by decide) (by decide) (by decide)).mono ?_
  rw [ex_a, ex_b, ex_c]
  rintro e w1 ⟨rfl, hb⟩; obtain ⟨s, rfl⟩ := ext_of_below hb; clear hb
  go_wp2_with fail
  go_ret
  refine ⟨rfl, ?_⟩
  exact below_ext (Below.alloc HB.out HB.out.size _) (by simp; have := HB.out.size; omega) s

set_option maxRecDepth 100000 in
set_option maxHeartbeats 2000000 in
theorem same_any (m : Mt) (A1 A2 A3 A4 B1 B2 B3 B4 : Option Addr) (c1 c2 c3 c4 d1 d2 d3 d4 : Nat) (w : World) (h1 : Prs w A1 m.pairs) (h2 : Prs w A2 m.differ) (h3 : Nts w A3 m.ours) (h4 : Nts w A4 m.theirs) (k1 : Prs w B1 m.pairs) (k2 : Prs w B2 m.differ) (k3 : Nts w B3 m.ours) (k4 : Nts w B4 m.theirs)
    (n1 : m.pairs.length ≤ 100000) (n2 : m.differ.length ≤ 100000) (n3 : m.ours.length ≤ 100000) (n4 : m.theirs.length ≤ 100000) :
    Calls Try.prog 10 #[.agg #[.slice A1 m.pairs.length c1, .slice A2 m.differ.length c2, .slice A3 m.ours.length c3, .slice A4 m.theirs.length c4], .agg #[.slice B1 m.pairs.length d1, .slice B2 m.differ.length d2, .slice B3 m.ours.length d3, .slice B4 m.theirs.length d4]] w fun e w' => e = .returned (.bool true) ∧ Below w.heap.size w w' := by
  have H1 := Lib.hid h1
  have H2 := Lib.hid h2
  have H3 := Lib.hid h3
  have H4 := Lib.hid h4
  have K1 := Lib.hid k1
  have K2 := Lib.hid k2
  have K3 := Lib.hid k3
  have K4 := Lib.hid k4
  clear h1 h2 h3 h4 k1 k2 k3 k4
  go_enter Try.func10, Try.ntmps10
  go_wp2_with (first
    | (go_at_call 20; (with_reducible refine (spairs_any m.pairs A1 B1 c1 d1 _ n1 (H1.out.below ?_) (K1.out.below ?_)).mono ?_); (· repeat' (first | exact Below.refl _ _ | refine below_ext ?_ ?_ _ | refine Below.alloc ?_ ?_ _ | refine Below.setCell ?_ ?_ _ | refine Below.drew ?_ | (rw [size_ext]; refine Nat.le_add_right_of_le ?_) | go_size | (rw [World.size_alloc]; refine Nat.le_add_right_of_le ?_))); (· repeat' (first | exact Below.refl _ _ | refine below_ext ?_ ?_ _ | refine Below.alloc ?_ ?_ _ | refine Below.setCell ?_ ?_ _ | refine Below.drew ?_ | (rw [size_ext]; refine Nat.le_add_right_of_le ?_) | go_size | (rw [World.size_alloc]; refine Nat.le_add_right_of_le ?_))); rintro e w1 ⟨rfl, hb⟩; obtain ⟨s1, rfl⟩ := ext_of_below hb; clear hb)
    | (go_at_call 20; (with_reducible refine (spairs_any m.differ A2 B2 c2 d2 _ n2 (H2.out.below ?_) (K2.out.below ?_)).mono ?_); (· repeat' (first | exact Below.refl _ _ | refine below_ext ?_ ?_ _ | refine Below.alloc ?_ ?_ _ | refine Below.setCell ?_ ?_ _ | refine Below.drew ?_ | (rw [size_ext]; refine Nat.le_add_right_of_le ?_) | go_size | (rw [World.size_alloc]; refine Nat.le_add_right_of_le ?_))); (· repeat' (first | exact Below.refl _ _ | refine below_ext ?_ ?_ _ | refine Below.alloc ?_ ?_ _ | refine Below.setCell ?_ ?_ _ | refine Below.drew ?_ | (rw [size_ext]; refine Nat.le_add_right_of_le ?_) | go_size | (rw [World.size_alloc]; refine Nat.le_add_right_of_le ?_))); rintro e w1 ⟨rfl, hb⟩; obtain ⟨s2, rfl⟩ := ext_of_below hb; clear hb)
    | (go_at_call 21; (with_reducible refine (sints_any m.ours A3 B3 c3 d3 _ n3 (H3.out.below ?_) (K3.out.below ?_)).mono ?_); (· repeat' (first | exact Below.refl _ _ | refine below_ext ?_ ?_ _ | refine Below.alloc ?_ ?_ _ | refine Below.setCell ?_ ?_ _ | refine Below.drew ?_ | (rw [size_ext]; refine Nat.le_add_right_of_le ?_) | go_size | (rw [World.size_alloc]; refine Nat.le_add_right_of_le ?_))); (· repeat' (first | exact Below.refl _ _ | refine below_ext ?_ ?_ _ | refine Below.alloc ?_ ?_ _ | refine Below.setCell ?_ ?_ _ | refine Below.drew ?_ | (rw [size_ext]; refine Nat.le_add_right_of_le ?_) | go_size | (rw [World.size_alloc]; refine Nat.le_add_right_of_le ?_))); rintro e w1 ⟨rfl, hb⟩; obtain ⟨s3, rfl⟩ := ext_of_below hb; clear hb)
    | (go_at_call 21; (with_reducible refine (sints_any m.theirs A4 B4 c4 d4 _ n4 (H4.out.below ?_) (K4.out.below ?_)).mono ?_); (· repeat' (first | exact Below.refl _ _ | refine below_ext ?_ ?_ _ | refine Below.alloc ?_ ?_ _ | refine Below.setCell ?_ ?_ _ | refine Below.drew ?_ | (rw [size_ext]; refine Nat.le_add_right_of_le ?_) | go_size | (rw [World.size_alloc]; refine Nat.le_add_right_of_le ?_))); (· repeat' (first | exact Below.refl _ _ | refine below_ext ?_ ?_ _ | refine Below.alloc ?_ ?_ _ | refine Below.setCell ?_ ?_ _ | refine Below.drew ?_ | (rw [size_ext]; refine Nat.le_add_right_of_le ?_) | go_size | (rw [World.size_alloc]; refine Nat.le_add_right_of_le ?_))); rintro e w1 ⟨rfl, hb⟩; obtain ⟨s4, rfl⟩ := ext_of_below hb; clear hb))
  go_ret
  refine ⟨rfl, ?_⟩
  repeat' (first | exact Below.refl _ _ | refine below_ext ?_ ?_ _ | refine Below.alloc ?_ ?_ _ | refine Below.setCell ?_ ?_ _ | refine Below.drew ?_ | (rw [size_ext]; refine Nat.le_add_right_of_le ?_) | go_size | (rw [World.size_alloc]; refine Nat.le_add_right_of_le ?_))

/-- Count: a position is counted. -/
theorem seen_yes (l : List Bool) (L B k : Nat) (w : World) (h : OwnBs w B L l) (hk : l[k]? = some false) (hl : l.length ≤ 1000) :
    Calls Try.prog 15 #[.slice (some ⟨L, 0, none⟩) l.length l.length, .int .i64 (k : Int)] w fun e w' => e = .returned (.bool true) ∧ OwnBs w' B L (l.set k true) ∧ Kp L L w w' := by
  have hlt : k < l.length := (List.getElem?_eq_some_iff.1 hk).1
  obtain ⟨x0, f0⟩ := h.at hk
  have hLl := h.lt.2
  have HB := Lib.hid (h.stored k true).1
  clear h hk
  go_enter Try.func15, Try.ntmps15
  go_wp2_with fail
  go_ret
  exact ⟨rfl, HB.out, (Kp.refl w).set (.inl rfl)⟩

set_option maxRecDepth 100000 in
set_option maxHeartbeats 2000000 in
theorem total_any (xs : List It) (A : Option Addr) (c : Nat) (w : World) (h : Its w A xs) (hn : xs.length ≤ 24) :
    Calls Try.prog 16 #[.slice A xs.length c] w fun e w' => e = .returned (.int .i64 (sm It.cnt xs)) ∧ Below w.heap.size w w' := by
  have H := Lib.hid h
  clear h
  go_enter Try.func16, Try.ntmps16
  go_wp2
  go_loopw [3, 4] (fun n i wr => ∃ k : Nat, k ≤ xs.length ∧ i = .int .i64 k ∧ n = .int .i64 (sm It.cnt (xs.take k)) ∧ Below w.heap.size w wr) (fun _ i _ => xs.length - (intOf i).toNat)
  case atStart => exact ⟨0, Nat.zero_le _, rfl, rfl, Below.refl _ _⟩
  case round =>
    obtain ⟨k, hk, rfl, rfl, hbw⟩ := hrel
    have HB := Lib.hid hbw
    clear hbw
    by_cases hlt : k < xs.length
    · obtain ⟨x, hx⟩ : ∃ s, xs[k]? = some s := ⟨_, List.getElem?_eq_getElem hlt⟩
      have hs := sm_snoc It.cnt hx
      have hu := uamt_at hx
      have h1 := sm_in It.cnt_in (xs.take k)
      have h2 := It.cnt_in x
      have h3 : (xs.take k).length ≤ 24 := by simp; omega
      have HC := Lib.hid (fun W hW => rcount_any xs A c (k : Int) W (H.out.below hW) (by simp only [maxLen]; omega))
      clear hx
      go_wp2_with (go_at_call 29; refine (HC.out _ ?_).mono ?_; (· exact HB.out); rw [hu]; rintro e w1 ⟨rfl, hb⟩; obtain ⟨s, rfl⟩ := ext_of_below hb; clear hb)
      go_roundw
      case rel => exact ⟨k + 1, by omega, by go_num, by rw [hs], below_ext HB.out HB.out.size _⟩
      case measure => simp [intOf]; omega
    · obtain rfl : k = xs.length := by omega
      rw [List.take_length]
      go_wp2
      go_ret
      exact ⟨rfl, HB.out⟩
end Go.Proofs.Ytclaijheemkegaa

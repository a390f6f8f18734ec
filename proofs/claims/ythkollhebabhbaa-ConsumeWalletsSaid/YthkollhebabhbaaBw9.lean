/-
  The walk of places, the step: two halves, merged.
-/
import Derived.Test.YthkollhebabhbaaBw8
namespace Go.Proofs.Ythkollhebabhbaa
open Go.RowKit
set_option linter.unusedSimpArgs false

/-- What the walk of a half is handed. -/
def PlacesFor (xs : List Bk) (A : Option Addr) (c first n : Nat) : Prop := ∀ (w : World) (a b : Int), Bks w A xs → a = (first : Int) → b = (first : Int) + (n : Int) →
  Calls Try.prog 66 #[.slice A xs.length c, .int .i64 a, .int .i64 b] w (PlacesPost xs first n w)

theorem bk_cells {w : World} {A : Option Addr} {xs : List Bk} (h : Bks w A xs) {j : Nat} {x : Bk} (hx : xs[j]? = some x) : ∃ b o za zc, A = some ⟨b, o, none⟩ ∧ b < w.heap.size ∧ w.cell? ⟨b, o + j * 12, none⟩ = some (.int .i64 x.acc) ∧ w.cell? ⟨b, o + j * 12 + 1, none⟩ = some (.int .i64 x.sub) ∧ w.cell? ⟨b, o + j * 12 + 2, none⟩ = some (.string x.prod) ∧
    w.cell? ⟨b, o + j * 12 + 3, none⟩ = some (.int .i64 x.idx) ∧ w.cell? ⟨b, o + j * 12 + 4, none⟩ = some (.int .i64 x.kind) ∧ w.cell? ⟨b, o + j * 12 + 5, none⟩ = some (.slice za x.zones.length zc) ∧ w.cell? ⟨b, o + j * 12 + 6, none⟩ = some (.int .i64 x.frm) ∧ w.cell? ⟨b, o + j * 12 + 7, none⟩ = some (.int .i64 x.til) ∧
    w.cell? ⟨b, o + j * 12 + 8, none⟩ = some (.int .i64 x.units) ∧ w.cell? ⟨b, o + j * 12 + 9, none⟩ = some (.int .i64 x.left) ∧ w.cell? ⟨b, o + j * 12 + 10, none⟩ = some (.int .i64 x.prio) ∧ w.cell? ⟨b, o + j * 12 + 11, none⟩ = some (.bool x.shared) ∧ StrsAt w za x.zones ∧ (za = none → zc = 0) := by
  obtain ⟨b, o, za, zc, hA, hb, hc, hz, hz2⟩ := h j x hx
  exact ⟨b, o, za, zc, hA, hb, hc 0 _ rfl, hc 1 _ rfl, hc 2 _ rfl, hc 3 _ rfl, hc 4 _ rfl, hc 5 _ rfl, hc 6 _ rfl, hc 7 _ rfl, hc 8 _ rfl, hc 9 _ rfl, hc 10 _ rfl, hc 11 _ rfl, hz, hz2⟩

set_option maxHeartbeats 4000000 in
theorem places_step (xs : List Bk) (A : Option Addr) (c first n : Nat) (w : World) (hn : 2 ≤ n) (hf : first + n ≤ xs.length) (hxl : xs.length ≤ 1000) (hxs : Bks w A xs)
    (ih1 : PlacesFor xs A c first (n / 2)) (ih2 : PlacesFor xs A c (first + n / 2) (n - n / 2)) :
    Calls Try.prog 66 #[.slice A xs.length c, .int .i64 (first : Int), .int .i64 ((first : Int) + (n : Int))] w (PlacesPost xs first n w) := by
  obtain ⟨i0, hi0, hz0, hz1, hz2⟩ := info_parts info_int
  have Hx := Lib.hid hxs
  clear hxs
  have hwk := posr_weak xs
  have Hw := Lib.hid hwk
  clear hwk
  unfold PlacesPost
  have t1 : ¬ ((first : Int) + (n : Int) - first < 2) := by omega
  have hsa := Lib.hid (srt_sorted Hw.out first (n / 2))
  have hsb := Lib.hid (srt_sorted Hw.out (first + n / 2) (n - n / 2))
  have hla : (srt (posr xs) first (n / 2)).length = n / 2 := srt_length _ _
  have hlb : (srt (posr xs) (first + n / 2) (n - n / 2)).length = n - n / 2 := srt_length _ _
  have hma := Lib.hid (fun p (hp : p ∈ srt (posr xs) first (n / 2)) => srt_mem.1 hp)
  have hmb := Lib.hid (fun p (hp : p ∈ srt (posr xs) (first + n / 2) (n - n / 2)) => srt_mem.1 hp)
  have Hdone := Lib.hid (fun (out : List Nat) (m : MInv (posr xs) (srt (posr xs) first (n / 2)) (srt (posr xs) (first + n / 2) (n - n / 2)) (n / 2) (n - n / 2) out) => MInv.done Hw.out (by omega) m)
  have hla1 := Nat.le_of_eq hla
  have hla2 := Nat.le_of_eq hla.symm
  have hlb1 := Nat.le_of_eq hlb
  have hlb2 := Nat.le_of_eq hlb.symm
  clear hla hlb
  generalize ela : srt (posr xs) first (n / 2) = la at *
  generalize elb : srt (posr xs) (first + n / 2) (n - n / 2) = lb at *
  have Ela := Lib.hid ela
  have Elb := Lib.hid elb
  clear ela elb
  go_enter Try.func66, Try.ntmps66
  go_wp2_with fail
  refine (ih1 w _ _ Hx.out rfl (by omega)).mono ?_
  rintro e w1 ⟨v1, rfl, own1, hb1⟩
  rw [Ela.out] at own1
  obtain ⟨A1, c1, rfl, hI1, hA1⟩ := own1.form
  have HI1 := Lib.hid hI1
  clear hI1 own1 hA1
  go_wp2_with fail
  refine (ih2 w1 _ _ (Hx.out.below hb1) (by omega) (by omega)).mono ?_
  rintro e w2 ⟨v2, rfl, own2, hb2⟩
  rw [Elb.out] at own2
  obtain ⟨A2, c2, rfl, hI2, hA2⟩ := own2.form
  have HI2 := Lib.hid hI2
  have HI1' := Lib.hid (HI1.out.below hb2)
  have HX2 := Lib.hid ((Hx.out.below hb1).below hb2)
  have hB2 : Below w.heap.size w w2 := hb1.trans (hb2.mono hb1.size)
  have HB2 := Lib.hid hB2
  have hsz2 := hB2.size
  clear hI2 own2 hA2 HI1 hb1 hb2 hB2
  go_wp2_with (at_make; refine wpList_make_own _ rfl _ _ 102 rfl w2.heap.size 3 i0 _ 1 Try.underlying102 hi0 hz0 hz1 .i64 .i64 _ n rfl rfl (by omega) (by rw [hz2]; omega) (by simp only [maxLen]; omega) (Nat.le_refl _) ?_; intro w3 hown3 hg3; have HO3 := Lib.hid hown3; have hb3 := (Below.refl _ _).grown hg3 (Nat.le_refl _) (by simp); have HB3 := Lib.hid hb3; clear hown3 hg3 hb3)
  go_loopw [12, 13, 14] (fun v i k wr => ∃ (p q : Nat) (out : List Nat), i = .int .i64 (p : Int) ∧ k = .int .i64 (q : Int) ∧ MInv (posr xs) la lb p q out ∧ OwnInts wr w2.heap.size v out ∧ Below w2.heap.size w2 wr) (fun _ i k _ => la.length + lb.length - (intOf i).toNat - (intOf k).toNat)
  case atStart => exact ⟨0, 0, [], rfl, rfl, MInv.start _ _ _, HO3.out, HB3.out⟩
  case round =>
    obtain ⟨p, q, out, rfl, rfl, hm, hown, hbw⟩ := hrel
    have hp := hm.hp
    have hq := hm.hq
    have HM := Lib.hid hm
    have HO := Lib.hid hown
    have HX := Lib.hid (HX2.out.below hbw)
    have HIa := Lib.hid (HI1'.out.below hbw)
    have HIb := Lib.hid (HI2.out.below hbw)
    have HB := Lib.hid hbw
    have hsz := hbw.size
    clear hm hown hbw
    have holen : out.length ≤ n := by
      have h1 := HM.out.perm.length_eq
      rw [h1, List.length_append, List.length_take, List.length_take]
      omega
    by_cases hpl : p < la.length
    · obtain ⟨x, hx⟩ : ∃ x, la[p]? = some x := ⟨_, List.getElem?_eq_getElem hpl⟩
      have hxm := hma.out x (List.mem_of_getElem? hx)
      obtain ⟨ga, oa, rfl, hga, hca⟩ := HIa.out p x hx
      have HXp := Lib.hid hx
      by_cases hql : q < lb.length
      · obtain ⟨y, hy⟩ : ∃ y, lb[q]? = some y := ⟨_, List.getElem?_eq_getElem hql⟩
        have hym := hmb.out y (List.mem_of_getElem? hy)
        obtain ⟨gb, ob, rfl, hgb, hcb⟩ := HIb.out q y hy
        have HYq := Lib.hid hy
        obtain ⟨bx, hbx⟩ : ∃ b, xs[x]? = some b := ⟨_, List.getElem?_eq_getElem (by omega)⟩
        obtain ⟨by', hby⟩ : ∃ b, xs[y]? = some b := ⟨_, List.getElem?_eq_getElem (by omega)⟩
        obtain ⟨b, o, za, zc, rfl, hb, x0, x1, x2, x3, x4, x5, x6, x7, x8, x9, x10, x11, _, _⟩ := bk_cells HX.out hbx
        obtain ⟨b', o', za', zc', hA, hb', y0, y1, y2, y3, y4, y5, y6, y7, y8, y9, y10, y11, _, _⟩ := bk_cells HX.out hby
        simp only [Option.some.injEq, Addr.mk.injEq, and_true] at hA
        obtain ⟨rfl, rfl⟩ := hA
        have hr := posr_at hby hbx
        have HR := Lib.hid hr
        clear hx hy hbx hby hr
        have g1 : ((q : Int) == (lb.length : Int)) = false := beq_eq_false_iff_ne.2 (by omega)
        have g2 : decide ((p : Int) < (la.length : Int)) = true := decide_eq_true (by omega)
        have g3 : (q == lb.length) = false := beq_eq_false_iff_ne.2 (by omega)
        have g4 : (x : Int) < (xs.length : Int) := by omega
        have g5 : (y : Int) < (xs.length : Int) := by omega
        cases hbe : by'.before bx
        · go_wp2_with fail
          refine wp_region_more (by kernel_rfl) (by kernel_rfl) ?_
          repeat (first | go_big_quiet_skip | quiet_step (first
            | (go_at_call 79; first | with_reducible exact more_call (earlier_any _ _ _ _ _ _ _) | exact more_call2 (earlier_any _ _ _ _ _ _ _))))
          refine wpQuiet_nil ?_
          rintro _ ⟨s, rfl⟩
          go_wp2_with (at_builtin; refine wpList_append_own _ rfl _ _ _ rfl w2.heap.size 3 i0 _ 1 8 Try.underlying102 hi0 hz0 hz1 hz2 rfl (by omega) _ out.length (ints out) rfl ((own_below HO.out (below_ext (Below.refl _ _) (Nat.le_refl _) s)).alloc _) ⟨wr.heap.size + s.n, 0, none⟩ 1 1 [.int .i64 (x : Int)] rfl rfl (cells_new _ (by simp [go_sem])) (int_one _) (by simp only [maxLen]; omega) (by omega) (by simp [go_sem]; omega) ?_; intro v4 w4 hown4 hg4 hnil4; clear hnil4; have HO4 := Lib.hid hown4; have HG4 := Lib.hid hg4; clear hown4 hg4)
          go_roundw
          case rel =>
            refine ⟨p + 1, q, out ++ [x], by go_num, rfl, HM.out.left Hw.out hsa.out hsb.out (fun a ha b hb => by have h1 := hma.out a ha; have h2 := hmb.out b hb; omega) HXp.out (.inr ⟨y, HYq.out, by rw [HR.out, hbe]⟩), ?_, ?_⟩
            · unfold OwnInts
              rw [ints_append, List.length_append]
              exact HO4.out
            · exact (Below.alloc (below_ext HB.out HB.out.size s) (by simp [go_sem]; omega) _).grown HG4.out (by simp [go_sem]; omega) (fun j hj => (HO.out.lt j hj).1)
          case measure => simp [intOf]; omega
        · go_wp2_with fail
          refine wp_region_more (by kernel_rfl) (by kernel_rfl) ?_
          repeat (first | go_big_quiet_skip | quiet_step (first
            | (go_at_call 79; first | with_reducible exact more_call (earlier_any _ _ _ _ _ _ _) | exact more_call2 (earlier_any _ _ _ _ _ _ _))))
          refine wpQuiet_nil ?_
          rintro _ ⟨s, rfl⟩
          go_wp2_with (at_builtin; refine wpList_append_own _ rfl _ _ _ rfl w2.heap.size 3 i0 _ 1 8 Try.underlying102 hi0 hz0 hz1 hz2 rfl (by omega) _ out.length (ints out) rfl ((own_below HO.out (below_ext (Below.refl _ _) (Nat.le_refl _) s)).alloc _) ⟨wr.heap.size + s.n, 0, none⟩ 1 1 [.int .i64 (y : Int)] rfl rfl (cells_new _ (by simp [go_sem])) (int_one _) (by simp only [maxLen]; omega) (by omega) (by simp [go_sem]; omega) ?_; intro v4 w4 hown4 hg4 hnil4; clear hnil4; have HO4 := Lib.hid hown4; have HG4 := Lib.hid hg4; clear hown4 hg4)
          go_roundw
          case rel =>
            refine ⟨p, q + 1, out ++ [y], rfl, by go_num, HM.out.right Hw.out hsa.out hsb.out HYq.out (.inr ⟨x, HXp.out, by rw [HR.out, hbe]⟩), ?_, ?_⟩
            · unfold OwnInts
              rw [ints_append, List.length_append]
              exact HO4.out
            · exact (Below.alloc (below_ext HB.out HB.out.size s) (by simp [go_sem]; omega) _).grown HG4.out (by simp [go_sem]; omega) (fun j hj => (HO.out.lt j hj).1)
          case measure => simp [intOf]; omega
      · have hqe : q = lb.length := by omega
        have Hqe := Lib.hid hqe
        have g1 : ((q : Int) == (lb.length : Int)) = true := beq_iff_eq.2 (by omega)
        have g3 : (q == lb.length) = true := beq_iff_eq.2 hqe
        clear hqe hx
        go_wp2_with fail
        refine wp_region_more (by kernel_rfl) (by kernel_rfl) ?_
        repeat (first | go_big_quiet_skip | quiet_step (first
          | (go_at_call 79; first | with_reducible exact more_call (earlier_any _ _ _ _ _ _ _) | exact more_call2 (earlier_any _ _ _ _ _ _ _))))
        refine wpQuiet_nil ?_
        rintro _ ⟨s, rfl⟩
        go_wp2_with (at_builtin; refine wpList_append_own _ rfl _ _ _ rfl w2.heap.size 3 i0 _ 1 8 Try.underlying102 hi0 hz0 hz1 hz2 rfl (by omega) _ out.length (ints out) rfl ((own_below HO.out (below_ext (Below.refl _ _) (Nat.le_refl _) s)).alloc _) ⟨wr.heap.size + s.n, 0, none⟩ 1 1 [.int .i64 (x : Int)] rfl rfl (cells_new _ (by simp [go_sem])) (int_one _) (by simp only [maxLen]; omega) (by omega) (by simp [go_sem]; omega) ?_; intro v4 w4 hown4 hg4 hnil4; clear hnil4; have HO4 := Lib.hid hown4; have HG4 := Lib.hid hg4; clear hown4 hg4)
        go_roundw
        case rel =>
          refine ⟨p + 1, q, out ++ [x], by go_num, rfl, HM.out.left Hw.out hsa.out hsb.out (fun a ha b hb => by have h1 := hma.out a ha; have h2 := hmb.out b hb; omega) HXp.out (.inl Hqe.out), ?_, ?_⟩
          · unfold OwnInts
            rw [ints_append, List.length_append]
            exact HO4.out
          · exact (Below.alloc (below_ext HB.out HB.out.size s) (by simp [go_sem]; omega) _).grown HG4.out (by simp [go_sem]; omega) (fun j hj => (HO.out.lt j hj).1)
        case measure => simp [intOf]; omega
    · by_cases hql : q < lb.length
      · obtain ⟨y, hy⟩ : ∃ y, lb[q]? = some y := ⟨_, List.getElem?_eq_getElem hql⟩
        obtain ⟨gb, ob, rfl, hgb, hcb⟩ := HIb.out q y hy
        have HYq := Lib.hid hy
        have hpe := Lib.hid (show p = la.length by omega)
        have g1 : ((q : Int) == (lb.length : Int)) = false := beq_eq_false_iff_ne.2 (by omega)
        have g2 : decide ((p : Int) < (la.length : Int)) = false := decide_eq_false (by omega)
        have g3 : (q == lb.length) = false := beq_eq_false_iff_ne.2 (by omega)
        have g4 : decide (p < la.length) = false := decide_eq_false (by omega)
        clear hy
        go_wp2_with fail
        refine wp_region_more (by kernel_rfl) (by kernel_rfl) ?_
        repeat (first | go_big_quiet_skip | quiet_step (first
          | (go_at_call 79; first | with_reducible exact more_call (earlier_any _ _ _ _ _ _ _) | exact more_call2 (earlier_any _ _ _ _ _ _ _))))
        refine wpQuiet_nil ?_
        rintro _ ⟨s, rfl⟩
        go_wp2_with (at_builtin; refine wpList_append_own _ rfl _ _ _ rfl w2.heap.size 3 i0 _ 1 8 Try.underlying102 hi0 hz0 hz1 hz2 rfl (by omega) _ out.length (ints out) rfl ((own_below HO.out (below_ext (Below.refl _ _) (Nat.le_refl _) s)).alloc _) ⟨wr.heap.size + s.n, 0, none⟩ 1 1 [.int .i64 (y : Int)] rfl rfl (cells_new _ (by simp [go_sem])) (int_one _) (by simp only [maxLen]; omega) (by omega) (by simp [go_sem]; omega) ?_; intro v4 w4 hown4 hg4 hnil4; clear hnil4; have HO4 := Lib.hid hown4; have HG4 := Lib.hid hg4; clear hown4 hg4)
        go_roundw
        case rel =>
          refine ⟨p, q + 1, out ++ [y], rfl, by go_num, HM.out.right Hw.out hsa.out hsb.out HYq.out (.inl hpe.out), ?_, ?_⟩
          · unfold OwnInts
            rw [ints_append, List.length_append]
            exact HO4.out
          · exact (Below.alloc (below_ext HB.out HB.out.size s) (by simp [go_sem]; omega) _).grown HG4.out (by simp [go_sem]; omega) (fun j hj => (HO.out.lt j hj).1)
        case measure => simp [intOf]; omega
      · have he : out = srt (posr xs) first n := Hdone.out out (by
          have h1 : p = n / 2 := by omega
          have h2 : q = n - n / 2 := by omega
          have := HM.out
          rw [h1, h2] at this
          exact this)
        have He := Lib.hid he
        clear he
        go_wp2_with fail
        go_ret
        have hO := HO.out
        rw [He.out] at hO
        refine ⟨_, rfl, ?_, HB2.out.trans (HB.out.mono hsz2)⟩
        have := own_mono hO hsz2
        unfold OwnInts
        exact this

theorem places_any (xs : List Bk) (A : Option Addr) (c : Nat) (hxl : xs.length ≤ 1000) : ∀ (m first n : Nat), n ≤ m → first + n ≤ xs.length → PlacesFor xs A c first n
  | 0, first, n, hm, hf => fun w a b _ ha hb => places_small xs A c first n w (by omega) (by omega) a b ha hb
  | m + 1, first, n, hm, hf => fun w a b hx ha hb => by
    by_cases hn : n < 2
    · exact places_small xs A c first n w hn (by omega) a b ha hb
    · subst ha hb
      exact places_step xs A c first n w (by omega) hf hxl hx (places_any xs A c hxl m first (n / 2) (by omega) (by omega)) (places_any xs A c hxl m (first + n / 2) (n - n / 2) (by omega) (by omega))
end Go.Proofs.Ythkollhebabhbaa

/-
  The walk of the reference's places: insertion, one position after another.
-/
import Derived.Test.YthkollhebabhbaaBw10
import Derived.Test.YthkollhebabhbaaBw13
namespace Go.Proofs.Ythkollhebabhbaa
open Go.RowKit
set_option linter.unusedSimpArgs false


/-- Where position i is put into the sorted list of the positions ahead of it. -/
theorem put_at {r : Nat → Nat → Bool} (h : Weak r) {i k : Nat} {l : List Nat} (hl : l = srt r 0 i) (hk : k ≤ l.length) (h1 : ∀ j q, l[j]? = some q → k ≤ j → r i q = true)
    (h2 : k = 0 ∨ ∃ q, l[k - 1]? = some q ∧ r i q = false) : l.take k ++ [i] ++ l.drop k = srt r 0 (i + 1) := by
  have hs : l.Pairwise (Pre r) := by rw [hl]; exact srt_sorted h 0 i
  have hm : ∀ q ∈ l, q < i := fun q hq => by
    rw [hl] at hq
    have := srt_mem.1 hq
    omega
  have hd : ∀ q ∈ l.drop k, r i q = true := fun q hq => by
    obtain ⟨j, hj⟩ := List.mem_iff_getElem?.1 hq
    rw [List.getElem?_drop] at hj
    exact h1 (k + j) q hj (by omega)
  have ht : ∀ q ∈ l.take k, Pre r q i := fun q hq => by
    rcases h2 with h2 | ⟨q0, hq0, h2⟩
    · subst h2
      simp at hq
    · have hp0 : Pre r q0 i := .inr ⟨h2, hm q0 (List.mem_of_getElem? hq0)⟩
      obtain ⟨j, hj⟩ := List.mem_iff_getElem?.1 hq
      rw [List.getElem?_take] at hj
      split at hj
      · rename_i hjk
        rcases Nat.lt_or_ge j (k - 1) with hlt | hge
        · obtain ⟨e1, e2⟩ := List.getElem?_eq_some_iff.1 hj
          obtain ⟨e3, e4⟩ := List.getElem?_eq_some_iff.1 hq0
          have := List.pairwise_iff_getElem.1 hs j (k - 1) e1 e3 hlt
          rw [e2, e4] at this
          exact pre_trans h this hp0
        · have : j = k - 1 := by omega
          subst this
          rw [hq0] at hj
          cases hj
          exact hp0
      · cases hj
  refine srt_eq h ?_ ?_
  · have hp : (l.take k ++ [i] ++ l.drop k).Perm (l ++ [i]) := by
      rw [List.append_assoc]
      have e : l ++ [i] = l.take k ++ (l.drop k ++ [i]) := by rw [← List.append_assoc, List.take_append_drop]
      rw [e]
      exact List.Perm.append_left _ List.perm_append_comm
    refine hp.trans ?_
    rw [List.range'_concat, hl]
    simpa using (srt_perm (r := r) 0 i).append_right [i]
  · refine List.pairwise_append.2 ⟨List.pairwise_append.2 ⟨hs.sublist (List.take_sublist _ _), List.pairwise_singleton _ _, fun a ha b hb => ?_⟩, hs.sublist (List.drop_sublist _ _), fun a ha b hb => ?_⟩
    · obtain rfl := List.mem_singleton.1 hb
      exact ht a ha
    · rcases List.mem_append.1 ha with ha | ha
      · have := hs
        rw [← List.take_append_drop k l] at this
        exact (List.pairwise_append.1 this).2.2 a ha b hb
      · obtain rfl := List.mem_singleton.1 ha
        exact .inl (hd b hb)

theorem OwnInts.addr {w : World} {B : Nat} {A : Option Addr} {n c : Nat} {l : List Nat} (h : OwnInts w B (.slice A n c) l) : (A = none ∧ c = 0 ∧ l.length = 0) ∨ ∃ g, A = some ⟨g, 0, none⟩ ∧ l.length ≤ c ∧ c ≤ maxLen ∧ g < w.heap.size := by
  unfold OwnInts at h
  rcases h.2 with ⟨h1, h2⟩ | ⟨g, cap, cur, h1, _, hh, hc, hm, _⟩
  · simp only [Value.slice.injEq] at h1
    exact .inl ⟨h1.1, h1.2.2, h2⟩
  · simp only [Value.slice.injEq] at h1
    obtain ⟨rfl, _, rfl⟩ := h1
    refine .inr ⟨g, rfl, hc, hm, ?_⟩
    rcases Nat.lt_or_ge g w.heap.size with hlt | hge
    · exact hlt
    · rw [Array.getElem?_eq_none hge] at hh
      cases hh
theorem ints_take {W : World} {g o : Nat} {l : List Nat} (h : Ints W (some ⟨g, o, none⟩) l) (k : Nat) : ∀ (j : Nat) (u : Value), (ints (l.take k))[j]? = some u → W.cell? ((⟨g, o, none⟩ : Addr).add j) = some u := by
  intro j u hu
  simp only [ints, List.getElem?_map, Option.map_eq_some_iff, List.getElem?_take] at hu
  obtain ⟨p, hp, rfl⟩ := hu
  split at hp
  · obtain ⟨b, o', hA, _, hc⟩ := h j p hp
    simp only [Option.some.injEq, Addr.mk.injEq, and_true] at hA
    obtain ⟨rfl, rfl⟩ := hA
    rw [← hc]
    unfold Addr.add
    by_cases h0 : j = 0 <;> simp [h0]
  · cases hp
theorem ints_drop {W : World} {g o : Nat} {l : List Nat} (h : Ints W (some ⟨g, o, none⟩) l) (k : Nat) : ∀ (j : Nat) (u : Value), (ints (l.drop k))[j]? = some u → W.cell? ((⟨g, o + k, none⟩ : Addr).add j) = some u := by
  intro j u hu
  simp only [ints, List.getElem?_map, Option.map_eq_some_iff, List.getElem?_drop] at hu
  obtain ⟨p, hp, rfl⟩ := hu
  obtain ⟨b, o', hA, _, hc⟩ := h (k + j) p hp
  simp only [Option.some.injEq, Addr.mk.injEq, and_true] at hA
  obtain ⟨rfl, rfl⟩ := hA
  rw [← hc]
  unfold Addr.add
  by_cases h0 : j = 0 <;> simp [h0, Nat.add_assoc]

theorem ints_drop_if {W : World} {g c2 : Nat} {l : List Nat} (h : Ints W (some ⟨g, 0, none⟩) l) (hc : l.length ≤ c2) (k : Nat) : ∀ (j : Nat) (u : Value), (ints (l.drop k))[j]? = some u → W.cell? ((if c2 = k then (⟨g, 0, none⟩ : Addr) else ⟨g, k, none⟩).add j) = some u := by
  split
  · rename_i e
    rw [List.drop_of_length_le (by omega)]
    intro j u hu
    simp [ints] at hu
  · have := ints_drop h k
    rw [Nat.zero_add] at this
    exact this

set_option maxHeartbeats 4000000 in
theorem rplaces_any (xs : List Bk) (A : Option Addr) (c : Nat) (hn : xs.length ≤ 1000) (w : World) (hxs : Bks w A xs) :
    Calls Try.prog 68 #[.slice A xs.length c] w (PlacesPost xs 0 xs.length w) := by
  obtain ⟨i0, hi0, hz0, hz1, hz2⟩ := info_parts info_int
  unfold PlacesPost
  have Hx := Lib.hid hxs
  clear hxs
  go_enter Try.func68, Try.ntmps68
  go_wp2
  go_loopw [3, 4] (fun v i wr => ∃ k : Nat, k ≤ xs.length ∧ i = .int .i64 k ∧ OwnInts wr w.heap.size v (srt (posr xs) 0 k) ∧ Below w.heap.size w wr) (fun _ i _ => xs.length - (intOf i).toNat)
  case atStart => exact ⟨0, Nat.zero_le _, rfl, OwnInts.nil _ _, Below.refl _ _⟩
  case round =>
    obtain ⟨i, hi, rfl, hown, hbw⟩ := hrel
    by_cases hlt : i < xs.length
    · obtain ⟨x, hx⟩ : ∃ b, xs[i]? = some b := ⟨_, List.getElem?_eq_getElem hlt⟩
      obtain ⟨b, o, za, zc, rfl, hb, x0, x1, x2, x3, x4, x5, x6, x7, x8, x9, x10, x11, hzs, hzc⟩ := bk_cells (Hx.out.below hbw) hx
      obtain ⟨A2, c2, rfl, hints, hAc⟩ := hown.form
      have hll : (srt (posr xs) 0 i).length = i := srt_length _ _
      have HL : Hid (∃ l, l = srt (posr xs) 0 i) := ⟨_, rfl⟩
      obtain ⟨l, hl⟩ := HL.out
      rw [← hl] at hown hints hll ⊢
      rw [hll]
      have HW := Lib.hid hown
      have HI := Lib.hid hints
      have HC := Lib.hid hAc
      have HX := Lib.hid hx
      have HLL := Lib.hid hl
      clear hown hints hAc hx hzs hzc HL hl
      have hsz := hbw.size
      go_wp2_with fail
      go_loopw [5] (fun kk wq => ∃ (k : Nat) (s : More), k ≤ i ∧ kk = .int .i64 k ∧ wq = ext wr s ∧ Hid (∀ j q, l[j]? = some q → k ≤ j → posr xs i q = true)) (fun kk _ => (intOf kk).toNat)
      case atStart => exact ⟨i, ⟨[], _⟩, Nat.le_refl _, rfl, ext_nil _, fun j q hq hj => absurd (List.getElem?_eq_some_iff.1 hq).1 (by omega)⟩
      case round =>
        obtain ⟨k, s, hk, rfl, rfl, hall⟩ := hrel
        by_cases hk0 : k = 0
        · have hg0 : decide (0 < k) = false := by simp [hk0]
          have HEX : Hid (k = 0 ∨ ∃ q, l[k - 1]? = some q ∧ posr xs i q = false) := .inl hk0
          clear hk0
          go_wp2
          refine wp_region_more (by kernel_rfl) (by kernel_rfl) ?_
          repeat (first | go_big_quiet_skip | quiet_step (fail))
          refine wpQuiet_nil ?_
          rintro _ ⟨s2, rfl⟩
          have He : ((ext wr (s.cat s2)).alloc (.cells #[] 3)).ownsRow wr.heap.size 3 1 (.slice (some ⟨wr.heap.size + (s.cat s2).n, 0, none⟩) 0 0) 0 [] := by
            have := World.ownsRow_lit (base := wr.heap.size) (e := 3) (size := 1) (ext wr (s.cat s2)) #[] 0 (by rw [size_ext]; omega) (by simp [maxLen]) rfl
            rw [size_ext] at this
            exact this
          have HE := Lib.hid He
          clear He hg0
          rcases HW.out.addr with ⟨rfl, hc0, hl0⟩ | ⟨g, rfl, hcl, hcm, hgw⟩
          · obtain rfl : l = [] := List.eq_nil_of_length_eq_zero hl0
            obtain rfl : i = 0 := by omega
            obtain rfl : k = 0 := by omega
            subst hc0
            go_wp2_with (first
              | (at_builtin; refine wpList_append_own_none rfl _ _ _ rfl wr.heap.size 3 i0 1 Try.underlying102 hi0 (.slice (some ⟨wr.heap.size + (s.cat s2).n, 0, none⟩) 0 0) 0 [] rfl HE.out rfl ?_)
              | (at_builtin; refine wpList_append_own _ rfl _ _ _ rfl wr.heap.size 3 i0 _ 1 8 Try.underlying102 hi0 hz0 hz1 hz2 rfl (by omega) (.slice (some ⟨wr.heap.size + (s.cat s2).n, 0, none⟩) 0 0) 0 [] rfl (HE.out.alloc _) ⟨wr.heap.size + (s.cat s2).n + 1, 0, none⟩ 1 1 [.int .i64 ((0 : Nat) : Int)] rfl rfl (cells_new _ (by simp [go_sem])) (int_one _) (by simp only [maxLen]; omega) (by omega) (by simp [go_sem]; omega) ?_; intro v4 w4 hown4 hg4 hnil4; clear hnil4; obtain ⟨A4, c4, rfl, hA4⟩ := own_form hown4; clear hA4; have HO4 := Lib.hid hown4; have hb4 := (Below.alloc (Below.alloc (below_ext (Below.refl wr.heap.size wr) (Nat.le_refl _) (s.cat s2)) (by rw [size_ext]; omega) _) (by simp [go_sem]; omega) _).grown hg4 (by simp [go_sem]; omega) (fun j hj => (HE.out.lt j hj).1); obtain ⟨s4, rfl⟩ := ext_of_below hb4; clear hown4 hg4 hb4)
              | (at_builtin; refine wpList_append_own_none rfl _ _ _ rfl wr.heap.size 3 i0 1 Try.underlying102 hi0 (.slice A4 (0 + 1) c4) (0 + 1) ([] ++ [.int .i64 ((0 : Nat) : Int)]) rfl HO4.out rfl ?_))
            go_roundw
            case rel => exact ⟨0 + 1, by omega, by go_num, own_mono HO4.out hsz, below_ext hbw hbw.size s4⟩
            case measure => simp [intOf]; omega
          · unfold maxLen at hcm
            rw [hll] at hcl
            go_wp2_with (first
              | (at_builtin; refine wpList_append_own _ rfl _ _ _ rfl wr.heap.size 3 i0 _ 1 8 Try.underlying102 hi0 hz0 hz1 hz2 rfl (by omega) (.slice (some ⟨wr.heap.size + (s.cat s2).n, 0, none⟩) 0 0) 0 [] rfl HE.out ⟨g, 0, none⟩ k c2 (ints (l.take k)) rfl (by rw [ints_len, List.length_take]; omega) (ints_take (HI.out.below (Below.alloc (below_ext (Below.refl _ _) (Nat.le_refl _) _) (by rw [size_ext]; omega) _)) k) (ints_one _) (by simp only [maxLen]; omega) (by omega) (by simp [go_sem]; omega) ?_; intro v3 w3 hown3 hg3 hnil3; clear hnil3; simp only [Nat.zero_add, List.nil_append] at hown3; obtain ⟨A3, c3, rfl, hA3⟩ := own_form hown3; clear hA3; have HO3 := Lib.hid hown3; have hb3 := (Below.alloc (below_ext (Below.refl wr.heap.size wr) (Nat.le_refl _) (s.cat s2)) (by rw [size_ext]; omega) _).grown hg3 (by simp [go_sem]; omega) (by intro j hj; simp [Value.ownBlock] at hj; omega); obtain ⟨s3, rfl⟩ := ext_of_below hb3; clear hown3 hg3 hb3)
              | (at_builtin; refine wpList_append_own _ rfl _ _ _ rfl wr.heap.size 3 i0 _ 1 8 Try.underlying102 hi0 hz0 hz1 hz2 rfl (by omega) (.slice A3 k c3) k (ints (l.take k)) rfl (HO3.out.alloc _) ⟨wr.heap.size + s3.n, 0, none⟩ 1 1 [.int .i64 (i : Int)] rfl rfl (cells_new _ (by simp [go_sem])) (int_one _) (by simp only [maxLen]; omega) (by omega) (by simp [go_sem]; omega) ?_; intro v4 w4 hown4 hg4 hnil4; clear hnil4; obtain ⟨A4, c4, rfl, hA4⟩ := own_form hown4; clear hA4; have HO4 := Lib.hid hown4; have hb4 := (Below.alloc (below_ext (Below.refl wr.heap.size wr) (Nat.le_refl _) s3) (by rw [size_ext]; omega) _).grown hg4 (by simp [go_sem]; omega) (fun j hj => (HO3.out.lt j hj).1); obtain ⟨s4, rfl⟩ := ext_of_below hb4; clear hown4 hg4 hb4)
              | (at_builtin; refine wpList_append_own _ rfl _ _ _ rfl wr.heap.size 3 i0 _ 1 8 Try.underlying102 hi0 hz0 hz1 hz2 rfl (by omega) (.slice A4 (k + 1) c4) (k + 1) (ints (l.take k) ++ [.int .i64 (i : Int)]) rfl HO4.out (if c2 = k then ⟨g, 0, none⟩ else ⟨g, k, none⟩) (i - k) (c2 - k) (ints (l.drop k)) (congrArg (fun A => Value.slice A (i - k) (c2 - k)) (apply_ite some (c2 = k) (⟨g, 0, none⟩ : Addr) ⟨g, k, none⟩).symm) (by rw [ints_len, List.length_drop]; omega) (ints_drop_if (HI.out.below (below_ext (Below.refl _ _) (Nat.le_refl _) _)) (by omega) k) (ints_one _) (by simp only [maxLen]; omega) (by omega) (by rw [size_ext]; omega) ?_; intro v5 w5 hown5 hg5 hnil5; clear hnil5; have HO5 := Lib.hid hown5; have hb5 := (below_ext (Below.refl wr.heap.size wr) (Nat.le_refl _) s4).grown hg5 (by rw [size_ext]; omega) (fun j hj => (HO4.out.lt j hj).1); obtain ⟨s5, rfl⟩ := ext_of_below hb5; clear hown5 hg5 hb5))
            all_goals
              go_roundw
              case rel =>
                refine ⟨i + 1, by omega, by go_num, ?_, below_ext hbw hbw.size s5⟩
                have hput := put_at (posr_weak xs) HLL.out (by omega) hall.out HEX.out
                have hlen : (l.take k ++ [i] ++ l.drop k).length = k + 1 + (i - k) := by simp; omega
                rw [← hput]
                unfold OwnInts
                rw [hlen, ints_append, ints_append]
                exact own_mono HO5.out hsz
              case measure => simp [intOf]; omega
        · obtain ⟨q, hq⟩ : ∃ q, l[k - 1]? = some q := ⟨_, List.getElem?_eq_getElem (by omega)⟩
          have hqm := srt_mem.1 (HLL.out ▸ List.mem_of_getElem? hq)
          obtain ⟨g, rfl, hcl, hcm, hgw⟩ := HW.out.addr.resolve_left (fun h => by have := h.2.2; omega)
          obtain ⟨g2, o2, hA, hg2, hc2⟩ := HI.out (k - 1) q hq
          simp only [Option.some.injEq, Addr.mk.injEq, and_true] at hA
          obtain ⟨rfl, rfl⟩ := hA
          rw [Nat.zero_add] at hc2
          obtain ⟨y, hy⟩ : ∃ b, xs[q]? = some b := ⟨_, List.getElem?_eq_getElem (by omega)⟩
          obtain ⟨b', o', za', zc', he, hb', y0, y1, y2, y3, y4, y5, y6, y7, y8, y9, y10, y11, hzs', hzc'⟩ := bk_cells (Hx.out.below hbw) hy
          simp only [Option.some.injEq, Addr.mk.injEq, and_true] at he
          obtain ⟨rfl, rfl⟩ := he
          have hpr : posr xs i q = x.before y := posr_at HX.out hy
          have HQ := Lib.hid hq
          have HY := Lib.hid hy
          have HPR := Lib.hid hpr
          clear hq hy hzs' hzc' hpr
          have hg0 : decide (0 < k) = true := by simp; omega
          have hkb : k - 1 < i := by omega
          have hkb2 : ((k - 1 : Nat) : Int) < (i : Int) := by omega
          have hqb : (q : Int) < (xs.length : Int) := by omega
          have hw : IntKind.i64.wrap ((k : Int) - 1) = ((k - 1 : Nat) : Int) := by
            rw [IntWalk.i64_in _ (by omega)]
            omega
          cases hbf : x.before y
          · go_wp2
            refine wp_region_more (by kernel_rfl) (by kernel_rfl) ?_
            repeat (first | go_big_quiet_skip | quiet_step (first
              | (go_at_call 81; first | with_reducible exact more_call (rbefore_any x y za za' zc zc' _) | exact more_call2 (rbefore_any x y za za' zc zc' _))))
            refine wpQuiet_nil ?_
            rintro _ ⟨s2, rfl⟩
            have HEX : Hid (k = 0 ∨ ∃ q, l[k - 1]? = some q ∧ posr xs i q = false) := .inr ⟨q, HQ.out, HPR.out.trans hbf⟩
            have He : ((ext wr (s.cat s2)).alloc (.cells #[] 3)).ownsRow wr.heap.size 3 1 (.slice (some ⟨wr.heap.size + (s.cat s2).n, 0, none⟩) 0 0) 0 [] := by
              have := World.ownsRow_lit (base := wr.heap.size) (e := 3) (size := 1) (ext wr (s.cat s2)) #[] 0 (by rw [size_ext]; omega) (by simp [maxLen]) rfl
              rw [size_ext] at this
              exact this
            have HE := Lib.hid He
            clear He hg0
            unfold maxLen at hcm
            rw [hll] at hcl
            go_wp2_with (first
              | (at_builtin; refine wpList_append_own _ rfl _ _ _ rfl wr.heap.size 3 i0 _ 1 8 Try.underlying102 hi0 hz0 hz1 hz2 rfl (by omega) (.slice (some ⟨wr.heap.size + (s.cat s2).n, 0, none⟩) 0 0) 0 [] rfl HE.out ⟨g, 0, none⟩ k c2 (ints (l.take k)) rfl (by rw [ints_len, List.length_take]; omega) (ints_take (HI.out.below (Below.alloc (below_ext (Below.refl _ _) (Nat.le_refl _) _) (by rw [size_ext]; omega) _)) k) (ints_one _) (by simp only [maxLen]; omega) (by omega) (by simp [go_sem]; omega) ?_; intro v3 w3 hown3 hg3 hnil3; clear hnil3; simp only [Nat.zero_add, List.nil_append] at hown3; obtain ⟨A3, c3, rfl, hA3⟩ := own_form hown3; clear hA3; have HO3 := Lib.hid hown3; have hb3 := (Below.alloc (below_ext (Below.refl wr.heap.size wr) (Nat.le_refl _) (s.cat s2)) (by rw [size_ext]; omega) _).grown hg3 (by simp [go_sem]; omega) (by intro j hj; simp [Value.ownBlock] at hj; omega); obtain ⟨s3, rfl⟩ := ext_of_below hb3; clear hown3 hg3 hb3)
              | (at_builtin; refine wpList_append_own _ rfl _ _ _ rfl wr.heap.size 3 i0 _ 1 8 Try.underlying102 hi0 hz0 hz1 hz2 rfl (by omega) (.slice A3 k c3) k (ints (l.take k)) rfl (HO3.out.alloc _) ⟨wr.heap.size + s3.n, 0, none⟩ 1 1 [.int .i64 (i : Int)] rfl rfl (cells_new _ (by simp [go_sem])) (int_one _) (by simp only [maxLen]; omega) (by omega) (by simp [go_sem]; omega) ?_; intro v4 w4 hown4 hg4 hnil4; clear hnil4; obtain ⟨A4, c4, rfl, hA4⟩ := own_form hown4; clear hA4; have HO4 := Lib.hid hown4; have hb4 := (Below.alloc (below_ext (Below.refl wr.heap.size wr) (Nat.le_refl _) s3) (by rw [size_ext]; omega) _).grown hg4 (by simp [go_sem]; omega) (fun j hj => (HO3.out.lt j hj).1); obtain ⟨s4, rfl⟩ := ext_of_below hb4; clear hown4 hg4 hb4)
              | (at_builtin; refine wpList_append_own _ rfl _ _ _ rfl wr.heap.size 3 i0 _ 1 8 Try.underlying102 hi0 hz0 hz1 hz2 rfl (by omega) (.slice A4 (k + 1) c4) (k + 1) (ints (l.take k) ++ [.int .i64 (i : Int)]) rfl HO4.out (if c2 = k then ⟨g, 0, none⟩ else ⟨g, k, none⟩) (i - k) (c2 - k) (ints (l.drop k)) (congrArg (fun A => Value.slice A (i - k) (c2 - k)) (apply_ite some (c2 = k) (⟨g, 0, none⟩ : Addr) ⟨g, k, none⟩).symm) (by rw [ints_len, List.length_drop]; omega) (ints_drop_if (HI.out.below (below_ext (Below.refl _ _) (Nat.le_refl _) _)) (by omega) k) (ints_one _) (by simp only [maxLen]; omega) (by omega) (by rw [size_ext]; omega) ?_; intro v5 w5 hown5 hg5 hnil5; clear hnil5; have HO5 := Lib.hid hown5; have hb5 := (below_ext (Below.refl wr.heap.size wr) (Nat.le_refl _) s4).grown hg5 (by rw [size_ext]; omega) (fun j hj => (HO4.out.lt j hj).1); obtain ⟨s5, rfl⟩ := ext_of_below hb5; clear hown5 hg5 hb5))
            all_goals
              go_roundw
              case rel =>
                refine ⟨i + 1, by omega, by go_num, ?_, below_ext hbw hbw.size s5⟩
                have hput := put_at (posr_weak xs) HLL.out (by omega) hall.out HEX.out
                have hlen : (l.take k ++ [i] ++ l.drop k).length = k + 1 + (i - k) := by simp; omega
                rw [← hput]
                unfold OwnInts
                rw [hlen, ints_append, ints_append]
                exact own_mono HO5.out hsz
              case measure => simp [intOf]; omega
          · go_wp2
            refine wp_region_more (by kernel_rfl) (by kernel_rfl) ?_
            repeat (first | go_big_quiet_skip | quiet_step (first
              | (go_at_call 81; first | with_reducible exact more_call (rbefore_any x y za za' zc zc' _) | exact more_call2 (rbefore_any x y za za' zc zc' _))))
            refine wpQuiet_nil ?_
            rintro _ ⟨s2, rfl⟩
            go_wp2
            go_roundw
            case rel =>
              refine ⟨k - 1, s.cat s2, by omega, by go_num, rfl, fun j q' hq' hj => ?_⟩
              rcases Nat.lt_or_ge j k with hjk | hjk
              · have hje : j = k - 1 := by omega
                subst hje
                rw [HQ.out] at hq'
                cases hq'
                exact HPR.out.trans hbf
              · exact hall.out j q' hq' hjk
            case measure => simp [intOf]; omega
    · have hik : i = xs.length := by omega
      subst hik
      go_wp2
      go_ret
      exact ⟨_, rfl, hown, hbw⟩
end Go.Proofs.Ythkollhebabhbaa

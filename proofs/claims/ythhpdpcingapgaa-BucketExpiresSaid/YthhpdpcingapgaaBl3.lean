/-
  The walk of BucketOrders.
-/
import Derived.Test.YthhpdpcingapgaaBw12
import Derived.Test.YthhpdpcingapgaaBw13
import Derived.Test.YthhpdpcingapgaaBw15
import Derived.Test.YthhpdpcingapgaaOpenL
namespace Go.Proofs.Ythhpdpcingapgaa
open Go.RowKit
set_option linter.unusedSimpArgs false

theorem few_yes {xs : List Bk} (h : fewB xs = true) : xs.length ≤ 12 ∧ ∀ x ∈ xs, x.zones.length ≤ 6 := by
  simp only [fewB, Bool.and_eq_true, decide_eq_true_eq, List.all_eq_true] at h
  exact h
theorem ord_len (xs : List Bk) : (ord xs).length = xs.length := by simp [ord, srt_length]
theorem ord_mem {xs : List Bk} {x : Bk} (h : x ∈ ord xs) : x ∈ xs := by
  obtain ⟨p, hp, rfl⟩ := List.mem_map.1 h
  have hl : p < xs.length := by
    have := srt_mem.1 hp
    omega
  simp [List.getD, List.getElem?_eq_getElem hl]
theorem ord_sorted {xs : List Bk} {i : Nat} {x y : Bk} (hx : (ord xs)[i]? = some x) (hy : (ord xs)[i + 1]? = some y) : y.before x = false := by
  unfold ord at hx hy
  rw [List.getElem?_map] at hx hy
  obtain ⟨p, hp, rfl⟩ := Option.map_eq_some_iff.1 hx
  obtain ⟨q, hq, rfl⟩ := Option.map_eq_some_iff.1 hy
  obtain ⟨e1, e2⟩ := List.getElem?_eq_some_iff.1 hp
  obtain ⟨e3, e4⟩ := List.getElem?_eq_some_iff.1 hq
  have h1 := List.pairwise_iff_getElem.1 (srt_sorted (posr_weak xs) 0 xs.length) i (i + 1) e1 e3 (by omega)
  rw [e2, e4] at h1
  show posr xs q p = false
  rcases h1 with h1 | h1
  · exact (posr_weak xs).asymm h1
  · exact h1.1

set_option maxHeartbeats 4000000 in
theorem walk_bucketOrders (A : Option Addr) (n c : Nat) (w : World) (h : InBks w A n) :
    Calls Try.prog 7 #[.slice A n c] w fun e w' => e = .returned (.bool true) ∧ Below w.heap.size w w' := by
  obtain ⟨xs, rfl, hn, hxs, hF⟩ := h
  have hz : ∀ x ∈ xs, x.zones.length ≤ maxLen := fun x hx => (hF x hx).zones
  have Hx := Lib.hid hxs
  have HZ := Lib.hid hz
  have HN := Lib.hid hn
  clear hxs hF hz hn
  cases hf : fewB xs
  · go_enter Try.func7, Try.ntmps7
    go_wp2_with (first
      | (go_at_call 16; with_reducible refine (few_any xs A c _ HN.out HZ.out Hx.out).mono ?_; rw [hf]; rintro e w1 ⟨rfl, hb⟩; obtain ⟨s, rfl⟩ := ext_of_below hb; clear hb)
      | (go_at_call 13; with_reducible refine (alive_any _).mono ?_; rintro e w1 ⟨rfl, hb⟩; obtain ⟨s, rfl⟩ := ext_of_below hb; clear hb))
    go_ret
    refine ⟨rfl, ?_⟩
    repeat' (first | exact Below.refl _ _ | refine below_ext ?_ ?_ _ | refine Below.alloc ?_ ?_ _ | refine Below.setCell ?_ ?_ _ | refine Below.drew ?_ | (rw [size_ext]; refine Nat.le_add_right_of_le ?_) | go_size | (rw [World.size_alloc]; refine Nat.le_add_right_of_le ?_))
  · obtain ⟨h12, h6⟩ := few_yes hf
    have h6' : ∀ x ∈ xs, x.zones.length ≤ 100 := fun x hx => Nat.le_trans (h6 x hx) (by omega)
    have h7' : ∀ x ∈ ord xs, x.zones.length ≤ 1000 := fun x hx => Nat.le_trans (h6 x (ord_mem hx)) (by omega)
    have H6 := Lib.hid h6'
    have H7 := Lib.hid h7'
    have HL := ord_len xs
    have HS := Lib.hid (fun (i : Nat) (x y : Bk) (hx : (ord xs)[i]? = some x) (hy : (ord xs)[i + 1]? = some y) => ord_sorted hx hy)
    have ho12 : (ord xs).length ≤ 12 := by rw [HL]; exact h12
    clear h6 h6' h7' HL
    go_enter Try.func7, Try.ntmps7
    go_wp2_with (first
      | (go_at_call 16; with_reducible refine (few_any xs A c _ HN.out HZ.out Hx.out).mono ?_; rw [hf]; rintro e w1 ⟨rfl, hb⟩; obtain ⟨s, rfl⟩ := ext_of_below hb; clear hb)
      | (go_at_call 21; refine (order_any xs A c _ (by omega) H6.out (Hx.out.below (below_ext (Below.refl _ _) (Nat.le_refl _) _))).mono ?_; rintro e w1 ⟨v1, rfl, own1, hb1⟩; obtain ⟨A1, c1, rfl, hbs1, _⟩ := own1.form; have HB1 := Lib.hid hbs1; have HBW := Lib.hid ((below_ext (Below.refl _ _) (Nat.le_refl _) s).trans (hb1.mono (by rw [size_ext]; omega))); clear hbs1 own1 hb1))
    generalize hos : ord xs = os at *
    have Hos := Lib.hid hos
    clear hos
    have hsw := HBW.out.size
    go_loopw [4] (fun i wr => ∃ (k : Nat) (s : More), 1 ≤ k ∧ k ≤ 1000 ∧ i = .int .i64 k ∧ wr = ext w1 s) (fun i _ => 1000 - (intOf i).toNat)
    case atStart => exact ⟨1, _, Nat.le_refl _, by omega, rfl, ext_nil _⟩
    case round =>
      obtain ⟨k, s, hk1, hk, rfl, rfl⟩ := hrel
      by_cases hlt : k < os.length
      · obtain ⟨y, hy⟩ : ∃ b, os[k]? = some b := ⟨_, List.getElem?_eq_getElem hlt⟩
        obtain ⟨x, hx⟩ : ∃ b, os[k - 1]? = some b := ⟨_, List.getElem?_eq_getElem (by omega)⟩
        have hle := HS.out (k - 1) x y hx (by rw [Nat.sub_add_cancel hk1]; exact hy)
        obtain ⟨b, o, za, zc, rfl, hb, x0, x1, x2, x3, x4, x5, x6, x7, x8, x9, x10, x11, hzs, hzc⟩ := bk_cells HB1.out hx
        obtain ⟨b', o', za', zc', hA, hb', y0, y1, y2, y3, y4, y5, y6, y7, y8, y9, y10, y11, hzs', hzc'⟩ := bk_cells HB1.out hy
        simp only [Option.some.injEq, Addr.mk.injEq, and_true] at hA
        obtain ⟨rfl, rfl⟩ := hA
        clear hx hy hzs hzs' hzc hzc'
        have hkb : k - 1 < os.length := by omega
        have hkb1 : (k : Int) < (os.length : Int) := by omega
        have hkb2 : ((k - 1 : Nat) : Int) < (os.length : Int) := by omega
        have hw : IntKind.i64.wrap ((k : Int) - 1) = ((k - 1 : Nat) : Int) := by
          rw [IntWalk.i64_in _ (by omega)]
          omega
        go_wp2_with fail
        refine wp_region_more (by kernel_rfl) (by kernel_rfl) ?_
        repeat (first | go_big_quiet_skip | quiet_step (first
          | (go_at_call 22; first | with_reducible exact more_call (rbefore_any y x za' za zc' zc _) | exact more_call2 (rbefore_any y x za' za zc' zc _))))
        refine wpQuiet_nil ?_
        rintro _ ⟨s2, rfl⟩
        rw [hle]
        go_wp2_with fail
        go_roundw
        case rel => exact ⟨k + 1, _, by omega, by omega, by go_num, rfl⟩
        case measure => simp [intOf]; omega
      · go_wp2_with (first
          | (go_at_call 23; refine (rorder_any xs A c _ (by omega) H6.out ((Hx.out.below HBW.out).below (below_ext (Below.refl _ _) (Nat.le_refl _) _))).mono ?_; rintro e w2 ⟨v2, rfl, own2, hb2⟩; rw [Hos.out] at own2; obtain ⟨A2, c2, rfl, hbs2, _⟩ := own2.form; obtain ⟨s2, rfl⟩ := ext_of_below hb2; rw [ext_ext] at hbs2; have HB2 := Lib.hid hbs2; clear hbs2 own2 hb2)
          | (go_at_call 19; refine (samebks_any os A1 A2 c1 c2 _ (by omega) H7.out (HB1.out.below (below_ext (Below.refl _ _) (Nat.le_refl _) _)) HB2.out).mono ?_; rintro e w1 ⟨rfl, hb⟩; obtain ⟨s, rfl⟩ := ext_of_below hb; clear hb)
          | (go_at_call 13; with_reducible refine (alive_any _).mono ?_; rintro e w1 ⟨rfl, hb⟩; obtain ⟨s, rfl⟩ := ext_of_below hb; clear hb))
        go_ret
        exact ⟨rfl, below_ext HBW.out hsw _⟩
end Go.Proofs.Ythhpdpcingapgaa

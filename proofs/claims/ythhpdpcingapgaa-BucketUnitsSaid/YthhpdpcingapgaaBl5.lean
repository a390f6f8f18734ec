/-
  The walk of BucketGives.
-/
import Derived.Test.YthhpdpcingapgaaBl3
import Derived.Test.YthhpdpcingapgaaBw19
namespace Go.Proofs.Ythhpdpcingapgaa
open Go.RowKit
set_option linter.unusedSimpArgs false

/-- What is given back lies among the buckets, whatever is left of them. -/
theorem give_mem : ∀ (ts : List Tk) (xs : List Bk) (y : Bk), y ∈ (give ts xs).1 → ∃ x ∈ xs, ∃ l, y = x.withLeft l
  | [], xs, y, h => ⟨y, h, y.left, rfl⟩
  | t :: ts, xs, y, h => by
    rw [give] at h
    split at h
    · cases h
    · split at h
      · cases h
      · split at h
        · rename_i k hk _
          obtain ⟨x, hx, l, rfl⟩ := give_mem ts _ y h
          rcases List.mem_or_eq_of_mem_set hx with hx | rfl
          · exact ⟨x, hx, l, rfl⟩
          · obtain ⟨b, hb, _⟩ := fnd_some hk
            rw [getD_at hb]
            exact ⟨b, List.mem_of_getElem? hb, l, rfl⟩
        · cases h
theorem give_len : ∀ (ts : List Tk) (xs : List Bk), (give ts xs).1.length ≤ xs.length
  | [], xs => Nat.le_refl _
  | t :: ts, xs => by
    rw [give]
    split
    · simp
    · split
      · simp
      · split
        · refine Nat.le_trans (give_len ts _) ?_
          rw [List.length_set]
          exact Nat.le_refl _
        · simp

set_option maxHeartbeats 4000000 in
theorem walk_bucketGives (A : Option Addr) (m c : Nat) (A' : Option Addr) (m' c' : Nat) (w : World) (h : InBks w A m) (h' : InTks w A' m') :
    Calls Try.prog 9 #[.slice A m c, .slice A' m' c'] w fun e w' => e = .returned (.bool true) ∧ Below w.heap.size w w' := by
  obtain ⟨xs, rfl, hn, hxs, hF⟩ := h
  obtain ⟨ts, rfl, hn', hts, hFt⟩ := h'
  have hz : ∀ x ∈ xs, x.zones.length ≤ maxLen := fun x hx => (hF x hx).zones
  have hfx : ∀ x ∈ xs, fits x.left ∧ fits x.units := fun x hx => ⟨(hF x hx).left, (hF x hx).units⟩
  have Hx := Lib.hid hxs
  have HT := Lib.hid hts
  have HZ := Lib.hid hz
  have HN := Lib.hid hn
  have HFX := Lib.hid hfx
  have HFT := Lib.hid hFt
  unfold maxLen at hn'
  clear hxs hF hz hn hts hFt hfx
  cases hf : fewB xs
  · go_enter Try.func9, Try.ntmps9
    go_wp2_with (first
      | (go_at_call 16; with_reducible refine (few_any xs A c _ HN.out HZ.out Hx.out).mono ?_; rw [hf]; rintro e w1 ⟨rfl, hb⟩; obtain ⟨s, rfl⟩ := ext_of_below hb; clear hb)
      | (go_at_call 13; with_reducible refine (alive_any _).mono ?_; rintro e w1 ⟨rfl, hb⟩; obtain ⟨s, rfl⟩ := ext_of_below hb; clear hb))
    go_ret
    refine ⟨rfl, ?_⟩
    repeat' (first | exact Below.refl _ _ | refine below_ext ?_ ?_ _ | refine Below.alloc ?_ ?_ _ | refine Below.setCell ?_ ?_ _ | refine Below.drew ?_ | (rw [size_ext]; refine Nat.le_add_right_of_le ?_) | go_size | (rw [World.size_alloc]; refine Nat.le_add_right_of_le ?_))
  · by_cases ht12 : ts.length ≤ 12
    · obtain ⟨h12, h6⟩ := few_yes hf
      have h6' : ∀ x ∈ xs, x.zones.length ≤ 100 := fun x hx => Nat.le_trans (h6 x hx) (by omega)
      have h7' : ∀ x ∈ (give ts xs).1, x.zones.length ≤ 1000 := fun x hx => by
        obtain ⟨y, hy, l, rfl⟩ := give_mem ts xs x hx
        exact Nat.le_trans (h6 y hy) (by omega)
      have hl1 : (give ts xs).1.length ≤ 12 := Nat.le_trans (give_len ts xs) h12
      have H6 := Lib.hid h6'
      have H7 := Lib.hid h7'
      clear h6 h6' h7'
      go_enter Try.func9, Try.ntmps9
      go_wp2_with (first
        | (go_at_call 16; with_reducible refine (few_any xs A c _ HN.out HZ.out Hx.out).mono ?_; rw [hf]; rintro e w1 ⟨rfl, hb⟩; obtain ⟨s, rfl⟩ := ext_of_below hb; clear hb)
        | (go_at_call 26; refine (give_any ts xs A A' c c' _ (by omega) (by omega) H6.out (Hx.out.ext _) (HT.out.ext _) HFX.out HFT.out).mono ?_; rintro e w1 ⟨v1, rfl, own1, hb1⟩; obtain ⟨A1, c1, rfl, hbs1, _⟩ := own1.form; obtain ⟨s1, rfl⟩ := ext_of_below hb1; rw [ext_ext] at hbs1; have HB1 := Lib.hid hbs1; clear hbs1 own1 hb1)
        | (go_at_call 27; refine (rgive_any ts xs A A' c c' _ (by omega) (by omega) H6.out (Hx.out.ext _) (HT.out.ext _) HFX.out HFT.out).mono ?_; rintro e w2 ⟨v2, rfl, own2, hb2⟩; obtain ⟨A2, c2, rfl, hbs2, _⟩ := own2.form; obtain ⟨s2, rfl⟩ := ext_of_below hb2; rw [ext_ext] at hbs2; have HB2 := Lib.hid hbs2; clear hbs2 own2 hb2)
        | (go_at_call 19; refine (samebks_any _ A1 A2 c1 c2 _ (by omega) H7.out (HB1.out.cat _) HB2.out).mono ?_; rintro e w1 ⟨rfl, hb⟩; obtain ⟨s, rfl⟩ := ext_of_below hb; clear hb)
        | (go_at_call 13; with_reducible refine (alive_any _).mono ?_; rintro e w1 ⟨rfl, hb⟩; obtain ⟨s, rfl⟩ := ext_of_below hb; clear hb))
      go_ret
      refine ⟨rfl, ?_⟩
      repeat' (first | exact Below.refl _ _ | refine below_ext ?_ ?_ _ | refine Below.alloc ?_ ?_ _ | refine Below.setCell ?_ ?_ _ | refine Below.drew ?_ | (rw [size_ext]; refine Nat.le_add_right_of_le ?_) | go_size | (rw [World.size_alloc]; refine Nat.le_add_right_of_le ?_))
    · go_enter Try.func9, Try.ntmps9
      go_wp2_with (first
        | (go_at_call 16; with_reducible refine (few_any xs A c _ HN.out HZ.out Hx.out).mono ?_; rw [hf]; rintro e w1 ⟨rfl, hb⟩; obtain ⟨s, rfl⟩ := ext_of_below hb; clear hb)
        | (go_at_call 13; with_reducible refine (alive_any _).mono ?_; rintro e w1 ⟨rfl, hb⟩; obtain ⟨s, rfl⟩ := ext_of_below hb; clear hb))
      go_ret
      refine ⟨rfl, ?_⟩
      repeat' (first | exact Below.refl _ _ | refine below_ext ?_ ?_ _ | refine Below.alloc ?_ ?_ _ | refine Below.setCell ?_ ?_ _ | refine Below.drew ?_ | (rw [size_ext]; refine Nat.le_add_right_of_le ?_) | go_size | (rw [World.size_alloc]; refine Nat.le_add_right_of_le ?_))
end Go.Proofs.Ythhpdpcingapgaa

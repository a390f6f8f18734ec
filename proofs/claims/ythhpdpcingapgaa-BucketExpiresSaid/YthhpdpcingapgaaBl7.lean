/-
  The walk of BucketExpires.
-/
import Derived.Test.YthhpdpcingapgaaBl3
import Derived.Test.YthhpdpcingapgaaBw21
namespace Go.Proofs.Ythhpdpcingapgaa
open Go.RowKit
set_option linter.unusedSimpArgs false

theorem filter_both (p : Bk → Bool) : ∀ xs : List Bk, (xs.filter p).length + (xs.filter fun x => !p x).length = xs.length
  | [] => rfl
  | x :: xs => by
    have := filter_both p xs
    simp only [List.filter_cons]
    cases p x <;> simp <;> omega

set_option maxHeartbeats 4000000 in
theorem walk_bucketExpires (A : Option Addr) (n c : Nat) (t : Int) (w : World) (h : InBks w A n) :
    Calls Try.prog 8 #[.slice A n c, .int .i64 t] w fun e w' => e = .returned (.bool true) ∧ Below w.heap.size w w' := by
  obtain ⟨xs, rfl, hn, hxs, hF⟩ := h
  have hz : ∀ x ∈ xs, x.zones.length ≤ maxLen := fun x hx => (hF x hx).zones
  have Hx := Lib.hid hxs
  have HZ := Lib.hid hz
  have HN := Lib.hid hn
  clear hxs hF hz hn
  cases hf : fewB xs
  · go_enter Try.func8, Try.ntmps8
    go_wp2_with (first
      | (go_at_call 16; with_reducible refine (few_any xs A c _ HN.out HZ.out Hx.out).mono ?_; rw [hf]; rintro e w1 ⟨rfl, hb⟩; obtain ⟨s, rfl⟩ := ext_of_below hb; clear hb)
      | (go_at_call 13; with_reducible refine (alive_any _).mono ?_; rintro e w1 ⟨rfl, hb⟩; obtain ⟨s, rfl⟩ := ext_of_below hb; clear hb))
    go_ret
    refine ⟨rfl, ?_⟩
    repeat' (first | exact Below.refl _ _ | refine below_ext ?_ ?_ _ | refine Below.alloc ?_ ?_ _ | refine Below.setCell ?_ ?_ _ | refine Below.drew ?_ | (rw [size_ext]; refine Nat.le_add_right_of_le ?_) | go_size | (rw [World.size_alloc]; refine Nat.le_add_right_of_le ?_))
  · obtain ⟨h12, h6⟩ := few_yes hf
    have h6' : ∀ x ∈ xs, x.zones.length ≤ 100 := fun x hx => Nat.le_trans (h6 x hx) (by omega)
    have hm1 : ∀ x ∈ xs.filter (Live t), x.zones.length ≤ 1000 := fun x hx => Nat.le_trans (h6 x (List.mem_filter.1 hx).1) (by omega)
    have hm2 : ∀ x ∈ xs.filter (fun x => !Live t x), x.zones.length ≤ 1000 := fun x hx => Nat.le_trans (h6 x (List.mem_filter.1 hx).1) (by omega)
    have hsum := filter_both (Live t) xs
    have H6 := Lib.hid h6'
    have HM1 := Lib.hid hm1
    have HM2 := Lib.hid hm2
    clear h6 h6' hm1 hm2
    have C1 := fun W hW => expire_any xs A c t W (by omega) H6.out hW
    have C2 := fun W hW => rexpire_any xs A c t W (by omega) H6.out hW
    unfold ExpPost at C1 C2
    generalize xs.filter (Live t) = f1 at *
    generalize xs.filter (fun x => !Live t x) = f2 at *
    have HC1 := Lib.hid C1
    have HC2 := Lib.hid C2
    have l1 : f1.length ≤ 12 := by omega
    have l2 : f2.length ≤ 12 := by omega
    have g1 : ((f1.length : Int) + (f2.length : Int) == (xs.length : Int)) = true := beq_iff_eq.2 (by omega)
    have g2 : (f1.length + f2.length == xs.length) = true := beq_iff_eq.2 hsum
    clear C1 C2 hsum
    go_enter Try.func8, Try.ntmps8
    go_wp2_with (first
      | (go_at_call 16; with_reducible refine (few_any xs A c _ HN.out HZ.out Hx.out).mono ?_; rw [hf]; rintro e w1 ⟨rfl, hb⟩; obtain ⟨s, rfl⟩ := ext_of_below hb; clear hb)
      | (go_at_call 24; (refine (HC1.out _ (Hx.out.ext _)).mono ?_); rintro e w1 ⟨v1, v2, rfl, o1, o2, hb1⟩; obtain ⟨A1, c1, rfl, b1, _⟩ := o1.form; obtain ⟨A2, c2, rfl, b2, _⟩ := o2.form; obtain ⟨s1, rfl⟩ := ext_of_below hb1; rw [ext_ext] at b1 b2; have HB1 := Lib.hid b1; have HB2 := Lib.hid b2; clear o1 o2 b1 b2 hb1)
      | (go_at_call 25; (refine (HC2.out _ (Hx.out.ext _)).mono ?_); rintro e w2 ⟨v3, v4, rfl, o3, o4, hb2⟩; obtain ⟨A3, c3, rfl, b3, _⟩ := o3.form; obtain ⟨A4, c4, rfl, b4, _⟩ := o4.form; obtain ⟨s2, rfl⟩ := ext_of_below hb2; rw [ext_ext] at b3 b4; have HB3 := Lib.hid b3; have HB4 := Lib.hid b4; clear o3 o4 b3 b4 hb2)
      | (go_at_call 19; (with_reducible refine (samebks_any f1 A1 A3 c1 c3 _ (by omega) HM1.out (HB1.out.cat _) HB3.out).mono ?_); rintro e w1 ⟨rfl, hb⟩; obtain ⟨s, rfl⟩ := ext_of_below hb; clear hb)
      | (go_at_call 19; (with_reducible refine (samebks_any f2 A2 A4 c2 c4 _ (by omega) HM2.out ((HB2.out.cat _).cat _) (HB4.out.cat _)).mono ?_); rintro e w1 ⟨rfl, hb⟩; obtain ⟨s, rfl⟩ := ext_of_below hb; clear hb)
      | (go_at_call 13; with_reducible refine (alive_any _).mono ?_; rintro e w1 ⟨rfl, hb⟩; obtain ⟨s, rfl⟩ := ext_of_below hb; clear hb))
    go_ret
    refine ⟨rfl, ?_⟩
    repeat' (first | exact Below.refl _ _ | refine below_ext ?_ ?_ _ | refine Below.alloc ?_ ?_ _ | refine Below.setCell ?_ ?_ _ | refine Below.drew ?_ | (rw [size_ext]; refine Nat.le_add_right_of_le ?_) | go_size | (rw [World.size_alloc]; refine Nat.le_add_right_of_le ?_))
end Go.Proofs.Ythhpdpcingapgaa

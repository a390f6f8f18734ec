/-
  The walks of BucketTakes and BucketTwice.
-/
import Derived.Test.YthhpdpcingapgaaBl3
import Derived.Test.YthhpdpcingapgaaBw16
import Derived.Test.YthhpdpcingapgaaBq
import Derived.Test.YthhpdpcingapgaaBx
namespace Go.Proofs.Ythhpdpcingapgaa
open Go.RowKit
set_option linter.unusedSimpArgs false

theorem take_max (xs : List Bk) (use : Bk → Bool) (n : Int) : take xs use n = take xs use (max n 0) := by
  unfold take
  rw [show max (max n 0) 0 = max n 0 by omega]
theorem take_mem {xs : List Bk} {use : Bk → Bool} (hu : UseOk use) {n : Int} {y : Bk} (h : y ∈ (take xs use n).1) : ∃ x ∈ xs, ∃ l, l ≤ x.left ∧ y = x.withLeft l := by
  rw [take_max] at h
  obtain ⟨q, hq⟩ := List.mem_iff_getElem?.1 h
  rw [take_out hu (by omega)] at hq
  obtain ⟨x, hx, rfl⟩ := Option.map_eq_some_iff.1 hq
  have := am_le (eff_nonneg hu xs) (srt (posr xs) 0 xs.length) (max n 0) q (by omega)
  refine ⟨x, List.mem_of_getElem? hx, _, ?_, rfl⟩
  unfold amt
  omega
theorem take_tlen (xs : List Bk) (use : Bk → Bool) (n : Int) : (take xs use n).2.1.length ≤ xs.length := by
  rw [take_max, take_tks xs use (by omega)]
  have := tks_len (xs := xs) (use := use) (srt (posr xs) 0 xs.length) (max n 0)
  rw [srt_length] at this
  exact this

set_option maxHeartbeats 4000000 in
theorem walk_bucketTakes (A : Option Addr) (m c : Nat) (account sub kind : Int) (zone : ByteArray) (family : Bool) (t n : Int) (w : World) (h : InBks w A m) (hfn : fits n) :
    Calls Try.prog 5 #[.slice A m c, .agg #[.int .i64 account, .int .i64 sub, .int .i64 kind, .string zone, .bool family, .int .i64 t, .int .i64 n]] w fun e w' => e = .returned (.bool true) ∧ Below w.heap.size w w' := by
  obtain ⟨xs, rfl, hn, hxs, hF⟩ := h
  have hz : ∀ x ∈ xs, x.zones.length ≤ maxLen := fun x hx => (hF x hx).zones
  have hl : ∀ x ∈ xs, x.left ≤ 9223372036854775807 := fun x hx => (hF x hx).left.2
  have hnn := hfn.2
  have Hx := Lib.hid hxs
  have HZ := Lib.hid hz
  have HN := Lib.hid hn
  have HLf := Lib.hid hl
  have HNN := Lib.hid hnn
  clear hxs hF hz hn hl hfn hnn
  cases hf : fewB xs
  · go_enter Try.func5, Try.ntmps5
    go_wp2_with (first
      | (go_at_call 16; with_reducible refine (few_any xs A c _ HN.out HZ.out (Hx.out.below ((Below.refl _ _).alloc (Nat.le_refl _) _))).mono ?_; rw [hf]; rintro e w1 ⟨rfl, hb⟩; obtain ⟨s, rfl⟩ := ext_of_below hb; clear hb)
      | (go_at_call 13; with_reducible refine (alive_any _).mono ?_; rintro e w1 ⟨rfl, hb⟩; obtain ⟨s, rfl⟩ := ext_of_below hb; clear hb))
    go_ret
    refine ⟨rfl, ?_⟩
    repeat' (first | exact Below.refl _ _ | refine below_ext ?_ ?_ _ | refine Below.alloc ?_ ?_ _ | refine Below.setCell ?_ ?_ _ | refine Below.drew ?_ | (rw [size_ext]; refine Nat.le_add_right_of_le ?_) | go_size | (rw [World.size_alloc]; refine Nat.le_add_right_of_le ?_))
  · obtain ⟨h12, h6⟩ := few_yes hf
    have hu := usable_ok account sub kind zone family t
    have h6' : ∀ x ∈ xs, x.zones.length ≤ 100 := fun x hx => Nat.le_trans (h6 x hx) (by omega)
    have h7' : ∀ x ∈ (take xs (fun x => x.usable account sub kind zone family t) n).1, x.zones.length ≤ 1000 := fun x hx => by
      obtain ⟨y, hy, l, _, rfl⟩ := take_mem hu hx
      exact Nat.le_trans (h6 y hy) (by omega)
    have hl1 : (take xs (fun x => x.usable account sub kind zone family t) n).1.length ≤ 12 := by rw [take_len]; exact h12
    have hl2 : (take xs (fun x => x.usable account sub kind zone family t) n).2.1.length ≤ 12 := Nat.le_trans (take_tlen _ _ _) h12
    have H6 := Lib.hid h6'
    have H7 := Lib.hid h7'
    clear h6 h6' h7' hu
    have hx1 : ∀ o, Bks (w.alloc o) A xs := fun o => Hx.out.below ((Below.refl _ _).alloc (Nat.le_refl _) o)
    have HX1 := Lib.hid hx1
    clear hx1
    go_enter Try.func5, Try.ntmps5
    go_wp2_with (first
      | (go_at_call 16; with_reducible refine (few_any xs A c _ HN.out HZ.out (HX1.out _)).mono ?_; rw [hf]; rintro e w1 ⟨rfl, hb⟩; obtain ⟨s, rfl⟩ := ext_of_below hb; clear hb)
      | (go_at_call 17; refine (take_any xs A c account sub kind zone family t n _ (by omega) H6.out ((HX1.out _).below (below_ext (Below.refl _ _) (Nat.le_refl _) _)) HNN.out HLf.out).mono ?_; rintro e w1 ⟨v1, v2, rfl, own1, tk1, hb1⟩; obtain ⟨A1, c1, rfl, hbs1, _⟩ := own1.form; obtain ⟨A2, c2, rfl, hts1⟩ := tk1.form; obtain ⟨s1, rfl⟩ := ext_of_below hb1; rw [ext_ext] at hbs1 hts1; have HB1 := Lib.hid hbs1; have HT1 := Lib.hid hts1; clear hbs1 own1 hts1 tk1 hb1)
      | (go_at_call 18; refine (rtake_any xs A c account sub kind zone family t n _ (by omega) H6.out ((HX1.out _).below (below_ext (Below.refl _ _) (Nat.le_refl _) _)) HNN.out HLf.out).mono ?_; rintro e w2 ⟨v3, v4, rfl, own3, tk3, hb3⟩; obtain ⟨A3, c3, rfl, hbs3, _⟩ := own3.form; obtain ⟨A4, c4, rfl, hts3⟩ := tk3.form; obtain ⟨s3, rfl⟩ := ext_of_below hb3; rw [ext_ext] at hbs3 hts3; have HB3 := Lib.hid hbs3; have HT3 := Lib.hid hts3; clear hbs3 own3 hts3 tk3 hb3)
      | (go_at_call 19; refine (samebks_any _ A1 A3 c1 c3 _ (by omega) H7.out (HB1.out.cat _) HB3.out).mono ?_; rintro e w1 ⟨rfl, hb⟩; obtain ⟨s, rfl⟩ := ext_of_below hb; clear hb)
      | (go_at_call 20; refine (same_any _ A2 A4 c2 c4 _ (by omega) ((HT1.out.cat _).cat _) (HT3.out.cat _)).mono ?_; rintro e w1 ⟨rfl, hb⟩; obtain ⟨s, rfl⟩ := ext_of_below hb; clear hb)
      | (go_at_call 13; with_reducible refine (alive_any _).mono ?_; rintro e w1 ⟨rfl, hb⟩; obtain ⟨s, rfl⟩ := ext_of_below hb; clear hb))
    go_ret
    refine ⟨rfl, ?_⟩
    repeat' (first | exact Below.refl _ _ | refine below_ext ?_ ?_ _ | refine Below.alloc ?_ ?_ _ | refine Below.setCell ?_ ?_ _ | refine Below.drew ?_ | (rw [size_ext]; refine Nat.le_add_right_of_le ?_) | go_size | (rw [World.size_alloc]; refine Nat.le_add_right_of_le ?_))

def TakeR (r : List Bk × List Tk × Int) (w : World) (e : Ending) (w' : World) : Prop := ∃ v1 v2, e = .returned (.tuple #[v1, v2, .int .i64 r.2.2]) ∧ OwnBks w' w.heap.size v1 r.1 ∧ OwnTks w' w.heap.size v2 r.2.1 ∧ Below w.heap.size w w'

set_option maxHeartbeats 4000000 in
theorem twice_no (A : Option Addr) (c : Nat) (xs : List Bk) (account sub kind : Int) (zone : ByteArray) (family : Bool) (t n m : Int) (w : World) (hx : Bks w A xs) (hn : xs.length ≤ maxLen) (hz : ∀ x ∈ xs, x.zones.length ≤ maxLen)
    (hbad : fewB xs = false ∨ n < 0 ∨ m < 0 ∨ 2305843009213693952 < n ∨ 2305843009213693952 < m) :
    Calls Try.prog 6 #[.slice A xs.length c, .agg #[.int .i64 account, .int .i64 sub, .int .i64 kind, .string zone, .bool family, .int .i64 t, .int .i64 n], .int .i64 m] w fun e w' => e = .returned (.bool true) ∧ Below w.heap.size w w' := by
  have Hx := Lib.hid hx
  have HZ := Lib.hid hz
  have HN := Lib.hid hn
  clear hx hz hn
  generalize hf : fewB xs = fb at *
  have HF := Lib.hid hf
  clear hf
  rcases fb with _ | _
  · clear hbad
    go_enter Try.func6, Try.ntmps6
    go_wp2_with (first
      | (go_at_call 16; with_reducible refine (few_any xs A c _ HN.out HZ.out (Hx.out.alloc _)).mono ?_; rw [HF.out]; rintro e w1 ⟨rfl, hb⟩; obtain ⟨s, rfl⟩ := ext_of_below hb; clear hb)
      | (go_at_call 13; with_reducible refine (alive_any _).mono ?_; rintro e w1 ⟨rfl, hb⟩; obtain ⟨s, rfl⟩ := ext_of_below hb; clear hb))
    go_ret
    refine ⟨rfl, ?_⟩
    repeat' (first | exact Below.refl _ _ | refine below_ext ?_ ?_ _ | refine Below.alloc ?_ ?_ _ | refine Below.setCell ?_ ?_ _ | refine Below.drew ?_ | (rw [size_ext]; refine Nat.le_add_right_of_le ?_) | go_size | (rw [World.size_alloc]; refine Nat.le_add_right_of_le ?_))
  · simp only [Bool.true_eq_false, false_or] at hbad
    by_cases h1 : n < 0
    all_goals (try by_cases h2 : m < 0)
    all_goals (try by_cases h3 : 2305843009213693952 < n)
    all_goals (try have h4 : 2305843009213693952 < m := by omega)
    all_goals (try (exfalso; omega))
    all_goals clear hbad
    all_goals
      go_enter Try.func6, Try.ntmps6
      go_wp2_with (first
        | (go_at_call 16; with_reducible refine (few_any xs A c _ HN.out HZ.out (Hx.out.alloc _)).mono ?_; rw [HF.out]; rintro e w1 ⟨rfl, hb⟩; obtain ⟨s, rfl⟩ := ext_of_below hb; clear hb)
        | (go_at_call 13; with_reducible refine (alive_any _).mono ?_; rintro e w1 ⟨rfl, hb⟩; obtain ⟨s, rfl⟩ := ext_of_below hb; clear hb))
      go_ret
      refine ⟨rfl, ?_⟩
      repeat' (first | exact Below.refl _ _ | refine below_ext ?_ ?_ _ | refine Below.alloc ?_ ?_ _ | refine Below.setCell ?_ ?_ _ | refine Below.drew ?_ | (rw [size_ext]; refine Nat.le_add_right_of_le ?_) | go_size | (rw [World.size_alloc]; refine Nat.le_add_right_of_le ?_))

set_option maxHeartbeats 4000000 in
theorem twice_yes (A : Option Addr) (c : Nat) (xs : List Bk) (account sub kind : Int) (zone : ByteArray) (family : Bool) (t n m : Int) (w : World) (hx : Bks w A xs) (hn : xs.length ≤ maxLen) (hz : ∀ x ∈ xs, x.zones.length ≤ maxLen)
    (hl : ∀ x ∈ xs, x.left ≤ 9223372036854775807) (hf : fewB xs = true) (h1 : 0 ≤ n) (h2 : 0 ≤ m) (h3 : n ≤ 2305843009213693952) (h4 : m ≤ 2305843009213693952) :
    Calls Try.prog 6 #[.slice A xs.length c, .agg #[.int .i64 account, .int .i64 sub, .int .i64 kind, .string zone, .bool family, .int .i64 t, .int .i64 n], .int .i64 m] w fun e w' => e = .returned (.bool true) ∧ Below w.heap.size w w' := by
  obtain ⟨h12, h6⟩ := few_yes hf
  have hu := usable_ok account sub kind zone family t
  have Hx := Lib.hid hx
  have HZ := Lib.hid hz
  have HN := Lib.hid hn
  have HF := Lib.hid hf
  have C1 : ∀ W A c, Bks W A xs → Calls Try.prog 17 #[.slice A xs.length c, .int .i64 account, .int .i64 sub, .int .i64 kind, .string zone, .bool family, .int .i64 t, .int .i64 n] W (TakeR (take xs (fun x => x.usable account sub kind zone family t) n) W) := fun W A c hW =>
    take_any xs A c account sub kind zone family t n W (by omega) (fun x hx => Nat.le_trans (h6 x hx) (by omega)) hW (by omega) hl
  have C3 : ∀ W A c, Bks W A xs → Calls Try.prog 17 #[.slice A xs.length c, .int .i64 account, .int .i64 sub, .int .i64 kind, .string zone, .bool family, .int .i64 t, .int .i64 (n + m)] W (TakeR (take xs (fun x => x.usable account sub kind zone family t) (n + m)) W) := fun W A c hW =>
    take_any xs A c account sub kind zone family t (n + m) W (by omega) (fun x hx => Nat.le_trans (h6 x hx) (by omega)) hW (by omega) hl
  have hm1 : ∀ y ∈ (take xs (fun x => x.usable account sub kind zone family t) n).1, y.zones.length ≤ 6 ∧ y.left ≤ 9223372036854775807 := fun y hy => by
    obtain ⟨x, hx, l, hxl, rfl⟩ := take_mem hu hy
    have := hl x hx
    exact ⟨h6 x hx, by rw [Bk.left_with]; omega⟩
  have C2 : ∀ W A c, Bks W A (take xs (fun x => x.usable account sub kind zone family t) n).1 → Calls Try.prog 17 #[.slice A (take xs (fun x => x.usable account sub kind zone family t) n).1.length c, .int .i64 account, .int .i64 sub, .int .i64 kind, .string zone, .bool family, .int .i64 t, .int .i64 m] W (TakeR (take (take xs (fun x => x.usable account sub kind zone family t) n).1 (fun x => x.usable account sub kind zone family t) m) W) := fun W A c hW =>
    take_any _ A c account sub kind zone family t m W (by rw [take_len]; omega) (fun x hx => Nat.le_trans (hm1 x hx).1 (by omega)) hW (by omega) (fun x hx => (hm1 x hx).2)
  have hm2 : ∀ y ∈ (take (take xs (fun x => x.usable account sub kind zone family t) n).1 (fun x => x.usable account sub kind zone family t) m).1, y.zones.length ≤ 1000 := fun y hy => by
    obtain ⟨x, hx, l, hxl, rfl⟩ := take_mem hu hy
    exact Nat.le_trans (hm1 x hx).1 (by omega)
  have hl2 : (take (take xs (fun x => x.usable account sub kind zone family t) n).1 (fun x => x.usable account sub kind zone family t) m).1.length ≤ 100000 := by
    rw [take_len, take_len]
    omega
  have T := take_twice (xs := xs) hu h1 h2
  have B1 := (take_units (xs := xs) hu h1).2.2
  have B2 := (take_units (xs := (take xs (fun x => x.usable account sub kind zone family t) n).1) hu h2).2.2
  have b1 := B1.1
  have b2 := B1.2.1
  have b3 := B2.1
  have b4 := B2.2.1
  clear B1 B2 hm1 hu h6 hf hn hz hx hl
  generalize take (take xs (fun x => x.usable account sub kind zone family t) n).1 (fun x => x.usable account sub kind zone family t) m = r2 at *
  generalize take xs (fun x => x.usable account sub kind zone family t) n = r1 at *
  generalize take xs (fun x => x.usable account sub kind zone family t) (n + m) = r3 at *
  obtain ⟨la, ta, x⟩ := r1
  obtain ⟨lb, tb, y⟩ := r2
  obtain ⟨lc, tc, z⟩ := r3
  dsimp only at *
  obtain ⟨rfl, rfl⟩ := T
  have HC1 := Lib.hid C1
  have HC2 := Lib.hid C2
  have HC3 := Lib.hid C3
  have HM2 := Lib.hid hm2
  clear C1 C2 C3 hm2
  go_enter Try.func6, Try.ntmps6
  go_wp2_with (first
    | (go_at_call 16; with_reducible refine (few_any xs A c _ HN.out HZ.out (Hx.out.alloc _)).mono ?_; rw [HF.out]; rintro e w1 ⟨rfl, hb⟩; obtain ⟨s, rfl⟩ := ext_of_below hb; clear hb)
    | (go_at_call 13; with_reducible refine (alive_any _).mono ?_; rintro e w1 ⟨rfl, hb⟩; obtain ⟨s, rfl⟩ := ext_of_below hb; clear hb)
    | (go_at_call 17; (with_reducible refine (HC1.out _ _ _ ((Hx.out.alloc _).ext _)).mono ?_); rintro e w1 ⟨v1, v2, rfl, own1, tk1, hb1⟩; obtain ⟨A1, c1, rfl, hbs1, _⟩ := own1.form; obtain ⟨A2, c2, rfl, hts1⟩ := tk1.form; obtain ⟨s1, rfl⟩ := ext_of_below hb1; rw [ext_ext] at hbs1; have HB1 := Lib.hid hbs1; clear hbs1 own1 hts1 tk1 hb1)
    | (go_at_call 17; (with_reducible refine (HC2.out _ _ _ HB1.out).mono ?_); rintro e w2 ⟨v3, v4, rfl, own2, tk2, hb2⟩; obtain ⟨A3, c3, rfl, hbs2, _⟩ := own2.form; obtain ⟨A4, c4, rfl, hts2⟩ := tk2.form; obtain ⟨s2, rfl⟩ := ext_of_below hb2; rw [ext_ext] at hbs2; have HB2 := Lib.hid hbs2; clear hbs2 own2 hts2 tk2 hb2)
    | (go_at_call 17; (with_reducible refine (HC3.out _ _ _ ((Hx.out.alloc _).ext _)).mono ?_); rintro e w3 ⟨v5, v6, rfl, own3, tk3, hb3⟩; obtain ⟨A5, c5, rfl, hbs3, _⟩ := own3.form; obtain ⟨A6, c6, rfl, hts3⟩ := tk3.form; obtain ⟨s3, rfl⟩ := ext_of_below hb3; rw [ext_ext] at hbs3; have HB3 := Lib.hid hbs3; clear hbs3 own3 hts3 tk3 hb3)
    | (go_at_call 19; refine (samebks_any _ A3 A5 c3 c5 _ hl2 HM2.out (HB2.out.cat _) HB3.out).mono ?_; rintro e w1 ⟨rfl, hb⟩; obtain ⟨s, rfl⟩ := ext_of_below hb; clear hb))
  go_ret
  refine ⟨rfl, ?_⟩
  repeat' (first | exact Below.refl _ _ | refine below_ext ?_ ?_ _ | refine Below.alloc ?_ ?_ _ | refine Below.setCell ?_ ?_ _ | refine Below.drew ?_ | (rw [size_ext]; refine Nat.le_add_right_of_le ?_) | go_size | (rw [World.size_alloc]; refine Nat.le_add_right_of_le ?_))


theorem walk_bucketTwice (A : Option Addr) (k c : Nat) (account sub kind : Int) (zone : ByteArray) (family : Bool) (t n m : Int) (w : World) (h : InBks w A k) (_hfn : fits n) :
    Calls Try.prog 6 #[.slice A k c, .agg #[.int .i64 account, .int .i64 sub, .int .i64 kind, .string zone, .bool family, .int .i64 t, .int .i64 n], .int .i64 m] w fun e w' => e = .returned (.bool true) ∧ Below w.heap.size w w' := by
  obtain ⟨xs, rfl, hn, hxs, hF⟩ := h
  have hz : ∀ x ∈ xs, x.zones.length ≤ maxLen := fun x hx => (hF x hx).zones
  have hl : ∀ x ∈ xs, x.left ≤ 9223372036854775807 := fun x hx => (hF x hx).left.2
  by_cases hg : fewB xs = true ∧ 0 ≤ n ∧ 0 ≤ m ∧ n ≤ 2305843009213693952 ∧ m ≤ 2305843009213693952
  · exact twice_yes A c xs account sub kind zone family t n m w hxs hn hz hl hg.1 hg.2.1 hg.2.2.1 hg.2.2.2.1 hg.2.2.2.2
  · refine twice_no A c xs account sub kind zone family t n m w hxs hn hz ?_
    cases hf : fewB xs
    · exact .inl rfl
    · right
      have hg' : ¬ (0 ≤ n ∧ 0 ≤ m ∧ n ≤ 2305843009213693952 ∧ m ≤ 2305843009213693952) := fun h => hg ⟨hf, h⟩
      omega
end Go.Proofs.Ythhpdpcingapgaa

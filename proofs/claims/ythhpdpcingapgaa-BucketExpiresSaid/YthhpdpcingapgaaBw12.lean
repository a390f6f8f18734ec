/-
  The chapter's example: alive answers true.
-/
import Derived.Test.YthhpdpcingapgaaBw5
import Derived.Test.YthhpdpcingapgaaBw10
import Derived.Test.YthhpdpcingapgaaBw11
namespace Go.Proofs.Ythhpdpcingapgaa
open Go.RowKit
set_option linter.unusedSimpArgs false

theorem take_40 : take [sa, sb] (fun x => x.usable 1 1 1 ⟨#[]⟩ false 5) 40 = ([sa.withLeft 40, sb.withLeft 0], [⟨1, ⟨#[98]⟩, 0, 0, 30⟩, ⟨1, ⟨#[97]⟩, 0, 0, 10⟩], 0) := by kernel_rfl
theorem take_100 : (take [sa, sb] (fun x => x.usable 1 1 1 ⟨#[]⟩ false 5) 100).2.2 = 20 := by kernel_rfl
theorem name_a : Name ⟨#[97]⟩ where
  lo := by decide
  hi := by decide
  head := fun _ => by
    show (97 : Int) ≤ ((97 : UInt8).toNat : Int) ∧ ((97 : UInt8).toNat : Int) ≤ 122
    decide
  all := by
    intro j h
    have hj : j = 0 := by
      have : j < 1 := h
      omega
    subst hj
    left
    show (97 : Int) ≤ ((97 : UInt8).toNat : Int) ∧ ((97 : UInt8).toNat : Int) ≤ 122
    decide
theorem chk_a : (sa.withLeft 40).chk = 0 := by
  have := nameB_yes name_a
  simp [Bk.chk, Bk.withLeft, sa, this, pvalB]
theorem tks_at : ∀ (ts : List Tk) (j i : Nat) (x : Tk), ts[j]? = some x → i < 5 → (ts.flatMap Tk.cells)[j * 5 + i]? = x.cells[i]?
  | [], _, _, _, h, _ => by simp at h
  | y :: ts, 0, i, x, h, hi => by
    obtain rfl := Option.some.inj h
    rw [Nat.zero_mul, Nat.zero_add, List.flatMap_cons, List.getElem?_append_left (by simpa [Tk.cells] using hi)]
  | y :: ts, j + 1, i, x, h, hi => by
    have hl : y.cells.length = 5 := rfl
    rw [List.flatMap_cons, List.getElem?_append_right (by rw [hl]; omega), hl, show (j + 1) * 5 + i - 5 = j * 5 + i from by omega]
    exact tks_at ts j i x (by simpa using h) hi
theorem OwnTks.form {w : World} {B : Nat} {v : Value} {ts : List Tk} (h : OwnTks w B v ts) : ∃ A c, v = .slice A ts.length c ∧ Tks w A ts := by
  unfold OwnTks at h
  rcases h.2 with ⟨rfl, h0⟩ | ⟨g, cap, cur, rfl, _, hh, _⟩
  · refine ⟨none, 0, by rw [h0], fun j x hx => ?_⟩
    have hj : j < ts.length := (List.getElem?_eq_some_iff.1 hx).1
    omega
  · refine ⟨some ⟨g, 0, none⟩, cap, rfl, fun j x hx => ?_⟩
    have hj : j < ts.length := (List.getElem?_eq_some_iff.1 hx).1
    refine ⟨g, 0, rfl, ?_, fun i u hu => ?_⟩
    · rcases Nat.lt_or_ge g w.heap.size with hlt | hge
      · exact hlt
      · rw [Array.getElem?_eq_none hge] at hh
        cases hh
    · have hi : i < 5 := (List.getElem?_eq_some_iff.1 hu).1
      rw [Nat.zero_add, h.cellAt (j * 5 + i) (by omega), ← hu]
      exact tks_at ts j i x hx hi

set_option maxHeartbeats 2000000 in
theorem alive_any (w : World) : Calls Try.prog 13 #[] w fun e w' => e = .returned (.bool true) ∧ Below w.heap.size w w' := by
  have hl : ∀ x ∈ [sa, sb], x.left ≤ 9223372036854775807 := by
    intro x hx
    simp only [List.mem_cons, List.not_mem_nil, or_false] at hx
    rcases hx with rfl | rfl <;> decide
  have hz : ∀ x ∈ [sa, sb], x.zones.length ≤ 100 := by
    intro x hx
    simp only [List.mem_cons, List.not_mem_nil, or_false] at hx
    rcases hx with rfl | rfl <;> decide
  have HL := Lib.hid hl
  have HZ := Lib.hid hz
  clear hl hz
  go_enter Try.func13, Try.ntmps13
  go_wp2_with fail
  refine (sample_any _).mono ?_
  rintro e w1 ⟨A1, c1, rfl, hx1, hb1⟩
  go_wp2_with fail
  refine (take_any _ A1 c1 _ _ _ _ _ _ _ _ (by decide) HZ.out hx1 (by decide) HL.out).mono ?_
  rintro e w2 ⟨v1, v2, rfl, ho, ht, hb2⟩
  rw [take_40] at ho ht
  rw [take_40]
  obtain ⟨A2, c2, rfl, ho2, _⟩ := ho.form
  obtain ⟨A3, c3, rfl, ht3⟩ := ht.form
  have HB := Lib.hid (hb1.trans (hb2.mono hb1.size))
  clear hb1 hb2 hx1
  obtain ⟨b, o, za, zc, rfl, hb, x0, x1, x2, x3, x4, x5, x6, x7, x8, x9, x10, x11, hzs, hzc⟩ := bk_cells (j := 0) (x := sa.withLeft 40) ho2 rfl
  obtain ⟨b', o', za', zc', he, hb', y0, y1, y2, y3, y4, y5, y6, y7, y8, y9, y10, y11, hzs', hzc'⟩ := bk_cells (j := 1) (x := sb.withLeft 0) ho2 rfl
  simp only [Option.some.injEq, Addr.mk.injEq, and_true] at he
  obtain ⟨rfl, rfl⟩ := he
  have HT := Lib.hid ht3
  have HZS := Lib.hid hzs
  clear ho ho2 ht ht3 hzs hzs' hzc hzc' y0 y1 y2 y3 y4 y5 y6 y7 y8 y10 y11 hb'
  simp only [Nat.zero_mul, Nat.one_mul, Nat.add_zero] at x0 x1 x2 x3 x4 x5 x6 x7 x8 x9 x10 x11 y9
  simp only [sa, sb, Bk.withLeft] at x0 x1 x2 x3 x4 x5 x6 x7 x8 x9 x10 x11 y9
  go_wp2_with fail
  refine (sample_any _).mono ?_
  rintro e w3 ⟨A4, c4, rfl, hx3, hb3⟩
  have HX3 := Lib.hid hx3
  clear hx3
  obtain ⟨s3, rfl⟩ := ext_of_below hb3
  clear hb3
  go_wp2_with fail
  refine (take_any _ A4 c4 _ _ _ _ _ _ _ _ (by decide) HZ.out HX3.out (by decide) HL.out).mono ?_
  rintro e w4 ⟨v3, v4, rfl, -, -, hb4⟩
  rw [take_100]
  obtain ⟨s4, rfl⟩ := ext_of_below hb4
  clear hb4
  go_wp2_with fail
  have hT2 : Tks ((ext w2 (s3.cat s4)).alloc (Obj.cells #[.int .i64 1, .string ⟨#[98]⟩, .int .i64 0, .int .i64 0, .int .i64 30, .int .i64 1, .string ⟨#[97]⟩, .int .i64 0, .int .i64 0, .int .i64 10] 53)) (some ⟨w2.heap.size + (s3.cat s4).n, 0, none⟩) [⟨1, ⟨#[98]⟩, 0, 0, 30⟩, ⟨1, ⟨#[97]⟩, 0, 0, 10⟩] := by
    intro j x hx
    match j, hx with
    | 0, hx =>
      obtain rfl := Option.some.inj hx
      refine ⟨_, _, rfl, by simp [go_sem], fun i v hv => ?_⟩
      have hi : i < 5 := (List.getElem?_eq_some_iff.1 hv).1
      rw [← hv]
      match i, hi with
      | 0, _ | 1, _ | 2, _ | 3, _ | 4, _ => simp [go_sem, Tk.cells]
    | 1, hx =>
      obtain rfl := Option.some.inj hx
      refine ⟨_, _, rfl, by simp [go_sem], fun i v hv => ?_⟩
      have hi : i < 5 := (List.getElem?_eq_some_iff.1 hv).1
      rw [← hv]
      match i, hi with
      | 0, _ | 1, _ | 2, _ | 3, _ | 4, _ => simp [go_sem, Tk.cells]
    | j + 2, hx => simp at hx
  have hB2 : Below w2.heap.size w2 ((ext w2 (s3.cat s4)).alloc (Obj.cells #[.int .i64 1, .string ⟨#[98]⟩, .int .i64 0, .int .i64 0, .int .i64 30, .int .i64 1, .string ⟨#[97]⟩, .int .i64 0, .int .i64 0, .int .i64 10] 53)) :=
    (below_ext (Below.refl _ _) (Nat.le_refl _) _).alloc (by simp [go_sem]) _
  refine (same_any [⟨1, ⟨#[98]⟩, 0, 0, 30⟩, ⟨1, ⟨#[97]⟩, 0, 0, 10⟩] _ _ _ _ _ (by decide) (HT.out.below hB2) hT2).mono ?_
  rintro e w5 ⟨rfl, hb5⟩
  have hB3 := hB2.trans (hb5.mono hB2.size)
  clear hT2 hB2 hb5
  obtain ⟨s5, rfl⟩ := ext_of_below hB3
  clear hB3
  go_wp2_with fail
  refine (bcheck_any (sa.withLeft 40) za zc _ (by decide) (HZS.out.ext _)).mono ?_
  rw [chk_a]
  rintro e w6 ⟨rfl, hb6⟩
  obtain ⟨s6, rfl⟩ := ext_of_below hb6
  clear hb6
  go_wp2_with fail
  go_ret
  exact ⟨rfl, below_ext HB.out HB.out.size _⟩

end Go.Proofs.Ythhpdpcingapgaa

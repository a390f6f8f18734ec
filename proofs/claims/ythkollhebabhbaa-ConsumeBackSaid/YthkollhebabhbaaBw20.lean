/-
  The walk of distinct.
-/
import Derived.Test.YthkollhebabhbaaBw17
import Derived.Test.YthkollhebabhbaaOpenL
namespace Go.Proofs.Ythkollhebabhbaa
open Go.RowKit
set_option linter.unusedSimpArgs false
set_option linter.unusedVariables false

def Alone (xs : List Bk) (i : Nat) (b : Bk) : Prop := b.left ≤ b.units ∧ ∀ (j : Nat) (c : Bk), j < i → xs[j]? = some c → c.isOf ⟨b.sub, b.prod, b.idx, b.frm, 0⟩ = false
open Classical in
noncomputable def distB (xs : List Bk) : Bool := decide (Distinct xs)
open Classical in
theorem distB_yes {xs : List Bk} (h : ∀ (i : Nat) (b : Bk), xs[i]? = some b → Alone xs i b) : distB xs = true := decide_eq_true h
open Classical in
theorem distB_no {xs : List Bk} {i : Nat} {b : Bk} (hb : xs[i]? = some b) (h : ¬ Alone xs i b) : distB xs = false := decide_eq_false fun hd => h (hd i b hb)
open Classical in
theorem distB_spec {xs : List Bk} (h : distB xs = true) : Distinct xs := of_decide_eq_true h
theorem isOf_self (b : Bk) (u : Int) : b.isOf ⟨b.sub, b.prod, b.idx, b.frm, u⟩ = true := by simp [Bk.isOf]
theorem fndI_self {xs : List Bk} {i : Nat} {b : Bk} (hb : xs[i]? = some b) (h : Alone xs i b) : fndI ⟨b.sub, b.prod, b.idx, b.frm, 0⟩ xs = (i : Int) := fndI_some hb (isOf_self b 0) h.2
theorem fndI_less {xs : List Bk} {i : Nat} {b : Bk} (hb : xs[i]? = some b) (h : ¬ Alone xs i b) (hl : b.left ≤ b.units) : fndI ⟨b.sub, b.prod, b.idx, b.frm, 0⟩ xs < (i : Int) := by
  rcases hf : fnd ⟨b.sub, b.prod, b.idx, b.frm, 0⟩ xs with _ | k
  · unfold fndI
    rw [hf]
    dsimp only
    omega
  · unfold fndI
    rw [hf]
    dsimp only
    rcases Nat.lt_or_ge k i with h1 | h1
    · omega
    · exfalso
      refine h ⟨hl, fun j c hj hc => ?_⟩
      cases hh : c.isOf ⟨b.sub, b.prod, b.idx, b.frm, 0⟩
      · rfl
      · exfalso
        have : ∀ (l : List Bk) (k j : Nat), fnd ⟨b.sub, b.prod, b.idx, b.frm, 0⟩ l = some k → l[j]? = some c → k ≤ j := by
          intro l
          induction l with
          | nil => intro k j h; simp [fnd] at h
          | cons a l ih =>
            intro k j h hc
            simp only [fnd] at h
            split at h
            · obtain rfl := Option.some.inj h
              omega
            · rename_i hna
              rw [Option.map_eq_some_iff] at h
              obtain ⟨k', hk', rfl⟩ := h
              match j, hc with
              | 0, hc =>
                obtain rfl := Option.some.inj hc
                exact absurd hh hna
              | j + 1, hc =>
                have := ih k' j hk' (by simpa using hc)
                omega
        have := this xs k j hf hc
        omega

set_option maxHeartbeats 2000000 in
theorem distinct_any (xs : List Bk) (A : Option Addr) (c : Nat) (w : World) (hn : xs.length ≤ 1000) (h : Bks w A xs) :
    Calls Try.prog 24 #[.slice A xs.length c] w fun e w' => e = .returned (.bool (distB xs)) ∧ Below w.heap.size w w' := by
  have H := Lib.hid h
  clear h
  go_enter Try.func24, Try.ntmps24
  go_wp2_with fail
  go_loopw [3] (fun i wr => ∃ (k : Nat) (s : More), k ≤ xs.length ∧ i = .int .i64 (k : Int) ∧ wr = ext w s ∧ Hid (∀ (j : Nat) (b : Bk), j < k → xs[j]? = some b → Alone xs j b)) (fun i _ => xs.length - (intOf i).toNat)
  case atStart => exact ⟨0, _, Nat.zero_le _, rfl, ext_nil _, fun j b hj => absurd hj (by omega)⟩
  case round =>
    obtain ⟨k, s, hk, rfl, rfl, hall⟩ := hrel
    by_cases hlt : k < xs.length
    · obtain ⟨x, hx⟩ : ∃ s, xs[k]? = some s := ⟨_, List.getElem?_eq_getElem hlt⟩
      have HX := Lib.hid hx
      obtain ⟨b, o, za, zc, rfl, hb, x0, x1, x2, x3, x4, x5, x6, x7, x8, x9, x10, x11, hzs, hzc⟩ := bk_cells H.out hx
      clear hx hzs hzc
      by_cases hlu : x.units < x.left
      · have E : Hid (distB xs = false) := distB_no HX.out fun ha => by have := ha.1; omega
        go_wp2_with fail
        go_ret
        refine ⟨ret_bool E.out.symm, ?_⟩
        rw [alloc_ext]
        exact below_ext (Below.refl _ _) (Nat.le_refl _) _
      · by_cases hal : Alone xs k x
        · have hfi := fndI_self HX.out hal
          have HFI := Lib.hid hfi
          have HAL := Lib.hid hal
          clear hfi hal
          have hkk : ¬ (k : Int) < (k : Int) := by omega
          go_wp2_with (go_at_call 50; (refine (find_any ⟨x.sub, x.prod, x.idx, x.frm, 0⟩ xs _ c _ (by omega) ((H.out.ext s).alloc _)).mono ?_); rw [HFI.out]; rintro e w1 ⟨rfl, hb1⟩; obtain ⟨s1, rfl⟩ := ext_of_below hb1; clear hb1)
          go_roundw
          case rel =>
            refine ⟨k + 1, _, by omega, by go_num, by rw [alloc_ext, ext_ext], fun j b hj hb => ?_⟩
            rcases Nat.lt_succ_iff_lt_or_eq.1 hj with h | h
            · exact hall.out j b h hb
            · subst h
              rw [HX.out] at hb
              cases hb
              exact HAL.out
          case measure => simp [intOf]; omega
        · have hless := fndI_less HX.out hal (by omega)
          have E : Hid (distB xs = false) := distB_no HX.out hal
          clear hal
          generalize hfg : fndI ⟨x.sub, x.prod, x.idx, x.frm, 0⟩ xs = f at *
          have HFI := Lib.hid hfg
          clear hfg
          go_wp2_with (go_at_call 50; (refine (find_any ⟨x.sub, x.prod, x.idx, x.frm, 0⟩ xs _ c _ (by omega) ((H.out.ext s).alloc _)).mono ?_); rw [HFI.out]; rintro e w1 ⟨rfl, hb1⟩; obtain ⟨s1, rfl⟩ := ext_of_below hb1; clear hb1)
          go_ret
          refine ⟨ret_bool E.out.symm, ?_⟩
          rw [alloc_ext, ext_ext]
          exact below_ext (Below.refl _ _) (Nat.le_refl _) _
    · have E : Hid (distB xs = true) := distB_yes fun i b hb => hall.out i b (by have := (List.getElem?_eq_some_iff.1 hb).1; omega) hb
      go_wp2_with fail
      go_ret
      exact ⟨ret_bool E.out.symm, below_ext (Below.refl _ _) (Nat.le_refl _) _⟩
end Go.Proofs.Ythkollhebabhbaa

/-
  The walks of fits and of the reference's Find.
-/
import Derived.Test.YthkollhebabhbaaBw13
import Derived.Test.YthkollhebabhbaaBx
import Derived.Test.YthkollhebabhbaaBq
namespace Go.Proofs.Ythkollhebabhbaa
open Go.RowKit
set_option linter.unusedSimpArgs false

set_option maxHeartbeats 400000 in
theorem fits_any (left more most : Int) (w : World) (h0 : -9223372036854775808 ≤ left) (h1 : left ≤ 9223372036854775807) (h2 : 0 ≤ more) (h3 : more ≤ 9223372036854775807) (h4 : most ≤ 9223372036854775807) :
    Calls Try.prog 60 #[.int .i64 left, .int .i64 more, .int .i64 most] w fun e w' => e = .returned (.bool (decide (left + more ≤ most))) ∧ w = w' := by
  go_enter Try.func60, Try.ntmps60
  go_wp2_with fail
  all_goals
    go_ret
    refine ⟨ret_bool ?_, rfl⟩
    first | rfl | (rw [Bool.eq_iff_iff]; simp; omega)

theorem alloc_ext (w : World) (s : More) (o : Obj) : (ext w s).alloc o = ext w ⟨s.L ++ [o], s.d⟩ := by simp [ext, World.alloc]
theorem isOf_no {x : Bk} {t : Tk} (h : (x.sub == t.sub) = false ∨ (x.prod.toList == t.prod.toList) = false ∨ (x.idx == t.idx) = false ∨ (x.frm == t.frm) = false) : x.isOf t = false := by
  simp only [beq_eq_false_iff_ne] at h
  simp only [Bk.isOf, decide_eq_false_iff_not]
  rintro ⟨h1, h2, h3, h4⟩
  rcases h with h | h | h | h
  · exact h h1
  · exact h h2
  · exact h h3
  · exact h h4
theorem isOf_yes {x : Bk} {t : Tk} (h1 : (x.sub == t.sub) = true) (h2 : (x.prod.toList == t.prod.toList) = true) (h3 : (x.idx == t.idx) = true) (h4 : (x.frm == t.frm) = true) : x.isOf t = true := by
  simp only [beq_iff_eq] at h1 h2 h3 h4
  simp [Bk.isOf, h1, h2, h3, h4]

def fndI (t : Tk) (xs : List Bk) : Int := match fnd t xs with | some k => (k : Int) | none => -1
theorem fndI_some {t : Tk} {xs : List Bk} {k : Nat} {x : Bk} (hx : xs[k]? = some x) (hi : x.isOf t = true) (h : ∀ (j : Nat) (c : Bk), j < k → xs[j]? = some c → c.isOf t = false) : fndI t xs = (k : Int) := by
  unfold fndI
  rw [fnd_at hx hi h]
theorem fndI_none {t : Tk} {xs : List Bk} (h : ∀ (j : Nat) (c : Bk), j < xs.length → xs[j]? = some c → c.isOf t = false) : fndI t xs = -1 := by
  unfold fndI
  rw [fnd_none fun j c hc => h j c (List.getElem?_eq_some_iff.1 hc).1 hc]

set_option maxHeartbeats 2000000 in
theorem find_any (t : Tk) (xs : List Bk) (A : Option Addr) (c : Nat) (w : World) (hn : xs.length ≤ 100000) (h : Bks w A xs) :
    Calls Try.prog 50 #[.slice A xs.length c, .agg #[.int .i64 t.sub, .string t.prod, .int .i64 t.idx, .int .i64 t.frm, .int .i64 t.units]] w fun e w' => e = .returned (.int .i64 (fndI t xs)) ∧ Below w.heap.size w w' := by
  have H := Lib.hid h
  clear h
  go_enter Try.func50, Try.ntmps50
  go_wp2_with fail
  go_loopw [5] (fun i wr => ∃ (k : Nat) (s : More), k ≤ xs.length ∧ i = .int .i64 k ∧ wr = ext (w.alloc (Obj.cells #[.int .i64 t.sub, .string t.prod, .int .i64 t.idx, .int .i64 t.frm, .int .i64 t.units] 86)) s ∧ Hid (∀ (j : Nat) (c : Bk), j < k → xs[j]? = some c → c.isOf t = false)) (fun i _ => xs.length - (intOf i).toNat)
  case atStart => exact ⟨0, _, Nat.zero_le _, rfl, ext_nil _, fun j c h => absurd h (by omega)⟩
  case round =>
    obtain ⟨k, s, hk, rfl, rfl, hall⟩ := hrel
    by_cases hlt : k < xs.length
    · obtain ⟨x, hx⟩ : ∃ s, xs[k]? = some s := ⟨_, List.getElem?_eq_getElem hlt⟩
      obtain ⟨b, o, za, zc, rfl, hb, x0, x1, x2, x3, x4, x5, x6, x7, x8, x9, x10, x11, hzs, hzc⟩ := bk_cells H.out hx
      have HX := Lib.hid hx
      clear hx hzs hzc
      have hnext : x.isOf t = false → ∀ (j : Nat) (c : Bk), j < k + 1 → xs[j]? = some c → c.isOf t = false := fun hno j c hj hc => by
        rcases Nat.lt_succ_iff_lt_or_eq.1 hj with h | h
        · exact hall.out j c h hc
        · subst h
          rw [HX.out] at hc
          cases hc
          exact hno
      have HNX := Lib.hid hnext
      clear hnext
      cases e1 : (x.sub == t.sub)
      case' true => cases e2 : (x.prod.toList == t.prod.toList)
      case' true.true => cases e3 : (x.idx == t.idx)
      case' true.true.true => cases e4 : (x.frm == t.frm)
      case true.true.true.true =>
        have E := Lib.hid (fndI_some HX.out (isOf_yes e1 e2 e3 e4) hall.out)
        go_wp2_with fail
        go_ret
        refine ⟨ret_int E.out.symm, ?_⟩
        rw [alloc_ext]
        repeat' (first | exact Below.refl _ _ | refine below_ext ?_ ?_ _ | refine Below.alloc ?_ ?_ _ | refine Below.setCell ?_ ?_ _ | refine Below.drew ?_ | (rw [size_ext]; refine Nat.le_add_right_of_le ?_) | go_size | (rw [World.size_alloc]; refine Nat.le_add_right_of_le ?_))
      all_goals
        have hno : x.isOf t = false := isOf_no (by simp [*])
        have HNO := Lib.hid hno
        clear hno
        go_wp2_with fail
        go_roundw
        case rel => exact ⟨k + 1, _, by omega, by go_num, alloc_ext _ _ _, HNX.out HNO.out⟩
        case measure => simp [intOf]; omega
    · have hkn : k = xs.length := by omega
      have E := Lib.hid (fndI_none (t := t) (xs := xs) (by rw [← hkn]; exact hall.out))
      clear hkn
      go_wp2_with fail
      go_ret
      refine ⟨ret_int E.out.symm, ?_⟩
      repeat' (first | exact Below.refl _ _ | refine below_ext ?_ ?_ _ | refine Below.alloc ?_ ?_ _ | refine Below.setCell ?_ ?_ _ | refine Below.drew ?_ | (rw [size_ext]; refine Nat.le_add_right_of_le ?_) | go_size | (rw [World.size_alloc]; refine Nat.le_add_right_of_le ?_))
end Go.Proofs.Ythkollhebabhbaa

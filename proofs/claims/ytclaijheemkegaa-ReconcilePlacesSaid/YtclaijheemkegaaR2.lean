/-
  near, Agree and Count.
-/
import Derived.Test.YtclaijheemkegaaR1
namespace Go.Proofs.Ytclaijheemkegaa
open Go.RowKit
set_option linter.unusedSimpArgs false
set_option linter.unusedVariables false

def fits (n : Int) : Prop := -9223372036854775808 ≤ n ∧ n ≤ 9223372036854775807
/-- Two instants differ by at most slack. -/
def nearB (a b slack : Int) : Bool := decide (0 ≤ slack ∧ a - b ≤ slack ∧ b - a ≤ slack)

set_option maxRecDepth 100000 in
theorem near_any (a b slack : Int) (w : World) (ha : fits a) (hb : fits b) (hs : fits slack) :
    Calls Try.prog 32 #[.int .i64 a, .int .i64 b, .int .i64 slack] w fun e w' => e = .returned (.bool (nearB a b slack)) ∧ Below w.heap.size w w' := by
  unfold nearB
  unfold fits at *
  obtain ⟨a1, a2⟩ := ha
  obtain ⟨b1, b2⟩ := hb
  obtain ⟨s1, s2⟩ := hs
  by_cases h0 : slack < 0
  · rw [decide_eq_false (by omega)]
    go_enter Try.func32, Try.ntmps32
    go_wp2
    go_ret
    refine ⟨rfl, ?_⟩
    repeat' (first | exact Below.refl _ _ | refine below_ext ?_ ?_ _ | refine Below.alloc ?_ ?_ _ | refine Below.setCell ?_ ?_ _ | refine Below.drew ?_ | (rw [size_ext]; refine Nat.le_add_right_of_le ?_) | go_size | (rw [World.size_alloc]; refine Nat.le_add_right_of_le ?_))
  · go_enter Try.func32, Try.ntmps32
    go_wp2
    all_goals
      go_ret
      refine ⟨?_, ?_⟩
      · refine congrArg (fun x => Ending.returned (Value.bool x)) ?_
        rw [Bool.eq_iff_iff]
        simp only [Bool.and_eq_true, decide_eq_true_eq, IntKind.wrap_u64]
        omega
      · repeat' (first | exact Below.refl _ _ | refine below_ext ?_ ?_ _ | refine Below.alloc ?_ ?_ _ | refine Below.setCell ?_ ?_ _ | refine Below.drew ?_ | (rw [size_ext]; refine Nat.le_add_right_of_le ?_) | go_size | (rw [World.size_alloc]; refine Nat.le_add_right_of_le ?_))

theorem count_any (xs : List It) (A : Option Addr) (c : Nat) (i : Int) (w : World) (h : Its w A xs) (hn : xs.length ≤ maxLen) :
    Calls Try.prog 29 #[.slice A xs.length c, .int .i64 i] w fun e w' => e = .returned (.tuple #[.int .i64 (if 0 ≤ i then ((xs[i.toNat]?).map It.cnt).getD 0 else 0), .bool (decide (0 ≤ i ∧ i < xs.length))]) ∧ Below w.heap.size w w' := by
  by_cases h0 : i < 0
  · rw [if_neg (by omega), decide_eq_false (by omega)]
    go_enter Try.func29, Try.ntmps29
    go_wp2
    refine bodyPost_ret (by simp [results, Try.results29, go_sem]; first | done | rfl) rfl ?_
    refine ⟨rfl, ?_⟩
    repeat' (first | exact Below.refl _ _ | refine below_ext ?_ ?_ _ | refine Below.alloc ?_ ?_ _ | refine Below.setCell ?_ ?_ _ | refine Below.drew ?_ | (rw [size_ext]; refine Nat.le_add_right_of_le ?_) | go_size | (rw [World.size_alloc]; refine Nat.le_add_right_of_le ?_))
  · obtain ⟨k, rfl⟩ := Int.eq_ofNat_of_zero_le (show 0 ≤ i by omega)
    by_cases h1 : k < xs.length
    · obtain ⟨x, hx⟩ : ∃ s, xs[k]? = some s := ⟨_, List.getElem?_eq_getElem h1⟩
      obtain ⟨b, o, rfl, hb, x0, x1, x2, x3, x4⟩ := its_cells h hx
      have hk : (k : Int) < xs.length := by omega
      have E : (if 0 ≤ (k : Int) then ((xs[(k : Int).toNat]?).map It.cnt).getD 0 else 0) = x.cnt := by
        rw [if_pos (by omega), show (k : Int).toNat = k by omega, hx]
        rfl
      rw [E, decide_eq_true (by omega)]
      unfold It.cnt
      clear E
      by_cases h2 : x.units < 0
      · rw [if_neg (by omega)]
        go_enter Try.func29, Try.ntmps29
        go_wp2
        refine bodyPost_ret (by simp [results, Try.results29, go_sem]; first | done | rfl) rfl ?_
        refine ⟨rfl, ?_⟩
        repeat' (first | exact Below.refl _ _ | refine below_ext ?_ ?_ _ | refine Below.alloc ?_ ?_ _ | refine Below.setCell ?_ ?_ _ | refine Below.drew ?_ | (rw [size_ext]; refine Nat.le_add_right_of_le ?_) | go_size | (rw [World.size_alloc]; refine Nat.le_add_right_of_le ?_))
      · by_cases h3 : 1099511627776 < x.units
        · rw [if_neg (by omega)]
          go_enter Try.func29, Try.ntmps29
          go_wp2
          refine bodyPost_ret (by simp [results, Try.results29, go_sem]; first | done | rfl) rfl ?_
          refine ⟨rfl, ?_⟩
          repeat' (first | exact Below.refl _ _ | refine below_ext ?_ ?_ _ | refine Below.alloc ?_ ?_ _ | refine Below.setCell ?_ ?_ _ | refine Below.drew ?_ | (rw [size_ext]; refine Nat.le_add_right_of_le ?_) | go_size | (rw [World.size_alloc]; refine Nat.le_add_right_of_le ?_))
        · rw [if_pos (by omega)]
          go_enter Try.func29, Try.ntmps29
          go_wp2
          refine bodyPost_ret (by simp [results, Try.results29, go_sem]; first | done | rfl) rfl ?_
          refine ⟨rfl, ?_⟩
          repeat' (first | exact Below.refl _ _ | refine below_ext ?_ ?_ _ | refine Below.alloc ?_ ?_ _ | refine Below.setCell ?_ ?_ _ | refine Below.drew ?_ | (rw [size_ext]; refine Nat.le_add_right_of_le ?_) | go_size | (rw [World.size_alloc]; refine Nat.le_add_right_of_le ?_))
    · have hk : ¬ (k : Int) < xs.length := by omega
      have hx : xs[k]? = none := List.getElem?_eq_none (by omega)
      rw [if_pos (by omega), show (k : Int).toNat = k by omega, hx, decide_eq_false (by omega)]
      go_enter Try.func29, Try.ntmps29
      go_wp2
      refine bodyPost_ret (by simp [results, Try.results29, go_sem]; first | done | rfl) rfl ?_
      refine ⟨rfl, ?_⟩
      repeat' (first | exact Below.refl _ _ | refine below_ext ?_ ?_ _ | refine Below.alloc ?_ ?_ _ | refine Below.setCell ?_ ?_ _ | refine Below.drew ?_ | (rw [size_ext]; refine Nat.le_add_right_of_le ?_) | go_size | (rw [World.size_alloc]; refine Nat.le_add_right_of_le ?_))
end Go.Proofs.Ytclaijheemkegaa

/-
  TopSettle: texts joined (by joint.py).
-/
import Derived.Test.YtmodghiokoiipaaGreatT3

/-!
  The price of units by a ladder.
-/
namespace Go.Proofs.YtmodghiokoiipaaGreat
open Go.RowKit
set_option linter.unusedSimpArgs false
set_option linter.unusedVariables false

def toOf (s : St) (n : Int) : Int := if s.u = 0 then n else min n s.u
def priceL : List St → Int → Int → Int → Option Int
  | [], n, S, F => some S
  | s :: l, n, S, F => if toOf s n ≤ F then some S else if (1125899906842624 - S).tdiv ((toOf s n - F + s.q - 1).tdiv s.q) < s.p then none else priceL l n (S + (toOf s n - F + s.q - 1).tdiv s.q * s.p) (toOf s n)
def stGood (s : St) : Prop := 0 ≤ s.u ∧ s.u ≤ 1099511627776 ∧ 1 ≤ s.q ∧ s.q ≤ 1099511627776 ∧ 0 ≤ s.p ∧ s.p ≤ 1125899906842624
theorem good_of_stL : ∀ (l : List St) (b : Int), stL l b = 0 → ∀ s ∈ l, stGood s
  | s :: l, b, h, x, hx => by
    unfold stL at h
    split at h
    · rename_i h0
      rcases List.mem_cons.1 hx with rfl | hx
      · unfold stE at h0
        split at h0
        · cases h0
        · rename_i hg
          simp only [Bool.not_eq_false, Bool.and_eq_true, decide_eq_true_eq, inB] at hg
          unfold stGood
          omega
      · exact good_of_stL l _ h x hx
    · rename_i h0
      exact absurd h h0
  | [], b, h, x, hx => by cases hx
theorem good_of_stF {l : List St} (h : stF l = 0) : ∀ s ∈ l, stGood s := by
  unfold stF at h
  split at h
  · cases h
  · split at h
    · cases h
    · exact good_of_stL l 0 h
theorem priceL_drop {xs : List St} {k : Nat} {x : St} (hx : xs[k]? = some x) (n S F : Int) : priceL (xs.drop k) n S F = if toOf x n ≤ F then some S else if (1125899906842624 - S).tdiv ((toOf x n - F + x.q - 1).tdiv x.q) < x.p then none else priceL (xs.drop (k + 1)) n (S + (toOf x n - F + x.q - 1).tdiv x.q * x.p) (toOf x n) := by
  have hlt := (List.getElem?_eq_some_iff.1 hx).1
  have hd : xs.drop k = x :: xs.drop (k + 1) := by
    rw [List.drop_eq_getElem_cons hlt]
    have := (List.getElem?_eq_some_iff.1 hx).2
    rw [this]
  rw [hd, priceL]
/-- The blocks of a step. -/
theorem blocks_in {d q : Int} (hd : 1 ≤ d) (hq : 1 ≤ q) (hd2 : d ≤ 1099511627776) : 1 ≤ (d + q - 1).tdiv q ∧ (d + q - 1).tdiv q ≤ 1099511627776 := by
  rw [Int.tdiv_eq_ediv_of_nonneg (by omega)]
  constructor
  · exact Int.le_ediv_of_mul_le (by omega) (by omega)
  · refine Int.ediv_le_of_le_mul (by omega) ?_
    omega
theorem drewN_more (w : World) (k : Nat) : w.drewN k = ext w ⟨[], w.drawn + k⟩ := by simp [World.drewN, ext]
/-- The sum stays an amount. -/
theorem sum_in {r b p : Int} (hr : 0 ≤ r) (hb : 1 ≤ b) (hp : 0 ≤ p) (h : ¬ r.tdiv b < p) : 0 ≤ b * p ∧ b * p ≤ r := by
  rw [Int.tdiv_eq_ediv_of_nonneg hr] at h
  have h1 : p ≤ r / b := by omega
  have h2 : p * b ≤ r := Int.mul_le_of_le_ediv (by omega) h1
  rw [Int.mul_comm] at h2
  exact ⟨Int.mul_nonneg (by omega) hp, h2⟩
set_option maxRecDepth 100000 in
set_option maxHeartbeats 4000000 in
theorem price_any (xs : List St) (A : Option Addr) (c : Nat) (n : Int) (w : World) (h : Sts w A xs) (hm : xs.length ≤ 64) (hg : ∀ s ∈ xs, stGood s) (hn0 : 0 ≤ n) (hn1 : n ≤ 1099511627776) :
    Calls Tryz.prog 57 #[.slice A xs.length c, .int .i64 n] w fun e w' => e = .returned (.tuple #[.int .i64 ((priceL xs n 0 0).getD 0), .bool (priceL xs n 0 0).isSome]) ∧ Below w.heap.size w w' := by
  have H := Lib.hid h
  have G := Lib.hid hg
  clear h hg
  go_enter Tryz.func57, Tryz.ntmps57
  go_wp2
  go_loopw [6, 7, 14] (fun sm fr i wr => ∃ (k : Nat) (S F : Int), k ≤ xs.length ∧ i = .int .i64 k ∧ sm = .int .i64 S ∧ fr = .int .i64 F ∧ 0 ≤ S ∧ S ≤ 1125899906842624 ∧ 0 ≤ F ∧ F ≤ n ∧ Hid (priceL xs n 0 0 = priceL (xs.drop k) n S F) ∧ Below w.heap.size w wr) (fun _ _ i _ => xs.length - (intOf i).toNat)
  case atStart => exact ⟨0, 0, 0, Nat.zero_le _, rfl, rfl, rfl, by omega, by omega, by omega, by omega, rfl, Below.refl _ _⟩
  case round =>
    obtain ⟨k, S, F, hk, rfl, rfl, rfl, s0, s1, f0, f1, he, hbw⟩ := hrel
    have HB := Lib.hid hbw
    by_cases hlt : k < xs.length
    · obtain ⟨x, hx⟩ : ∃ s, xs[k]? = some s := ⟨_, List.getElem?_eq_getElem hlt⟩
      obtain ⟨B, o, rfl, hB, x0, x1, x2⟩ := sts_cells (H.out.below hbw) hx
      have hs := Lib.hid (he.out.trans (priceL_drop hx n S F))
      obtain ⟨g1, g2, g3, g4, g5, g6⟩ := G.out x (List.mem_of_getElem? hx)
      clear hbw hx he
      obtain ⟨u, q, p⟩ := x
      dsimp only at x0 x1 x2 g1 g2 g3 g4 g5 g6
      unfold toOf at hs
      dsimp only at hs
      by_cases hu : u = 0
      · subst hu
        rw [if_pos rfl] at hs
        by_cases hF : n ≤ F
        · rw [if_pos hF] at hs
          have hr := Lib.hid hs
          clear hs
          go_wp2
          refine bodyPost_ret (by simp [results, Tryz.results57, go_sem]; first | done | rfl) rfl ?_
          exact ⟨by rw [hr.out]; rfl, by repeat' (first | with_reducible exact HB.out | with_reducible exact Below.refl _ _ | with_reducible refine below_ext ?_ ?_ _ | with_reducible refine Below.alloc ?_ ?_ _ | with_reducible refine Below.setCell ?_ ?_ _ | with_reducible refine Below.drew ?_ | (have := HB.out.size; simp only [size_ext, World.size_alloc, World.size_setCell, World.size_drew]; omega) | exact Nat.le_trans HB.out.size (by go_size) | (have := HB.out.size; simp; omega) | (have := HB.out.size; simp [go_sem]; omega) | (have := HB.out.size; simp [go_sem]; done) | (simp; done) | omega)⟩
        · rw [if_neg hF] at hs
          obtain ⟨b0, b1⟩ := blocks_in (d := n - F) (q := q) (by omega) g3 (by omega)
          have hq0 : (q == 0) = false := by simp; omega
          generalize hbk : (n - F + q - 1).tdiv q = bk at b0 b1 hs
          have hbk0 : (bk == 0) = false := by simp; omega
          by_cases hP : (1125899906842624 - S).tdiv bk < p
          · have hP2 : (1125899906842624 - S) / bk < p := by rwa [Int.tdiv_eq_ediv_of_nonneg (by omega)] at hP
            rw [if_pos hP] at hs
            have hr := Lib.hid hs
            clear hs
            go_wp2
            go_quiet (fail)
            rw [drewN_more]
            go_wp2
            refine bodyPost_ret (by simp [results, Tryz.results57, go_sem]; first | done | rfl) rfl ?_
            exact ⟨by rw [hr.out]; rfl, by repeat' (first | with_reducible exact HB.out | with_reducible exact Below.refl _ _ | with_reducible refine below_ext ?_ ?_ _ | with_reducible refine Below.alloc ?_ ?_ _ | with_reducible refine Below.setCell ?_ ?_ _ | with_reducible refine Below.drew ?_ | (have := HB.out.size; simp only [size_ext, World.size_alloc, World.size_setCell, World.size_drew]; omega) | exact Nat.le_trans HB.out.size (by go_size) | (have := HB.out.size; simp; omega) | (have := HB.out.size; simp [go_sem]; omega) | (have := HB.out.size; simp [go_sem]; done) | (simp; done) | omega)⟩
          · have hP2 : ¬ (1125899906842624 - S) / bk < p := by rwa [Int.tdiv_eq_ediv_of_nonneg (by omega)] at hP
            rw [if_neg hP] at hs
            obtain ⟨c0, c1⟩ := sum_in (by omega) b0 g5 hP
            have hr := Lib.hid hs
            clear hs
            go_wp2
            go_quiet (fail)
            rw [drewN_more]
            go_wp2
            go_roundw
            case rel => exact ⟨k + 1, _, _, by omega, by go_num, rfl, rfl, by omega, by omega, by omega, by omega, hr.out, by repeat' (first | with_reducible exact HB.out | with_reducible exact Below.refl _ _ | with_reducible refine below_ext ?_ ?_ _ | with_reducible refine Below.alloc ?_ ?_ _ | with_reducible refine Below.setCell ?_ ?_ _ | with_reducible refine Below.drew ?_ | (have := HB.out.size; simp only [size_ext, World.size_alloc, World.size_setCell, World.size_drew]; omega) | exact Nat.le_trans HB.out.size (by go_size) | (have := HB.out.size; simp; omega) | (have := HB.out.size; simp [go_sem]; omega) | (have := HB.out.size; simp [go_sem]; done) | (simp; done) | omega)⟩
            case measure => simp [intOf]; omega
      · rw [if_neg hu] at hs
        have hu' : (u == 0) = false := by simpa using hu
        by_cases hnu : n ≤ u
        · rw [Int.min_eq_left hnu] at hs
          by_cases hF : n ≤ F
          · rw [if_pos hF] at hs
            have hr := Lib.hid hs
            clear hs
            go_wp2
            refine bodyPost_ret (by simp [results, Tryz.results57, go_sem]; first | done | rfl) rfl ?_
            exact ⟨by rw [hr.out]; rfl, by repeat' (first | with_reducible exact HB.out | with_reducible exact Below.refl _ _ | with_reducible refine below_ext ?_ ?_ _ | with_reducible refine Below.alloc ?_ ?_ _ | with_reducible refine Below.setCell ?_ ?_ _ | with_reducible refine Below.drew ?_ | (have := HB.out.size; simp only [size_ext, World.size_alloc, World.size_setCell, World.size_drew]; omega) | exact Nat.le_trans HB.out.size (by go_size) | (have := HB.out.size; simp; omega) | (have := HB.out.size; simp [go_sem]; omega) | (have := HB.out.size; simp [go_sem]; done) | (simp; done) | omega)⟩
          · rw [if_neg hF] at hs
            obtain ⟨b0, b1⟩ := blocks_in (d := n - F) (q := q) (by omega) g3 (by omega)
            have hq0 : (q == 0) = false := by simp; omega
            generalize hbk : (n - F + q - 1).tdiv q = bk at b0 b1 hs
            have hbk0 : (bk == 0) = false := by simp; omega
            by_cases hP : (1125899906842624 - S).tdiv bk < p
            · have hP2 : (1125899906842624 - S) / bk < p := by rwa [Int.tdiv_eq_ediv_of_nonneg (by omega)] at hP
              rw [if_pos hP] at hs
              have hr := Lib.hid hs
              clear hs
              go_wp2
              go_quiet (fail)
              rw [drewN_more]
              go_wp2
              refine bodyPost_ret (by simp [results, Tryz.results57, go_sem]; first | done | rfl) rfl ?_
              exact ⟨by rw [hr.out]; rfl, by repeat' (first | with_reducible exact HB.out | with_reducible exact Below.refl _ _ | with_reducible refine below_ext ?_ ?_ _ | with_reducible refine Below.alloc ?_ ?_ _ | with_reducible refine Below.setCell ?_ ?_ _ | with_reducible refine Below.drew ?_ | (have := HB.out.size; simp only [size_ext, World.size_alloc, World.size_setCell, World.size_drew]; omega) | exact Nat.le_trans HB.out.size (by go_size) | (have := HB.out.size; simp; omega) | (have := HB.out.size; simp [go_sem]; omega) | (have := HB.out.size; simp [go_sem]; done) | (simp; done) | omega)⟩
            · have hP2 : ¬ (1125899906842624 - S) / bk < p := by rwa [Int.tdiv_eq_ediv_of_nonneg (by omega)] at hP
              rw [if_neg hP] at hs
              obtain ⟨c0, c1⟩ := sum_in (by omega) b0 g5 hP
              have hr := Lib.hid hs
              clear hs
              go_wp2
              go_quiet (fail)
              rw [drewN_more]
              go_wp2
              go_roundw
              case rel => exact ⟨k + 1, _, _, by omega, by go_num, rfl, rfl, by omega, by omega, by omega, by omega, hr.out, by repeat' (first | with_reducible exact HB.out | with_reducible exact Below.refl _ _ | with_reducible refine below_ext ?_ ?_ _ | with_reducible refine Below.alloc ?_ ?_ _ | with_reducible refine Below.setCell ?_ ?_ _ | with_reducible refine Below.drew ?_ | (have := HB.out.size; simp only [size_ext, World.size_alloc, World.size_setCell, World.size_drew]; omega) | exact Nat.le_trans HB.out.size (by go_size) | (have := HB.out.size; simp; omega) | (have := HB.out.size; simp [go_sem]; omega) | (have := HB.out.size; simp [go_sem]; done) | (simp; done) | omega)⟩
              case measure => simp [intOf]; omega
        · rw [Int.min_eq_right (by omega)] at hs
          have hun : u < n := by omega
          clear hnu
          by_cases hF : u ≤ F
          · rw [if_pos hF] at hs
            have hr := Lib.hid hs
            clear hs
            go_wp2
            refine bodyPost_ret (by simp [results, Tryz.results57, go_sem]; first | done | rfl) rfl ?_
            exact ⟨by rw [hr.out]; rfl, by repeat' (first | with_reducible exact HB.out | with_reducible exact Below.refl _ _ | with_reducible refine below_ext ?_ ?_ _ | with_reducible refine Below.alloc ?_ ?_ _ | with_reducible refine Below.setCell ?_ ?_ _ | with_reducible refine Below.drew ?_ | (have := HB.out.size; simp only [size_ext, World.size_alloc, World.size_setCell, World.size_drew]; omega) | exact Nat.le_trans HB.out.size (by go_size) | (have := HB.out.size; simp; omega) | (have := HB.out.size; simp [go_sem]; omega) | (have := HB.out.size; simp [go_sem]; done) | (simp; done) | omega)⟩
          · rw [if_neg hF] at hs
            obtain ⟨b0, b1⟩ := blocks_in (d := u - F) (q := q) (by omega) g3 (by omega)
            have hq0 : (q == 0) = false := by simp; omega
            generalize hbk : (u - F + q - 1).tdiv q = bk at b0 b1 hs
            have hbk0 : (bk == 0) = false := by simp; omega
            by_cases hP : (1125899906842624 - S).tdiv bk < p
            · have hP2 : (1125899906842624 - S) / bk < p := by rwa [Int.tdiv_eq_ediv_of_nonneg (by omega)] at hP
              rw [if_pos hP] at hs
              have hr := Lib.hid hs
              clear hs
              go_wp2
              go_quiet (fail)
              rw [drewN_more]
              go_wp2
              refine bodyPost_ret (by simp [results, Tryz.results57, go_sem]; first | done | rfl) rfl ?_
              exact ⟨by rw [hr.out]; rfl, by repeat' (first | with_reducible exact HB.out | with_reducible exact Below.refl _ _ | with_reducible refine below_ext ?_ ?_ _ | with_reducible refine Below.alloc ?_ ?_ _ | with_reducible refine Below.setCell ?_ ?_ _ | with_reducible refine Below.drew ?_ | (have := HB.out.size; simp only [size_ext, World.size_alloc, World.size_setCell, World.size_drew]; omega) | exact Nat.le_trans HB.out.size (by go_size) | (have := HB.out.size; simp; omega) | (have := HB.out.size; simp [go_sem]; omega) | (have := HB.out.size; simp [go_sem]; done) | (simp; done) | omega)⟩
            · have hP2 : ¬ (1125899906842624 - S) / bk < p := by rwa [Int.tdiv_eq_ediv_of_nonneg (by omega)] at hP
              rw [if_neg hP] at hs
              obtain ⟨c0, c1⟩ := sum_in (by omega) b0 g5 hP
              have hr := Lib.hid hs
              clear hs
              go_wp2
              go_quiet (fail)
              rw [drewN_more]
              go_wp2
              go_roundw
              case rel => exact ⟨k + 1, _, _, by omega, by go_num, rfl, rfl, by omega, by omega, by omega, by omega, hr.out, by repeat' (first | with_reducible exact HB.out | with_reducible exact Below.refl _ _ | with_reducible refine below_ext ?_ ?_ _ | with_reducible refine Below.alloc ?_ ?_ _ | with_reducible refine Below.setCell ?_ ?_ _ | with_reducible refine Below.drew ?_ | (have := HB.out.size; simp only [size_ext, World.size_alloc, World.size_setCell, World.size_drew]; omega) | exact Nat.le_trans HB.out.size (by go_size) | (have := HB.out.size; simp; omega) | (have := HB.out.size; simp [go_sem]; omega) | (have := HB.out.size; simp [go_sem]; done) | (simp; done) | omega)⟩
              case measure => simp [intOf]; omega
    · obtain rfl : k = xs.length := by omega
      have hr : Hid (priceL xs n 0 0 = some S) := by rw [Hid, he.out, List.drop_length]; rfl
      clear hbw he
      go_wp2
      refine bodyPost_ret (by simp [results, Tryz.results57, go_sem]; first | done | rfl) rfl ?_
      exact ⟨by rw [hr.out]; rfl, HB.out⟩
end Go.Proofs.YtmodghiokoiipaaGreat

/-!
  The price of an agreement.
-/
namespace Go.Proofs.YtmodghiokoiipaaGreat
open Go.RowKit
set_option linter.unusedSimpArgs false
set_option linter.unusedVariables false

theorem priceL_in : ∀ (l : List St) (n S F a : Int), (∀ s ∈ l, stGood s) → 0 ≤ S → S ≤ 1125899906842624 → 0 ≤ F → n ≤ 1099511627776 → priceL l n S F = some a → 0 ≤ a ∧ a ≤ 1125899906842624
  | [], n, S, F, a, hg, s0, s1, f0, hn, h => by
    cases h
    omega
  | s :: l, n, S, F, a, hg, s0, s1, f0, hn, h => by
    unfold priceL at h
    obtain ⟨g1, g2, g3, g4, g5, g6⟩ := hg s List.mem_cons_self
    split at h
    · cases h
      omega
    · rename_i hF
      split at h
      · cases h
      · rename_i hP
        have ht : toOf s n ≤ 1099511627776 := by
          unfold toOf
          split
          · omega
          · have := Int.min_le_left n s.u
            omega
        obtain ⟨b0, b1⟩ := blocks_in (d := toOf s n - F) (q := s.q) (by omega) g3 (by omega)
        obtain ⟨c0, c1⟩ := sum_in (by omega) b0 g5 hP
        exact priceL_in l n _ _ a (fun x hx => hg x (List.mem_cons_of_mem _ hx)) (by omega) (by omega) (by omega) hn h
def ladF (l : List St) (n : Int) : Int × Int := if stF l ≠ 0 then (0, 8) else if n < 0 ∨ 1099511627776 < n then (0, 6) else match priceL l n 0 0 with
  | none => (0, 6)
  | some a => (a, 0)
theorem ladF_in (l : List St) (n : Int) : 0 ≤ (ladF l n).1 ∧ (ladF l n).1 ≤ 1125899906842624 := by
  unfold ladF
  split
  · exact ⟨by decide, by decide⟩
  · rename_i h1
    split
    · exact ⟨by decide, by decide⟩
    · rename_i h2
      split
      · exact ⟨by decide, by decide⟩
      · rename_i a ha
        exact priceL_in l n 0 0 a (good_of_stF (by simpa using h1)) (by omega) (by omega) (by omega) (by omega) ha
set_option maxRecDepth 100000 in
set_option maxHeartbeats 2000000 in
theorem ladder_any (xs : List St) (A : Option Addr) (c : Nat) (n : Int) (w : World) (h : Sts w A xs) (hm : xs.length ≤ maxLen) :
    Calls Tryz.prog 48 #[.slice A xs.length c, .int .i64 n] w fun e w' => e = .returned (.tuple #[.int .i64 (ladF xs n).1, .int .i64 (ladF xs n).2]) ∧ Below w.heap.size w w' := by
  have H := Lib.hid h
  clear h
  by_cases h1 : stF xs = 0
  · have h1' : (stF xs == 0) = true := by simpa using h1
    by_cases h2 : n < 0 ∨ 1099511627776 < n
    · have hE : ladF xs n = (0, 6) := by unfold ladF; rw [if_neg (by simpa using h1), if_pos h2]
      rw [hE]
      clear hE
      have HS := Lib.hid (steps_any xs A c w H.out hm)
      rw [h1] at HS
      clear h1
      rcases h2 with h2 | h2
      all_goals
        go_enter Tryz.func48, Tryz.ntmps48
        go_wp2_with (go_at_call 44; (with_reducible refine HS.out.mono ?_); rintro e w1 ⟨rfl, hb⟩; obtain ⟨s, rfl⟩ := ext_of_below hb; clear hb)
        refine bodyPost_ret (by simp [results, Tryz.results48, go_sem]; first | done | rfl) rfl ?_
        refine ⟨rfl, ?_⟩
        repeat' (first | exact Below.refl _ _ | refine below_ext ?_ ?_ _ | refine Below.alloc ?_ ?_ _ | refine Below.setCell ?_ ?_ _ | refine Below.drew ?_ | (rw [size_ext]; refine Nat.le_add_right_of_le ?_) | go_size | (rw [World.size_alloc]; refine Nat.le_add_right_of_le ?_))
    · have h3 : 0 ≤ n := by omega
      have h4 : n ≤ 1099511627776 := by omega
      have hl : xs.length ≤ 64 := by
        unfold stF at h1
        split at h1
        · cases h1
        · split at h1
          · cases h1
          · omega
      have HP := Lib.hid (fun W (hb : Below w.heap.size w W) => price_any xs A c n W (H.out.below hb) hl (good_of_stF h1) h3 h4)
      have HS := Lib.hid (steps_any xs A c w H.out hm)
      cases hp : priceL xs n 0 0 with
      | none =>
        have hE : ladF xs n = (0, 6) := by unfold ladF; rw [if_neg (by simpa using h1), if_neg h2, hp]
        rw [hE]
        rw [hp] at HP
        rw [h1] at HS
        clear hE h2 h1
        go_enter Tryz.func48, Tryz.ntmps48
        go_wp2_with (first
          | (go_at_call 44; (with_reducible refine HS.out.mono ?_); rintro e w1 ⟨rfl, hb⟩; obtain ⟨s, rfl⟩ := ext_of_below hb; clear hb)
          | (go_at_call 57; (with_reducible refine (HP.out _ ?_).mono ?_); (· repeat' (first | exact Below.refl _ _ | refine below_ext ?_ ?_ _ | refine Below.alloc ?_ ?_ _ | refine Below.setCell ?_ ?_ _ | refine Below.drew ?_ | (rw [size_ext]; refine Nat.le_add_right_of_le ?_) | go_size | (rw [World.size_alloc]; refine Nat.le_add_right_of_le ?_))); rintro e w1 ⟨rfl, hb⟩; obtain ⟨s, rfl⟩ := ext_of_below hb; clear hb))
        refine bodyPost_ret (by simp [results, Tryz.results48, go_sem]; first | done | rfl) rfl ?_
        refine ⟨rfl, ?_⟩
        repeat' (first | exact Below.refl _ _ | refine below_ext ?_ ?_ _ | refine Below.alloc ?_ ?_ _ | refine Below.setCell ?_ ?_ _ | refine Below.drew ?_ | (rw [size_ext]; refine Nat.le_add_right_of_le ?_) | go_size | (rw [World.size_alloc]; refine Nat.le_add_right_of_le ?_))
      | some a =>
        have hE : ladF xs n = (a, 0) := by unfold ladF; rw [if_neg (by simpa using h1), if_neg h2, hp]
        rw [hE]
        rw [hp] at HP
        rw [h1] at HS
        clear hE h2 h1
        go_enter Tryz.func48, Tryz.ntmps48
        go_wp2_with (first
          | (go_at_call 44; (with_reducible refine HS.out.mono ?_); rintro e w1 ⟨rfl, hb⟩; obtain ⟨s, rfl⟩ := ext_of_below hb; clear hb)
          | (go_at_call 57; (with_reducible refine (HP.out _ ?_).mono ?_); (· repeat' (first | exact Below.refl _ _ | refine below_ext ?_ ?_ _ | refine Below.alloc ?_ ?_ _ | refine Below.setCell ?_ ?_ _ | refine Below.drew ?_ | (rw [size_ext]; refine Nat.le_add_right_of_le ?_) | go_size | (rw [World.size_alloc]; refine Nat.le_add_right_of_le ?_))); rintro e w1 ⟨rfl, hb⟩; obtain ⟨s, rfl⟩ := ext_of_below hb; clear hb))
        refine bodyPost_ret (by simp [results, Tryz.results48, go_sem]; first | done | rfl) rfl ?_
        refine ⟨rfl, ?_⟩
        repeat' (first | exact Below.refl _ _ | refine below_ext ?_ ?_ _ | refine Below.alloc ?_ ?_ _ | refine Below.setCell ?_ ?_ _ | refine Below.drew ?_ | (rw [size_ext]; refine Nat.le_add_right_of_le ?_) | go_size | (rw [World.size_alloc]; refine Nat.le_add_right_of_le ?_))
  · have hE : ladF xs n = (0, 8) := by unfold ladF; rw [if_pos (by simpa using h1)]
    rw [hE]
    have h1' : (stF xs == 0) = false := by simpa using h1
    have HS := Lib.hid (steps_any xs A c w H.out hm)
    clear hE h1
    go_enter Tryz.func48, Tryz.ntmps48
    go_wp2_with (go_at_call 44; (with_reducible refine HS.out.mono ?_); rintro e w1 ⟨rfl, hb⟩; obtain ⟨s, rfl⟩ := ext_of_below hb; clear hb)
    refine bodyPost_ret (by simp [results, Tryz.results48, go_sem]; first | done | rfl) rfl ?_
    refine ⟨rfl, ?_⟩
    repeat' (first | exact Below.refl _ _ | refine below_ext ?_ ?_ _ | refine Below.alloc ?_ ?_ _ | refine Below.setCell ?_ ?_ _ | refine Below.drew ?_ | (rw [size_ext]; refine Nat.le_add_right_of_le ?_) | go_size | (rw [World.size_alloc]; refine Nat.le_add_right_of_le ?_))
end Go.Proofs.YtmodghiokoiipaaGreat

/-!
  The price of an agreement, with its cap.
-/
namespace Go.Proofs.YtmodghiokoiipaaGreat
open Go.RowKit
set_option linter.unusedSimpArgs false
set_option linter.unusedVariables false

def capF (st : List St) (cap n : Int) : Int × Int := (if cap = 0 then (ladF st n).1 else min (ladF st n).1 cap, (ladF st n).2)
set_option maxRecDepth 100000 in
set_option maxHeartbeats 2000000 in
theorem capped_any (p k : Int) (ib : Bool) (f t : Int) (A : Option Addr) (c : Nat) (st : List St) (cap n : Int) (w : World) (h : Sts w A st) (hm : st.length ≤ maxLen) :
    Calls Tryz.prog 36 #[.agg #[.int .i64 p, .int .i64 k, .bool ib, .int .i64 f, .int .i64 t, .slice A st.length c, .int .i64 cap], .int .i64 n] w fun e w' => e = .returned (.tuple #[.int .i64 (capF st cap n).1, .int .i64 (capF st cap n).2]) ∧ Below w.heap.size w w' := by
  have HL := Lib.hid (fun W (hb : Below w.heap.size w W) => ladder_any st A c n W (h.below hb) hm)
  clear h
  unfold capF
  dsimp only
  generalize ladF st n = r at HL ⊢
  obtain ⟨a, e⟩ := r
  dsimp only at HL ⊢
  by_cases h0 : cap = 0
  · subst h0
    rw [if_pos rfl]
    go_enter Tryz.func36, Tryz.ntmps36
    go_wp2_with (go_at_call 48; (with_reducible refine (HL.out _ ?_).mono ?_); (· repeat' (first | exact Below.refl _ _ | refine below_ext ?_ ?_ _ | refine Below.alloc ?_ ?_ _ | refine Below.setCell ?_ ?_ _ | refine Below.drew ?_ | (rw [size_ext]; refine Nat.le_add_right_of_le ?_) | go_size | (rw [World.size_alloc]; refine Nat.le_add_right_of_le ?_))); rintro e w1 ⟨rfl, hb⟩; obtain ⟨s, rfl⟩ := ext_of_below hb; clear hb)
    refine bodyPost_ret (by simp [results, Tryz.results36, go_sem]; first | done | rfl) rfl ?_
    refine ⟨rfl, ?_⟩
    repeat' (first | exact Below.refl _ _ | refine below_ext ?_ ?_ _ | refine Below.alloc ?_ ?_ _ | refine Below.setCell ?_ ?_ _ | refine Below.drew ?_ | (rw [size_ext]; refine Nat.le_add_right_of_le ?_) | go_size | (rw [World.size_alloc]; refine Nat.le_add_right_of_le ?_))
  · rw [if_neg h0]
    have h0' : (cap == 0) = false := by simpa using h0
    clear h0
    by_cases h1 : a ≤ cap
    · rw [Int.min_eq_left h1]
      go_enter Tryz.func36, Tryz.ntmps36
      go_wp2_with (go_at_call 48; (with_reducible refine (HL.out _ ?_).mono ?_); (· repeat' (first | exact Below.refl _ _ | refine below_ext ?_ ?_ _ | refine Below.alloc ?_ ?_ _ | refine Below.setCell ?_ ?_ _ | refine Below.drew ?_ | (rw [size_ext]; refine Nat.le_add_right_of_le ?_) | go_size | (rw [World.size_alloc]; refine Nat.le_add_right_of_le ?_))); rintro e w1 ⟨rfl, hb⟩; obtain ⟨s, rfl⟩ := ext_of_below hb; clear hb)
      refine bodyPost_ret (by simp [results, Tryz.results36, go_sem]; first | done | rfl) rfl ?_
      refine ⟨rfl, ?_⟩
      repeat' (first | exact Below.refl _ _ | refine below_ext ?_ ?_ _ | refine Below.alloc ?_ ?_ _ | refine Below.setCell ?_ ?_ _ | refine Below.drew ?_ | (rw [size_ext]; refine Nat.le_add_right_of_le ?_) | go_size | (rw [World.size_alloc]; refine Nat.le_add_right_of_le ?_))
    · rw [Int.min_eq_right (by omega)]
      go_enter Tryz.func36, Tryz.ntmps36
      go_wp2_with (go_at_call 48; (with_reducible refine (HL.out _ ?_).mono ?_); (· repeat' (first | exact Below.refl _ _ | refine below_ext ?_ ?_ _ | refine Below.alloc ?_ ?_ _ | refine Below.setCell ?_ ?_ _ | refine Below.drew ?_ | (rw [size_ext]; refine Nat.le_add_right_of_le ?_) | go_size | (rw [World.size_alloc]; refine Nat.le_add_right_of_le ?_))); rintro e w1 ⟨rfl, hb⟩; obtain ⟨s, rfl⟩ := ext_of_below hb; clear hb)
      refine bodyPost_ret (by simp [results, Tryz.results36, go_sem]; first | done | rfl) rfl ?_
      refine ⟨rfl, ?_⟩
      repeat' (first | exact Below.refl _ _ | refine below_ext ?_ ?_ _ | refine Below.alloc ?_ ?_ _ | refine Below.setCell ?_ ?_ _ | refine Below.drew ?_ | (rw [size_ext]; refine Nat.le_add_right_of_le ?_) | go_size | (rw [World.size_alloc]; refine Nat.le_add_right_of_le ?_))
theorem capF_in (st : List St) (cap n : Int) (h0 : 0 ≤ cap) : 0 ≤ (capF st cap n).1 ∧ (capF st cap n).1 ≤ 1125899906842624 ∧ (cap ≠ 0 → (capF st cap n).1 ≤ cap) := by
  obtain ⟨a0, a1⟩ := ladF_in st n
  unfold capF
  dsimp only
  split
  · exact ⟨a0, a1, fun h => absurd (by assumption) h⟩
  · refine ⟨by omega, by omega, fun _ => by omega⟩
/-- The price of n units from none on. -/
def agF (st : List St) (cap n : Int) : Int × Int := if n < 0 ∨ 1099511627776 < n ∨ cap < 0 ∨ 1125899906842624 < cap then (0, 6) else if (capF st cap n).2 ≠ 0 then (0, (capF st cap n).2) else if (capF st cap 0).2 ≠ 0 then (0, (capF st cap 0).2) else ((capF st cap n).1 - (capF st cap 0).1, 0)
set_option maxRecDepth 100000 in
set_option maxHeartbeats 4000000 in
theorem aprice_any (p k : Int) (ib : Bool) (f t : Int) (A : Option Addr) (c : Nat) (st : List St) (cap n : Int) (w : World) (h : Sts w A st) (hm : st.length ≤ maxLen) :
    Calls Tryz.prog 18 #[.agg #[.int .i64 p, .int .i64 k, .bool ib, .int .i64 f, .int .i64 t, .slice A st.length c, .int .i64 cap], .int .i64 0, .int .i64 n] w fun e w' => e = .returned (.tuple #[.int .i64 (agF st cap n).1, .int .i64 (agF st cap n).2]) ∧ Below w.heap.size w w' := by
  have HC := Lib.hid (fun n W (hb : Below w.heap.size w W) => capped_any p k ib f t A c st cap n W (h.below hb) hm)
  clear h
  unfold agF
  by_cases h1 : n < 0 ∨ 1099511627776 < n ∨ cap < 0 ∨ 1125899906842624 < cap
  · rw [if_pos h1]
    by_cases i1 : n < 0
    · clear h1
      go_enter Tryz.func18, Tryz.ntmps18
      go_wp2_with fail
      refine bodyPost_ret (by simp [results, Tryz.results18, go_sem]; first | done | rfl) rfl ?_
      refine ⟨rfl, ?_⟩
      repeat' (first | exact Below.refl _ _ | refine below_ext ?_ ?_ _ | refine Below.alloc ?_ ?_ _ | refine Below.setCell ?_ ?_ _ | refine Below.drew ?_ | (rw [size_ext]; refine Nat.le_add_right_of_le ?_) | go_size | (rw [World.size_alloc]; refine Nat.le_add_right_of_le ?_))
    · by_cases i2 : 1099511627776 < n
      · clear h1
        go_enter Tryz.func18, Tryz.ntmps18
        go_wp2_with fail
        refine bodyPost_ret (by simp [results, Tryz.results18, go_sem]; first | done | rfl) rfl ?_
        refine ⟨rfl, ?_⟩
        repeat' (first | exact Below.refl _ _ | refine below_ext ?_ ?_ _ | refine Below.alloc ?_ ?_ _ | refine Below.setCell ?_ ?_ _ | refine Below.drew ?_ | (rw [size_ext]; refine Nat.le_add_right_of_le ?_) | go_size | (rw [World.size_alloc]; refine Nat.le_add_right_of_le ?_))
      · by_cases i3 : cap < 0
        · clear h1
          go_enter Tryz.func18, Tryz.ntmps18
          go_wp2_with fail
          refine bodyPost_ret (by simp [results, Tryz.results18, go_sem]; first | done | rfl) rfl ?_
          refine ⟨rfl, ?_⟩
          repeat' (first | exact Below.refl _ _ | refine below_ext ?_ ?_ _ | refine Below.alloc ?_ ?_ _ | refine Below.setCell ?_ ?_ _ | refine Below.drew ?_ | (rw [size_ext]; refine Nat.le_add_right_of_le ?_) | go_size | (rw [World.size_alloc]; refine Nat.le_add_right_of_le ?_))
        · have i4 : 1125899906842624 < cap := by omega
          clear h1
          go_enter Tryz.func18, Tryz.ntmps18
          go_wp2_with fail
          refine bodyPost_ret (by simp [results, Tryz.results18, go_sem]; first | done | rfl) rfl ?_
          refine ⟨rfl, ?_⟩
          repeat' (first | exact Below.refl _ _ | refine below_ext ?_ ?_ _ | refine Below.alloc ?_ ?_ _ | refine Below.setCell ?_ ?_ _ | refine Below.drew ?_ | (rw [size_ext]; refine Nat.le_add_right_of_le ?_) | go_size | (rw [World.size_alloc]; refine Nat.le_add_right_of_le ?_))
  · rw [if_neg h1]
    have i1 : 0 ≤ n := by omega
    have i2 : n ≤ 1099511627776 := by omega
    have i3 : 0 ≤ cap := by omega
    have i4 : cap ≤ 1125899906842624 := by omega
    clear h1
    have HC1 := Lib.hid (HC.out n)
    have HC2 := Lib.hid (HC.out 0)
    obtain ⟨a0, a1, _⟩ := capF_in st cap n i3
    obtain ⟨b0, b1, _⟩ := capF_in st cap 0 i3
    clear HC
    generalize capF st cap n = r1 at HC1 a0 a1 ⊢
    generalize capF st cap 0 = r2 at HC2 b0 b1 ⊢
    obtain ⟨a, e1⟩ := r1
    obtain ⟨b, e2⟩ := r2
    dsimp only at HC1 HC2 a0 a1 b0 b1 ⊢
    by_cases j1 : e1 = 0
    · subst j1
      rw [if_neg (by simp)]
      by_cases j2 : e2 = 0
      · subst j2
        rw [if_neg (by simp)]
        go_enter Tryz.func18, Tryz.ntmps18
        go_wp2_with (first
          | (go_at_call 36; (with_reducible refine (HC1.out _ ?_).mono ?_); (· repeat' (first | exact Below.refl _ _ | refine below_ext ?_ ?_ _ | refine Below.alloc ?_ ?_ _ | refine Below.setCell ?_ ?_ _ | refine Below.drew ?_ | (rw [size_ext]; refine Nat.le_add_right_of_le ?_) | go_size | (rw [World.size_alloc]; refine Nat.le_add_right_of_le ?_))); rintro e w1 ⟨rfl, hb⟩; obtain ⟨s, rfl⟩ := ext_of_below hb; clear hb)
          | (go_at_call 36; (with_reducible refine (HC2.out _ ?_).mono ?_); (· repeat' (first | exact Below.refl _ _ | refine below_ext ?_ ?_ _ | refine Below.alloc ?_ ?_ _ | refine Below.setCell ?_ ?_ _ | refine Below.drew ?_ | (rw [size_ext]; refine Nat.le_add_right_of_le ?_) | go_size | (rw [World.size_alloc]; refine Nat.le_add_right_of_le ?_))); rintro e w1 ⟨rfl, hb⟩; obtain ⟨s, rfl⟩ := ext_of_below hb; clear hb))
        refine bodyPost_ret (by simp [results, Tryz.results18, go_sem]; first | done | rfl) rfl ?_
        refine ⟨rfl, ?_⟩
        repeat' (first | exact Below.refl _ _ | refine below_ext ?_ ?_ _ | refine Below.alloc ?_ ?_ _ | refine Below.setCell ?_ ?_ _ | refine Below.drew ?_ | (rw [size_ext]; refine Nat.le_add_right_of_le ?_) | go_size | (rw [World.size_alloc]; refine Nat.le_add_right_of_le ?_))
      · have j2' : (e2 == 0) = false := by simpa using j2
        rw [if_pos j2]
        clear j2
        go_enter Tryz.func18, Tryz.ntmps18
        go_wp2_with (first
          | (go_at_call 36; (with_reducible refine (HC1.out _ ?_).mono ?_); (· repeat' (first | exact Below.refl _ _ | refine below_ext ?_ ?_ _ | refine Below.alloc ?_ ?_ _ | refine Below.setCell ?_ ?_ _ | refine Below.drew ?_ | (rw [size_ext]; refine Nat.le_add_right_of_le ?_) | go_size | (rw [World.size_alloc]; refine Nat.le_add_right_of_le ?_))); rintro e w1 ⟨rfl, hb⟩; obtain ⟨s, rfl⟩ := ext_of_below hb; clear hb)
          | (go_at_call 36; (with_reducible refine (HC2.out _ ?_).mono ?_); (· repeat' (first | exact Below.refl _ _ | refine below_ext ?_ ?_ _ | refine Below.alloc ?_ ?_ _ | refine Below.setCell ?_ ?_ _ | refine Below.drew ?_ | (rw [size_ext]; refine Nat.le_add_right_of_le ?_) | go_size | (rw [World.size_alloc]; refine Nat.le_add_right_of_le ?_))); rintro e w1 ⟨rfl, hb⟩; obtain ⟨s, rfl⟩ := ext_of_below hb; clear hb))
        refine bodyPost_ret (by simp [results, Tryz.results18, go_sem]; first | done | rfl) rfl ?_
        refine ⟨rfl, ?_⟩
        repeat' (first | exact Below.refl _ _ | refine below_ext ?_ ?_ _ | refine Below.alloc ?_ ?_ _ | refine Below.setCell ?_ ?_ _ | refine Below.drew ?_ | (rw [size_ext]; refine Nat.le_add_right_of_le ?_) | go_size | (rw [World.size_alloc]; refine Nat.le_add_right_of_le ?_))
    · have j1' : (e1 == 0) = false := by simpa using j1
      rw [if_pos j1]
      clear j1
      go_enter Tryz.func18, Tryz.ntmps18
      go_wp2_with (first
        | (go_at_call 36; (with_reducible refine (HC1.out _ ?_).mono ?_); (· repeat' (first | exact Below.refl _ _ | refine below_ext ?_ ?_ _ | refine Below.alloc ?_ ?_ _ | refine Below.setCell ?_ ?_ _ | refine Below.drew ?_ | (rw [size_ext]; refine Nat.le_add_right_of_le ?_) | go_size | (rw [World.size_alloc]; refine Nat.le_add_right_of_le ?_))); rintro e w1 ⟨rfl, hb⟩; obtain ⟨s, rfl⟩ := ext_of_below hb; clear hb)
        | (go_at_call 36; (with_reducible refine (HC2.out _ ?_).mono ?_); (· repeat' (first | exact Below.refl _ _ | refine below_ext ?_ ?_ _ | refine Below.alloc ?_ ?_ _ | refine Below.setCell ?_ ?_ _ | refine Below.drew ?_ | (rw [size_ext]; refine Nat.le_add_right_of_le ?_) | go_size | (rw [World.size_alloc]; refine Nat.le_add_right_of_le ?_))); rintro e w1 ⟨rfl, hb⟩; obtain ⟨s, rfl⟩ := ext_of_below hb; clear hb))
      refine bodyPost_ret (by simp [results, Tryz.results18, go_sem]; first | done | rfl) rfl ?_
      refine ⟨rfl, ?_⟩
      repeat' (first | exact Below.refl _ _ | refine below_ext ?_ ?_ _ | refine Below.alloc ?_ ?_ _ | refine Below.setCell ?_ ?_ _ | refine Below.drew ?_ | (rw [size_ext]; refine Nat.le_add_right_of_le ?_) | go_size | (rw [World.size_alloc]; refine Nat.le_add_right_of_le ?_))
end Go.Proofs.YtmodghiokoiipaaGreat

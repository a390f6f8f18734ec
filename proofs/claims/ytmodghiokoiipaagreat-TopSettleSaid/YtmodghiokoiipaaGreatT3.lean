/-
  The checks of a ladder's steps.
-/
import Derived.Test.YtmodghiokoiipaaGreatT2
namespace Go.Proofs.YtmodghiokoiipaaGreat
open Go.RowKit
set_option linter.unusedSimpArgs false
set_option linter.unusedVariables false

/-- Whether numbers are within 0 and m. -/
def inB (m n : Int) : Bool := decide (0 ≤ n ∧ n ≤ m)
theorem within_any (m : Int) (ns : List Int) (b c : Nat) (w : World) (h : ∀ j n, ns[j]? = some n → w.cell? ⟨b, j, none⟩ = some (.int .i64 n)) (hb : b < w.heap.size) (hn : ns.length ≤ 100) :
    Calls Tryz.prog 55 #[.int .i64 m, .slice (some ⟨b, 0, none⟩) ns.length c] w fun e w' => e = .returned (.bool (ns.all (inB m))) ∧ Below w.heap.size w w' := by
  have H := Lib.hid h
  clear h
  go_enter Tryz.func55, Tryz.ntmps55
  go_wp2
  go_loop [9] (fun i => ∃ k : Nat, k ≤ ns.length ∧ i = .int .i64 k ∧ Hid (ns.all (inB m) = (ns.drop k).all (inB m))) (fun i => ns.length - (intOf i).toNat)
  case atStart => exact ⟨0, Nat.zero_le _, rfl, rfl⟩
  case round =>
    obtain ⟨k, hk, rfl, he⟩ := hrel
    by_cases hlt : k < ns.length
    · obtain ⟨x, hx⟩ : ∃ s, ns[k]? = some s := ⟨_, List.getElem?_eq_getElem hlt⟩
      have hc := H.out k x hx
      have hd : Hid (ns.drop k = x :: ns.drop (k + 1)) := by
        rw [List.drop_eq_getElem_cons hlt]
        have := (List.getElem?_eq_some_iff.1 hx).2
        rw [this]
        rfl
      clear hx
      by_cases hin : 0 ≤ x ∧ x ≤ m
      · have hi : Hid (inB m x = true) := by unfold inB; exact decide_eq_true hin
        obtain ⟨i1, i2⟩ := hin
        go_wp2
        go_round
        case rel => exact ⟨k + 1, by omega, by go_num, by rw [Hid, he.out, hd.out, List.all_cons, hi.out, Bool.true_and]⟩
        case measure => simp [intOf]; omega
      · have hi : Hid (ns.all (inB m) = false) := by rw [Hid, he.out, hd.out, List.all_cons, show inB m x = false by unfold inB; exact decide_eq_false hin, Bool.false_and]
        go_wp2
        all_goals first
          | (go_ret; exact ⟨ret_bool hi.out.symm, Below.refl _ _⟩)
          | (exfalso; omega)
    · obtain rfl : k = ns.length := by omega
      have hi : Hid (ns.all (inB m) = true) := by rw [Hid, he.out, List.drop_length]; rfl
      go_wp2
      go_ret
      exact ⟨ret_bool hi.out.symm, Below.refl _ _⟩
/-- The first fault of a step. -/
def stE (s : St) (last : Bool) (b : Int) : Int := if (inB 1099511627776 s.u && inB 1099511627776 s.q && inB 1125899906842624 s.p && decide (s.q ≠ 0)) = false then 6 else if decide (s.u = 0) ≠ last then 8 else if s.u ≠ 0 ∧ s.u ≤ b then 9 else 0
def stL : List St → Int → Int
  | [], _ => 0
  | s :: l, b => if stE s l.isEmpty b = 0 then stL l s.u else stE s l.isEmpty b
def stF (l : List St) : Int := if l.length = 0 then 8 else if 64 < l.length then 5 else stL l 0
theorem stL_drop {xs : List St} {k : Nat} {x : St} (hx : xs[k]? = some x) (b : Int) : stL (xs.drop k) b = if stE x (decide (k + 1 = xs.length)) b = 0 then stL (xs.drop (k + 1)) x.u else stE x (decide (k + 1 = xs.length)) b := by
  have hlt := (List.getElem?_eq_some_iff.1 hx).1
  have hd : xs.drop k = x :: xs.drop (k + 1) := by
    rw [List.drop_eq_getElem_cons hlt]
    have := (List.getElem?_eq_some_iff.1 hx).2
    rw [this]
  have he : (xs.drop (k + 1)).isEmpty = decide (k + 1 = xs.length) := by
    rw [Bool.eq_iff_iff, List.isEmpty_iff, decide_eq_true_eq, List.drop_eq_nil_iff]
    omega
  rw [hd, stL, he]
theorem stE_good {u q p b : Int} {last : Bool} (h : (inB 1099511627776 u && inB 1099511627776 q && inB 1125899906842624 p && decide (q ≠ 0)) = true) : stE ⟨u, q, p⟩ last b = if decide (u = 0) ≠ last then 8 else if u ≠ 0 ∧ u ≤ b then 9 else 0 := by
  unfold stE
  dsimp only
  rw [h, if_neg (by decide)]
theorem lit2 {P : Program} {w : World} {b : Nat} {u q : Int} (h0 : w.cell? ⟨b, 0, none⟩ = some (.int .i64 u)) (h1 : w.cell? ⟨b, 1, none⟩ = some (.int .i64 q)) : ∀ j n, [u, q][j]? = some n → w.cell? ⟨b, j, none⟩ = some (.int .i64 n) := by
  intro j n hj
  match j with
  | 0 => cases hj; exact h0
  | 1 => cases hj; exact h1
  | j + 2 => simp at hj
theorem lit1 {P : Program} {w : World} {b : Nat} {u : Int} (h0 : w.cell? ⟨b, 0, none⟩ = some (.int .i64 u)) : ∀ j n, [u][j]? = some n → w.cell? ⟨b, j, none⟩ = some (.int .i64 n) := by
  intro j n hj
  match j with
  | 0 => cases hj; exact h0
  | j + 1 => simp at hj
theorem within2 (m u q : Int) (b c : Nat) (w : World) (h0 : w.cell? ⟨b, 0, none⟩ = some (.int .i64 u)) (h1 : w.cell? ⟨b, 1, none⟩ = some (.int .i64 q)) (hb : b < w.heap.size) :
    Calls Tryz.prog 55 #[.int .i64 m, .slice (some ⟨b, 0, none⟩) 2 c] w fun e w' => e = .returned (.bool (inB m u && inB m q)) ∧ Below w.heap.size w w' := by
  have := within_any m [u, q] b c w (lit2 (P := Tryz.prog) h0 h1) hb (by simp)
  simpa using this
theorem within1 (m u : Int) (b c : Nat) (w : World) (h0 : w.cell? ⟨b, 0, none⟩ = some (.int .i64 u)) (hb : b < w.heap.size) :
    Calls Tryz.prog 55 #[.int .i64 m, .slice (some ⟨b, 0, none⟩) 1 c] w fun e w' => e = .returned (.bool (inB m u)) ∧ Below w.heap.size w w' := by
  have := within_any m [u] b c w (lit1 (P := Tryz.prog) h0) hb (by simp)
  simpa using this
set_option maxRecDepth 100000 in
set_option maxHeartbeats 4000000 in
theorem steps_any (xs : List St) (A : Option Addr) (c : Nat) (w : World) (h : Sts w A xs) (hm : xs.length ≤ maxLen) :
    Calls Tryz.prog 44 #[.slice A xs.length c] w fun e w' => e = .returned (.int .i64 (stF xs)) ∧ Below w.heap.size w w' := by
  have H := Lib.hid h
  clear h
  unfold stF
  simp only [maxLen] at hm
  by_cases h0 : xs.length = 0
  · rw [if_pos h0]
    go_enter Tryz.func44, Tryz.ntmps44
    go_wp2
    go_ret
    refine ⟨rfl, ?_⟩
    repeat' (first | exact Below.refl _ _ | refine below_ext ?_ ?_ _ | refine Below.alloc ?_ ?_ _ | refine Below.setCell ?_ ?_ _ | refine Below.drew ?_ | (rw [size_ext]; refine Nat.le_add_right_of_le ?_) | go_size | (rw [World.size_alloc]; refine Nat.le_add_right_of_le ?_))
  by_cases h64 : 64 < xs.length
  · rw [if_neg h0, if_pos h64]
    have h64' : (64 : Int) < xs.length := by omega
    go_enter Tryz.func44, Tryz.ntmps44
    go_wp2
    go_ret
    refine ⟨rfl, ?_⟩
    repeat' (first | exact Below.refl _ _ | refine below_ext ?_ ?_ _ | refine Below.alloc ?_ ?_ _ | refine Below.setCell ?_ ?_ _ | refine Below.drew ?_ | (rw [size_ext]; refine Nat.le_add_right_of_le ?_) | go_size | (rw [World.size_alloc]; refine Nat.le_add_right_of_le ?_))
  rw [if_neg h0, if_neg h64]
  have h64' : ¬ (64 : Int) < xs.length := by omega
  go_enter Tryz.func44, Tryz.ntmps44
  go_wp2
  go_loopw [3, 14] (fun bf i wr => ∃ (k : Nat) (b : Int), k ≤ xs.length ∧ i = .int .i64 k ∧ bf = .int .i64 b ∧ Hid (stL xs 0 = stL (xs.drop k) b) ∧ Below w.heap.size w wr) (fun _ i _ => xs.length - (intOf i).toNat)
  case atStart => exact ⟨0, 0, Nat.zero_le _, rfl, rfl, rfl, Below.refl _ _⟩
  case round =>
    obtain ⟨k, b, hk, rfl, rfl, he, hbw⟩ := hrel
    have HB := Lib.hid hbw
    by_cases hlt : k < xs.length
    · obtain ⟨x, hx⟩ : ∃ s, xs[k]? = some s := ⟨_, List.getElem?_eq_getElem hlt⟩
      obtain ⟨B, o, rfl, hB, x0, x1, x2⟩ := sts_cells (H.out.below hbw) hx
      have hs : Hid (stL xs 0 = if stE x (decide (k + 1 = xs.length)) b = 0 then stL (xs.drop (k + 1)) x.u else stE x (decide (k + 1 = xs.length)) b) := he.out.trans (stL_drop hx b)
      clear hbw hx he
      obtain ⟨xu, xq, xp⟩ := x
      dsimp only at x0 x1 x2
      by_cases g1 : (inB 1099511627776 xu && inB 1099511627776 xq) = true
      · by_cases g2 : xq = 0
        · have hr : Hid (stL xs 0 = 6) := by
            have e : stE ⟨xu, xq, xp⟩ (decide (k + 1 = xs.length)) b = 6 := by unfold stE; rw [if_pos (by simp [g2])]
            have := hs.out
            rw [e, if_neg (by decide)] at this
            exact this
          clear hs
          have g2' : (xq == 0) = true := by simpa using g2
          clear g2
          go_wp2_with (go_at_call 55; (with_reducible refine (within2 _ xu xq _ _ _ ?_ ?_ ?_).mono ?_); (· simp [go_sem]); (· simp [go_sem]); (· simp [go_sem]); rw [g1]; rintro e w1 ⟨rfl, hb⟩; obtain ⟨s, rfl⟩ := ext_of_below hb; clear hb)
          go_ret
          exact ⟨ret_int hr.out.symm, by repeat' (first | with_reducible exact HB.out | with_reducible exact Below.refl _ _ | with_reducible refine below_ext ?_ ?_ _ | with_reducible refine Below.alloc ?_ ?_ _ | with_reducible refine Below.setCell ?_ ?_ _ | with_reducible refine Below.drew ?_ | (have := HB.out.size; simp only [size_ext, World.size_alloc, World.size_setCell, World.size_drew]; omega) | exact Nat.le_trans HB.out.size (by go_size) | (have := HB.out.size; simp; omega) | (have := HB.out.size; simp [go_sem]; omega) | (have := HB.out.size; simp [go_sem]; done) | (simp; done) | omega)⟩
        · have g2' : (xq == 0) = false := by simpa using g2
          by_cases g3 : inB 1125899906842624 xp = true
          · have hg : (inB 1099511627776 xu && inB 1099511627776 xq && inB 1125899906842624 xp && decide (xq ≠ 0)) = true := by rw [g1, g3]; simp [g2]
            have HE := Lib.hid (stE_good (last := decide (k + 1 = xs.length)) (b := b) hg)
            clear hg
            by_cases g4 : xu = 0
            · subst g4
              by_cases g5 : k + 1 = xs.length
              · have g5' : ((k : Int) == (xs.length : Int) - 1) = true := by simp; omega
                have hr : Hid (stL xs 0 = stL (xs.drop (k + 1)) 0) := by
                  have e := HE.out
                  rw [decide_eq_true (rfl : (0 : Int) = 0), decide_eq_true g5, if_neg (by decide), if_neg (fun x => x.1 rfl)] at e
                  have := hs.out
                  rw [decide_eq_true g5, e, if_pos rfl] at this
                  exact this
                clear hs HE
                go_wp2_with (first
                  | (go_at_call 55; (with_reducible refine (within2 _ 0 xq _ _ _ ?_ ?_ ?_).mono ?_); (· simp [go_sem]); (· simp [go_sem]); (· simp [go_sem]); rw [g1]; rintro e w1 ⟨rfl, hb⟩; obtain ⟨s, rfl⟩ := ext_of_below hb; clear hb)
                  | (go_at_call 55; (with_reducible refine (within1 _ xp _ _ _ ?_ ?_).mono ?_); (· simp [go_sem]); (· simp [go_sem]); rw [g3]; rintro e w1 ⟨rfl, hb⟩; obtain ⟨s, rfl⟩ := ext_of_below hb; clear hb))
                go_roundw
                case rel => exact ⟨k + 1, _, by omega, by go_num, rfl, hr.out, by repeat' (first | with_reducible exact HB.out | with_reducible exact Below.refl _ _ | with_reducible refine below_ext ?_ ?_ _ | with_reducible refine Below.alloc ?_ ?_ _ | with_reducible refine Below.setCell ?_ ?_ _ | with_reducible refine Below.drew ?_ | (have := HB.out.size; simp only [size_ext, World.size_alloc, World.size_setCell, World.size_drew]; omega) | exact Nat.le_trans HB.out.size (by go_size) | (have := HB.out.size; simp; omega) | (have := HB.out.size; simp [go_sem]; omega) | (have := HB.out.size; simp [go_sem]; done) | (simp; done) | omega)⟩
                case measure => simp [intOf]; omega
              · have g5' : ((k : Int) == (xs.length : Int) - 1) = false := by simp; omega
                have hr : Hid (stL xs 0 = 8) := by
                  have e := HE.out
                  first
                    | rw [decide_eq_true (rfl : (0 : Int) = 0), decide_eq_false g5, if_pos (by decide)] at e
                    | rw [decide_eq_true (rfl : (0 : Int) = 0), decide_eq_true g5, if_pos (by decide)] at e
                  have := hs.out
                  first
                    | rw [decide_eq_true g5, e, if_neg (by decide)] at this
                    | rw [decide_eq_false g5, e, if_neg (by decide)] at this
                  exact this
                clear hs HE
                go_wp2_with (first
                  | (go_at_call 55; (with_reducible refine (within2 _ 0 xq _ _ _ ?_ ?_ ?_).mono ?_); (· simp [go_sem]); (· simp [go_sem]); (· simp [go_sem]); rw [g1]; rintro e w1 ⟨rfl, hb⟩; obtain ⟨s, rfl⟩ := ext_of_below hb; clear hb)
                  | (go_at_call 55; (with_reducible refine (within1 _ xp _ _ _ ?_ ?_).mono ?_); (· simp [go_sem]); (· simp [go_sem]); rw [g3]; rintro e w1 ⟨rfl, hb⟩; obtain ⟨s, rfl⟩ := ext_of_below hb; clear hb))
                go_ret
                exact ⟨ret_int hr.out.symm, by repeat' (first | with_reducible exact HB.out | with_reducible exact Below.refl _ _ | with_reducible refine below_ext ?_ ?_ _ | with_reducible refine Below.alloc ?_ ?_ _ | with_reducible refine Below.setCell ?_ ?_ _ | with_reducible refine Below.drew ?_ | (have := HB.out.size; simp only [size_ext, World.size_alloc, World.size_setCell, World.size_drew]; omega) | exact Nat.le_trans HB.out.size (by go_size) | (have := HB.out.size; simp; omega) | (have := HB.out.size; simp [go_sem]; omega) | (have := HB.out.size; simp [go_sem]; done) | (simp; done) | omega)⟩
            · have g4' : (xu == 0) = false := by simpa using g4
              by_cases g5 : k + 1 = xs.length
              · have g5' : ((k : Int) == (xs.length : Int) - 1) = true := by simp; omega
                have hr : Hid (stL xs 0 = 8) := by
                  have e := HE.out
                  first
                    | rw [decide_eq_true g4, decide_eq_false g5, if_pos (by decide)] at e
                    | rw [decide_eq_false g4, decide_eq_true g5, if_pos (by decide)] at e
                  have := hs.out
                  first
                    | rw [decide_eq_true g5, e, if_neg (by decide)] at this
                    | rw [decide_eq_false g5, e, if_neg (by decide)] at this
                  exact this
                clear hs HE
                go_wp2_with (first
                  | (go_at_call 55; (with_reducible refine (within2 _ xu xq _ _ _ ?_ ?_ ?_).mono ?_); (· simp [go_sem]); (· simp [go_sem]); (· simp [go_sem]); rw [g1]; rintro e w1 ⟨rfl, hb⟩; obtain ⟨s, rfl⟩ := ext_of_below hb; clear hb)
                  | (go_at_call 55; (with_reducible refine (within1 _ xp _ _ _ ?_ ?_).mono ?_); (· simp [go_sem]); (· simp [go_sem]); rw [g3]; rintro e w1 ⟨rfl, hb⟩; obtain ⟨s, rfl⟩ := ext_of_below hb; clear hb))
                go_ret
                exact ⟨ret_int hr.out.symm, by repeat' (first | with_reducible exact HB.out | with_reducible exact Below.refl _ _ | with_reducible refine below_ext ?_ ?_ _ | with_reducible refine Below.alloc ?_ ?_ _ | with_reducible refine Below.setCell ?_ ?_ _ | with_reducible refine Below.drew ?_ | (have := HB.out.size; simp only [size_ext, World.size_alloc, World.size_setCell, World.size_drew]; omega) | exact Nat.le_trans HB.out.size (by go_size) | (have := HB.out.size; simp; omega) | (have := HB.out.size; simp [go_sem]; omega) | (have := HB.out.size; simp [go_sem]; done) | (simp; done) | omega)⟩
              · have g5' : ((k : Int) == (xs.length : Int) - 1) = false := by simp; omega
                by_cases g6 : xu ≤ b
                · have hr : Hid (stL xs 0 = 9) := by
                    have e := HE.out
                    rw [decide_eq_false g4, decide_eq_false g5, if_neg (by decide), if_pos ⟨g4, g6⟩] at e
                    have := hs.out
                    rw [decide_eq_false g5, e, if_neg (by decide)] at this
                    exact this
                  clear hs HE
                  go_wp2_with (first
                    | (go_at_call 55; (with_reducible refine (within2 _ xu xq _ _ _ ?_ ?_ ?_).mono ?_); (· simp [go_sem]); (· simp [go_sem]); (· simp [go_sem]); rw [g1]; rintro e w1 ⟨rfl, hb⟩; obtain ⟨s, rfl⟩ := ext_of_below hb; clear hb)
                    | (go_at_call 55; (with_reducible refine (within1 _ xp _ _ _ ?_ ?_).mono ?_); (· simp [go_sem]); (· simp [go_sem]); rw [g3]; rintro e w1 ⟨rfl, hb⟩; obtain ⟨s, rfl⟩ := ext_of_below hb; clear hb))
                  go_ret
                  exact ⟨ret_int hr.out.symm, by repeat' (first | with_reducible exact HB.out | with_reducible exact Below.refl _ _ | with_reducible refine below_ext ?_ ?_ _ | with_reducible refine Below.alloc ?_ ?_ _ | with_reducible refine Below.setCell ?_ ?_ _ | with_reducible refine Below.drew ?_ | (have := HB.out.size; simp only [size_ext, World.size_alloc, World.size_setCell, World.size_drew]; omega) | exact Nat.le_trans HB.out.size (by go_size) | (have := HB.out.size; simp; omega) | (have := HB.out.size; simp [go_sem]; omega) | (have := HB.out.size; simp [go_sem]; done) | (simp; done) | omega)⟩
                · have hr : Hid (stL xs 0 = stL (xs.drop (k + 1)) xu) := by
                    have e := HE.out
                    rw [decide_eq_false g4, decide_eq_false g5, if_neg (by decide), if_neg (fun x => g6 x.2)] at e
                    have := hs.out
                    rw [decide_eq_false g5, e, if_pos rfl] at this
                    exact this
                  clear hs HE
                  go_wp2_with (first
                    | (go_at_call 55; (with_reducible refine (within2 _ xu xq _ _ _ ?_ ?_ ?_).mono ?_); (· simp [go_sem]); (· simp [go_sem]); (· simp [go_sem]); rw [g1]; rintro e w1 ⟨rfl, hb⟩; obtain ⟨s, rfl⟩ := ext_of_below hb; clear hb)
                    | (go_at_call 55; (with_reducible refine (within1 _ xp _ _ _ ?_ ?_).mono ?_); (· simp [go_sem]); (· simp [go_sem]); rw [g3]; rintro e w1 ⟨rfl, hb⟩; obtain ⟨s, rfl⟩ := ext_of_below hb; clear hb))
                  go_roundw
                  case rel => exact ⟨k + 1, _, by omega, by go_num, rfl, hr.out, by repeat' (first | with_reducible exact HB.out | with_reducible exact Below.refl _ _ | with_reducible refine below_ext ?_ ?_ _ | with_reducible refine Below.alloc ?_ ?_ _ | with_reducible refine Below.setCell ?_ ?_ _ | with_reducible refine Below.drew ?_ | (have := HB.out.size; simp only [size_ext, World.size_alloc, World.size_setCell, World.size_drew]; omega) | exact Nat.le_trans HB.out.size (by go_size) | (have := HB.out.size; simp; omega) | (have := HB.out.size; simp [go_sem]; omega) | (have := HB.out.size; simp [go_sem]; done) | (simp; done) | omega)⟩
                  case measure => simp [intOf]; omega
          · have g3 : inB 1125899906842624 xp = false := by simpa using g3
            have hr : Hid (stL xs 0 = 6) := by
              have e : stE ⟨xu, xq, xp⟩ (decide (k + 1 = xs.length)) b = 6 := by unfold stE; rw [if_pos (by simp [g3])]
              have := hs.out
              rw [e, if_neg (by decide)] at this
              exact this
            clear hs
            go_wp2_with (first
              | (go_at_call 55; (with_reducible refine (within2 _ xu xq _ _ _ ?_ ?_ ?_).mono ?_); (· simp [go_sem]); (· simp [go_sem]); (· simp [go_sem]); rw [g1]; rintro e w1 ⟨rfl, hb⟩; obtain ⟨s, rfl⟩ := ext_of_below hb; clear hb)
              | (go_at_call 55; (with_reducible refine (within1 _ xp _ _ _ ?_ ?_).mono ?_); (· simp [go_sem]); (· simp [go_sem]); rw [g3]; rintro e w1 ⟨rfl, hb⟩; obtain ⟨s, rfl⟩ := ext_of_below hb; clear hb))
            go_ret
            exact ⟨ret_int hr.out.symm, by repeat' (first | with_reducible exact HB.out | with_reducible exact Below.refl _ _ | with_reducible refine below_ext ?_ ?_ _ | with_reducible refine Below.alloc ?_ ?_ _ | with_reducible refine Below.setCell ?_ ?_ _ | with_reducible refine Below.drew ?_ | (have := HB.out.size; simp only [size_ext, World.size_alloc, World.size_setCell, World.size_drew]; omega) | exact Nat.le_trans HB.out.size (by go_size) | (have := HB.out.size; simp; omega) | (have := HB.out.size; simp [go_sem]; omega) | (have := HB.out.size; simp [go_sem]; done) | (simp; done) | omega)⟩
      · have g1 : (inB 1099511627776 xu && inB 1099511627776 xq) = false := by simpa using g1
        have hr : Hid (stL xs 0 = 6) := by
          have e : stE ⟨xu, xq, xp⟩ (decide (k + 1 = xs.length)) b = 6 := by unfold stE; rw [if_pos (by rw [g1]; rfl)]
          have := hs.out
          rw [e, if_neg (by decide)] at this
          exact this
        clear hs
        go_wp2_with (go_at_call 55; (with_reducible refine (within2 _ xu xq _ _ _ ?_ ?_ ?_).mono ?_); (· simp [go_sem]); (· simp [go_sem]); (· simp [go_sem]); rw [g1]; rintro e w1 ⟨rfl, hb⟩; obtain ⟨s, rfl⟩ := ext_of_below hb; clear hb)
        go_ret
        exact ⟨ret_int hr.out.symm, by repeat' (first | with_reducible exact HB.out | with_reducible exact Below.refl _ _ | with_reducible refine below_ext ?_ ?_ _ | with_reducible refine Below.alloc ?_ ?_ _ | with_reducible refine Below.setCell ?_ ?_ _ | with_reducible refine Below.drew ?_ | (have := HB.out.size; simp only [size_ext, World.size_alloc, World.size_setCell, World.size_drew]; omega) | exact Nat.le_trans HB.out.size (by go_size) | (have := HB.out.size; simp; omega) | (have := HB.out.size; simp [go_sem]; omega) | (have := HB.out.size; simp [go_sem]; done) | (simp; done) | omega)⟩
    · obtain rfl : k = xs.length := by omega
      have hr : Hid (stL xs 0 = 0) := by rw [Hid, he.out, List.drop_length]; rfl
      clear hbw
      go_wp2
      go_ret
      exact ⟨ret_int hr.out.symm, HB.out⟩
end Go.Proofs.YtmodghiokoiipaaGreat

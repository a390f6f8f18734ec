/-
  The walks of a wallet's call by number and of the law WalletKeeps.
-/
import Derived.Test.YtfbodilmjkcihaaWl2
import Derived.Deep.RegionHeld3
import Derived.Deep.DeepCutAuto
namespace Go.Proofs.Ytfbodilmjkcihaa
open Go.RowKit

/-- What a call by number comes to, before its error is looked at. -/
def W5.raw (w : W5) (c p q : Int) : W5 × Int :=
  if c = 0 then w.credit p else if c = 1 then w.debit p else if c = 2 then w.hold p else if c = 3 then w.settle p q else if c = 4 then w.floor p else (w, 0)
/-- .. and behind: with an error the wallet stays as it was. -/
def W5.op (w : W5) (c p q : Int) : W5 × Int := if (w.raw c p q).2 = 0 then w.raw c p q else (w, (w.raw c p q).2)

/-- A wallet that came of a valid one: valid, of the same account and instant. -/
def W5.From (x w : W5) : Prop := x.chk = 0 ∧ x.a = w.a ∧ x.u = w.u
theorem W5.from_self {w : W5} (h : w.chk = 0) : w.From w := ⟨h, rfl, rfl⟩
theorem W5.from_credit {w : W5} {n : Int} (h : w.chk = 0) (he : (w.credit n).2 = 0) : (w.credit n).1.From w := by
  have hk := W5.chk_ok.1 h
  unfold W5.credit at he ⊢
  rw [if_pos h] at he ⊢
  split at he
  · rename_i h1
    rw [if_pos h1]
    exact ⟨W5.chk_ok.2 (by dsimp only; omega), rfl, rfl⟩
  · cases he
theorem W5.from_debit {w : W5} {n : Int} (h : w.chk = 0) (he : (w.debit n).2 = 0) : (w.debit n).1.From w := by
  have hk := W5.chk_ok.1 h
  have hf : w.free = w.b - w.h - w.f := by rw [W5.free, if_pos h]
  unfold W5.debit at he ⊢
  rw [if_pos h] at he ⊢
  split at he
  · rename_i h1
    rw [if_pos h1]
    split at he
    · cases he
    · rename_i h2
      rw [if_neg h2]
      exact ⟨W5.chk_ok.2 (by dsimp only; omega), rfl, rfl⟩
  · cases he
theorem W5.from_hold {w : W5} {n : Int} (h : w.chk = 0) (he : (w.hold n).2 = 0) : (w.hold n).1.From w := by
  have hk := W5.chk_ok.1 h
  have hf : w.free = w.b - w.h - w.f := by rw [W5.free, if_pos h]
  unfold W5.hold at he ⊢
  rw [if_pos h] at he ⊢
  split at he
  · rename_i h1
    rw [if_pos h1]
    split at he
    · cases he
    · rename_i h2
      rw [if_neg h2]
      split at he
      · rename_i h3
        rw [if_pos h3]
        exact ⟨W5.chk_ok.2 (by dsimp only; omega), rfl, rfl⟩
      · cases he
  · cases he
theorem W5.from_settle {w : W5} {k n : Int} (h : w.chk = 0) (he : (w.settle k n).2 = 0) : (w.settle k n).1.From w := by
  have hk := W5.chk_ok.1 h
  unfold W5.settle at he ⊢
  rw [if_pos h] at he ⊢
  split at he
  · rename_i h1
    rw [if_pos h1]
    exact ⟨W5.chk_ok.2 (by dsimp only; omega), rfl, rfl⟩
  · cases he
theorem W5.from_floor {w : W5} {n : Int} (h : w.chk = 0) (he : (w.floor n).2 = 0) : (w.floor n).1.From w := by
  have hk := W5.chk_ok.1 h
  unfold W5.floor at he ⊢
  rw [if_pos h] at he ⊢
  split at he
  · rename_i h1
    rw [if_pos h1]
    split at he
    · cases he
    · rename_i h2
      rw [if_neg h2]
      exact ⟨W5.chk_ok.2 (by dsimp only; omega), rfl, rfl⟩
  · cases he
theorem W5.from_op {w : W5} {c p q : Int} (h : w.chk = 0) : (w.op c p q).1.From w := by
  unfold W5.op
  split
  · rename_i he
    unfold W5.raw at he ⊢
    repeat' split
    all_goals simp only [*, if_true, if_false] at he
    · exact W5.from_credit h he
    · exact W5.from_debit h he
    · exact W5.from_hold h he
    · exact W5.from_settle h he
    · exact W5.from_floor h he
    · exact W5.from_self h
  · exact W5.from_self h

set_option maxHeartbeats 2000000 in
theorem do_any (a b f h u c p q : Int) (w : World) :
    Calls Try.prog 25 #[.agg #[.int .i64 a, .int .i64 b, .int .i64 f, .int .i64 h, .int .i64 u], .agg #[.int .i64 c, .int .i64 p, .int .i64 q]] w fun e w' => e = .returned (.tuple #[.agg #[.int .i64 (W5.op (W5.mk a b f h u) c p q).1.a, .int .i64 (W5.op (W5.mk a b f h u) c p q).1.b, .int .i64 (W5.op (W5.mk a b f h u) c p q).1.f, .int .i64 (W5.op (W5.mk a b f h u) c p q).1.h, .int .i64 (W5.op (W5.mk a b f h u) c p q).1.u], .int .i64 (W5.op (W5.mk a b f h u) c p q).2]) ∧ Below w.heap.size w w' := by
  by_cases c0 : c = 0
  · subst c0
    have R : W5.raw (W5.mk a b f h u) 0 p q = W5.credit (W5.mk a b f h u) p := by simp [W5.raw]
    by_cases he : (W5.credit (W5.mk a b f h u) p).2 = 0
    · have E : Hid (W5.op (W5.mk a b f h u) 0 p q = W5.credit (W5.mk a b f h u) p) := by
        unfold Hid W5.op
        rw [R, if_pos he]
      have e1 : ((W5.credit (W5.mk a b f h u) p).2 != 0) = false := by simp [he]
      have he' := Lib.hid he
      clear he R
      go_enter Try.func25, Try.ntmps25
      go_wp2_with (go_at_call 15; with_reducible refine (credit_any _ _ _ _ _ _ _).mono ?_; rintro e w1 ⟨rfl, hb⟩; obtain ⟨s, rfl⟩ := ext_of_below hb; clear hb)
      go_returns
      refine ⟨?_, ?_⟩
      · rw [E.out, he'.out]
      · repeat' (first | exact Below.refl _ _ | refine below_ext ?_ ?_ _ | refine Below.alloc ?_ ?_ _ | refine Below.setCell ?_ ?_ _ | refine Below.drew ?_ | (rw [size_ext]; refine Nat.le_add_right_of_le ?_) | go_size | (rw [World.size_alloc]; refine Nat.le_add_right_of_le ?_))
    · have E : Hid (W5.op (W5.mk a b f h u) 0 p q = ((W5.mk a b f h u), (W5.credit (W5.mk a b f h u) p).2)) := by
        unfold Hid W5.op
        rw [R, if_neg he]
      have e1 : ((W5.credit (W5.mk a b f h u) p).2 != 0) = true := bne_iff_ne.2 he
      clear he R
      go_enter Try.func25, Try.ntmps25
      go_wp2_with (go_at_call 15; with_reducible refine (credit_any _ _ _ _ _ _ _).mono ?_; rintro e w1 ⟨rfl, hb⟩; obtain ⟨s, rfl⟩ := ext_of_below hb; clear hb)
      go_returns
      refine ⟨?_, ?_⟩
      · rw [E.out]
      · repeat' (first | exact Below.refl _ _ | refine below_ext ?_ ?_ _ | refine Below.alloc ?_ ?_ _ | refine Below.setCell ?_ ?_ _ | refine Below.drew ?_ | (rw [size_ext]; refine Nat.le_add_right_of_le ?_) | go_size | (rw [World.size_alloc]; refine Nat.le_add_right_of_le ?_))
  by_cases c1 : c = 1
  · subst c1
    have R : W5.raw (W5.mk a b f h u) 1 p q = W5.debit (W5.mk a b f h u) p := by simp [W5.raw]
    by_cases he : (W5.debit (W5.mk a b f h u) p).2 = 0
    · have E : Hid (W5.op (W5.mk a b f h u) 1 p q = W5.debit (W5.mk a b f h u) p) := by
        unfold Hid W5.op
        rw [R, if_pos he]
      have e1 : ((W5.debit (W5.mk a b f h u) p).2 != 0) = false := by simp [he]
      have he' := Lib.hid he
      clear he R
      go_enter Try.func25, Try.ntmps25
      go_wp2_with (go_at_call 21; with_reducible refine (debit_any _ _ _ _ _ _ _).mono ?_; rintro e w1 ⟨rfl, hb⟩; obtain ⟨s, rfl⟩ := ext_of_below hb; clear hb)
      go_returns
      refine ⟨?_, ?_⟩
      · rw [E.out, he'.out]
      · repeat' (first | exact Below.refl _ _ | refine below_ext ?_ ?_ _ | refine Below.alloc ?_ ?_ _ | refine Below.setCell ?_ ?_ _ | refine Below.drew ?_ | (rw [size_ext]; refine Nat.le_add_right_of_le ?_) | go_size | (rw [World.size_alloc]; refine Nat.le_add_right_of_le ?_))
    · have E : Hid (W5.op (W5.mk a b f h u) 1 p q = ((W5.mk a b f h u), (W5.debit (W5.mk a b f h u) p).2)) := by
        unfold Hid W5.op
        rw [R, if_neg he]
      have e1 : ((W5.debit (W5.mk a b f h u) p).2 != 0) = true := bne_iff_ne.2 he
      clear he R
      go_enter Try.func25, Try.ntmps25
      go_wp2_with (go_at_call 21; with_reducible refine (debit_any _ _ _ _ _ _ _).mono ?_; rintro e w1 ⟨rfl, hb⟩; obtain ⟨s, rfl⟩ := ext_of_below hb; clear hb)
      go_returns
      refine ⟨?_, ?_⟩
      · rw [E.out]
      · repeat' (first | exact Below.refl _ _ | refine below_ext ?_ ?_ _ | refine Below.alloc ?_ ?_ _ | refine Below.setCell ?_ ?_ _ | refine Below.drew ?_ | (rw [size_ext]; refine Nat.le_add_right_of_le ?_) | go_size | (rw [World.size_alloc]; refine Nat.le_add_right_of_le ?_))
  by_cases c2 : c = 2
  · subst c2
    have R : W5.raw (W5.mk a b f h u) 2 p q = W5.hold (W5.mk a b f h u) p := by simp [W5.raw]
    by_cases he : (W5.hold (W5.mk a b f h u) p).2 = 0
    · have E : Hid (W5.op (W5.mk a b f h u) 2 p q = W5.hold (W5.mk a b f h u) p) := by
        unfold Hid W5.op
        rw [R, if_pos he]
      have e1 : ((W5.hold (W5.mk a b f h u) p).2 != 0) = false := by simp [he]
      have he' := Lib.hid he
      clear he R
      go_enter Try.func25, Try.ntmps25
      go_wp2_with (go_at_call 23; with_reducible refine (hold_any _ _ _ _ _ _ _).mono ?_; rintro e w1 ⟨rfl, hb⟩; obtain ⟨s, rfl⟩ := ext_of_below hb; clear hb)
      go_returns
      refine ⟨?_, ?_⟩
      · rw [E.out, he'.out]
      · repeat' (first | exact Below.refl _ _ | refine below_ext ?_ ?_ _ | refine Below.alloc ?_ ?_ _ | refine Below.setCell ?_ ?_ _ | refine Below.drew ?_ | (rw [size_ext]; refine Nat.le_add_right_of_le ?_) | go_size | (rw [World.size_alloc]; refine Nat.le_add_right_of_le ?_))
    · have E : Hid (W5.op (W5.mk a b f h u) 2 p q = ((W5.mk a b f h u), (W5.hold (W5.mk a b f h u) p).2)) := by
        unfold Hid W5.op
        rw [R, if_neg he]
      have e1 : ((W5.hold (W5.mk a b f h u) p).2 != 0) = true := bne_iff_ne.2 he
      clear he R
      go_enter Try.func25, Try.ntmps25
      go_wp2_with (go_at_call 23; with_reducible refine (hold_any _ _ _ _ _ _ _).mono ?_; rintro e w1 ⟨rfl, hb⟩; obtain ⟨s, rfl⟩ := ext_of_below hb; clear hb)
      go_returns
      refine ⟨?_, ?_⟩
      · rw [E.out]
      · repeat' (first | exact Below.refl _ _ | refine below_ext ?_ ?_ _ | refine Below.alloc ?_ ?_ _ | refine Below.setCell ?_ ?_ _ | refine Below.drew ?_ | (rw [size_ext]; refine Nat.le_add_right_of_le ?_) | go_size | (rw [World.size_alloc]; refine Nat.le_add_right_of_le ?_))
  by_cases c3 : c = 3
  · subst c3
    have R : W5.raw (W5.mk a b f h u) 3 p q = W5.settle (W5.mk a b f h u) p q := by simp [W5.raw]
    by_cases he : (W5.settle (W5.mk a b f h u) p q).2 = 0
    · have E : Hid (W5.op (W5.mk a b f h u) 3 p q = W5.settle (W5.mk a b f h u) p q) := by
        unfold Hid W5.op
        rw [R, if_pos he]
      have e1 : ((W5.settle (W5.mk a b f h u) p q).2 != 0) = false := by simp [he]
      have he' := Lib.hid he
      clear he R
      go_enter Try.func25, Try.ntmps25
      go_wp2_with (go_at_call 17; with_reducible refine (settle_any _ _ _ _ _ _ _ _).mono ?_; rintro e w1 ⟨rfl, hb⟩; obtain ⟨s, rfl⟩ := ext_of_below hb; clear hb)
      go_returns
      refine ⟨?_, ?_⟩
      · rw [E.out, he'.out]
      · repeat' (first | exact Below.refl _ _ | refine below_ext ?_ ?_ _ | refine Below.alloc ?_ ?_ _ | refine Below.setCell ?_ ?_ _ | refine Below.drew ?_ | (rw [size_ext]; refine Nat.le_add_right_of_le ?_) | go_size | (rw [World.size_alloc]; refine Nat.le_add_right_of_le ?_))
    · have E : Hid (W5.op (W5.mk a b f h u) 3 p q = ((W5.mk a b f h u), (W5.settle (W5.mk a b f h u) p q).2)) := by
        unfold Hid W5.op
        rw [R, if_neg he]
      have e1 : ((W5.settle (W5.mk a b f h u) p q).2 != 0) = true := bne_iff_ne.2 he
      clear he R
      go_enter Try.func25, Try.ntmps25
      go_wp2_with (go_at_call 17; with_reducible refine (settle_any _ _ _ _ _ _ _ _).mono ?_; rintro e w1 ⟨rfl, hb⟩; obtain ⟨s, rfl⟩ := ext_of_below hb; clear hb)
      go_returns
      refine ⟨?_, ?_⟩
      · rw [E.out]
      · repeat' (first | exact Below.refl _ _ | refine below_ext ?_ ?_ _ | refine Below.alloc ?_ ?_ _ | refine Below.setCell ?_ ?_ _ | refine Below.drew ?_ | (rw [size_ext]; refine Nat.le_add_right_of_le ?_) | go_size | (rw [World.size_alloc]; refine Nat.le_add_right_of_le ?_))
  by_cases c4 : c = 4
  · subst c4
    have R : W5.raw (W5.mk a b f h u) 4 p q = W5.floor (W5.mk a b f h u) p := by simp [W5.raw]
    by_cases he : (W5.floor (W5.mk a b f h u) p).2 = 0
    · have E : Hid (W5.op (W5.mk a b f h u) 4 p q = W5.floor (W5.mk a b f h u) p) := by
        unfold Hid W5.op
        rw [R, if_pos he]
      have e1 : ((W5.floor (W5.mk a b f h u) p).2 != 0) = false := by simp [he]
      have he' := Lib.hid he
      clear he R
      go_enter Try.func25, Try.ntmps25
      go_wp2_with (go_at_call 19; with_reducible refine (floor_any _ _ _ _ _ _ _).mono ?_; rintro e w1 ⟨rfl, hb⟩; obtain ⟨s, rfl⟩ := ext_of_below hb; clear hb)
      go_returns
      refine ⟨?_, ?_⟩
      · rw [E.out, he'.out]
      · repeat' (first | exact Below.refl _ _ | refine below_ext ?_ ?_ _ | refine Below.alloc ?_ ?_ _ | refine Below.setCell ?_ ?_ _ | refine Below.drew ?_ | (rw [size_ext]; refine Nat.le_add_right_of_le ?_) | go_size | (rw [World.size_alloc]; refine Nat.le_add_right_of_le ?_))
    · have E : Hid (W5.op (W5.mk a b f h u) 4 p q = ((W5.mk a b f h u), (W5.floor (W5.mk a b f h u) p).2)) := by
        unfold Hid W5.op
        rw [R, if_neg he]
      have e1 : ((W5.floor (W5.mk a b f h u) p).2 != 0) = true := bne_iff_ne.2 he
      clear he R
      go_enter Try.func25, Try.ntmps25
      go_wp2_with (go_at_call 19; with_reducible refine (floor_any _ _ _ _ _ _ _).mono ?_; rintro e w1 ⟨rfl, hb⟩; obtain ⟨s, rfl⟩ := ext_of_below hb; clear hb)
      go_returns
      refine ⟨?_, ?_⟩
      · rw [E.out]
      · repeat' (first | exact Below.refl _ _ | refine below_ext ?_ ?_ _ | refine Below.alloc ?_ ?_ _ | refine Below.setCell ?_ ?_ _ | refine Below.drew ?_ | (rw [size_ext]; refine Nat.le_add_right_of_le ?_) | go_size | (rw [World.size_alloc]; refine Nat.le_add_right_of_le ?_))
  have R : W5.raw (W5.mk a b f h u) c p q = ((W5.mk a b f h u), 0) := by simp [W5.raw, c0, c1, c2, c3, c4]
  have E : Hid (W5.op (W5.mk a b f h u) c p q = ((W5.mk a b f h u), 0)) := by
    unfold Hid W5.op
    rw [R]
    rfl
  have d0 : (c == 0) = false := beq_eq_false_iff_ne.2 c0
  have d1 : (c == 1) = false := beq_eq_false_iff_ne.2 c1
  have d2 : (c == 2) = false := beq_eq_false_iff_ne.2 c2
  have d3 : (c == 3) = false := beq_eq_false_iff_ne.2 c3
  have d4 : (c == 4) = false := beq_eq_false_iff_ne.2 c4
  clear R c0 c1 c2 c3 c4
  go_enter Try.func25, Try.ntmps25
  go_wp2_with fail
  go_returns
  refine ⟨?_, ?_⟩
  · rw [E.out]
  · repeat' (first | exact Below.refl _ _ | refine below_ext ?_ ?_ _ | refine Below.alloc ?_ ?_ _ | refine Below.setCell ?_ ?_ _ | refine Below.drew ?_ | (rw [size_ext]; refine Nat.le_add_right_of_le ?_) | go_size | (rw [World.size_alloc]; refine Nat.le_add_right_of_le ?_))

theorem ext_self (w : World) : ∃ t, w = ext w t := ⟨⟨[], w.drawn⟩, by simp [ext]⟩
theorem alloc_ext (w : World) (s : More) (x : Obj) : ∃ t, (ext w s).alloc x = ext w t := by
  obtain ⟨t, ht⟩ := ext_of_below (((Below.refl w.heap.size w).alloc (Nat.le_refl _) x))
  exact ⟨⟨s.L ++ [x], s.d⟩, by simp [ext, World.alloc]⟩

set_option maxHeartbeats 2000000 in
theorem keeps_loop (a b f h u : Int) (n cap bo oo : Nat) (c p q : Nat → Int) (w : World) (hbo : bo < w.heap.size) (hn : n ≤ 40)
    (hc0 : ∀ j, j < n → w.cell? ⟨bo, oo + j * 3, none⟩ = some (.int .i64 (c j)))
    (hc1 : ∀ j, j < n → w.cell? ⟨bo, oo + j * 3 + 1, none⟩ = some (.int .i64 (p j)))
    (hc2 : ∀ j, j < n → w.cell? ⟨bo, oo + j * 3 + 2, none⟩ = some (.int .i64 (q j)))
    (hch : (W5.mk a b f h u).chk = 0) :
    Calls Try.prog 9 #[.agg #[.int .i64 a, .int .i64 b, .int .i64 f, .int .i64 h, .int .i64 u], .slice (some ⟨bo, oo, none⟩) n cap] w fun e w' => e = .returned (.bool true) ∧ Below w.heap.size w w' := by
  have H0 := Lib.hid hc0
  have H1 := Lib.hid hc1
  have H2 := Lib.hid hc2
  have hk1 : ((W5.mk a b f h u).chk != 0) = false := by simp [hch]
  have hch' := Lib.hid hch
  clear hc0 hc1 hc2 hch
  go_enter Try.func9, Try.ntmps9
  go_wp2_with (go_at_call 10; with_reducible refine (check_any _ _ _ _ _ _).mono ?_; rintro e w1 ⟨rfl, hb⟩; obtain ⟨s, rfl⟩ := ext_of_below hb; clear hb)
  go_loopw [5] (fun i wr => ∃ (k : Nat) (a' b' f' h' u' : Int) (s : More), k ≤ n ∧ i = .int .i64 k ∧ W5.From ⟨a', b', f', h', u'⟩ (W5.mk a b f h u) ∧ wr = ext (w.alloc (.cells #[.int .i64 a', .int .i64 b', .int .i64 f', .int .i64 h', .int .i64 u'] 23)) s) (fun i _ => n - (intOf i).toNat)
  case atStart => exact ⟨0, a, b, f, h, u, _, Nat.zero_le _, rfl, W5.from_self hch'.out, rfl⟩
  case round =>
    obtain ⟨k, a', b', f', h', u', s, hk, rfl, ⟨hch, hfa, hfu⟩, rfl⟩ := hrel
    dsimp only at hfa hfu
    subst hfa hfu
    by_cases hlt : k < n
    · have g0 := H0.out k hlt
      have g1 := H1.out k hlt
      have g2 := H2.out k hlt
      have hfr := W5.from_op (c := c k) (p := p k) (q := q k) hch
      obtain ⟨a2, b2, f2, h2, u2, e2, hr⟩ : ∃ a2 b2 f2 h2 u2 e2, W5.op ⟨a', b', f', h', u'⟩ (c k) (p k) (q k) = (⟨a2, b2, f2, h2, u2⟩, e2) := ⟨_, _, _, _, _, _, rfl⟩
      rw [hr] at hfr
      obtain ⟨hc2, ha2, hu2⟩ := hfr
      dsimp only at hc2 ha2 hu2
      have hk := W5.chk_ok.1 hc2
      dsimp only at hk
      obtain ⟨_, _, _, _, _, _, _, _, _, _, _⟩ := hk
      have t1 : (W5.chk ⟨a2, b2, f2, h2, u2⟩ != 0) = false := by simp [hc2]
      have t2 : (a2 != a') = false := by simp [ha2]
      have t3 : (u2 != u') = false := by simp [hu2]
      have Hc := Lib.hid hc2
      have Ha := Lib.hid ha2
      have Hu := Lib.hid hu2
      have Hch := Lib.hid hch
      clear hc2 ha2 hu2 hch
      go_upto_region 6 with fail
      go_cut [6] (fun s6 wx => ∃ s1 s2 : More, s6 = .pointer (some ⟨w.heap.size + 1 + s1.n, 0, none⟩) ∧ wx = ext ((ext (w.alloc (.cells #[.int .i64 a', .int .i64 b', .int .i64 f', .int .i64 h', .int .i64 u'] 23)) s1).alloc (.cells #[.int .i64 a2, .int .i64 b2, .int .i64 f2, .int .i64 h2, .int .i64 u2] 23)) s2)
      case first =>
        go_region_held3 (fun w' => w'.cell? ⟨w.heap.size, 0, none⟩ = some (.int .i64 a') ∧ w'.cell? ⟨w.heap.size, 1, none⟩ = some (.int .i64 b') ∧ w'.cell? ⟨w.heap.size, 2, none⟩ = some (.int .i64 f') ∧ w'.cell? ⟨w.heap.size, 3, none⟩ = some (.int .i64 h') ∧ w'.cell? ⟨w.heap.size, 4, none⟩ = some (.int .i64 u') ∧ w'.cell? ⟨bo, oo + k * 3, none⟩ = some (.int .i64 (c k)) ∧ w'.cell? ⟨bo, oo + k * 3 + 1, none⟩ = some (.int .i64 (p k)) ∧ w'.cell? ⟨bo, oo + k * 3 + 2, none⟩ = some (.int .i64 (q k))) (simp [*, go_sem])
          (first | (go_at_call 25; with_reducible refine (do_any _ _ _ _ _ _ _ _ _).mono ?_; rintro e w1 ⟨rfl, hb⟩; obtain ⟨s', rfl⟩ := ext_of_below hb; clear hb))
        all_goals (go_wp2_with fail; go_meet)
        · obtain ⟨t0, ht0⟩ := ext_self ((ext (w.alloc (.cells #[.int .i64 a', .int .i64 b', .int .i64 f', .int .i64 h', .int .i64 u'] 23)) (s.draw.cat s')).alloc (.cells #[.int .i64 a2, .int .i64 b2, .int .i64 f2, .int .i64 h2, .int .i64 u2] 23))
          exact ⟨_, t0, rfl, ht0⟩
        · exact ⟨s.draw, s', rfl, rfl⟩
      case rest =>
        obtain ⟨s1, s2, rfl, rfl⟩ := hcut
        go_wp2_with (first
          | (go_at_call 10; with_reducible refine (check_any _ _ _ _ _ _).mono ?_; rintro e w1 ⟨rfl, hb⟩; obtain ⟨s, rfl⟩ := ext_of_below hb; clear hb)
          | (go_at_call 11; with_reducible refine (rcheck_any _ _ _ _ _ _).mono ?_; rintro e w1 ⟨rfl, hb⟩; obtain ⟨s, rfl⟩ := ext_of_below hb; clear hb))
        go_roundw
        case rel =>
          obtain ⟨t, ht⟩ := alloc_ext (w.alloc (.cells #[.int .i64 a2, .int .i64 b2, .int .i64 f2, .int .i64 h2, .int .i64 u2] 23)) s1 (.cells #[.int .i64 a2, .int .i64 b2, .int .i64 f2, .int .i64 h2, .int .i64 u2] 23)
          refine ⟨k + 1, a2, b2, f2, h2, u2, ?sx, by omega, by go_num, ⟨Hc.out, Ha.out, Hu.out⟩, ?ex⟩
          case ex =>
            rw [ht]
            exact ext_ext _ _ _
        case measure => simp [intOf]; omega
    · have hkn : k = n := by omega
      subst hkn
      have Hch := Lib.hid hch
      clear hch
      go_wp2_with (go_at_call 14; with_reducible refine (alive_any _).mono ?_; rintro e w1 ⟨rfl, hb⟩; obtain ⟨s, rfl⟩ := ext_of_below hb; clear hb)
      go_returns
      refine ⟨rfl, ?_⟩
      repeat' (first | exact Below.refl _ _ | refine below_ext ?_ ?_ _ | refine Below.alloc ?_ ?_ _ | refine Below.setCell ?_ ?_ _ | refine Below.drew ?_ | (rw [size_ext]; refine Nat.le_add_right_of_le ?_) | go_size | (rw [World.size_alloc]; refine Nat.le_add_right_of_le ?_))

set_option maxHeartbeats 1000000 in
theorem keeps_bad (a b f h u : Int) (A : Option Addr) (n cap : Nat) (w : World) (hk1 : ((W5.mk a b f h u).chk != 0) = true) :
    Calls Try.prog 9 #[.agg #[.int .i64 a, .int .i64 b, .int .i64 f, .int .i64 h, .int .i64 u], .slice A n cap] w fun e w' => e = .returned (.bool true) ∧ Below w.heap.size w w' := by
  go_enter Try.func9, Try.ntmps9
  go_wp2_with (first
    | (go_at_call 10; with_reducible refine (check_any _ _ _ _ _ _).mono ?_; rintro e w1 ⟨rfl, hb⟩; obtain ⟨s, rfl⟩ := ext_of_below hb; clear hb)
    | (go_at_call 14; with_reducible refine (alive_any _).mono ?_; rintro e w1 ⟨rfl, hb⟩; obtain ⟨s, rfl⟩ := ext_of_below hb; clear hb))
  go_returns
  refine ⟨rfl, ?_⟩
  repeat' (first | exact Below.refl _ _ | refine below_ext ?_ ?_ _ | refine Below.alloc ?_ ?_ _ | refine Below.setCell ?_ ?_ _ | refine Below.drew ?_ | (rw [size_ext]; refine Nat.le_add_right_of_le ?_) | go_size | (rw [World.size_alloc]; refine Nat.le_add_right_of_le ?_))
set_option maxHeartbeats 1000000 in
theorem keeps_long (a b f h u : Int) (A : Option Addr) (n cap : Nat) (w : World) (hk1 : ((W5.mk a b f h u).chk != 0) = false) (hn : 40 < n) (hm : n ≤ 9223372036854775807) :
    Calls Try.prog 9 #[.agg #[.int .i64 a, .int .i64 b, .int .i64 f, .int .i64 h, .int .i64 u], .slice A n cap] w fun e w' => e = .returned (.bool true) ∧ Below w.heap.size w w' := by
  have t1 : decide ((40 : Int) < n) = true := decide_eq_true (by omega)
  go_enter Try.func9, Try.ntmps9
  go_wp2_with (first
    | (go_at_call 10; with_reducible refine (check_any _ _ _ _ _ _).mono ?_; rintro e w1 ⟨rfl, hb⟩; obtain ⟨s, rfl⟩ := ext_of_below hb; clear hb)
    | (go_at_call 14; with_reducible refine (alive_any _).mono ?_; rintro e w1 ⟨rfl, hb⟩; obtain ⟨s, rfl⟩ := ext_of_below hb; clear hb))
  go_returns
  refine ⟨rfl, ?_⟩
  repeat' (first | exact Below.refl _ _ | refine below_ext ?_ ?_ _ | refine Below.alloc ?_ ?_ _ | refine Below.setCell ?_ ?_ _ | refine Below.drew ?_ | (rw [size_ext]; refine Nat.le_add_right_of_le ?_) | go_size | (rw [World.size_alloc]; refine Nat.le_add_right_of_le ?_))
set_option maxHeartbeats 1000000 in
theorem keeps_none (a b f h u : Int) (A : Option Addr) (cap : Nat) (w : World) (hk1 : ((W5.mk a b f h u).chk != 0) = false) :
    Calls Try.prog 9 #[.agg #[.int .i64 a, .int .i64 b, .int .i64 f, .int .i64 h, .int .i64 u], .slice A 0 cap] w fun e w' => e = .returned (.bool true) ∧ Below w.heap.size w w' := by
  go_enter Try.func9, Try.ntmps9
  go_wp2_with (first
    | (go_at_call 10; with_reducible refine (check_any _ _ _ _ _ _).mono ?_; rintro e w1 ⟨rfl, hb⟩; obtain ⟨s, rfl⟩ := ext_of_below hb; clear hb)
    | (go_at_call 14; with_reducible refine (alive_any _).mono ?_; rintro e w1 ⟨rfl, hb⟩; obtain ⟨s, rfl⟩ := ext_of_below hb; clear hb))
  refine wp_loop_rounds 1 ?_
  rw [rounds_succ]
  go_wp2_with (first
    | (go_at_call 10; with_reducible refine (check_any _ _ _ _ _ _).mono ?_; rintro e w1 ⟨rfl, hb⟩; obtain ⟨s, rfl⟩ := ext_of_below hb; clear hb)
    | (go_at_call 14; with_reducible refine (alive_any _).mono ?_; rintro e w1 ⟨rfl, hb⟩; obtain ⟨s, rfl⟩ := ext_of_below hb; clear hb))
  go_returns
  refine ⟨rfl, ?_⟩
  repeat' (first | exact Below.refl _ _ | refine below_ext ?_ ?_ _ | refine Below.alloc ?_ ?_ _ | refine Below.setCell ?_ ?_ _ | refine Below.drew ?_ | (rw [size_ext]; refine Nat.le_add_right_of_le ?_) | go_size | (rw [World.size_alloc]; refine Nat.le_add_right_of_le ?_))

end Go.Proofs.Ytfbodilmjkcihaa

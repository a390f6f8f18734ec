/-
  The walks of the small functions of buckets: periods, comparisons, the identity, a text in a list.
-/
import Derived.Test.YthkollhebabhbaaBw1
namespace Go.Proofs.Ythkollhebabhbaa
open Go.RowKit
set_option linter.unusedSimpArgs false

set_option maxHeartbeats 400000 in
theorem pval_any (f t : Int) (w : World) :
    Calls Try.prog 95 #[.agg #[.int .i64 f, .int .i64 t]] w fun e w' => e = .returned (.bool (pvalB f t)) ∧ Below w.heap.size w w' := by
  go_enter Try.func95, Try.ntmps95
  go_wp2
  all_goals
    go_ret
    refine ⟨ret_bool (by rw [Bool.eq_iff_iff]; simp [pvalB]; try omega), ?_⟩
    repeat' (first | exact Below.refl _ _ | refine below_ext ?_ ?_ _ | refine Below.alloc ?_ ?_ _ | refine Below.setCell ?_ ?_ _ | refine Below.drew ?_ | (rw [size_ext]; refine Nat.le_add_right_of_le ?_) | go_size | (rw [World.size_alloc]; refine Nat.le_add_right_of_le ?_))

set_option maxHeartbeats 400000 in
theorem rpval_any (f t : Int) (w : World) :
    Calls Try.prog 96 #[.agg #[.int .i64 f, .int .i64 t]] w fun e w' => e = .returned (.bool (pvalB f t)) ∧ Below w.heap.size w w' := by
  go_enter Try.func96, Try.ntmps96
  go_wp2
  all_goals
    go_ret
    refine ⟨ret_bool (by rw [Bool.eq_iff_iff]; simp [pvalB]; try omega), ?_⟩
    repeat' (first | exact Below.refl _ _ | refine below_ext ?_ ?_ _ | refine Below.alloc ?_ ?_ _ | refine Below.setCell ?_ ?_ _ | refine Below.drew ?_ | (rw [size_ext]; refine Nat.le_add_right_of_le ?_) | go_size | (rw [World.size_alloc]; refine Nat.le_add_right_of_le ?_))

set_option maxHeartbeats 400000 in
theorem pcon_any (f t n : Int) (w : World) :
    Calls Try.prog 80 #[.agg #[.int .i64 f, .int .i64 t], .int .i64 n] w fun e w' => e = .returned (.bool (pconB f t n)) ∧ Below w.heap.size w w' := by
  go_enter Try.func80, Try.ntmps80
  go_wp2_with (go_at_call 95; with_reducible refine (pval_any _ _ _).mono ?_; rintro e w1 ⟨rfl, hb⟩; obtain ⟨s, rfl⟩ := ext_of_below hb; clear hb)
  all_goals
    go_ret
    refine ⟨ret_bool (by rw [Bool.eq_iff_iff]; simp [pconB, *]; try omega), ?_⟩
    repeat' (first | exact Below.refl _ _ | refine below_ext ?_ ?_ _ | refine Below.alloc ?_ ?_ _ | refine Below.setCell ?_ ?_ _ | refine Below.drew ?_ | (rw [size_ext]; refine Nat.le_add_right_of_le ?_) | go_size | (rw [World.size_alloc]; refine Nat.le_add_right_of_le ?_))

set_option maxHeartbeats 400000 in
theorem rpcon_any (f t n : Int) (w : World) :
    Calls Try.prog 82 #[.agg #[.int .i64 f, .int .i64 t], .int .i64 n] w fun e w' => e = .returned (.bool (pconB f t n)) ∧ Below w.heap.size w w' := by
  go_enter Try.func82, Try.ntmps82
  go_wp2_with (go_at_call 96; with_reducible refine (rpval_any _ _ _).mono ?_; rintro e w1 ⟨rfl, hb⟩; obtain ⟨s, rfl⟩ := ext_of_below hb; clear hb)
  all_goals
    go_ret
    refine ⟨ret_bool (by rw [Bool.eq_iff_iff]; simp [pconB, *]; try omega), ?_⟩
    repeat' (first | exact Below.refl _ _ | refine below_ext ?_ ?_ _ | refine Below.alloc ?_ ?_ _ | refine Below.setCell ?_ ?_ _ | refine Below.drew ?_ | (rw [size_ext]; refine Nat.le_add_right_of_le ?_) | go_size | (rw [World.size_alloc]; refine Nat.le_add_right_of_le ?_))

def cmp (a b : Int) : Int := if a < b then -1 else if b < a then 1 else 0
set_option maxHeartbeats 400000 in
theorem compare_any (a b : Int) (w : World) :
    Calls Try.prog 94 #[.int .i64 a, .int .i64 b] w fun e w' => e = .returned (.int .i64 (cmp a b)) ∧ w = w' := by
  go_enter Try.func94, Try.ntmps94
  go_wp2
  all_goals (go_ret; refine ⟨ret_int ?_, rfl⟩; unfold cmp; (repeat' split) <;> first | rfl | (exfalso; omega))

/-- The texts zs lie from A on. -/
def StrsAt (w : World) (A : Option Addr) (zs : List ByteArray) : Prop := ∀ (j : Nat) (s : ByteArray), zs[j]? = some s → ∃ b o, A = some ⟨b, o, none⟩ ∧ b < w.heap.size ∧ w.cell? ⟨b, o + j, none⟩ = some (.string s)
theorem StrsAt.below {w w' : World} {A : Option Addr} {zs : List ByteArray} (h : StrsAt w A zs) (hb : Below w.heap.size w w') : StrsAt w' A zs := fun j s hs => by
  obtain ⟨b, o, hA, hlt, hc⟩ := h j s hs
  exact ⟨b, o, hA, Nat.lt_of_lt_of_le hlt hb.size, (hb.cell (p := ⟨b, o + j, none⟩) hlt).trans hc⟩
theorem StrsAt.alloc {w : World} {A : Option Addr} {zs : List ByteArray} (h : StrsAt w A zs) (x : Obj) : StrsAt (w.alloc x) A zs := h.below ((Below.refl _ _).alloc (Nat.le_refl _) x)
theorem StrsAt.ext {w : World} {A : Option Addr} {zs : List ByteArray} (h : StrsAt w A zs) (s : More) : StrsAt (ext w s) A zs := h.below (below_ext (Below.refl _ _) (Nat.le_refl _) s)
theorem StrsAt.drew {w : World} {A : Option Addr} {zs : List ByteArray} (h : StrsAt w A zs) : StrsAt w.drew A zs := h

set_option maxHeartbeats 400000 in
theorem of_any (x : Bk) (A : Option Addr) (c : Nat) (w : World) :
    Calls Try.prog 59 #[.agg #[.int .i64 x.acc, .int .i64 x.sub, .string x.prod, .int .i64 x.idx, .int .i64 x.kind, .slice A x.zones.length c, .int .i64 x.frm, .int .i64 x.til, .int .i64 x.units, .int .i64 x.left, .int .i64 x.prio, .bool x.shared]] w fun e w' => e = .returned (.agg #[.int .i64 x.sub, .string x.prod, .int .i64 x.idx, .int .i64 x.frm]) ∧ Below w.heap.size w w' := by
  go_enter Try.func59, Try.ntmps59
  go_wp2
  go_returns
  refine ⟨rfl, ?_⟩
  repeat' (first | exact Below.refl _ _ | refine below_ext ?_ ?_ _ | refine Below.alloc ?_ ?_ _ | refine Below.setCell ?_ ?_ _ | refine Below.drew ?_ | (rw [size_ext]; refine Nat.le_add_right_of_le ?_) | go_size | (rw [World.size_alloc]; refine Nat.le_add_right_of_le ?_))

set_option maxHeartbeats 400000 in
theorem has_any (A : Option Addr) (c : Nat) (zs : List ByteArray) (zone : ByteArray) (w : World) (hn : zs.length ≤ 100) (hz : StrsAt w A zs) :
    Calls Try.prog 83 #[.slice A zs.length c, .string zone] w fun e w' => e = .returned (.bool (zs.any fun z => z.toList == zone.toList)) ∧ w = w' := by
  have Hz := Lib.hid hz
  clear hz
  go_enter Try.func83, Try.ntmps83
  go_wp2
  go_loop [5] (fun i => ∃ k : Nat, k ≤ zs.length ∧ i = .int .i64 k ∧ Hid (∀ (j : Nat) (s : ByteArray), zs[j]? = some s → j < k → (s.toList == zone.toList) = false)) (fun i => zs.length - (intOf i).toNat)
  case atStart => exact ⟨0, Nat.zero_le _, rfl, fun j s _ h => absurd h (by omega)⟩
  case round =>
    obtain ⟨k, hk, rfl, hall⟩ := hrel
    by_cases hlt : k < zs.length
    · obtain ⟨s, hs⟩ : ∃ s, zs[k]? = some s := ⟨_, List.getElem?_eq_getElem hlt⟩
      obtain ⟨b, o, rfl, hb, hc⟩ := Hz.out k s hs
      have Hs := Lib.hid hs
      clear hs
      by_cases he : (s.toList == zone.toList) = true
      · go_wp2
        go_ret
        exact ⟨ret_bool (List.any_eq_true.2 ⟨s, List.mem_of_getElem? Hs.out, he⟩).symm, rfl⟩
      · have he' : (s.toList == zone.toList) = false := by simpa using he
        clear he
        go_wp2
        go_round
        case rel => exact ⟨k + 1, by omega, by go_num, fun j t ht hj => by
                      rcases Nat.lt_succ_iff_lt_or_eq.1 hj with h | h
                      · exact hall.out j t ht h
                      · subst h
                        rw [Hs.out] at ht
                        cases ht
                        exact he'⟩
        case measure => simp [intOf]; omega
    · go_wp2
      go_ret
      refine ⟨ret_bool (Eq.symm ?_), rfl⟩
      rw [List.any_eq_false]
      intro s hs
      obtain ⟨j, hj⟩ := List.mem_iff_getElem?.1 hs
      have hjl : j < zs.length := (List.getElem?_eq_some_iff.1 hj).1
      rw [hall.out j s hj (by omega)]
      simp

end Go.Proofs.Ythkollhebabhbaa

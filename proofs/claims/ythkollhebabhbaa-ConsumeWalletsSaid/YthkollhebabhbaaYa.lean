/-
  ConsumeWallets: texts joined (by joinw.py).
-/
import Derived.Test.YthkollhebabhbaaBw1

/-!
  The small functions of the reference on events.
-/
namespace Go.Proofs.Ythkollhebabhbaa
open Go.RowKit
set_option linter.unusedSimpArgs false
set_option linter.unusedVariables false

/-- Some Bool is returned, and nothing is written. -/
def SomeB (w : World) (e : Ending) (w' : World) : Prop := (∃ b : Bool, e = .returned (.bool b)) ∧ Below w.heap.size w w'

theorem idk_any (n : Int) (w : World) : Calls Try.prog 84 #[.int .i64 n] w (SomeB w) := by
  go_enter Try.func84, Try.ntmps84
  go_wp2
  all_goals
    go_ret
    exact ⟨⟨_, rfl⟩, Below.refl _ _⟩
theorem instant_any (n : Int) (w : World) : Calls Try.prog 44 #[.int .i64 n] w fun e w' => e = .returned (.bool (decide (0 ≤ n ∧ n < 12622780800))) ∧ w = w' := by
  by_cases h1 : 0 ≤ n
  · by_cases h2 : n < 12622780800
    · go_enter Try.func44, Try.ntmps44
      go_wp2
      go_ret
      exact ⟨by simp [h1, h2], rfl⟩
    · go_enter Try.func44, Try.ntmps44
      go_wp2
      go_ret
      exact ⟨by simp [h1, h2], rfl⟩
  · go_enter Try.func44, Try.ntmps44
    go_wp2
    all_goals
      go_ret
      refine ⟨?_, rfl⟩
      have h3 : ¬ (0 ≤ n ∧ n < 12622780800) := by omega
      simp [h1, h3]
      try omega

/-- An event. -/
structure Ev where
  at_ : Int
  kind : Int
  acc : Int
  sub : Int
  num : ByteArray
  name : ByteArray
  value : Int
def Ev.cells (x : Ev) : List Value := [.int .i64 x.at_, .int .i64 x.kind, .int .i64 x.acc, .int .i64 x.sub, .string x.num, .string x.name, .int .i64 x.value]

theorem value_any (a k c s : Int) (nu na : ByteArray) (v : Int) (w : World) : Calls Try.prog 87 #[.agg #[.int .i64 a, .int .i64 k, .int .i64 c, .int .i64 s, .string nu, .string na, .int .i64 v]] w (SomeB w) := by
  go_enter Try.func87, Try.ntmps87
  go_wp2
  all_goals
    try go_ret
    exact ⟨⟨_, rfl⟩, by repeat' (first | exact Below.refl _ _ | refine below_ext ?_ ?_ _ | refine Below.alloc ?_ ?_ _ | refine Below.setCell ?_ ?_ _ | refine Below.drew ?_ | (rw [size_ext]; refine Nat.le_add_right_of_le ?_) | go_size | (rw [World.size_alloc]; refine Nat.le_add_right_of_le ?_))⟩

set_option maxHeartbeats 1000000 in
theorem vname_any (s : ByteArray) (w : World) : Calls Try.prog 85 #[.string s] w (SomeB w) := by
  rcases Nat.eq_zero_or_pos s.size with h0 | h0
  · have g0 : s.size < 1 := by omega
    go_enter Try.func85, Try.ntmps85
    go_wp2
    go_ret
    exact ⟨⟨_, rfl⟩, Below.refl _ _⟩
  · have g0 := isEmpty_not h0
    go_enter Try.func85, Try.ntmps85
    go_wp2
    all_goals first
      | (go_ret; exact ⟨⟨_, rfl⟩, Below.refl _ _⟩)
      | skip
    go_loop [3] (fun i => ∃ k : Nat, k ≤ s.size ∧ i = .int .i64 k) (fun i => s.size - (intOf i).toNat)
    case atStart => exact ⟨0, Nat.zero_le _, rfl⟩
    case round =>
      obtain ⟨k, hk, rfl⟩ := hrel
      by_cases hlt : k < s.size
      · go_wp2
        all_goals first
          | (go_ret; exact ⟨⟨_, rfl⟩, Below.refl _ _⟩)
          | (go_round
             case rel => exact ⟨k + 1, by omega, by go_num⟩
             case measure => simp [intOf]; omega)
      · go_wp2
        go_ret
        exact ⟨⟨_, rfl⟩, Below.refl _ _⟩
set_option maxHeartbeats 1000000 in
theorem vnum_any (s : ByteArray) (w : World) (hs : s.size ≤ maxLen) : Calls Try.prog 86 #[.string s] w (SomeB w) := by
  simp only [maxLen] at hs
  go_enter Try.func86, Try.ntmps86
  go_wp2
  go_loop [3] (fun i => ∃ k : Nat, k ≤ s.size ∧ i = .int .i64 k) (fun i => s.size - (intOf i).toNat)
  case atStart => exact ⟨0, Nat.zero_le _, rfl⟩
  case round =>
    obtain ⟨k, hk, rfl⟩ := hrel
    by_cases hlt : k < s.size
    · go_wp2
      all_goals first
        | (go_ret; exact ⟨⟨_, rfl⟩, Below.refl _ _⟩)
        | (go_round
           case rel => exact ⟨k + 1, by omega, by go_num⟩
           case measure => simp [intOf]; omega)
    · go_wp2
      all_goals
        go_ret
        exact ⟨⟨_, rfl⟩, Below.refl _ _⟩

/-- Which fields a kind uses. -/
def usL (k : Int) : Bool × Bool × Bool × Bool × Bool :=
  if k = 1 then (true, false, false, true, true) else if k = 2 then (true, false, false, false, false) else if k = 3 then (true, true, false, true, false)
  else if k = 5 ∨ k = 6 then (false, true, true, false, false) else if k = 7 ∨ k = 8 ∨ k = 9 then (false, true, false, true, false) else if k = 14 ∨ k = 15 then (true, false, false, false, true)
  else (false, true, false, false, false)
def UsR (k : Int) (w : World) (e : Ending) (w' : World) : Prop := e = .returned (.agg #[.bool (usL k).1, .bool (usL k).2.1, .bool (usL k).2.2.1, .bool (usL k).2.2.2.1, .bool (usL k).2.2.2.2]) ∧ Below w.heap.size w w'
set_option maxHeartbeats 1000000 in
theorem uses_any (k : Int) (w : World) : Calls Try.prog 73 #[.int .i64 k] w (UsR k w) := by
  have hc : k = 1 ∨ k = 2 ∨ k = 3 ∨ k = 5 ∨ k = 6 ∨ k = 7 ∨ k = 8 ∨ k = 9 ∨ k = 14 ∨ k = 15 ∨ (¬ k = 1 ∧ ¬ k = 2 ∧ ¬ k = 3 ∧ ¬ k = 5 ∧ ¬ k = 6 ∧ ¬ k = 7 ∧ ¬ k = 8 ∧ ¬ k = 9 ∧ ¬ k = 14 ∧ ¬ k = 15) := by omega
  rcases hc with rfl | rfl | rfl | rfl | rfl | rfl | rfl | rfl | rfl | rfl | ⟨h1, h2, h3, h5, h6, h7, h8, h9, h14, h15⟩
  all_goals
    go_enter Try.func73, Try.ntmps73
    go_wp2
    refine bodyPost_ret (by simp [results, Try.results73, go_sem]; first | done | rfl) rfl ?_
    refine ⟨?_, by repeat' (first | exact Below.refl _ _ | refine below_ext ?_ ?_ _ | refine Below.alloc ?_ ?_ _ | refine Below.setCell ?_ ?_ _ | refine Below.drew ?_ | (rw [size_ext]; refine Nat.le_add_right_of_le ?_) | go_size | (rw [World.size_alloc]; refine Nat.le_add_right_of_le ?_))⟩
    first
    | rfl
    | (unfold usL; simp [h1, h2, h3, h5, h6, h7, h8, h9, h14, h15])
end Go.Proofs.Ythkollhebabhbaa

/-!
  The form of an event.
-/
namespace Go.Proofs.Ythkollhebabhbaa
open Go.RowKit
set_option linter.unusedSimpArgs false
set_option linter.unusedVariables false

/-- The form's error: none only for a kind, at no earlier instant. -/
def FormR (at_ kind last : Int) (w : World) (e : Ending) (w' : World) : Prop := (∃ n : Int, e = .returned (.int .i64 n) ∧ (n = 0 → last ≤ at_ ∧ 1 ≤ kind ∧ kind ≤ 15)) ∧ Below w.heap.size w w'

set_option maxRecDepth 100000 in
set_option maxHeartbeats 8000000 in
theorem form_open (a k c s : Int) (nu na : ByteArray) (v last : Int) (w : World) (hnu : nu.size ≤ maxLen)
    (HU : ∀ W, Calls Try.prog 73 #[.int .i64 k] W fun e w' => e = .returned (.agg #[.bool true, .bool false, .bool false, .bool true, .bool true]) ∧ Below W.heap.size W w')
    (h1 : 1 ≤ k) (h2 : k ≤ 15) (h3 : 0 ≤ a) (h4 : a < 12622780800) (h5 : last ≤ a) (hk : k = 1) :
    Calls Try.prog 72 #[.agg #[.int .i64 a, .int .i64 k, .int .i64 c, .int .i64 s, .string nu, .string na, .int .i64 v], .int .i64 last] w (FormR a k last w) := by
  have H5 := Lib.hid h5
  subst hk
  go_enter Try.func72, Try.ntmps72
  go_wp2_with (first
    | (go_at_call 73; (with_reducible refine (HU _).mono ?_); rintro e w1 ⟨rfl, hb⟩; obtain ⟨s, rfl⟩ := ext_of_below hb; clear hb)
    | (go_at_call 84; (with_reducible refine (idk_any _ _).mono ?_); rintro e w1 ⟨⟨b, rfl⟩, hb⟩; obtain ⟨s, rfl⟩ := ext_of_below hb; clear hb)
    | (go_at_call 85; (with_reducible refine (vname_any _ _).mono ?_); rintro e w1 ⟨⟨b, rfl⟩, hb⟩; obtain ⟨s, rfl⟩ := ext_of_below hb; clear hb)
    | (go_at_call 86; (with_reducible refine (vnum_any _ _ hnu).mono ?_); rintro e w1 ⟨⟨b, rfl⟩, hb⟩; obtain ⟨s, rfl⟩ := ext_of_below hb; clear hb)
    | (go_at_call 87; (with_reducible refine (value_any _ _ _ _ _ _ _ _).mono ?_); rintro e w1 ⟨⟨b, rfl⟩, hb⟩; obtain ⟨s, rfl⟩ := ext_of_below hb; clear hb))
  all_goals
    try go_ret
  all_goals
    refine ⟨⟨_, rfl, fun _ => ⟨H5.out, h1, h2⟩⟩, ?_⟩
    repeat' (first | exact Below.refl _ _ | refine below_ext ?_ ?_ _ | refine Below.alloc ?_ ?_ _ | refine Below.setCell ?_ ?_ _ | refine Below.drew ?_ | (rw [size_ext]; refine Nat.le_add_right_of_le ?_) | go_size | (rw [World.size_alloc]; refine Nat.le_add_right_of_le ?_))

set_option maxRecDepth 100000 in
set_option maxHeartbeats 8000000 in
theorem form_close (a k c s : Int) (nu na : ByteArray) (v last : Int) (w : World) (hnu : nu.size ≤ maxLen)
    (HU : ∀ W, Calls Try.prog 73 #[.int .i64 k] W fun e w' => e = .returned (.agg #[.bool true, .bool false, .bool false, .bool false, .bool false]) ∧ Below W.heap.size W w')
    (h1 : 1 ≤ k) (h2 : k ≤ 15) (h3 : 0 ≤ a) (h4 : a < 12622780800) (h5 : last ≤ a) (hk : ¬ k = 1) :
    Calls Try.prog 72 #[.agg #[.int .i64 a, .int .i64 k, .int .i64 c, .int .i64 s, .string nu, .string na, .int .i64 v], .int .i64 last] w (FormR a k last w) := by
  have H5 := Lib.hid h5
  go_enter Try.func72, Try.ntmps72
  go_wp2_with (first
    | (go_at_call 73; (with_reducible refine (HU _).mono ?_); rintro e w1 ⟨rfl, hb⟩; obtain ⟨s, rfl⟩ := ext_of_below hb; clear hb)
    | (go_at_call 84; (with_reducible refine (idk_any _ _).mono ?_); rintro e w1 ⟨⟨b, rfl⟩, hb⟩; obtain ⟨s, rfl⟩ := ext_of_below hb; clear hb)
    | (go_at_call 85; (with_reducible refine (vname_any _ _).mono ?_); rintro e w1 ⟨⟨b, rfl⟩, hb⟩; obtain ⟨s, rfl⟩ := ext_of_below hb; clear hb)
    | (go_at_call 86; (with_reducible refine (vnum_any _ _ hnu).mono ?_); rintro e w1 ⟨⟨b, rfl⟩, hb⟩; obtain ⟨s, rfl⟩ := ext_of_below hb; clear hb)
    | (go_at_call 87; (with_reducible refine (value_any _ _ _ _ _ _ _ _).mono ?_); rintro e w1 ⟨⟨b, rfl⟩, hb⟩; obtain ⟨s, rfl⟩ := ext_of_below hb; clear hb))
  all_goals
    try go_ret
  all_goals
    refine ⟨⟨_, rfl, fun _ => ⟨H5.out, h1, h2⟩⟩, ?_⟩
    repeat' (first | exact Below.refl _ _ | refine below_ext ?_ ?_ _ | refine Below.alloc ?_ ?_ _ | refine Below.setCell ?_ ?_ _ | refine Below.drew ?_ | (rw [size_ext]; refine Nat.le_add_right_of_le ?_) | go_size | (rw [World.size_alloc]; refine Nat.le_add_right_of_le ?_))

set_option maxRecDepth 100000 in
set_option maxHeartbeats 8000000 in
theorem form_add (a k c s : Int) (nu na : ByteArray) (v last : Int) (w : World) (hnu : nu.size ≤ maxLen)
    (HU : ∀ W, Calls Try.prog 73 #[.int .i64 k] W fun e w' => e = .returned (.agg #[.bool true, .bool true, .bool false, .bool true, .bool false]) ∧ Below W.heap.size W w')
    (h1 : 1 ≤ k) (h2 : k ≤ 15) (h3 : 0 ≤ a) (h4 : a < 12622780800) (h5 : last ≤ a) (hk : ¬ k = 1) :
    Calls Try.prog 72 #[.agg #[.int .i64 a, .int .i64 k, .int .i64 c, .int .i64 s, .string nu, .string na, .int .i64 v], .int .i64 last] w (FormR a k last w) := by
  have H5 := Lib.hid h5
  go_enter Try.func72, Try.ntmps72
  go_wp2_with (first
    | (go_at_call 73; (with_reducible refine (HU _).mono ?_); rintro e w1 ⟨rfl, hb⟩; obtain ⟨s, rfl⟩ := ext_of_below hb; clear hb)
    | (go_at_call 84; (with_reducible refine (idk_any _ _).mono ?_); rintro e w1 ⟨⟨b, rfl⟩, hb⟩; obtain ⟨s, rfl⟩ := ext_of_below hb; clear hb)
    | (go_at_call 85; (with_reducible refine (vname_any _ _).mono ?_); rintro e w1 ⟨⟨b, rfl⟩, hb⟩; obtain ⟨s, rfl⟩ := ext_of_below hb; clear hb)
    | (go_at_call 86; (with_reducible refine (vnum_any _ _ hnu).mono ?_); rintro e w1 ⟨⟨b, rfl⟩, hb⟩; obtain ⟨s, rfl⟩ := ext_of_below hb; clear hb)
    | (go_at_call 87; (with_reducible refine (value_any _ _ _ _ _ _ _ _).mono ?_); rintro e w1 ⟨⟨b, rfl⟩, hb⟩; obtain ⟨s, rfl⟩ := ext_of_below hb; clear hb))
  all_goals
    try go_ret
  all_goals
    refine ⟨⟨_, rfl, fun _ => ⟨H5.out, h1, h2⟩⟩, ?_⟩
    repeat' (first | exact Below.refl _ _ | refine below_ext ?_ ?_ _ | refine Below.alloc ?_ ?_ _ | refine Below.setCell ?_ ?_ _ | refine Below.drew ?_ | (rw [size_ext]; refine Nat.le_add_right_of_le ?_) | go_size | (rw [World.size_alloc]; refine Nat.le_add_right_of_le ?_))

set_option maxRecDepth 100000 in
set_option maxHeartbeats 8000000 in
theorem form_number (a k c s : Int) (nu na : ByteArray) (v last : Int) (w : World) (hnu : nu.size ≤ maxLen)
    (HU : ∀ W, Calls Try.prog 73 #[.int .i64 k] W fun e w' => e = .returned (.agg #[.bool false, .bool true, .bool true, .bool false, .bool false]) ∧ Below W.heap.size W w')
    (h1 : 1 ≤ k) (h2 : k ≤ 15) (h3 : 0 ≤ a) (h4 : a < 12622780800) (h5 : last ≤ a) (hk : ¬ k = 1) :
    Calls Try.prog 72 #[.agg #[.int .i64 a, .int .i64 k, .int .i64 c, .int .i64 s, .string nu, .string na, .int .i64 v], .int .i64 last] w (FormR a k last w) := by
  have H5 := Lib.hid h5
  go_enter Try.func72, Try.ntmps72
  go_wp2_with (first
    | (go_at_call 73; (with_reducible refine (HU _).mono ?_); rintro e w1 ⟨rfl, hb⟩; obtain ⟨s, rfl⟩ := ext_of_below hb; clear hb)
    | (go_at_call 84; (with_reducible refine (idk_any _ _).mono ?_); rintro e w1 ⟨⟨b, rfl⟩, hb⟩; obtain ⟨s, rfl⟩ := ext_of_below hb; clear hb)
    | (go_at_call 85; (with_reducible refine (vname_any _ _).mono ?_); rintro e w1 ⟨⟨b, rfl⟩, hb⟩; obtain ⟨s, rfl⟩ := ext_of_below hb; clear hb)
    | (go_at_call 86; (with_reducible refine (vnum_any _ _ hnu).mono ?_); rintro e w1 ⟨⟨b, rfl⟩, hb⟩; obtain ⟨s, rfl⟩ := ext_of_below hb; clear hb)
    | (go_at_call 87; (with_reducible refine (value_any _ _ _ _ _ _ _ _).mono ?_); rintro e w1 ⟨⟨b, rfl⟩, hb⟩; obtain ⟨s, rfl⟩ := ext_of_below hb; clear hb))
  all_goals
    try go_ret
  all_goals
    refine ⟨⟨_, rfl, fun _ => ⟨H5.out, h1, h2⟩⟩, ?_⟩
    repeat' (first | exact Below.refl _ _ | refine below_ext ?_ ?_ _ | refine Below.alloc ?_ ?_ _ | refine Below.setCell ?_ ?_ _ | refine Below.drew ?_ | (rw [size_ext]; refine Nat.le_add_right_of_le ?_) | go_size | (rw [World.size_alloc]; refine Nat.le_add_right_of_le ?_))

set_option maxRecDepth 100000 in
set_option maxHeartbeats 8000000 in
theorem form_plan (a k c s : Int) (nu na : ByteArray) (v last : Int) (w : World) (hnu : nu.size ≤ maxLen)
    (HU : ∀ W, Calls Try.prog 73 #[.int .i64 k] W fun e w' => e = .returned (.agg #[.bool false, .bool true, .bool false, .bool true, .bool false]) ∧ Below W.heap.size W w')
    (h1 : 1 ≤ k) (h2 : k ≤ 15) (h3 : 0 ≤ a) (h4 : a < 12622780800) (h5 : last ≤ a) (hk : ¬ k = 1) :
    Calls Try.prog 72 #[.agg #[.int .i64 a, .int .i64 k, .int .i64 c, .int .i64 s, .string nu, .string na, .int .i64 v], .int .i64 last] w (FormR a k last w) := by
  have H5 := Lib.hid h5
  go_enter Try.func72, Try.ntmps72
  go_wp2_with (first
    | (go_at_call 73; (with_reducible refine (HU _).mono ?_); rintro e w1 ⟨rfl, hb⟩; obtain ⟨s, rfl⟩ := ext_of_below hb; clear hb)
    | (go_at_call 84; (with_reducible refine (idk_any _ _).mono ?_); rintro e w1 ⟨⟨b, rfl⟩, hb⟩; obtain ⟨s, rfl⟩ := ext_of_below hb; clear hb)
    | (go_at_call 85; (with_reducible refine (vname_any _ _).mono ?_); rintro e w1 ⟨⟨b, rfl⟩, hb⟩; obtain ⟨s, rfl⟩ := ext_of_below hb; clear hb)
    | (go_at_call 86; (with_reducible refine (vnum_any _ _ hnu).mono ?_); rintro e w1 ⟨⟨b, rfl⟩, hb⟩; obtain ⟨s, rfl⟩ := ext_of_below hb; clear hb)
    | (go_at_call 87; (with_reducible refine (value_any _ _ _ _ _ _ _ _).mono ?_); rintro e w1 ⟨⟨b, rfl⟩, hb⟩; obtain ⟨s, rfl⟩ := ext_of_below hb; clear hb))
  all_goals
    try go_ret
  all_goals
    refine ⟨⟨_, rfl, fun _ => ⟨H5.out, h1, h2⟩⟩, ?_⟩
    repeat' (first | exact Below.refl _ _ | refine below_ext ?_ ?_ _ | refine Below.alloc ?_ ?_ _ | refine Below.setCell ?_ ?_ _ | refine Below.drew ?_ | (rw [size_ext]; refine Nat.le_add_right_of_le ?_) | go_size | (rw [World.size_alloc]; refine Nat.le_add_right_of_le ?_))

set_option maxRecDepth 100000 in
set_option maxHeartbeats 8000000 in
theorem form_topup (a k c s : Int) (nu na : ByteArray) (v last : Int) (w : World) (hnu : nu.size ≤ maxLen)
    (HU : ∀ W, Calls Try.prog 73 #[.int .i64 k] W fun e w' => e = .returned (.agg #[.bool true, .bool false, .bool false, .bool false, .bool true]) ∧ Below W.heap.size W w')
    (h1 : 1 ≤ k) (h2 : k ≤ 15) (h3 : 0 ≤ a) (h4 : a < 12622780800) (h5 : last ≤ a) (hk : ¬ k = 1) :
    Calls Try.prog 72 #[.agg #[.int .i64 a, .int .i64 k, .int .i64 c, .int .i64 s, .string nu, .string na, .int .i64 v], .int .i64 last] w (FormR a k last w) := by
  have H5 := Lib.hid h5
  go_enter Try.func72, Try.ntmps72
  go_wp2_with (first
    | (go_at_call 73; (with_reducible refine (HU _).mono ?_); rintro e w1 ⟨rfl, hb⟩; obtain ⟨s, rfl⟩ := ext_of_below hb; clear hb)
    | (go_at_call 84; (with_reducible refine (idk_any _ _).mono ?_); rintro e w1 ⟨⟨b, rfl⟩, hb⟩; obtain ⟨s, rfl⟩ := ext_of_below hb; clear hb)
    | (go_at_call 85; (with_reducible refine (vname_any _ _).mono ?_); rintro e w1 ⟨⟨b, rfl⟩, hb⟩; obtain ⟨s, rfl⟩ := ext_of_below hb; clear hb)
    | (go_at_call 86; (with_reducible refine (vnum_any _ _ hnu).mono ?_); rintro e w1 ⟨⟨b, rfl⟩, hb⟩; obtain ⟨s, rfl⟩ := ext_of_below hb; clear hb)
    | (go_at_call 87; (with_reducible refine (value_any _ _ _ _ _ _ _ _).mono ?_); rintro e w1 ⟨⟨b, rfl⟩, hb⟩; obtain ⟨s, rfl⟩ := ext_of_below hb; clear hb))
  all_goals
    try go_ret
  all_goals
    refine ⟨⟨_, rfl, fun _ => ⟨H5.out, h1, h2⟩⟩, ?_⟩
    repeat' (first | exact Below.refl _ _ | refine below_ext ?_ ?_ _ | refine Below.alloc ?_ ?_ _ | refine Below.setCell ?_ ?_ _ | refine Below.drew ?_ | (rw [size_ext]; refine Nat.le_add_right_of_le ?_) | go_size | (rw [World.size_alloc]; refine Nat.le_add_right_of_le ?_))

set_option maxRecDepth 100000 in
set_option maxHeartbeats 8000000 in
theorem form_rest (a k c s : Int) (nu na : ByteArray) (v last : Int) (w : World) (hnu : nu.size ≤ maxLen)
    (HU : ∀ W, Calls Try.prog 73 #[.int .i64 k] W fun e w' => e = .returned (.agg #[.bool false, .bool true, .bool false, .bool false, .bool false]) ∧ Below W.heap.size W w')
    (h1 : 1 ≤ k) (h2 : k ≤ 15) (h3 : 0 ≤ a) (h4 : a < 12622780800) (h5 : last ≤ a) (hk : ¬ k = 1) :
    Calls Try.prog 72 #[.agg #[.int .i64 a, .int .i64 k, .int .i64 c, .int .i64 s, .string nu, .string na, .int .i64 v], .int .i64 last] w (FormR a k last w) := by
  have H5 := Lib.hid h5
  go_enter Try.func72, Try.ntmps72
  go_wp2_with (first
    | (go_at_call 73; (with_reducible refine (HU _).mono ?_); rintro e w1 ⟨rfl, hb⟩; obtain ⟨s, rfl⟩ := ext_of_below hb; clear hb)
    | (go_at_call 84; (with_reducible refine (idk_any _ _).mono ?_); rintro e w1 ⟨⟨b, rfl⟩, hb⟩; obtain ⟨s, rfl⟩ := ext_of_below hb; clear hb)
    | (go_at_call 85; (with_reducible refine (vname_any _ _).mono ?_); rintro e w1 ⟨⟨b, rfl⟩, hb⟩; obtain ⟨s, rfl⟩ := ext_of_below hb; clear hb)
    | (go_at_call 86; (with_reducible refine (vnum_any _ _ hnu).mono ?_); rintro e w1 ⟨⟨b, rfl⟩, hb⟩; obtain ⟨s, rfl⟩ := ext_of_below hb; clear hb)
    | (go_at_call 87; (with_reducible refine (value_any _ _ _ _ _ _ _ _).mono ?_); rintro e w1 ⟨⟨b, rfl⟩, hb⟩; obtain ⟨s, rfl⟩ := ext_of_below hb; clear hb))
  all_goals
    try go_ret
  all_goals
    refine ⟨⟨_, rfl, fun _ => ⟨H5.out, h1, h2⟩⟩, ?_⟩
    repeat' (first | exact Below.refl _ _ | refine below_ext ?_ ?_ _ | refine Below.alloc ?_ ?_ _ | refine Below.setCell ?_ ?_ _ | refine Below.drew ?_ | (rw [size_ext]; refine Nat.le_add_right_of_le ?_) | go_size | (rw [World.size_alloc]; refine Nat.le_add_right_of_le ?_))

set_option maxRecDepth 100000 in
set_option maxHeartbeats 8000000 in
theorem form_any (a k c s : Int) (nu na : ByteArray) (v last : Int) (w : World) (hnu : nu.size ≤ maxLen) :
    Calls Try.prog 72 #[.agg #[.int .i64 a, .int .i64 k, .int .i64 c, .int .i64 s, .string nu, .string na, .int .i64 v], .int .i64 last] w (FormR a k last w) := by
  by_cases hall : (1 ≤ k ∧ k ≤ 15) ∧ (0 ≤ a ∧ a < 12622780800) ∧ last ≤ a
  · obtain ⟨⟨h1, h2⟩, ⟨h3, h4⟩, h5⟩ := hall
    have HU := fun W => uses_any k W
    unfold UsR at HU
    have hc : k = 1 ∨ k = 2 ∨ k = 3 ∨ (k = 5 ∨ k = 6) ∨ (k = 7 ∨ k = 8 ∨ k = 9) ∨ (k = 14 ∨ k = 15) ∨ (¬ k = 1 ∧ ¬ k = 2 ∧ ¬ k = 3 ∧ ¬ k = 5 ∧ ¬ k = 6 ∧ ¬ k = 7 ∧ ¬ k = 8 ∧ ¬ k = 9 ∧ ¬ k = 14 ∧ ¬ k = 15) := by omega
    rcases hc with hk | hk | hk | hk | hk | hk | hk
    · exact form_open a k c s nu na v last w hnu (by rw [show usL k = (true, false, false, true, true) by unfold usL; simp [hk]] at HU; exact HU) h1 h2 h3 h4 h5 hk
    · exact form_close a k c s nu na v last w hnu (by rw [show usL k = (true, false, false, false, false) by unfold usL; simp [hk]] at HU; exact HU) h1 h2 h3 h4 h5 (by omega)
    · exact form_add a k c s nu na v last w hnu (by rw [show usL k = (true, true, false, true, false) by unfold usL; simp [hk]] at HU; exact HU) h1 h2 h3 h4 h5 (by omega)
    · exact form_number a k c s nu na v last w hnu (by rw [show usL k = (false, true, true, false, false) by unfold usL; rcases hk with rfl | rfl <;> simp] at HU; exact HU) h1 h2 h3 h4 h5 (by omega)
    · exact form_plan a k c s nu na v last w hnu (by rw [show usL k = (false, true, false, true, false) by unfold usL; rcases hk with rfl | rfl | rfl <;> simp] at HU; exact HU) h1 h2 h3 h4 h5 (by omega)
    · exact form_topup a k c s nu na v last w hnu (by rw [show usL k = (true, false, false, false, true) by unfold usL; rcases hk with rfl | rfl <;> simp] at HU; exact HU) h1 h2 h3 h4 h5 (by omega)
    · exact form_rest a k c s nu na v last w hnu (by rw [show usL k = (false, true, false, false, false) by unfold usL; simp [hk]] at HU; exact HU) h1 h2 h3 h4 h5 (by omega)
  · by_cases h1 : 1 ≤ k ∧ k ≤ 15
    · by_cases h2 : 0 ≤ a ∧ a < 12622780800
      · have h5 : a < last := by omega
        clear hall
        obtain ⟨h1a, h1b⟩ := h1
        obtain ⟨h2a, h2b⟩ := h2
        go_enter Try.func72, Try.ntmps72
        go_wp2
        go_ret
        refine ⟨⟨_, rfl, fun h => absurd h (by decide)⟩, ?_⟩
        repeat' (first | exact Below.refl _ _ | refine below_ext ?_ ?_ _ | refine Below.alloc ?_ ?_ _ | refine Below.setCell ?_ ?_ _ | refine Below.drew ?_ | (rw [size_ext]; refine Nat.le_add_right_of_le ?_) | go_size | (rw [World.size_alloc]; refine Nat.le_add_right_of_le ?_))
      · obtain ⟨h1a, h1b⟩ := h1
        clear hall
        have h6 : a < 0 ∨ (0 ≤ a ∧ 12622780800 ≤ a) := by omega
        clear h2
        rcases h6 with h6 | ⟨h6, h7⟩
        all_goals
          go_enter Try.func72, Try.ntmps72
          go_wp2
          go_ret
          refine ⟨⟨_, rfl, fun h => absurd h (by decide)⟩, ?_⟩
          repeat' (first | exact Below.refl _ _ | refine below_ext ?_ ?_ _ | refine Below.alloc ?_ ?_ _ | refine Below.setCell ?_ ?_ _ | refine Below.drew ?_ | (rw [size_ext]; refine Nat.le_add_right_of_le ?_) | go_size | (rw [World.size_alloc]; refine Nat.le_add_right_of_le ?_))
    · clear hall
      have h6 : k < 1 ∨ (1 ≤ k ∧ 15 < k) := by omega
      clear h1
      rcases h6 with h6 | ⟨h6, h7⟩
      all_goals
        go_enter Try.func72, Try.ntmps72
        go_wp2
        go_ret
        refine ⟨⟨_, rfl, fun h => absurd h (by decide)⟩, ?_⟩
        repeat' (first | exact Below.refl _ _ | refine below_ext ?_ ?_ _ | refine Below.alloc ?_ ?_ _ | refine Below.setCell ?_ ?_ _ | refine Below.drew ?_ | (rw [size_ext]; refine Nat.le_add_right_of_le ?_) | go_size | (rw [World.size_alloc]; refine Nat.le_add_right_of_le ?_))
end Go.Proofs.Ythkollhebabhbaa

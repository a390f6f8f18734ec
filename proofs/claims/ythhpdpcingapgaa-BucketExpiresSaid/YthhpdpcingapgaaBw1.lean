/-
  The walks of the small functions of buckets: names, periods, comparisons.
-/
import Derived.Test.YthhpdpcingapgaaProg
import Derived.Test.YthhpdpcingapgaaBp
namespace Go.Proofs.Ythhpdpcingapgaa
open Go.RowKit
set_option linter.unusedSimpArgs false

theorem size_toList (s : ByteArray) : s.toList.length = s.size := by
  rw [ByteArray.toList_eq]
  cases s
  rfl
theorem isEmpty_of {s : ByteArray} (h : s.size = 0) : s.toList.isEmpty = true := by
  rw [List.isEmpty_iff_length_eq_zero, size_toList, h]
theorem isEmpty_not {s : ByteArray} (h : 0 < s.size) : s.toList.isEmpty = false := by
  cases hh : s.toList with
  | nil =>
    have := size_toList s
    rw [hh] at this
    simp at this
    omega
  | cons a l => rfl
theorem name_start {s : ByteArray} (h0 : 0 < s.size) (h : 97 ≤ (s[0].toNat : Int) ∧ (s[0].toNat : Int) ≤ 122) : Hid (∀ (j : Nat) (h : j < s.size), j < 1 → okc s[j]) := by
  intro j hj h1
  obtain rfl : j = 0 := by omega
  exact .inl h

set_option maxHeartbeats 1000000 in
theorem name_any (s : ByteArray) (w : World) :
    Calls Try.prog 29 #[.string s] w fun e w' => e = .returned (.bool (nameB s)) ∧ w = w' := by
  rcases Nat.eq_zero_or_pos s.size with h0 | h0
  · have g0 := isEmpty_of h0
    have E : Hid (nameB s = false) := nameB_no fun h => by have := h.lo; omega
    clear h0
    go_enter Try.func29, Try.ntmps29
    go_wp2
    go_ret
    exact ⟨ret_bool E.out.symm, rfl⟩
  · have g0 := isEmpty_not h0
    by_cases h1 : s.size ≤ 24
    · by_cases h2 : 97 ≤ (s[0].toNat : Int) ∧ (s[0].toNat : Int) ≤ 122
      · obtain ⟨h2a, h2b⟩ := h2
        go_enter Try.func29, Try.ntmps29
        go_wp2
        go_loop [3] (fun i => ∃ k : Nat, 1 ≤ k ∧ k ≤ s.size ∧ i = .int .i64 k ∧ Hid (∀ (j : Nat) (h : j < s.size), j < k → okc s[j])) (fun i => s.size - (intOf i).toNat)
        case atStart => exact ⟨1, Nat.le_refl _, h0, rfl, name_start h0 ⟨h2a, h2b⟩⟩
        case round =>
          obtain ⟨k, hk1, hk, rfl, hall⟩ := hrel
          by_cases hlt : k < s.size
          · by_cases hc : okc s[k]
            · have Hc := Lib.hid hc
              unfold okc at hc
              rcases hc with ⟨c1, c2⟩ | ⟨c1, c2⟩ | c1
              all_goals
                (try have c4 : ((s[k].toNat : Int) == 45) = true := beq_iff_eq.2 c1)
                (try have c5 : (s[k].toNat : Int) < 48 := by omega)
                (try have c6 : (s[k].toNat : Int) < 97 := by omega)
                go_wp2
                go_round
                case rel => exact ⟨k + 1, by omega, by omega, by go_num, fun j hj hjk => by
                              rcases Nat.lt_succ_iff_lt_or_eq.1 hjk with h | h
                              · exact hall.out j hj h
                              · subst h; exact Hc.out⟩
                case measure => simp [intOf]; omega
            · have E : Hid (nameB s = false) := nameB_no fun h => hc (h.all k hlt)
              unfold okc at hc
              have c1 : ¬ (97 ≤ (s[k].toNat : Int) ∧ (s[k].toNat : Int) ≤ 122) := fun h => hc (.inl h)
              have c2 : ¬ (48 ≤ (s[k].toNat : Int) ∧ (s[k].toNat : Int) ≤ 57) := fun h => hc (.inr (.inl h))
              have c3 : ((s[k].toNat : Int) != 45) = true := bne_iff_ne.2 fun h => hc (.inr (.inr h))
              clear hc
              go_wp2
              all_goals first
                | (go_ret; exact ⟨ret_bool E.out.symm, rfl⟩)
                | (exfalso; omega)
                | (exfalso; simp only [Bool.not_eq_false', Bool.not_eq_true', decide_eq_true_eq, decide_eq_false_iff_not] at *; omega)
          · have E : Hid (nameB s = true) := nameB_yes ⟨h0, h1, fun _ => ⟨h2a, h2b⟩, fun j hj => hall.out j hj (by omega)⟩
            go_wp2
            go_ret
            exact ⟨ret_bool E.out.symm, rfl⟩
      · have E : Hid (nameB s = false) := nameB_no fun h => h2 (h.head h0)
        go_enter Try.func29, Try.ntmps29
        go_wp2
        all_goals first
          | (go_ret; exact ⟨ret_bool E.out.symm, rfl⟩)
          | (exfalso; omega)
    · have E : Hid (nameB s = false) := nameB_no fun h => h1 h.hi
      go_enter Try.func29, Try.ntmps29
      go_wp2
      all_goals first
        | (go_ret; exact ⟨ret_bool E.out.symm, rfl⟩)
        | (exfalso; omega)
set_option maxHeartbeats 1000000 in
theorem rname_any (s : ByteArray) (w : World) :
    Calls Try.prog 31 #[.string s] w fun e w' => e = .returned (.bool (nameB s)) ∧ w = w' := by
  rcases Nat.eq_zero_or_pos s.size with h0 | h0
  · have g0 : s.size < 1 := by omega
    have E : Hid (nameB s = false) := nameB_no fun h => by have := h.lo; omega
    clear h0
    go_enter Try.func31, Try.ntmps31
    go_wp2
    go_ret
    exact ⟨ret_bool E.out.symm, rfl⟩
  · have g0 := isEmpty_not h0
    by_cases h1 : s.size ≤ 24
    · by_cases h2 : 97 ≤ (s[0].toNat : Int) ∧ (s[0].toNat : Int) ≤ 122
      · obtain ⟨h2a, h2b⟩ := h2
        go_enter Try.func31, Try.ntmps31
        go_wp2
        go_loop [3] (fun i => ∃ k : Nat, 0 ≤ k ∧ k ≤ s.size ∧ i = .int .i64 k ∧ Hid (∀ (j : Nat) (h : j < s.size), j < k → okc s[j])) (fun i => s.size - (intOf i).toNat)
        case atStart => exact ⟨0, Nat.le_refl _, Nat.zero_le _, rfl, fun j hj h1 => absurd h1 (by omega)⟩
        case round =>
          obtain ⟨k, hk1, hk, rfl, hall⟩ := hrel
          by_cases hlt : k < s.size
          · by_cases hc : okc s[k]
            · have Hc := Lib.hid hc
              unfold okc at hc
              rcases hc with ⟨c1, c2⟩ | ⟨c1, c2⟩ | c1
              all_goals
                (try have c4 : ((s[k].toNat : Int) == 45) = true := beq_iff_eq.2 c1)
                (try have c5 : (s[k].toNat : Int) < 48 := by omega)
                (try have c6 : (s[k].toNat : Int) < 97 := by omega)
                go_wp2
                go_round
                case rel => exact ⟨k + 1, by omega, by omega, by go_num, fun j hj hjk => by
                              rcases Nat.lt_succ_iff_lt_or_eq.1 hjk with h | h
                              · exact hall.out j hj h
                              · subst h; exact Hc.out⟩
                case measure => simp [intOf]; omega
            · have E : Hid (nameB s = false) := nameB_no fun h => hc (h.all k hlt)
              unfold okc at hc
              have c1 : ¬ (97 ≤ (s[k].toNat : Int) ∧ (s[k].toNat : Int) ≤ 122) := fun h => hc (.inl h)
              have c2 : ¬ (48 ≤ (s[k].toNat : Int) ∧ (s[k].toNat : Int) ≤ 57) := fun h => hc (.inr (.inl h))
              have c3 : ((s[k].toNat : Int) == 45) = false := beq_eq_false_iff_ne.2 fun h => hc (.inr (.inr h))
              clear hc
              go_wp2
              all_goals first
                | (go_ret; exact ⟨ret_bool E.out.symm, rfl⟩)
                | (exfalso; omega)
                | (exfalso; simp only [Bool.not_eq_false', Bool.not_eq_true', decide_eq_true_eq, decide_eq_false_iff_not] at *; omega)
          · have E : Hid (nameB s = true) := nameB_yes ⟨h0, h1, fun _ => ⟨h2a, h2b⟩, fun j hj => hall.out j hj (by omega)⟩
            go_wp2
            go_ret
            exact ⟨ret_bool E.out.symm, rfl⟩
      · have E : Hid (nameB s = false) := nameB_no fun h => h2 (h.head h0)
        go_enter Try.func31, Try.ntmps31
        go_wp2
        all_goals first
          | (go_ret; exact ⟨ret_bool E.out.symm, rfl⟩)
          | (exfalso; omega)
    · have E : Hid (nameB s = false) := nameB_no fun h => h1 h.hi
      go_enter Try.func31, Try.ntmps31
      go_wp2
      all_goals first
        | (go_ret; exact ⟨ret_bool E.out.symm, rfl⟩)
        | (exfalso; omega)
end Go.Proofs.Ythhpdpcingapgaa

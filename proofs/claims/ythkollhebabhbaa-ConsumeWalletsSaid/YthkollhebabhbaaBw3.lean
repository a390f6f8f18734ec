/-
  The walks of Usable, the program's and the reference's.
-/
import Derived.Test.YthkollhebabhbaaBw2
namespace Go.Proofs.Ythkollhebabhbaa
open Go.RowKit
set_option linter.unusedSimpArgs false

set_option maxHeartbeats 2000000 in
theorem usable_any (x : Bk) (A : Option Addr) (c : Nat) (account sub kind : Int) (zone : ByteArray) (family : Bool) (t : Int) (w : World) (hn : x.zones.length ≤ 100) (hz : StrsAt w A x.zones) :
    Calls Try.prog 67 #[.agg #[.int .i64 x.acc, .int .i64 x.sub, .string x.prod, .int .i64 x.idx, .int .i64 x.kind, .slice A x.zones.length c, .int .i64 x.frm, .int .i64 x.til, .int .i64 x.units, .int .i64 x.left, .int .i64 x.prio, .bool x.shared], .int .i64 account, .int .i64 sub, .int .i64 kind, .string zone, .bool family, .int .i64 t] w fun e w' => e = .returned (.bool (x.usable account sub kind zone family t)) ∧ Below w.heap.size w w' := by
  obtain ⟨ac, sb, pr, ix, kd, zs, fr, tl, un, lf, po, sh⟩ := x
  dsimp only at *
  have Hz := Lib.hid hz
  clear hz
  by_cases h1 : 0 < lf
  · by_cases h2 : kd = kind
    · subst h2
      have g2 : (kd != kd) = false := by simp
      cases h3 : pconB fr tl t
      · have E : Hid (Bk.usable ⟨ac, sb, pr, ix, kd, zs, fr, tl, un, lf, po, sh⟩ account sub kd zone family t = false) := by simp [Hid, Bk.usable, h3]
        go_enter Try.func67, Try.ntmps67
        go_wp2_with (go_at_call 80; with_reducible refine (pcon_any _ _ _ _).mono ?_; rintro e w1 ⟨rfl, hb⟩; obtain ⟨s, rfl⟩ := ext_of_below hb; clear hb)
        go_ret
        refine ⟨ret_bool E.out.symm, ?_⟩
        repeat' (first | exact Below.refl _ _ | refine below_ext ?_ ?_ _ | refine Below.alloc ?_ ?_ _ | refine Below.setCell ?_ ?_ _ | refine Below.drew ?_ | (rw [size_ext]; refine Nat.le_add_right_of_le ?_) | go_size | (rw [World.size_alloc]; refine Nat.le_add_right_of_le ?_))
      · by_cases hown : sb = sub ∨ (sb ≠ sub ∧ sh = true ∧ ac = account ∧ family = true)
        · have E1 : Hid (∀ r : Bool, (zs.isEmpty || zs.any fun z => z.toList == zone.toList) = r → Bk.usable ⟨ac, sb, pr, ix, kd, zs, fr, tl, un, lf, po, sh⟩ account sub kd zone family t = r) := by
            intro r hr
            rcases hown with ho | ⟨_, ho, ho2, ho3⟩ <;> simp [Bk.usable, h1, h3, hr, *]
          rcases hown with ho | ⟨ho1, ho2, ho3, ho4⟩
          · subst ho
            have g3 : (sb != sb) = false := by simp
            go_enter Try.func67, Try.ntmps67
            go_wp2_with (go_at_call 80; with_reducible refine (pcon_any _ _ _ _).mono ?_; rintro e w1 ⟨rfl, hb⟩; obtain ⟨s, rfl⟩ := ext_of_below hb; clear hb)
            go_loop [55] (fun i => ∃ k : Nat, k ≤ zs.length ∧ i = .int .i64 k ∧ Hid (∀ (j : Nat) (s : ByteArray), zs[j]? = some s → j < k → (s.toList == zone.toList) = false)) (fun i => zs.length - (intOf i).toNat)
            case atStart => exact ⟨0, Nat.zero_le _, rfl, fun j s _ h => absurd h (by omega)⟩
            case round =>
              obtain ⟨k, hk, rfl, hall⟩ := hrel
              by_cases hlt : k < zs.length
              · obtain ⟨s0, hs⟩ : ∃ s, zs[k]? = some s := ⟨_, List.getElem?_eq_getElem hlt⟩
                obtain ⟨b, o, rfl, hb, hc⟩ := Hz.out k s0 hs
                have Hs := Lib.hid hs
                clear hs
                by_cases he : (s0.toList == zone.toList) = true
                · have E := E1.out true (by rw [List.any_eq_true.2 ⟨s0, List.mem_of_getElem? Hs.out, he⟩, Bool.or_true])
                  have E' := Lib.hid E
                  clear E
                  go_wp2
                  go_ret
                  refine ⟨ret_bool E'.out.symm, ?_⟩
                  repeat' (first | exact Below.refl _ _ | refine below_ext ?_ ?_ _ | refine Below.alloc ?_ ?_ _ | refine Below.setCell ?_ ?_ _ | refine Below.drew ?_ | (rw [size_ext]; refine Nat.le_add_right_of_le ?_) | go_size | (rw [World.size_alloc]; refine Nat.le_add_right_of_le ?_))
                · have he' : (s0.toList == zone.toList) = false := by simpa using he
                  clear he
                  go_wp2
                  go_round
                  case rel => exact ⟨k + 1, by omega, by go_num, fun j u hu hj => by
                                rcases Nat.lt_succ_iff_lt_or_eq.1 hj with h | h
                                · exact hall.out j u hu h
                                · subst h
                                  rw [Hs.out] at hu
                                  cases hu
                                  exact he'⟩
                  case measure => simp [intOf]; omega
              · have hany : (zs.any fun z => z.toList == zone.toList) = false := by
                  rw [List.any_eq_false]
                  intro s hs
                  obtain ⟨j, hj⟩ := List.mem_iff_getElem?.1 hs
                  have hjl : j < zs.length := (List.getElem?_eq_some_iff.1 hj).1
                  rw [hall.out j s hj (by omega)]
                  simp
                have E := E1.out (decide (zs.length = 0)) (by rw [hany, Bool.or_false]; cases zs <;> simp)
                have E' := Lib.hid E
                clear E hany
                go_wp2
                go_ret
                refine ⟨ret_bool (Eq.trans ?_ E'.out.symm), ?_⟩
                · rw [Bool.eq_iff_iff]; simp
                · repeat' (first | exact Below.refl _ _ | refine below_ext ?_ ?_ _ | refine Below.alloc ?_ ?_ _ | refine Below.setCell ?_ ?_ _ | refine Below.drew ?_ | (rw [size_ext]; refine Nat.le_add_right_of_le ?_) | go_size | (rw [World.size_alloc]; refine Nat.le_add_right_of_le ?_))
          · subst ho2 ho3 ho4
            have g3 : (sb != sub) = true := bne_iff_ne.2 ho1
            have g4 : (ac != ac) = false := by simp
            clear ho1
            go_enter Try.func67, Try.ntmps67
            go_wp2_with (go_at_call 80; with_reducible refine (pcon_any _ _ _ _).mono ?_; rintro e w1 ⟨rfl, hb⟩; obtain ⟨s, rfl⟩ := ext_of_below hb; clear hb)
            go_loop [55] (fun i => ∃ k : Nat, k ≤ zs.length ∧ i = .int .i64 k ∧ Hid (∀ (j : Nat) (s : ByteArray), zs[j]? = some s → j < k → (s.toList == zone.toList) = false)) (fun i => zs.length - (intOf i).toNat)
            case atStart => exact ⟨0, Nat.zero_le _, rfl, fun j s _ h => absurd h (by omega)⟩
            case round =>
              obtain ⟨k, hk, rfl, hall⟩ := hrel
              by_cases hlt : k < zs.length
              · obtain ⟨s0, hs⟩ : ∃ s, zs[k]? = some s := ⟨_, List.getElem?_eq_getElem hlt⟩
                obtain ⟨b, o, rfl, hb, hc⟩ := Hz.out k s0 hs
                have Hs := Lib.hid hs
                clear hs
                by_cases he : (s0.toList == zone.toList) = true
                · have E := E1.out true (by rw [List.any_eq_true.2 ⟨s0, List.mem_of_getElem? Hs.out, he⟩, Bool.or_true])
                  have E' := Lib.hid E
                  clear E
                  go_wp2
                  go_ret
                  refine ⟨ret_bool E'.out.symm, ?_⟩
                  repeat' (first | exact Below.refl _ _ | refine below_ext ?_ ?_ _ | refine Below.alloc ?_ ?_ _ | refine Below.setCell ?_ ?_ _ | refine Below.drew ?_ | (rw [size_ext]; refine Nat.le_add_right_of_le ?_) | go_size | (rw [World.size_alloc]; refine Nat.le_add_right_of_le ?_))
                · have he' : (s0.toList == zone.toList) = false := by simpa using he
                  clear he
                  go_wp2
                  go_round
                  case rel => exact ⟨k + 1, by omega, by go_num, fun j u hu hj => by
                                rcases Nat.lt_succ_iff_lt_or_eq.1 hj with h | h
                                · exact hall.out j u hu h
                                · subst h
                                  rw [Hs.out] at hu
                                  cases hu
                                  exact he'⟩
                  case measure => simp [intOf]; omega
              · have hany : (zs.any fun z => z.toList == zone.toList) = false := by
                  rw [List.any_eq_false]
                  intro s hs
                  obtain ⟨j, hj⟩ := List.mem_iff_getElem?.1 hs
                  have hjl : j < zs.length := (List.getElem?_eq_some_iff.1 hj).1
                  rw [hall.out j s hj (by omega)]
                  simp
                have E := E1.out (decide (zs.length = 0)) (by rw [hany, Bool.or_false]; cases zs <;> simp)
                have E' := Lib.hid E
                clear E hany
                go_wp2
                go_ret
                refine ⟨ret_bool (Eq.trans ?_ E'.out.symm), ?_⟩
                · rw [Bool.eq_iff_iff]; simp
                · repeat' (first | exact Below.refl _ _ | refine below_ext ?_ ?_ _ | refine Below.alloc ?_ ?_ _ | refine Below.setCell ?_ ?_ _ | refine Below.drew ?_ | (rw [size_ext]; refine Nat.le_add_right_of_le ?_) | go_size | (rw [World.size_alloc]; refine Nat.le_add_right_of_le ?_))
        · have E : Hid (Bk.usable ⟨ac, sb, pr, ix, kd, zs, fr, tl, un, lf, po, sh⟩ account sub kd zone family t = false) := by
            unfold Hid Bk.usable
            simp only [Bool.and_eq_false_iff, Bool.or_eq_false_iff, decide_eq_false_iff_not]
            left
            right
            refine ⟨fun h => hown (.inl h), ?_⟩
            by_cases hs : sb = sub
            · exact absurd (.inl hs) hown
            · cases sh
              · exact .inl (.inl rfl)
              · by_cases ha : ac = account
                · cases family
                  · exact .inr rfl
                  · exact absurd (.inr ⟨hs, rfl, ha, rfl⟩) hown
                · exact .inl (.inr ha)
          have g3 : (sb != sub) = true := bne_iff_ne.2 fun h => hown (.inl h)
          by_cases ha : ac = account
          · subst ha
            have g4 : (ac != ac) = false := by simp
            cases sh
            · clear hown
              go_enter Try.func67, Try.ntmps67
              go_wp2_with (go_at_call 80; with_reducible refine (pcon_any _ _ _ _).mono ?_; rintro e w1 ⟨rfl, hb⟩; obtain ⟨s, rfl⟩ := ext_of_below hb; clear hb)
              go_ret
              refine ⟨ret_bool E.out.symm, ?_⟩
              repeat' (first | exact Below.refl _ _ | refine below_ext ?_ ?_ _ | refine Below.alloc ?_ ?_ _ | refine Below.setCell ?_ ?_ _ | refine Below.drew ?_ | (rw [size_ext]; refine Nat.le_add_right_of_le ?_) | go_size | (rw [World.size_alloc]; refine Nat.le_add_right_of_le ?_))
            · cases family
              · clear hown
                go_enter Try.func67, Try.ntmps67
                go_wp2_with (go_at_call 80; with_reducible refine (pcon_any _ _ _ _).mono ?_; rintro e w1 ⟨rfl, hb⟩; obtain ⟨s, rfl⟩ := ext_of_below hb; clear hb)
                go_ret
                refine ⟨ret_bool E.out.symm, ?_⟩
                repeat' (first | exact Below.refl _ _ | refine below_ext ?_ ?_ _ | refine Below.alloc ?_ ?_ _ | refine Below.setCell ?_ ?_ _ | refine Below.drew ?_ | (rw [size_ext]; refine Nat.le_add_right_of_le ?_) | go_size | (rw [World.size_alloc]; refine Nat.le_add_right_of_le ?_))
              · exact absurd (.inr ⟨bne_iff_ne.1 g3, rfl, rfl, rfl⟩) hown
          · have g4 : (ac != account) = true := bne_iff_ne.2 ha
            clear hown ha
            cases sh
            · go_enter Try.func67, Try.ntmps67
              go_wp2_with (go_at_call 80; with_reducible refine (pcon_any _ _ _ _).mono ?_; rintro e w1 ⟨rfl, hb⟩; obtain ⟨s, rfl⟩ := ext_of_below hb; clear hb)
              go_ret
              refine ⟨ret_bool E.out.symm, ?_⟩
              repeat' (first | exact Below.refl _ _ | refine below_ext ?_ ?_ _ | refine Below.alloc ?_ ?_ _ | refine Below.setCell ?_ ?_ _ | refine Below.drew ?_ | (rw [size_ext]; refine Nat.le_add_right_of_le ?_) | go_size | (rw [World.size_alloc]; refine Nat.le_add_right_of_le ?_))
            · go_enter Try.func67, Try.ntmps67
              go_wp2_with (go_at_call 80; with_reducible refine (pcon_any _ _ _ _).mono ?_; rintro e w1 ⟨rfl, hb⟩; obtain ⟨s, rfl⟩ := ext_of_below hb; clear hb)
              go_ret
              refine ⟨ret_bool E.out.symm, ?_⟩
              repeat' (first | exact Below.refl _ _ | refine below_ext ?_ ?_ _ | refine Below.alloc ?_ ?_ _ | refine Below.setCell ?_ ?_ _ | refine Below.drew ?_ | (rw [size_ext]; refine Nat.le_add_right_of_le ?_) | go_size | (rw [World.size_alloc]; refine Nat.le_add_right_of_le ?_))
    · have E : Hid (Bk.usable ⟨ac, sb, pr, ix, kd, zs, fr, tl, un, lf, po, sh⟩ account sub kind zone family t = false) := by simp [Hid, Bk.usable, h2]
      have g2 : (kd != kind) = true := bne_iff_ne.2 h2
      clear h2
      go_enter Try.func67, Try.ntmps67
      go_wp2_with (go_at_call 80; with_reducible refine (pcon_any _ _ _ _).mono ?_; rintro e w1 ⟨rfl, hb⟩; obtain ⟨s, rfl⟩ := ext_of_below hb; clear hb)
      go_ret
      refine ⟨ret_bool E.out.symm, ?_⟩
      repeat' (first | exact Below.refl _ _ | refine below_ext ?_ ?_ _ | refine Below.alloc ?_ ?_ _ | refine Below.setCell ?_ ?_ _ | refine Below.drew ?_ | (rw [size_ext]; refine Nat.le_add_right_of_le ?_) | go_size | (rw [World.size_alloc]; refine Nat.le_add_right_of_le ?_))
  · have E : Hid (Bk.usable ⟨ac, sb, pr, ix, kd, zs, fr, tl, un, lf, po, sh⟩ account sub kind zone family t = false) := by simp [Hid, Bk.usable, h1]
    go_enter Try.func67, Try.ntmps67
    go_wp2_with (go_at_call 80; with_reducible refine (pcon_any _ _ _ _).mono ?_; rintro e w1 ⟨rfl, hb⟩; obtain ⟨s, rfl⟩ := ext_of_below hb; clear hb)
    go_ret
    refine ⟨ret_bool E.out.symm, ?_⟩
    repeat' (first | exact Below.refl _ _ | refine below_ext ?_ ?_ _ | refine Below.alloc ?_ ?_ _ | refine Below.setCell ?_ ?_ _ | refine Below.drew ?_ | (rw [size_ext]; refine Nat.le_add_right_of_le ?_) | go_size | (rw [World.size_alloc]; refine Nat.le_add_right_of_le ?_))
end Go.Proofs.Ythkollhebabhbaa

/-
  The walk of the law on Items.
-/
import Derived.Test.YtclaijheemkegaaR17
namespace Go.Proofs.Ytclaijheemkegaa
open Go.RowKit
set_option linter.unusedSimpArgs false
set_option linter.unusedVariables false
attribute [local go_sem] alloc_add n_add

theorem itemsp_ext (us : List Ug) (A : Option Addr) (c : Nat) (t p q : Int) (W : World) (m : More) (h : Ugs W A us) (hn : us.length ≤ 30) :
    Calls Try.prog 18 #[.slice A us.length c, .int .i64 t, .agg #[.int .i64 p, .int .i64 q]] (ext W m) fun e w' => ∃ (s : More) (B : Option Addr) (r : Nat), e = .returned (.slice B (itemsN us t p q us.length).length r) ∧ Its (ext W s) B (itemsN us t p q us.length) ∧ w' = ext W s ∧ More.le m s := by
  refine (itemsp_any us A c t p q _ (h.below (below_ext (Below.refl _ _) (Nat.le_refl _) m)) hn).mono ?_
  rintro e w' ⟨v, rfl, ho, hb⟩
  obtain ⟨s, rfl⟩ := ext_of_below hb
  obtain ⟨B, r, rfl, hi⟩ := ho.form
  rw [ext_ext] at hi ⊢
  exact ⟨m.cat s, B, r, rfl, hi, rfl, More.le_cat _ _⟩
theorem itemsr_ext (us : List Ug) (A : Option Addr) (c : Nat) (t p q : Int) (W : World) (m : More) (h : Ugs W A us) (hn : us.length ≤ 30) :
    Calls Try.prog 19 #[.slice A us.length c, .int .i64 t, .agg #[.int .i64 p, .int .i64 q]] (ext W m) fun e w' => ∃ (s : More) (B : Option Addr) (r : Nat), e = .returned (.slice B (itemsN us t p q us.length).length r) ∧ Its (ext W s) B (itemsN us t p q us.length) ∧ w' = ext W s ∧ More.le m s := by
  refine (itemsr_any us A c t p q _ (h.below (below_ext (Below.refl _ _) (Nat.le_refl _) m)) hn).mono ?_
  rintro e w' ⟨v, rfl, ho, hb⟩
  obtain ⟨s, rfl⟩ := ext_of_below hb
  obtain ⟨B, r, rfl, hi⟩ := ho.form
  rw [ext_ext] at hi ⊢
  exact ⟨m.cat s, B, r, rfl, hi, rfl, More.le_cat _ _⟩
theorem sitems_ext (l : List It) (A B : Option Addr) (c d : Nat) (W : World) (m : More) (hn : l.length ≤ 100000) (h : Its (ext W m) A l) (h2 : Its (ext W m) B l) :
    Calls Try.prog 17 #[.slice A l.length c, .slice B l.length d] (ext W m) fun e w' => ∃ (s : More), e = .returned (.bool true) ∧ w' = ext W s := by
  refine (sitems_any l A B c d _ hn h h2).mono ?_
  rintro e w' ⟨rfl, hb⟩
  obtain ⟨s, rfl⟩ := ext_of_below hb
  exact ⟨m.cat s, rfl, ext_ext _ _ _⟩
theorem alive_ext (W : World) (m : More) :
    Calls Try.prog 9 #[] (ext W m) fun e w' => ∃ (s : More), e = .returned (.bool true) ∧ w' = ext W s := by
  refine (alive_any _).mono ?_
  rintro e w' ⟨rfl, hb⟩
  obtain ⟨s, rfl⟩ := ext_of_below hb
  exact ⟨m.cat s, rfl, ext_ext _ _ _⟩

set_option maxRecDepth 100000 in
set_option maxHeartbeats 4000000 in
theorem walk_reconcileItems (A0 : Option Addr) (n0 c0 : Nat) (t p q : Int) (w : World) (h0 : InUgs w A0 n0) (ht : fits t) :
    Calls Try.prog 8 #[.slice A0 n0 c0, .int .i64 t, .agg #[.int .i64 p, .int .i64 q]] w fun e w' => e = .returned (.bool true) ∧ Below w.heap.size w w' := by
  obtain ⟨us, rfl, hm0, hx⟩ := h0
  have HX := Lib.hid hx
  have hll := items_len us t p q us.length
  clear hx
  by_cases g0 : (30 : Int) < (us.length : Int)
  · have HAL := Lib.hid (fun W => alive_any W)
    go_enter Try.func8, Try.ntmps8
    go_upto_region 1 with fail
    refine wp_region_more (by kernel_rfl) (by kernel_rfl) ?_
    repeat (first | go_big_quiet_skip | quiet_step (first
      | (go_at_call 9; first | with_reducible exact more_call2 (HAL.out _) | with_reducible exact more_call (HAL.out _))))
    refine wpQuiet_nil ?_
    rintro _ ⟨s4, rfl⟩
    go_wp2_with fail
    go_ret
    refine ⟨rfl, ?_⟩
    repeat' (first | exact Below.refl _ _ | refine below_ext ?_ ?_ _ | refine Below.alloc ?_ ?_ _ | refine Below.setCell ?_ ?_ _ | refine Below.drew ?_ | (rw [size_ext]; refine Nat.le_add_right_of_le ?_) | go_size | (rw [World.size_alloc]; refine Nat.le_add_right_of_le ?_))
  · go_enter Try.func8, Try.ntmps8
    go_upto_region 1 with fail
    obtain ⟨W1, s0, hW, hE⟩ := start_ext (w.alloc (Obj.cells #[.int .i64 p, .int .i64 q] 42))
    rw [hW]
    clear hW
    have hs1 : w.heap.size < W1.heap.size := by rw [hE]; simp
    have p0 : W1.cell? ⟨w.heap.size, 0, none⟩ = some (.int .i64 p) := by rw [hE]; simp [go_sem]
    have p1 : W1.cell? ⟨w.heap.size, 1, none⟩ = some (.int .i64 q) := by rw [hE]; simp [go_sem]
    have HU := Lib.hid (show Ugs W1 A0 us by rw [hE]; exact HX.out.below (Below.alloc (Below.refl _ _) (Nat.le_refl _) _))
    have HB := Lib.hid (show Below w.heap.size w W1 by rw [hE]; exact Below.alloc (Below.refl _ _) (Nat.le_refl _) _)
    clear hE HX
    have hn : us.length ≤ 30 := by omega
    go_region_held3 (fun w' => w'.cell? ⟨w.heap.size, 0, none⟩ = some (.int .i64 p) ∧ w'.cell? ⟨w.heap.size, 1, none⟩ = some (.int .i64 q))
      (first | (refine ⟨?_, ?_⟩ <;> simp [go_sem, p0, p1, hs1]) | go_keep)
      ((first
        | (go_at_call 18; (with_reducible refine (itemsp_ext us A0 c0 t p q W1 _ HU.out hn).mono ?_); rintro e w1 ⟨s1, B1, r1, rfl, hi1, rfl, hle1⟩; have HI1 := Lib.hid hi1; have HL1 := Lib.hid hle1; clear hi1 hle1)
        | (go_at_call 19; (with_reducible refine (itemsr_ext us A0 c0 t p q W1 _ HU.out hn).mono ?_); rintro e w1 ⟨s2, B2, r2, rfl, hi2, rfl, hle2⟩; have HI2 := Lib.hid hi2; have HL2 := Lib.hid hle2; clear hi2 hle2)
        | (go_at_call 17; (with_reducible refine (sitems_ext (itemsN us t p q us.length) B1 B2 r1 r2 W1 _ (by omega) (HI1.out.below (below_le HL2.out)) HI2.out).mono ?_); rintro e w1 ⟨s3, rfl, rfl⟩)
        | (go_at_call 9; (with_reducible refine (alive_ext W1 _).mono ?_); rintro e w1 ⟨s4, rfl, rfl⟩)))
    all_goals
      go_wp2_with fail
      go_ret
      exact ⟨rfl, below_ext HB.out HB.out.size _⟩
end Go.Proofs.Ytclaijheemkegaa

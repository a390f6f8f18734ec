/-
  The walks of clones and Copies: a list of buckets in new memory.
-/
import Derived.Test.YthkollhebabhbaaBw6
namespace Go.Proofs.Ythkollhebabhbaa
open Go.RowKit
set_option linter.unusedSimpArgs false

theorem info_bk : (Try.prog.info? 91).map (fun i => (i.zero, i.size, i.bytes)) = some (some (.agg #[.int .i64 0, .int .i64 0, .string ByteArray.empty, .int .i64 0, .int .i64 0, .slice none 0 0, .int .i64 0, .int .i64 0, .int .i64 0, .int .i64 0, .int .i64 0, .bool false]), 12, 120) := by kernel_rfl

theorem cells_new {W : World} {N : Nat} {T : TypeId} (cs : List Value) (hN : N = W.heap.size) : ∀ (j : Nat) (u : Value), cs[j]? = some u → (W.alloc (.cells cs.toArray T)).cell? ((⟨N, 0, none⟩ : Addr).add j) = some u := by
  intro j u hu
  subst hN
  have ha : ((⟨W.heap.size, 0, none⟩ : Addr).add j) = ⟨W.heap.size, j, none⟩ := by
    unfold Addr.add
    split
    · rename_i h0
      rw [h0]
    · simp
  rw [ha, World.cell?_alloc_at]
  · simpa using hu
  · rfl
theorem bk_one (x : Bk) (A : Option Addr) (c : Nat) : ∀ u ∈ x.cells A c, u.oneCell' = true := by
  intro u hu
  simp only [Bk.cells, List.mem_cons, List.not_mem_nil, or_false] at hu
  rcases hu with rfl | rfl | rfl | rfl | rfl | rfl | rfl | rfl | rfl | rfl | rfl | rfl <;> rfl

/-- One bucket more. -/
theorem own_snoc {W W2 : World} {B : Nat} {v v2 : Value} {xs : List Bk} {x : Bk} {Z : List (Option Addr × Nat)} {A1 : Option Addr} {c1 : Nat} (h1 : Z.length = xs.length) (hrow : W.ownsRow B 91 12 v xs.length (Bk.rows xs Z))
    (hz : ∀ (j : Nat) (x : Bk) (z : Option Addr × Nat), xs[j]? = some x → Z[j]? = some z → W.ownsRow B 9 1 (.slice z.1 x.zones.length z.2) x.zones.length (x.zones.map Value.string))
    (hx : W.ownsRow B 9 1 (.slice A1 x.zones.length c1) x.zones.length (x.zones.map Value.string)) (h2 : W2.ownsRow B 91 12 v2 (xs.length + 1) (Bk.rows xs Z ++ x.cells A1 c1)) (hg : W.grownBy W2 v.ownBlock) : OwnBks W2 B v2 (xs ++ [x]) := by
  refine ⟨Z ++ [(A1, c1)], by simp [h1], by rw [Bk.rows_snoc xs Z x (A1, c1) h1]; simpa using h2, fun j y z hy hz' => ?_⟩
  rcases Nat.lt_or_ge j xs.length with hj | hj
  · rw [List.getElem?_append_left hj] at hy
    rw [List.getElem?_append_left (by omega)] at hz'
    have := hz j y z hy hz'
    exact this.kept hg (own_ne this hrow (by decide))
  · have hj' : j = xs.length := by
      have := (List.getElem?_eq_some_iff.1 hy).1
      simp at this
      omega
    subst hj'
    rw [List.getElem?_append_right (Nat.le_refl _)] at hy
    rw [List.getElem?_append_right (by omega)] at hz'
    simp only [Nat.sub_self, List.getElem?_cons_zero, Option.some.injEq, h1] at hy hz'
    subst hy hz'
    exact hx.kept hg (own_ne hx hrow (by decide))

def ClonesPost (xs : List Bk) (w : World) (e : Ending) (w' : World) : Prop := ∃ v, e = .returned v ∧ OwnBks w' w.heap.size v xs ∧ Below w.heap.size w w'

set_option maxHeartbeats 2000000 in
theorem clones_any (xs : List Bk) (A : Option Addr) (c : Nat) (w : World) (hn : xs.length ≤ 1000) (hzn : ∀ x ∈ xs, x.zones.length ≤ 100) (hxs : Bks w A xs) :
    Calls Try.prog 58 #[.slice A xs.length c] w (ClonesPost xs w) := by
  obtain ⟨i0, hi0, hz0, hz1, hz2⟩ := info_parts info_bk
  unfold ClonesPost
  have Hx := Lib.hid hxs
  have Hzn := Lib.hid hzn
  clear hxs hzn
  go_enter Try.func58, Try.ntmps58
  go_wp2
  go_loopw [3, 8] (fun v i wr => ∃ k : Nat, k ≤ xs.length ∧ i = .int .i64 k ∧ OwnBks wr w.heap.size v (xs.take k) ∧ Below w.heap.size w wr) (fun _ i _ => xs.length - (intOf i).toNat)
  case atStart => exact ⟨0, Nat.zero_le _, rfl, OwnBks.nil _ _, Below.refl _ _⟩
  case round =>
    obtain ⟨k, hk, rfl, hown, hbw⟩ := hrel
    by_cases hlt : k < xs.length
    · obtain ⟨x, hx⟩ : ∃ x, xs[k]? = some x := ⟨_, List.getElem?_eq_getElem hlt⟩
      obtain ⟨b, o, za, zc, rfl, hb, hc, hzs, hzc⟩ := (Hx.out.below hbw) k x hx
      have c0 : wr.cell? ⟨b, o + k * 12, none⟩ = some (.int .i64 x.acc) := hc 0 _ rfl
      have c1 := hc 1 _ rfl
      have c2 := hc 2 _ rfl
      have c3 := hc 3 _ rfl
      have c4 := hc 4 _ rfl
      have c5 := hc 5 _ rfl
      have c6 := hc 6 _ rfl
      have c7 := hc 7 _ rfl
      have c8 := hc 8 _ rfl
      have c9 := hc 9 _ rfl
      have c10 := hc 10 _ rfl
      have c11 := hc 11 _ rfl
      have hx100 := Hzn.out x (List.mem_of_getElem? hx)
      obtain ⟨Z, hZ1, hZ2, hZ3⟩ := hown
      have HZ2 := Lib.hid hZ2
      have HZ3 := Lib.hid hZ3
      have HZ1 := Lib.hid hZ1
      have HX := Lib.hid hx
      have HS := Lib.hid hzs
      have HC := Lib.hid hzc
      clear hZ1 hZ2 hZ3 hx hzs hzc hc
      have hl : (xs.take k).length ≤ 1000 := by rw [List.length_take]; omega
      have hsz := hbw.size
      go_wp2_with (first
        | (go_at_call 71; refine (clone_any x za zc _ hx100 (HS.out.alloc _) HC.out).mono ?_; rintro e w1 ⟨A1, k1, rfl, hown1, hb1⟩; obtain ⟨s, rfl⟩ := ext_of_below hb1; have HO := Lib.hid hown1; clear hown1 hb1)
        | (at_builtin; refine wpList_append_own _ rfl _ _ _ rfl w.heap.size 91 i0 _ 12 120 Try.underlying22 hi0 hz0 hz1 hz2 rfl (by omega) _ (xs.take k).length (Bk.rows (xs.take k) Z) rfl ((own_below HZ2.out (below_ext ((Below.refl _ _).alloc (Nat.le_refl _) _) (by simp) s)).alloc _) ⟨wr.heap.size + 1 + s.n, 0, none⟩ 1 1 (x.cells A1 k1) rfl rfl (cells_new _ (by simp [go_sem])) (bk_one x A1 k1) (by simp only [maxLen]; omega) (by omega) (by simp [go_sem]; omega) ?_; intro v2 w2 hown2 hg hnil; clear hnil; have HO2 := Lib.hid hown2; have HG := Lib.hid hg; clear hown2 hg))
      go_roundw
      case rel =>
        refine ⟨k + 1, by omega, by go_num, ?_, ?_⟩
        · rw [List.take_succ_eq_append_getElem hlt, show xs[k] = x from by have := HX.out; rw [List.getElem?_eq_getElem hlt] at this; exact Option.some.inj this]
          exact own_snoc HZ1.out ((own_below HZ2.out (below_ext ((Below.refl _ _).alloc (Nat.le_refl _) _) (by simp) s)).alloc _) (fun j y z hy hz => (own_below (HZ3.out j y z hy hz) (below_ext ((Below.refl _ _).alloc (Nat.le_refl _) _) (by simp) s)).alloc _) ((own_mono HO.out (by simp; omega)).alloc _) HO2.out HG.out
        · exact (Below.alloc (below_ext (hbw.alloc hbw.size _) (by simp; omega) s) (by simp [go_sem]; omega) _).grown HG.out (by simp [go_sem]; omega) (fun j hj => (HZ2.out.lt j hj).1)
      case measure => simp [intOf]; omega
    · have hkn : k = xs.length := by omega
      subst hkn
      rw [List.take_length] at hown
      go_wp2
      go_ret
      exact ⟨_, rfl, hown, hbw⟩
set_option maxHeartbeats 2000000 in
theorem copies_any (xs : List Bk) (A : Option Addr) (c : Nat) (w : World) (hn : xs.length ≤ 1000) (hzn : ∀ x ∈ xs, x.zones.length ≤ 100) (hxs : Bks w A xs) :
    Calls Try.prog 55 #[.slice A xs.length c] w (ClonesPost xs w) := by
  obtain ⟨i0, hi0, hz0, hz1, hz2⟩ := info_parts info_bk
  unfold ClonesPost
  have Hx := Lib.hid hxs
  have Hzn := Lib.hid hzn
  clear hxs hzn
  go_enter Try.func55, Try.ntmps55
  go_wp2
  go_loopw [3, 4] (fun v i wr => ∃ k : Nat, k ≤ xs.length ∧ i = .int .i64 k ∧ OwnBks wr w.heap.size v (xs.take k) ∧ Below w.heap.size w wr) (fun _ i _ => xs.length - (intOf i).toNat)
  case atStart => exact ⟨0, Nat.zero_le _, rfl, OwnBks.nil _ _, Below.refl _ _⟩
  case round =>
    obtain ⟨k, hk, rfl, hown, hbw⟩ := hrel
    by_cases hlt : k < xs.length
    · obtain ⟨x, hx⟩ : ∃ x, xs[k]? = some x := ⟨_, List.getElem?_eq_getElem hlt⟩
      obtain ⟨b, o, za, zc, rfl, hb, hc, hzs, hzc⟩ := (Hx.out.below hbw) k x hx
      have c0 : wr.cell? ⟨b, o + k * 12, none⟩ = some (.int .i64 x.acc) := hc 0 _ rfl
      have c1 := hc 1 _ rfl
      have c2 := hc 2 _ rfl
      have c3 := hc 3 _ rfl
      have c4 := hc 4 _ rfl
      have c5 := hc 5 _ rfl
      have c6 := hc 6 _ rfl
      have c7 := hc 7 _ rfl
      have c8 := hc 8 _ rfl
      have c9 := hc 9 _ rfl
      have c10 := hc 10 _ rfl
      have c11 := hc 11 _ rfl
      have hx100 := Hzn.out x (List.mem_of_getElem? hx)
      obtain ⟨Z, hZ1, hZ2, hZ3⟩ := hown
      have HZ2 := Lib.hid hZ2
      have HZ3 := Lib.hid hZ3
      have HZ1 := Lib.hid hZ1
      have HX := Lib.hid hx
      have HS := Lib.hid hzs
      have HC := Lib.hid hzc
      clear hZ1 hZ2 hZ3 hx hzs hzc hc
      have hl : (xs.take k).length ≤ 1000 := by rw [List.length_take]; omega
      have hsz := hbw.size
      go_wp2_with (first
        | (go_at_call 70; refine (copy_any x za zc _ hx100 HS.out HC.out).mono ?_; rintro e w1 ⟨A1, k1, rfl, hown1, hb1⟩; obtain ⟨s, rfl⟩ := ext_of_below hb1; have HO := Lib.hid hown1; clear hown1 hb1)
        | (at_builtin; refine wpList_append_own _ rfl _ _ _ rfl w.heap.size 91 i0 _ 12 120 Try.underlying22 hi0 hz0 hz1 hz2 rfl (by omega) _ (xs.take k).length (Bk.rows (xs.take k) Z) rfl ((own_below HZ2.out (below_ext (Below.refl _ _) (Nat.le_refl _) s)).alloc _) ⟨wr.heap.size + s.n, 0, none⟩ 1 1 (x.cells A1 k1) rfl rfl (cells_new _ (by simp [go_sem])) (bk_one x A1 k1) (by simp only [maxLen]; omega) (by omega) (by simp [go_sem]; omega) ?_; intro v2 w2 hown2 hg hnil; clear hnil; have HO2 := Lib.hid hown2; have HG := Lib.hid hg; clear hown2 hg))
      go_roundw
      case rel =>
        refine ⟨k + 1, by omega, by go_num, ?_, ?_⟩
        · rw [List.take_succ_eq_append_getElem hlt, show xs[k] = x from by have := HX.out; rw [List.getElem?_eq_getElem hlt] at this; exact Option.some.inj this]
          exact own_snoc HZ1.out ((own_below HZ2.out (below_ext (Below.refl _ _) (Nat.le_refl _) s)).alloc _) (fun j y z hy hz => (own_below (HZ3.out j y z hy hz) (below_ext (Below.refl _ _) (Nat.le_refl _) s)).alloc _) ((own_mono HO.out hsz).alloc _) HO2.out HG.out
        · exact (Below.alloc (below_ext hbw hbw.size s) (by simp [go_sem]; omega) _).grown HG.out (by simp [go_sem]; omega) (fun j hj => (HZ2.out.lt j hj).1)
      case measure => simp [intOf]; omega
    · have hkn : k = xs.length := by omega
      subst hkn
      rw [List.take_length] at hown
      go_wp2
      go_ret
      exact ⟨_, rfl, hown, hbw⟩
end Go.Proofs.Ythkollhebabhbaa

/-
  Items; the walk of its law.
-/
import Derived.Test.YtclaijheemkegaaOpenR
import Derived.Test.YtclaijheemkegaaR5
namespace Go.Proofs.Ytclaijheemkegaa
open Go.RowKit
set_option linter.unusedSimpArgs false
set_option linter.unusedVariables false

def itOf (u : Ug) : It := ⟨u.a, u.b, u.kind, u.start, u.units⟩
def keepB (t p q : Int) (u : Ug) : Bool := decide (u.trunk = t) && contB p q u.start
def itemsN (us : List Ug) (t p q : Int) (k : Nat) : List It := ((us.take k).filter (keepB t p q)).map itOf
theorem items_snoc {us : List Ug} {t p q : Int} {k : Nat} {u : Ug} (h : us[k]? = some u) : itemsN us t p q (k + 1) = if keepB t p q u = true then itemsN us t p q k ++ [itOf u] else itemsN us t p q k := by
  obtain ⟨h1, h2⟩ := List.getElem?_eq_some_iff.1 h
  unfold itemsN
  rw [List.take_succ_eq_append_getElem h1, h2, List.filter_append]
  split <;> simp_all
theorem items_len (us : List Ug) (t p q : Int) (k : Nat) : (itemsN us t p q k).length ≤ k := by
  unfold itemsN
  rw [List.length_map]
  exact Nat.le_trans (List.length_filter_le ..) (by simp; omega)

set_option maxRecDepth 100000 in
set_option maxHeartbeats 4000000 in
theorem itemsp_any (us : List Ug) (A : Option Addr) (c : Nat) (t p q : Int) (w : World) (h : Ugs w A us) (hn : us.length ≤ 30) :
    Calls Try.prog 18 #[.slice A us.length c, .int .i64 t, .agg #[.int .i64 p, .int .i64 q]] w fun e w' => ∃ v, e = .returned v ∧ OwnIts w' w.heap.size v (itemsN us t p q us.length) ∧ Below w.heap.size w w' := by
  obtain ⟨i0, hi0, hz0, hz1, hz2⟩ := info_parts info_item
  have H := Lib.hid h
  clear h
  go_enter Try.func18, Try.ntmps18
  go_wp2
  go_loopw [7, 12] (fun vo i wr => ∃ k : Nat, k ≤ us.length ∧ i = .int .i64 k ∧ OwnIts wr (w.heap.size + 1) vo (itemsN us t p q k) ∧ Below (w.heap.size + 1) (w.alloc (.cells #[.int .i64 p, .int .i64 q] 42)) wr) (fun _ i _ => us.length - (intOf i).toNat)
  case atStart => exact ⟨0, Nat.zero_le _, rfl, OwnIts.nil _ _, Below.refl _ _⟩
  case round =>
    obtain ⟨k, hk, rfl, ho, hbw⟩ := hrel
    have HO := Lib.hid ho
    have HBW := Lib.hid hbw
    have hsz := hbw.size
    rw [World.size_alloc] at hsz
    have hll := items_len us t p q k
    have p0 : wr.cell? ⟨w.heap.size, 0, none⟩ = some (.int .i64 p) := (hbw.cell (p := ⟨w.heap.size, 0, none⟩) (Nat.lt_succ_self _)).trans (by simp [go_sem])
    have p1 : wr.cell? ⟨w.heap.size, 1, none⟩ = some (.int .i64 q) := (hbw.cell (p := ⟨w.heap.size, 1, none⟩) (Nat.lt_succ_self _)).trans (by simp [go_sem])
    have plt : w.heap.size < wr.heap.size := by omega
    have HB := Lib.hid (show Below w.heap.size w wr from ((Below.refl w.heap.size w).alloc (Nat.le_refl _) _).trans (hbw.mono (Nat.le_succ _)))
    clear ho hbw
    by_cases hlt : k < us.length
    · obtain ⟨u, hu⟩ : ∃ s, us[k]? = some s := ⟨_, List.getElem?_eq_getElem hlt⟩
      obtain ⟨b, o, rfl, hb, x0, x1, x2, x3, x4, x5, x6, x7, x8, x9, x10, x11⟩ := ugs_cells (H.out.below HB.out) hu
      have HS := Lib.hid (items_snoc (t := t) (p := p) (q := q) hu)
      clear hu
      obtain ⟨ui, uk, ua, us0, sa, sb, ust, uu, tr, ib, usr, use⟩ := u
      dsimp only at x0 x1 x2 x3 x4 x5 x6 x7 x8 x9 x10 x11
      have HC := Lib.hid (fun W => contp_any p q ust W)
      by_cases htr : tr = t
      · subst htr
        cases hc : contB p q ust
        · have hkb : keepB tr p q ⟨ui, uk, ua, us0, sa, sb, ust, uu, tr, ib, usr, use⟩ = false := by simp [keepB, hc]
          rw [hkb, if_neg (by simp)] at HS
          go_wp2_with (go_at_call 30; (with_reducible refine (HC.out _).mono ?_); rw [hc]; rintro e w1 ⟨rfl, hb⟩; obtain ⟨s, rfl⟩ := ext_of_below hb; clear hb)
          go_roundw
          case rel => exact ⟨k + 1, by omega, by go_num, by rw [HS.out]; exact own_below HO.out (below_ext (Below.alloc (Below.refl _ _) (Nat.le_refl _) _) (by simp) s), below_ext (HBW.out.alloc (by omega) _) (by simp; omega) s⟩
          case measure => simp [intOf]; omega
        · have hkb : keepB tr p q ⟨ui, uk, ua, us0, sa, sb, ust, uu, tr, ib, usr, use⟩ = true := by simp [keepB, hc]
          rw [hkb, if_pos rfl] at HS
          have HOA := Lib.hid (fun (s : More) => own_below HO.out (below_ext (Below.alloc (Below.refl _ _) (Nat.le_refl _) (.cells #[.int .i64 ui, .int .i64 uk, .int .i64 ua, .int .i64 us0, .string sa, .string sb, .int .i64 ust, .int .i64 uu, .int .i64 tr, .bool ib, .int .i64 usr, .int .i64 use] 65)) (by simp) s))
          go_wp2_with (first
            | (go_at_call 30; (with_reducible refine (HC.out _).mono ?_); rw [hc]; rintro e w1 ⟨rfl, hb⟩; obtain ⟨s, rfl⟩ := ext_of_below hb; clear hb)
            | (at_builtin; refine wpList_append_own _ rfl _ _ _ rfl (w.heap.size + 1) 47 i0 _ 5 56 Try.underlying22 hi0 hz0 hz1 hz2 rfl (by omega) _ (itemsN us tr p q k).length ((itemsN us tr p q k).flatMap It.cells) rfl (World.ownsRow.alloc (HOA.out s) _) ⟨wr.heap.size + 1 + s.n, 0, none⟩ 1 1 (It.cells ⟨sa, sb, uk, ust, uu⟩) rfl rfl (cells_new _ (by simp [go_sem])) (it_one _) (by simp only [maxLen]; omega) (by omega) (by simp [go_sem]; omega) ?_; intro v6 w6 hown6 hg6 hnil6; clear hnil6; have HO6 := Lib.hid hown6; have HG6 := Lib.hid hg6; clear hown6 hg6))
          go_roundw
          case rel =>
            refine ⟨k + 1, by omega, by go_num, ?_, ?_⟩
            · unfold OwnIts
              rw [HS.out, List.length_append, List.flatMap_append]
              simpa [itOf] using HO6.out
            · exact ((below_ext (HBW.out.alloc (by omega) (.cells #[.int .i64 ui, .int .i64 uk, .int .i64 ua, .int .i64 us0, .string sa, .string sb, .int .i64 ust, .int .i64 uu, .int .i64 tr, .bool ib, .int .i64 usr, .int .i64 use] 65)) (by simp; omega) s).alloc (by simp [go_sem]; omega) _).grown HG6.out (by simp [go_sem]; omega) (fun i hi => (World.ownsRow.lt HO.out i hi).1)
          case measure => simp [intOf]; omega
      · have hkb : keepB t p q ⟨ui, uk, ua, us0, sa, sb, ust, uu, tr, ib, usr, use⟩ = false := by simp [keepB, htr]
        rw [hkb, if_neg (by simp)] at HS
        go_wp2
        go_roundw
        case rel => exact ⟨k + 1, by omega, by go_num, by rw [HS.out]; exact own_below HO.out (Below.alloc (Below.refl _ _) (Nat.le_refl _) _), HBW.out.alloc (by omega) _⟩
        case measure => simp [intOf]; omega
    · obtain rfl : k = us.length := by omega
      go_wp2
      go_ret
      exact ⟨_, rfl, own_mono HO.out (Nat.le_succ _), HB.out⟩

set_option maxRecDepth 100000 in
set_option maxHeartbeats 4000000 in
theorem itemsr_any (us : List Ug) (A : Option Addr) (c : Nat) (t p q : Int) (w : World) (h : Ugs w A us) (hn : us.length ≤ 30) :
    Calls Try.prog 19 #[.slice A us.length c, .int .i64 t, .agg #[.int .i64 p, .int .i64 q]] w fun e w' => ∃ v, e = .returned v ∧ OwnIts w' w.heap.size v (itemsN us t p q us.length) ∧ Below w.heap.size w w' := by
  obtain ⟨i0, hi0, hz0, hz1, hz2⟩ := info_parts info_item
  have H := Lib.hid h
  clear h
  go_enter Try.func19, Try.ntmps19
  go_wp2
  go_loopw [7, 8] (fun vo i wr => ∃ k : Nat, k ≤ us.length ∧ i = .int .i64 k ∧ OwnIts wr (w.heap.size + 1) vo (itemsN us t p q k) ∧ Below (w.heap.size + 1) (w.alloc (.cells #[.int .i64 p, .int .i64 q] 42)) wr) (fun _ i _ => us.length - (intOf i).toNat)
  case atStart => exact ⟨0, Nat.zero_le _, rfl, OwnIts.nil _ _, Below.refl _ _⟩
  case round =>
    obtain ⟨k, hk, rfl, ho, hbw⟩ := hrel
    have HO := Lib.hid ho
    have HBW := Lib.hid hbw
    have hsz := hbw.size
    rw [World.size_alloc] at hsz
    have hll := items_len us t p q k
    have p0 : wr.cell? ⟨w.heap.size, 0, none⟩ = some (.int .i64 p) := (hbw.cell (p := ⟨w.heap.size, 0, none⟩) (Nat.lt_succ_self _)).trans (by simp [go_sem])
    have p1 : wr.cell? ⟨w.heap.size, 1, none⟩ = some (.int .i64 q) := (hbw.cell (p := ⟨w.heap.size, 1, none⟩) (Nat.lt_succ_self _)).trans (by simp [go_sem])
    have plt : w.heap.size < wr.heap.size := by omega
    have HB := Lib.hid (show Below w.heap.size w wr from ((Below.refl w.heap.size w).alloc (Nat.le_refl _) _).trans (hbw.mono (Nat.le_succ _)))
    clear ho hbw
    by_cases hlt : k < us.length
    · obtain ⟨u, hu⟩ : ∃ s, us[k]? = some s := ⟨_, List.getElem?_eq_getElem hlt⟩
      obtain ⟨b, o, rfl, hb, x0, x1, x2, x3, x4, x5, x6, x7, x8, x9, x10, x11⟩ := ugs_cells (H.out.below HB.out) hu
      have HS := Lib.hid (items_snoc (t := t) (p := p) (q := q) hu)
      clear hu
      obtain ⟨ui, uk, ua, us0, sa, sb, ust, uu, tr, ib, usr, use⟩ := u
      dsimp only at x0 x1 x2 x3 x4 x5 x6 x7 x8 x9 x10 x11
      have HC := Lib.hid (fun W => contr_any p q ust W)
      by_cases htr : tr = t
      · subst htr
        cases hc : contB p q ust
        · have hkb : keepB tr p q ⟨ui, uk, ua, us0, sa, sb, ust, uu, tr, ib, usr, use⟩ = false := by simp [keepB, hc]
          rw [hkb, if_neg (by simp)] at HS
          go_wp2_with (go_at_call 31; (with_reducible refine (HC.out _).mono ?_); rw [hc]; rintro e w1 ⟨rfl, hb⟩; obtain ⟨s, rfl⟩ := ext_of_below hb; clear hb)
          go_roundw
          case rel => exact ⟨k + 1, by omega, by go_num, by rw [HS.out]; exact own_below HO.out (below_ext (Below.alloc (Below.refl _ _) (Nat.le_refl _) _) (by simp) s), below_ext (HBW.out.alloc (by omega) _) (by simp; omega) s⟩
          case measure => simp [intOf]; omega
        · have hkb : keepB tr p q ⟨ui, uk, ua, us0, sa, sb, ust, uu, tr, ib, usr, use⟩ = true := by simp [keepB, hc]
          rw [hkb, if_pos rfl] at HS
          have HOA := Lib.hid (fun (s : More) => own_below HO.out (below_ext (Below.alloc (Below.refl _ _) (Nat.le_refl _) (.cells #[.int .i64 ui, .int .i64 uk, .int .i64 ua, .int .i64 us0, .string sa, .string sb, .int .i64 ust, .int .i64 uu, .int .i64 tr, .bool ib, .int .i64 usr, .int .i64 use] 65)) (by simp) s))
          go_wp2_with (first
            | (go_at_call 31; (with_reducible refine (HC.out _).mono ?_); rw [hc]; rintro e w1 ⟨rfl, hb⟩; obtain ⟨s, rfl⟩ := ext_of_below hb; clear hb)
            | (at_builtin; refine wpList_append_own _ rfl _ _ _ rfl (w.heap.size + 1) 47 i0 _ 5 56 Try.underlying22 hi0 hz0 hz1 hz2 rfl (by omega) _ (itemsN us tr p q k).length ((itemsN us tr p q k).flatMap It.cells) rfl (World.ownsRow.alloc (HOA.out s) _) ⟨wr.heap.size + 1 + s.n, 0, none⟩ 1 1 (It.cells ⟨sa, sb, uk, ust, uu⟩) rfl rfl (cells_new _ (by simp [go_sem])) (it_one _) (by simp only [maxLen]; omega) (by omega) (by simp [go_sem]; omega) ?_; intro v6 w6 hown6 hg6 hnil6; clear hnil6; have HO6 := Lib.hid hown6; have HG6 := Lib.hid hg6; clear hown6 hg6))
          go_roundw
          case rel =>
            refine ⟨k + 1, by omega, by go_num, ?_, ?_⟩
            · unfold OwnIts
              rw [HS.out, List.length_append, List.flatMap_append]
              simpa [itOf] using HO6.out
            · exact ((below_ext (HBW.out.alloc (by omega) (.cells #[.int .i64 ui, .int .i64 uk, .int .i64 ua, .int .i64 us0, .string sa, .string sb, .int .i64 ust, .int .i64 uu, .int .i64 tr, .bool ib, .int .i64 usr, .int .i64 use] 65)) (by simp; omega) s).alloc (by simp [go_sem]; omega) _).grown HG6.out (by simp [go_sem]; omega) (fun i hi => (World.ownsRow.lt HO.out i hi).1)
          case measure => simp [intOf]; omega
      · have hkb : keepB t p q ⟨ui, uk, ua, us0, sa, sb, ust, uu, tr, ib, usr, use⟩ = false := by simp [keepB, htr]
        rw [hkb, if_neg (by simp)] at HS
        go_wp2
        go_roundw
        case rel => exact ⟨k + 1, by omega, by go_num, by rw [HS.out]; exact own_below HO.out (Below.alloc (Below.refl _ _) (Nat.le_refl _) _), HBW.out.alloc (by omega) _⟩
        case measure => simp [intOf]; omega
    · obtain rfl : k = us.length := by omega
      go_wp2
      go_ret
      exact ⟨_, rfl, own_mono HO.out (Nat.le_succ _), HB.out⟩

end Go.Proofs.Ytclaijheemkegaa

/-
  The walks of Order, the program's and the reference's.
-/
import Derived.Test.YthhpdpcingapgaaBw10
import Derived.Test.YthhpdpcingapgaaBw14
namespace Go.Proofs.Ythhpdpcingapgaa
open Go.RowKit
set_option linter.unusedSimpArgs false

def ord (xs : List Bk) : List Bk := (srt (posr xs) 0 xs.length).map fun p => xs.getD p Bk.zero
def OrderPost (xs : List Bk) (w : World) (e : Ending) (w' : World) : Prop := ∃ v, e = .returned v ∧ OwnBks w' w.heap.size v (ord xs) ∧ Below w.heap.size w w'

set_option maxHeartbeats 2000000 in
theorem order_any (xs : List Bk) (A : Option Addr) (c : Nat) (w : World) (hn : xs.length ≤ 1000) (hzn : ∀ x ∈ xs, x.zones.length ≤ 100) (hxs : Bks w A xs) :
    Calls Try.prog 21 #[.slice A xs.length c] w (OrderPost xs w) := by
  obtain ⟨i0, hi0, hz0, hz1, hz2⟩ := info_parts info_bk
  unfold OrderPost
  have Hx := Lib.hid hxs
  have Hzn := Lib.hid hzn
  clear hxs hzn
  go_enter Try.func21, Try.ntmps21
  go_wp2_with fail
  refine (places_any xs A c hn xs.length 0 xs.length (Nat.le_refl _) (by omega) _ _ _ Hx.out rfl (by simp)).mono ?_
  rintro e w2 ⟨v2, rfl, own2, hb2⟩
  obtain ⟨A2, c2, rfl, _, _⟩ := own2.form
  have hll : (srt (posr xs) 0 xs.length).length = xs.length := srt_length _ _
  have hl1 := Nat.le_of_eq hll
  have hl2 := Nat.le_of_eq hll.symm
  have hmem := Lib.hid (fun p (hp : p ∈ srt (posr xs) 0 xs.length) => srt_mem.1 hp)
  have HR : Hid (ord xs = (srt (posr xs) 0 xs.length).map fun p => xs.getD p Bk.zero) := rfl
  clear hll
  generalize srt (posr xs) 0 xs.length = l at *
  have HO2 := Lib.hid own2
  have HB2 := Lib.hid hb2
  clear own2 hb2
  go_wp2_with fail
  go_loopw [3, 11] (fun v i wr => ∃ k : Nat, k ≤ l.length ∧ i = .int .i64 k ∧ OwnBks wr w.heap.size v ((l.take k).map fun p => xs.getD p Bk.zero) ∧ Below w.heap.size w wr ∧ OwnInts wr w.heap.size (.slice A2 l.length c2) l) (fun _ i _ => l.length - (intOf i).toNat)
  case atStart => exact ⟨0, Nat.zero_le _, rfl, OwnBks.nil _ _, HB2.out, HO2.out⟩
  case round =>
    obtain ⟨k, hk, rfl, hown, hbw, hoi⟩ := hrel
    by_cases hlt : k < l.length
    · obtain ⟨p, hp⟩ : ∃ p, l[k]? = some p := ⟨_, List.getElem?_eq_getElem hlt⟩
      have hpm := hmem.out p (List.mem_of_getElem? hp)
      obtain ⟨g2, o2, rfl, hg2, hc2⟩ := hoi.ints k p hp
      obtain ⟨x, hx⟩ : ∃ b, xs[p]? = some b := ⟨_, List.getElem?_eq_getElem (by omega)⟩
      have hpb : (p : Int) < (xs.length : Int) := by omega
      obtain ⟨b, o, za, zc, rfl, hb, x0, x1, x2, x3, x4, x5, x6, x7, x8, x9, x10, x11, hzs, hzc⟩ := bk_cells (Hx.out.below hbw) hx
      have hx100 := Hzn.out x (List.mem_of_getElem? hx)
      have hxl : ((l.take k).map fun p => xs.getD p Bk.zero).length ≤ 1000 := by rw [List.length_map, List.length_take]; omega
      have hxe : (l.take (k + 1)).map (fun p => xs.getD p Bk.zero) = (l.take k).map (fun p => xs.getD p Bk.zero) ++ [x] := by
        rw [take_at hp, List.map_append]
        simp [List.getD, hx]
      have HXE := Lib.hid hxe
      generalize ((l.take k).map fun p => xs.getD p Bk.zero) = ys at *
      obtain ⟨Z, hZ1, hZ2, hZ3⟩ := hown
      have HZ2 := Lib.hid hZ2
      have HZ3 := Lib.hid hZ3
      have HZ1 := Lib.hid hZ1
      have HOI := Lib.hid hoi
      have HS := Lib.hid hzs
      have HC := Lib.hid hzc
      clear hZ1 hZ2 hZ3 hx hzs hzc hp hoi hxe
      have hsz := hbw.size
      go_wp2_with (first
        | (go_at_call 43; refine (clone_any x za zc _ hx100 HS.out HC.out).mono ?_; rintro e w1 ⟨A1, k1, rfl, hown1, hb1⟩; obtain ⟨s, rfl⟩ := ext_of_below hb1; have HO := Lib.hid hown1; clear hown1 hb1)
        | (at_builtin; refine wpList_append_own _ rfl _ _ _ rfl w.heap.size 26 i0 _ 12 120 Try.underlying35 hi0 hz0 hz1 hz2 rfl (by omega) _ ys.length (Bk.rows ys Z) rfl ((own_below HZ2.out (below_ext (Below.refl _ _) (Nat.le_refl _) s)).alloc _) ⟨wr.heap.size + s.n, 0, none⟩ 1 1 (x.cells A1 k1) rfl rfl (cells_new _ (by simp [go_sem])) (bk_one x A1 k1) (by simp only [maxLen]; omega) (by omega) (by simp [go_sem]; omega) ?_; intro v2 w2 hown2 hg hnil; clear hnil; have HO3 := Lib.hid hown2; have HG := Lib.hid hg; clear hown2 hg))
      go_roundw
      case rel =>
        refine ⟨k + 1, by omega, by go_num, ?_, ?_, ?_⟩
        · rw [HXE.out]
          exact own_snoc HZ1.out ((own_below HZ2.out (below_ext (Below.refl _ _) (Nat.le_refl _) s)).alloc _) (fun j y z hy hz => (own_below (HZ3.out j y z hy hz) (below_ext (Below.refl _ _) (Nat.le_refl _) s)).alloc _) ((own_mono HO.out (by omega)).alloc _) HO3.out HG.out
        · exact (Below.alloc (below_ext hbw hbw.size s) (by simp [go_sem]; omega) _).grown HG.out (by simp [go_sem]; omega) (fun j hj => (HZ2.out.lt j hj).1)
        · exact own_grown ((own_below HOI.out (below_ext (Below.refl _ _) (Nat.le_refl _) s)).alloc _) ((own_below HZ2.out (below_ext (Below.refl _ _) (Nat.le_refl _) s)).alloc _) (by decide) HG.out
      case measure => simp [intOf]; omega
    · have hkn : k = l.length := by omega
      rw [hkn, List.take_length, ← HR.out] at hown
      have HOW := Lib.hid hown
      clear hown hkn
      go_wp2_with fail
      go_ret
      exact ⟨_, rfl, HOW.out, hbw⟩

set_option maxHeartbeats 2000000 in
theorem rorder_any (xs : List Bk) (A : Option Addr) (c : Nat) (w : World) (hn : xs.length ≤ 1000) (hzn : ∀ x ∈ xs, x.zones.length ≤ 100) (hxs : Bks w A xs) :
    Calls Try.prog 23 #[.slice A xs.length c] w (OrderPost xs w) := by
  obtain ⟨i0, hi0, hz0, hz1, hz2⟩ := info_parts info_bk
  unfold OrderPost
  have Hx := Lib.hid hxs
  have Hzn := Lib.hid hzn
  clear hxs hzn
  go_enter Try.func23, Try.ntmps23
  go_wp2_with fail
  refine (rplaces_any xs A c hn _ Hx.out).mono ?_
  rintro e w2 ⟨v2, rfl, own2, hb2⟩
  obtain ⟨A2, c2, rfl, _, _⟩ := own2.form
  have hll : (srt (posr xs) 0 xs.length).length = xs.length := srt_length _ _
  have hl1 := Nat.le_of_eq hll
  have hl2 := Nat.le_of_eq hll.symm
  have hmem := Lib.hid (fun p (hp : p ∈ srt (posr xs) 0 xs.length) => srt_mem.1 hp)
  have HR : Hid (ord xs = (srt (posr xs) 0 xs.length).map fun p => xs.getD p Bk.zero) := rfl
  clear hll
  generalize srt (posr xs) 0 xs.length = l at *
  have HO2 := Lib.hid own2
  have HB2 := Lib.hid hb2
  clear own2 hb2
  go_wp2_with fail
  go_loopw [4, 5] (fun v i wr => ∃ k : Nat, k ≤ l.length ∧ i = .int .i64 k ∧ OwnBks wr w.heap.size v ((l.take k).map fun p => xs.getD p Bk.zero) ∧ Below w.heap.size w wr ∧ OwnInts wr w.heap.size (.slice A2 l.length c2) l) (fun _ i _ => l.length - (intOf i).toNat)
  case atStart => exact ⟨0, Nat.zero_le _, rfl, OwnBks.nil _ _, HB2.out, HO2.out⟩
  case round =>
    obtain ⟨k, hk, rfl, hown, hbw, hoi⟩ := hrel
    by_cases hlt : k < l.length
    · obtain ⟨p, hp⟩ : ∃ p, l[k]? = some p := ⟨_, List.getElem?_eq_getElem hlt⟩
      have hpm := hmem.out p (List.mem_of_getElem? hp)
      obtain ⟨g2, o2, rfl, hg2, hc2⟩ := hoi.ints k p hp
      obtain ⟨x, hx⟩ : ∃ b, xs[p]? = some b := ⟨_, List.getElem?_eq_getElem (by omega)⟩
      have hpb : (p : Int) < (xs.length : Int) := by omega
      obtain ⟨b, o, za, zc, rfl, hb, x0, x1, x2, x3, x4, x5, x6, x7, x8, x9, x10, x11, hzs, hzc⟩ := bk_cells (Hx.out.below hbw) hx
      have hx100 := Hzn.out x (List.mem_of_getElem? hx)
      have hxl : ((l.take k).map fun p => xs.getD p Bk.zero).length ≤ 1000 := by rw [List.length_map, List.length_take]; omega
      have hxe : (l.take (k + 1)).map (fun p => xs.getD p Bk.zero) = (l.take k).map (fun p => xs.getD p Bk.zero) ++ [x] := by
        rw [take_at hp, List.map_append]
        simp [List.getD, hx]
      have HXE := Lib.hid hxe
      generalize ((l.take k).map fun p => xs.getD p Bk.zero) = ys at *
      obtain ⟨Z, hZ1, hZ2, hZ3⟩ := hown
      have HZ2 := Lib.hid hZ2
      have HZ3 := Lib.hid hZ3
      have HZ1 := Lib.hid hZ1
      have HOI := Lib.hid hoi
      have HS := Lib.hid hzs
      have HC := Lib.hid hzc
      clear hZ1 hZ2 hZ3 hx hzs hzc hp hoi hxe
      have hsz := hbw.size
      go_wp2_with (first
        | (go_at_call 44; refine (copy_any x za zc _ hx100 HS.out HC.out).mono ?_; rintro e w1 ⟨A1, k1, rfl, hown1, hb1⟩; obtain ⟨s, rfl⟩ := ext_of_below hb1; have HO := Lib.hid hown1; clear hown1 hb1)
        | (at_builtin; refine wpList_append_own _ rfl _ _ _ rfl w.heap.size 26 i0 _ 12 120 Try.underlying35 hi0 hz0 hz1 hz2 rfl (by omega) _ ys.length (Bk.rows ys Z) rfl ((own_below HZ2.out (below_ext (Below.refl _ _) (Nat.le_refl _) s)).alloc _) ⟨wr.heap.size + s.n, 0, none⟩ 1 1 (x.cells A1 k1) rfl rfl (cells_new _ (by simp [go_sem])) (bk_one x A1 k1) (by simp only [maxLen]; omega) (by omega) (by simp [go_sem]; omega) ?_; intro v2 w2 hown2 hg hnil; clear hnil; have HO3 := Lib.hid hown2; have HG := Lib.hid hg; clear hown2 hg))
      go_roundw
      case rel =>
        refine ⟨k + 1, by omega, by go_num, ?_, ?_, ?_⟩
        · rw [HXE.out]
          exact own_snoc HZ1.out ((own_below HZ2.out (below_ext (Below.refl _ _) (Nat.le_refl _) s)).alloc _) (fun j y z hy hz => (own_below (HZ3.out j y z hy hz) (below_ext (Below.refl _ _) (Nat.le_refl _) s)).alloc _) ((own_mono HO.out (by omega)).alloc _) HO3.out HG.out
        · exact (Below.alloc (below_ext hbw hbw.size s) (by simp [go_sem]; omega) _).grown HG.out (by simp [go_sem]; omega) (fun j hj => (HZ2.out.lt j hj).1)
        · exact own_grown ((own_below HOI.out (below_ext (Below.refl _ _) (Nat.le_refl _) s)).alloc _) ((own_below HZ2.out (below_ext (Below.refl _ _) (Nat.le_refl _) s)).alloc _) (by decide) HG.out
      case measure => simp [intOf]; omega
    · have hkn : k = l.length := by omega
      rw [hkn, List.take_length, ← HR.out] at hown
      have HOW := Lib.hid hown
      clear hown hkn
      go_wp2_with fail
      go_ret
      exact ⟨_, rfl, HOW.out, hbw⟩

end Go.Proofs.Ythhpdpcingapgaa

/-
  The ends of an item; the positions that are not matched.
-/
import Derived.Test.YtclaijheemkegaaRk
namespace Go.Proofs.Ytclaijheemkegaa
open Go.RowKit
set_option linter.unusedSimpArgs false
set_option linter.unusedVariables false

theorem of_any (xa xb : ByteArray) (xk xs xu : Int) (w : World) :
    Calls Try.prog 22 #[.agg #[.string xa, .string xb, .int .i64 xk, .int .i64 xs, .int .i64 xu]] w fun e w' => e = .returned (.agg #[.string xa, .string xb, .int .i64 xk]) ∧ Below w.heap.size w w' := by
  go_enter Try.func22, Try.ntmps22
  go_wp2
  go_returns
  refine ⟨rfl, ?_⟩
  repeat' (first | exact Below.refl _ _ | refine below_ext ?_ ?_ _ | refine Below.alloc ?_ ?_ _ | refine Below.setCell ?_ ?_ _ | refine Below.drew ?_ | (rw [size_ext]; refine Nat.le_add_right_of_le ?_) | go_size | (rw [World.size_alloc]; refine Nat.le_add_right_of_le ?_))

theorem left_snoc {l : List Bool} {k : Nat} {b : Bool} (h : l[k]? = some b) : leftN l (k + 1) = if b = false then leftN l k ++ [(k : Int)] else leftN l k := by
  have e : leftN l (k + 1) = if l[k]? = some false then leftN l k ++ [(k : Int)] else leftN l k := rfl
  rw [e, h]
  cases b <;> simp
theorem left_len (l : List Bool) : ∀ k, (leftN l k).length ≤ k
  | 0 => by simp [leftN]
  | k + 1 => by
    have := left_len l k
    unfold leftN
    split
    · simp
      omega
    · omega

set_option maxHeartbeats 1000000 in
theorem left_any (l : List Bool) (L c : Nat) (w : World) (hn : l.length ≤ 1000) (h : ∀ j b, l[j]? = some b → w.cell? ⟨L, j, none⟩ = some (.bool b)) (hL : L < w.heap.size) :
    Calls Try.prog 26 #[.slice (some ⟨L, 0, none⟩) l.length c] w fun e w' => ∃ v, e = .returned v ∧ OwnNts w' w.heap.size v (leftN l l.length) ∧ Below w.heap.size w w' := by
  obtain ⟨i0, hi0, hz0, hz1, hz2⟩ := info_parts info_int
  have H := Lib.hid h
  clear h
  go_enter Try.func26, Try.ntmps26
  go_wp2
  go_loopw [3, 4] (fun vo i wr => ∃ k : Nat, k ≤ l.length ∧ i = .int .i64 k ∧ OwnNts wr w.heap.size vo (leftN l k) ∧ Below w.heap.size w wr) (fun _ i _ => l.length - (intOf i).toNat)
  case atStart => exact ⟨0, Nat.zero_le _, rfl, OwnNts.nil _ _, Below.refl _ _⟩
  case round =>
    obtain ⟨k, hk, rfl, ho, hbw⟩ := hrel
    have HO := Lib.hid ho
    have HBW := Lib.hid hbw
    have hsz := hbw.size
    have hll := left_len l k
    clear ho hbw
    by_cases hlt : k < l.length
    · obtain ⟨b, hb⟩ : ∃ s, l[k]? = some s := ⟨_, List.getElem?_eq_getElem hlt⟩
      have x0 : wr.cell? ⟨L, k, none⟩ = some (.bool b) := (HBW.out.cell (p := ⟨L, k, none⟩) hL).trans (H.out k b hb)
      have HS := Lib.hid (left_snoc hb)
      clear hb
      cases b
      · rw [if_pos rfl] at HS
        go_wp2_with (at_builtin; refine wpList_append_own _ rfl _ _ _ rfl w.heap.size 3 i0 _ 1 8 Try.underlying26 hi0 hz0 hz1 hz2 rfl (by omega) _ (leftN l k).length ((leftN l k).flatMap ntCells) rfl (World.ownsRow.alloc HO.out _) ⟨wr.heap.size, 0, none⟩ 1 1 (ntCells (k : Int)) rfl rfl (cells_new _ rfl) (nt_one _) (by simp only [maxLen]; omega) (by omega) (by simp [go_sem]; omega) ?_; intro v6 w6 hown6 hg6 hnil6; clear hnil6; have HO6 := Lib.hid hown6; have HG6 := Lib.hid hg6; clear hown6 hg6)
        go_roundw
        case rel =>
          refine ⟨k + 1, by omega, by go_num, ?_, ?_⟩
          · unfold OwnNts
            rw [HS.out, List.length_append, List.flatMap_append]
            simpa using HO6.out
          · exact (HBW.out.alloc HBW.out.size _).grown HG6.out (by simp [go_sem]; omega) (fun i hi => (World.ownsRow.lt HO.out i hi).1)
        case measure => simp [intOf]; omega
      · rw [if_neg (by simp)] at HS
        go_wp2
        go_roundw
        case rel => exact ⟨k + 1, by omega, by go_num, by rw [HS.out]; exact HO.out, HBW.out⟩
        case measure => simp [intOf]; omega
    · obtain rfl : k = l.length := by omega
      go_wp2
      go_ret
      exact ⟨_, rfl, HO.out, HBW.out⟩

set_option maxHeartbeats 1000000 in
theorem open_any (l : List Bool) (L c : Nat) (w : World) (hn : l.length ≤ 1000) (h : ∀ j b, l[j]? = some b → w.cell? ⟨L, j, none⟩ = some (.bool b)) (hL : L < w.heap.size) :
    Calls Try.prog 24 #[.slice (some ⟨L, 0, none⟩) l.length c] w fun e w' => ∃ v, e = .returned v ∧ OwnNts w' w.heap.size v (leftN l l.length) ∧ Below w.heap.size w w' := by
  obtain ⟨i0, hi0, hz0, hz1, hz2⟩ := info_parts info_int
  have H := Lib.hid h
  clear h
  go_enter Try.func24, Try.ntmps24
  go_wp2
  go_loopw [3, 8] (fun vo i wr => ∃ k : Nat, k ≤ l.length ∧ i = .int .i64 k ∧ OwnNts wr w.heap.size vo (leftN l k) ∧ Below w.heap.size w wr) (fun _ i _ => l.length - (intOf i).toNat)
  case atStart => exact ⟨0, Nat.zero_le _, rfl, OwnNts.nil _ _, Below.refl _ _⟩
  case round =>
    obtain ⟨k, hk, rfl, ho, hbw⟩ := hrel
    have HO := Lib.hid ho
    have HBW := Lib.hid hbw
    have hsz := hbw.size
    have hll := left_len l k
    clear ho hbw
    by_cases hlt : k < l.length
    · obtain ⟨b, hb⟩ : ∃ s, l[k]? = some s := ⟨_, List.getElem?_eq_getElem hlt⟩
      have x0 : wr.cell? ⟨L, k, none⟩ = some (.bool b) := (HBW.out.cell (p := ⟨L, k, none⟩) hL).trans (H.out k b hb)
      have HS := Lib.hid (left_snoc hb)
      clear hb
      cases b
      · rw [if_pos rfl] at HS
        go_wp2_with (at_builtin; refine wpList_append_own _ rfl _ _ _ rfl w.heap.size 3 i0 _ 1 8 Try.underlying26 hi0 hz0 hz1 hz2 rfl (by omega) _ (leftN l k).length ((leftN l k).flatMap ntCells) rfl (World.ownsRow.alloc HO.out _) ⟨wr.heap.size, 0, none⟩ 1 1 (ntCells (k : Int)) rfl rfl (cells_new _ rfl) (nt_one _) (by simp only [maxLen]; omega) (by omega) (by simp [go_sem]; omega) ?_; intro v6 w6 hown6 hg6 hnil6; clear hnil6; have HO6 := Lib.hid hown6; have HG6 := Lib.hid hg6; clear hown6 hg6)
        go_roundw
        case rel =>
          refine ⟨k + 1, by omega, by go_num, ?_, ?_⟩
          · unfold OwnNts
            rw [HS.out, List.length_append, List.flatMap_append]
            simpa using HO6.out
          · exact (HBW.out.alloc HBW.out.size _).grown HG6.out (by simp [go_sem]; omega) (fun i hi => (World.ownsRow.lt HO.out i hi).1)
        case measure => simp [intOf]; omega
      · rw [if_neg (by simp)] at HS
        go_wp2
        go_roundw
        case rel => exact ⟨k + 1, by omega, by go_num, by rw [HS.out]; exact HO.out, HBW.out⟩
        case measure => simp [intOf]; omega
    · obtain rfl : k = l.length := by omega
      go_wp2
      go_ret
      exact ⟨_, rfl, HO.out, HBW.out⟩

end Go.Proofs.Ytclaijheemkegaa

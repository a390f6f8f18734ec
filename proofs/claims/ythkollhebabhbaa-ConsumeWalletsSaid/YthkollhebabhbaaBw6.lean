/-
  The walks of clone and Copy: a bucket in new memory.
-/
import Derived.Test.YthkollhebabhbaaBm
import Derived.Laws.AppendOwnNone
namespace Go.Proofs.Ythkollhebabhbaa
open Go.RowKit
set_option linter.unusedSimpArgs false

theorem info_str : (Try.prog.info? 9).map (fun i => (i.zero, i.size, i.bytes)) = some (some (.string ByteArray.empty), 1, 16) := by kernel_rfl

/-- What clone leaves: the bucket, its zones in new memory. -/
def Cloned (x : Bk) (w : World) (e : Ending) (w' : World) : Prop := ∃ A c, e = .returned (.agg #[.int .i64 x.acc, .int .i64 x.sub, .string x.prod, .int .i64 x.idx, .int .i64 x.kind, .slice A x.zones.length c, .int .i64 x.frm, .int .i64 x.til, .int .i64 x.units, .int .i64 x.left, .int .i64 x.prio, .bool x.shared]) ∧ w'.ownsRow w.heap.size 9 1 (.slice A x.zones.length c) x.zones.length (x.zones.map Value.string) ∧ Below w.heap.size w w'

theorem strs_news {w : World} {ad : Addr} {zs : List ByteArray} (h : StrsAt w (some ad) zs) : ∀ (j : Nat) (u : Value), (zs.map Value.string)[j]? = some u → w.cell? (ad.add j) = some u := by
  intro j u hu
  simp only [List.getElem?_map, Option.map_eq_some_iff] at hu
  obtain ⟨s, hs, rfl⟩ := hu
  obtain ⟨b, o, hA, _, hc⟩ := h j s hs
  simp only [Option.some.injEq] at hA
  subst hA
  rw [← hc]
  unfold Addr.add
  split
  · rename_i h0
    subst h0
    rfl
  · rfl
theorem strs_one (zs : List ByteArray) : ∀ u ∈ zs.map Value.string, u.oneCell' = true := by
  intro u hu
  obtain ⟨s, _, rfl⟩ := List.mem_map.1 hu
  rfl

set_option maxHeartbeats 1000000 in
theorem clone_any (x : Bk) (A : Option Addr) (c : Nat) (w : World) (hn : x.zones.length ≤ 100) (hz : StrsAt w A x.zones) (hc : A = none → c = 0) :
    Calls Try.prog 71 #[.agg #[.int .i64 x.acc, .int .i64 x.sub, .string x.prod, .int .i64 x.idx, .int .i64 x.kind, .slice A x.zones.length c, .int .i64 x.frm, .int .i64 x.til, .int .i64 x.units, .int .i64 x.left, .int .i64 x.prio, .bool x.shared]] w (Cloned x w) := by
  obtain ⟨i0, hi0, hz0, hz1, hz2⟩ := info_parts info_str
  obtain ⟨ac, sb, pr, ix, kd, zs, fr, tl, un, lf, po, sh⟩ := x
  unfold Cloned
  dsimp only at *
  rcases A with _ | ad
  · obtain rfl := hc rfl
    have hzs : zs = [] := by
      cases zs with
      | nil => rfl
      | cons s l =>
        obtain ⟨_, _, hA, _⟩ := hz 0 s rfl
        cases hA
    subst hzs
    clear hz hn hc
    go_enter Try.func71, Try.ntmps71
    go_wp2_with (at_builtin; refine wpList_append_own_none rfl _ _ _ rfl w.heap.size 9 i0 1 Try.underlying87 hi0 (.slice none 0 0) 0 [] rfl (World.ownsRow_nil _ _ _ _) rfl ?_)
    go_returns
    refine ⟨none, 0, rfl, World.ownsRow_nil _ _ _ _, ?_⟩
    repeat' (first | exact Below.refl _ _ | refine below_ext ?_ ?_ _ | refine Below.alloc ?_ ?_ _ | refine Below.setCell ?_ ?_ _ | refine Below.drew ?_ | (rw [size_ext]; refine Nat.le_add_right_of_le ?_) | go_size | (rw [World.size_alloc]; refine Nat.le_add_right_of_le ?_))
  · have Hz := Lib.hid hz
    clear hz hc
    go_enter Try.func71, Try.ntmps71
    go_wp2_with (at_builtin; refine wpList_append_own _ rfl _ _ _ rfl (w.heap.size + 2) 9 i0 _ 1 16 Try.underlying87 hi0 hz0 hz1 hz2 rfl (by omega) (.slice none 0 0) 0 [] rfl (World.ownsRow_nil _ _ _ _) ad zs.length c (zs.map Value.string) rfl (by simp) (strs_news ((Hz.out.alloc _).alloc _)) (strs_one zs) (by simp only [maxLen]; omega) (by omega) (by simp) ?_; intro v1 w1 hown hg hnil; clear hnil; simp only [Nat.zero_add, List.nil_append] at hown; obtain ⟨A1, c1, rfl, hA1⟩ := own_form hown; clear hA1; have hb := (Below.refl _ _).grown hg (Nat.le_refl _) (by simp [Value.ownBlock]); obtain ⟨s, rfl⟩ := ext_of_below hb; clear hb hg; have Ho := Lib.hid hown; clear hown)
    go_returns
    refine ⟨A1, c1, rfl, own_mono (own_swap Ho.out (by simp) (by simp)) (by omega), ?_⟩
    repeat' (first | exact Below.refl _ _ | refine below_ext ?_ ?_ _ | refine Below.alloc ?_ ?_ _ | refine Below.setCell ?_ ?_ _ | refine Below.drew ?_ | (rw [size_ext]; refine Nat.le_add_right_of_le ?_) | go_size | (rw [World.size_alloc]; refine Nat.le_add_right_of_le ?_))

set_option maxHeartbeats 1000000 in
theorem copy_any (x : Bk) (A : Option Addr) (c : Nat) (w : World) (hn : x.zones.length ≤ 100) (hz : StrsAt w A x.zones) (hc : A = none → c = 0) :
    Calls Try.prog 70 #[.agg #[.int .i64 x.acc, .int .i64 x.sub, .string x.prod, .int .i64 x.idx, .int .i64 x.kind, .slice A x.zones.length c, .int .i64 x.frm, .int .i64 x.til, .int .i64 x.units, .int .i64 x.left, .int .i64 x.prio, .bool x.shared]] w (Cloned x w) := by
  obtain ⟨i0, hi0, hz0, hz1, hz2⟩ := info_parts info_str
  obtain ⟨ac, sb, pr, ix, kd, zs, fr, tl, un, lf, po, sh⟩ := x
  unfold Cloned
  dsimp only at *
  have hempty : ∀ W : World, W.heap.size = w.heap.size + 2 → (W.alloc (.cells #[] 9)).ownsRow (w.heap.size + 2) 9 1 (.slice (some ⟨w.heap.size + 2, 0, none⟩) 0 0) 0 [] := fun W hW => by
    have := World.ownsRow_lit (base := w.heap.size + 2) (e := 9) (size := 1) W #[] 0 (by omega) (by simp [maxLen]) rfl
    rw [hW] at this
    exact this
  rcases A with _ | ad
  · obtain rfl := hc rfl
    have hzs : zs = [] := by
      cases zs with
      | nil => rfl
      | cons s l =>
        obtain ⟨_, _, hA, _⟩ := hz 0 s rfl
        cases hA
    subst hzs
    clear hz hn hc
    go_enter Try.func70, Try.ntmps70
    go_wp2_with (at_builtin; refine wpList_append_own_none rfl _ _ _ rfl (w.heap.size + 2) 9 i0 1 Try.underlying87 hi0 (.slice (some ⟨w.heap.size + 2, 0, none⟩) 0 0) 0 [] rfl (hempty _ (by simp)) rfl ?_)
    go_returns
    refine ⟨_, 0, rfl, own_mono (hempty _ (by simp)) (by omega), ?_⟩
    repeat' (first | exact Below.refl _ _ | refine below_ext ?_ ?_ _ | refine Below.alloc ?_ ?_ _ | refine Below.setCell ?_ ?_ _ | refine Below.drew ?_ | (rw [size_ext]; refine Nat.le_add_right_of_le ?_) | go_size | (rw [World.size_alloc]; refine Nat.le_add_right_of_le ?_))
  · have Hz := Lib.hid hz
    have He := Lib.hid hempty
    clear hz hc hempty
    go_enter Try.func70, Try.ntmps70
    go_wp2_with (at_builtin; refine wpList_append_own _ rfl _ _ _ rfl (w.heap.size + 2) 9 i0 _ 1 16 Try.underlying87 hi0 hz0 hz1 hz2 rfl (by omega) (.slice (some ⟨w.heap.size + 2, 0, none⟩) 0 0) 0 [] rfl (He.out _ (by simp)) ad zs.length c (zs.map Value.string) rfl (by simp) (strs_news (((Hz.out.alloc _).alloc _).alloc _)) (strs_one zs) (by simp only [maxLen]; omega) (by omega) (by simp) ?_; intro v1 w1 hown hg hnil; clear hnil; simp only [Nat.zero_add, List.nil_append] at hown; obtain ⟨A1, c1, rfl, hA1⟩ := own_form hown; clear hA1; have hb := ((Below.refl _ _).alloc (Nat.le_refl _) _).grown hg (by simp) (by simp [Value.ownBlock]); obtain ⟨s, rfl⟩ := ext_of_below hb; clear hb hg; have Ho := Lib.hid hown; clear hown)
    go_returns
    refine ⟨A1, c1, rfl, own_mono (own_swap Ho.out (by simp) (by simp)) (by omega), ?_⟩
    repeat' (first | exact Below.refl _ _ | refine below_ext ?_ ?_ _ | refine Below.alloc ?_ ?_ _ | refine Below.setCell ?_ ?_ _ | refine Below.drew ?_ | (rw [size_ext]; refine Nat.le_add_right_of_le ?_) | go_size | (rw [World.size_alloc]; refine Nat.le_add_right_of_le ?_))
end Go.Proofs.Ythkollhebabhbaa

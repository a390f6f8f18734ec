/-
  The walks of the chapter's example: sample, SameTakes at equal lists.
-/
import Derived.Test.YthhpdpcingapgaaBt
import Derived.BigQuiet
namespace Go.Proofs.Ythhpdpcingapgaa
open Go.RowKit
set_option linter.unusedSimpArgs false

def sa : Bk := ⟨1, 1, ⟨#[97]⟩, 0, 1, [], 0, 100, 60, 50, 2, false⟩
def sb : Bk := ⟨1, 1, ⟨#[98]⟩, 0, 1, [], 0, 100, 60, 30, 1, false⟩

set_option maxHeartbeats 1000000 in
theorem sample_any (w : World) :
    Calls Try.prog 33 #[] w fun e w' => ∃ A c, e = .returned (.slice A [sa, sb].length c) ∧ Bks w' A [sa, sb] ∧ Below w.heap.size w w' := by
  go_enter Try.func33, Try.ntmps33
  go_wp2_with fail
  go_returns
  refine ⟨_, _, rfl, ?_, ?_⟩
  · intro j x hx
    match j, hx with
    | 0, hx =>
      obtain rfl := Option.some.inj hx
      refine ⟨_, _, none, 0, rfl, by simp, fun i v hv => ?_, fun j s h => by simp [sa] at h, fun _ => rfl⟩
      have hi : i < 12 := by
        have := (List.getElem?_eq_some_iff.1 hv).1
        rwa [Bk.len_cells] at this
      rw [← hv]
      match i, hi with
      | 0, _ | 1, _ | 2, _ | 3, _ | 4, _ | 5, _ | 6, _ | 7, _ | 8, _ | 9, _ | 10, _ | 11, _ => simp [go_sem, Bk.cells, sa, sb]
    | 1, hx =>
      obtain rfl := Option.some.inj hx
      refine ⟨_, _, none, 0, rfl, by simp, fun i v hv => ?_, fun j s h => by simp [sb] at h, fun _ => rfl⟩
      have hi : i < 12 := by
        have := (List.getElem?_eq_some_iff.1 hv).1
        rwa [Bk.len_cells] at this
      rw [← hv]
      match i, hi with
      | 0, _ | 1, _ | 2, _ | 3, _ | 4, _ | 5, _ | 6, _ | 7, _ | 8, _ | 9, _ | 10, _ | 11, _ => simp [go_sem, Bk.cells, sa, sb]
    | j + 2, hx => simp at hx
  · repeat' (first | exact Below.refl _ _ | refine below_ext ?_ ?_ _ | refine Below.alloc ?_ ?_ _ | refine Below.setCell ?_ ?_ _ | refine Below.drew ?_ | (rw [size_ext]; refine Nat.le_add_right_of_le ?_) | go_size | (rw [World.size_alloc]; refine Nat.le_add_right_of_le ?_))

/-- The takes ts lie from A on. -/
def Tks (w : World) (A : Option Addr) (ts : List Tk) : Prop := ∀ (j : Nat) (x : Tk), ts[j]? = some x → ∃ b o, A = some ⟨b, o, none⟩ ∧ b < w.heap.size ∧ ∀ i v, x.cells[i]? = some v → w.cell? ⟨b, o + j * 5 + i, none⟩ = some v
theorem Tks.below {w w' : World} {A : Option Addr} {ts : List Tk} (h : Tks w A ts) (hb : Below w.heap.size w w') : Tks w' A ts := fun j x hx => by
  obtain ⟨b, o, hA, hlt, hc⟩ := h j x hx
  exact ⟨b, o, hA, Nat.lt_of_lt_of_le hlt hb.size, fun i v hv => (hb.cell (p := ⟨b, o + j * 5 + i, none⟩) hlt).trans (hc i v hv)⟩

theorem tks_cells {w : World} {A : Option Addr} {ts : List Tk} (h : Tks w A ts) {j : Nat} {x : Tk} (hx : ts[j]? = some x) : ∃ b o, A = some ⟨b, o, none⟩ ∧ b < w.heap.size ∧
    w.cell? ⟨b, o + j * 5, none⟩ = some (.int .i64 x.sub) ∧ w.cell? ⟨b, o + j * 5 + 1, none⟩ = some (.string x.prod) ∧ w.cell? ⟨b, o + j * 5 + 2, none⟩ = some (.int .i64 x.idx) ∧ w.cell? ⟨b, o + j * 5 + 3, none⟩ = some (.int .i64 x.frm) ∧ w.cell? ⟨b, o + j * 5 + 4, none⟩ = some (.int .i64 x.units) := by
  obtain ⟨b, o, hA, hlt, hc⟩ := h j x hx
  exact ⟨b, o, hA, hlt, hc 0 _ rfl, hc 1 _ rfl, hc 2 _ rfl, hc 3 _ rfl, hc 4 _ rfl⟩

theorem drewN_more (w : World) (n : Nat) : w.drewN n = ext w ⟨[], w.drawn + n⟩ := by simp [World.drewN, ext]
set_option maxHeartbeats 1000000 in
theorem same_any (ts : List Tk) (A A' : Option Addr) (c c' : Nat) (w : World) (hn : ts.length ≤ 100000) (h : Tks w A ts) (h' : Tks w A' ts) :
    Calls Try.prog 20 #[.slice A ts.length c, .slice A' ts.length c'] w fun e w' => e = .returned (.bool true) ∧ Below w.heap.size w w' := by
  have H := Lib.hid h
  have H' := Lib.hid h'
  clear h h'
  go_enter Try.func20, Try.ntmps20
  go_wp2
  go_loopw [5] (fun i wr => ∃ k : Nat, k ≤ ts.length ∧ i = .int .i64 k ∧ Below w.heap.size w wr) (fun i _ => ts.length - (intOf i).toNat)
  case atStart => exact ⟨0, Nat.zero_le _, rfl, Below.refl _ _⟩
  case round =>
    obtain ⟨k, hk, rfl, hbw⟩ := hrel
    by_cases hlt : k < ts.length
    · obtain ⟨x, hx⟩ : ∃ s, ts[k]? = some s := ⟨_, List.getElem?_eq_getElem hlt⟩
      have hsz := hbw.size
      obtain ⟨b, o, rfl, hb, x0, x1, x2, x3, x4⟩ := tks_cells (H.out.below hbw) hx
      obtain ⟨b', o', rfl, hb', y0, y1, y2, y3, y4⟩ := tks_cells (H'.out.below hbw) hx
      clear hx
      go_wp2
      go_quiet (fail)
      rw [drewN_more]
      go_wp2
      go_roundw
      case rel => exact ⟨k + 1, by omega, by go_num, below_ext hbw hbw.size _⟩
      case measure => simp [intOf]; omega
    · go_wp2
      go_ret
      exact ⟨rfl, hbw⟩
end Go.Proofs.Ythhpdpcingapgaa

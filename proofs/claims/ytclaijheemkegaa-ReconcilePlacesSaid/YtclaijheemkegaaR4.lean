/-
  The comparisons of equal lists, chapter 52 (printed by genr4.py).
-/
import Derived.Test.YtclaijheemkegaaR3
namespace Go.Proofs.Ytclaijheemkegaa
open Go.RowKit
set_option linter.unusedSimpArgs false
set_option linter.unusedVariables false

def prCells (x : Int × Int) : List Value := [.int .i64 x.1, .int .i64 x.2]
def ntCells (x : Int) : List Value := [.int .i64 x]

def Prs (w : World) (A : Option Addr) (ts : List (Int × Int)) : Prop := ∀ (j : Nat) (x : (Int × Int)), ts[j]? = some x → ∃ b o, A = some ⟨b, o, none⟩ ∧ b < w.heap.size ∧ ∀ i v, (prCells x)[i]? = some v → w.cell? ⟨b, o + j * 2 + i, none⟩ = some v
theorem Prs.below {w w' : World} {A : Option Addr} {ts : List (Int × Int)} (h : Prs w A ts) (hb : Below w.heap.size w w') : Prs w' A ts := fun j x hx => by
  obtain ⟨b, o, hA, hlt, hc⟩ := h j x hx
  exact ⟨b, o, hA, Nat.lt_of_lt_of_le hlt hb.size, fun i v hv => (hb.cell (p := ⟨b, o + j * 2 + i, none⟩) hlt).trans (hc i v hv)⟩
theorem Prs.ext {w : World} {A : Option Addr} {xs : List (Int × Int)} (h : Prs w A xs) (s : More) : Prs (Go.Proofs.Ytclaijheemkegaa.ext w s) A xs := h.below (below_ext (Below.refl _ _) (Nat.le_refl _) s)
theorem Prs.alloc {w : World} {A : Option Addr} {xs : List (Int × Int)} (h : Prs w A xs) (o : Obj) : Prs (w.alloc o) A xs := h.below ((Below.refl _ _).alloc (Nat.le_refl _) o)
theorem prs_cells {w : World} {A : Option Addr} {ts : List (Int × Int)} (h : Prs w A ts) {j : Nat} {x : (Int × Int)} (hx : ts[j]? = some x) : ∃ b o, A = some ⟨b, o, none⟩ ∧ b < w.heap.size ∧
    w.cell? ⟨b, o + j * 2, none⟩ = some (.int .i64 x.1) ∧ w.cell? ⟨b, o + j * 2 + 1, none⟩ = some (.int .i64 x.2) := by
  obtain ⟨b, o, hA, hlt, hc⟩ := h j x hx
  exact ⟨b, o, hA, hlt, hc 0 _ rfl, hc 1 _ rfl⟩

def Nts (w : World) (A : Option Addr) (ts : List Int) : Prop := ∀ (j : Nat) (x : Int), ts[j]? = some x → ∃ b o, A = some ⟨b, o, none⟩ ∧ b < w.heap.size ∧ ∀ i v, (ntCells x)[i]? = some v → w.cell? ⟨b, o + j * 1 + i, none⟩ = some v
theorem Nts.below {w w' : World} {A : Option Addr} {ts : List Int} (h : Nts w A ts) (hb : Below w.heap.size w w') : Nts w' A ts := fun j x hx => by
  obtain ⟨b, o, hA, hlt, hc⟩ := h j x hx
  exact ⟨b, o, hA, Nat.lt_of_lt_of_le hlt hb.size, fun i v hv => (hb.cell (p := ⟨b, o + j * 1 + i, none⟩) hlt).trans (hc i v hv)⟩
theorem Nts.ext {w : World} {A : Option Addr} {xs : List Int} (h : Nts w A xs) (s : More) : Nts (Go.Proofs.Ytclaijheemkegaa.ext w s) A xs := h.below (below_ext (Below.refl _ _) (Nat.le_refl _) s)
theorem Nts.alloc {w : World} {A : Option Addr} {xs : List Int} (h : Nts w A xs) (o : Obj) : Nts (w.alloc o) A xs := h.below ((Below.refl _ _).alloc (Nat.le_refl _) o)
theorem nts_cells {w : World} {A : Option Addr} {ts : List Int} (h : Nts w A ts) {j : Nat} {x : Int} (hx : ts[j]? = some x) : ∃ b o, A = some ⟨b, o, none⟩ ∧ b < w.heap.size ∧
    w.cell? ⟨b, o + j, none⟩ = some (.int .i64 x) := by
  obtain ⟨b, o, hA, hlt, hc⟩ := h j x hx
  exact ⟨b, o, hA, hlt, by simpa using hc 0 _ rfl⟩

set_option maxHeartbeats 1000000 in
theorem sitems_any (ts : List It) (A A' : Option Addr) (c c' : Nat) (w : World) (hn : ts.length ≤ 100000) (h : Its w A ts) (h' : Its w A' ts) :
    Calls Try.prog 17 #[.slice A ts.length c, .slice A' ts.length c'] w fun e w' => e = .returned (.bool true) ∧ Below w.heap.size w w' := by
  have H := Lib.hid h
  have H' := Lib.hid h'
  clear h h'
  go_enter Try.func17, Try.ntmps17
  go_wp2
  go_loopw [5] (fun i wr => ∃ k : Nat, k ≤ ts.length ∧ i = .int .i64 k ∧ Below w.heap.size w wr) (fun i _ => ts.length - (intOf i).toNat)
  case atStart => exact ⟨0, Nat.zero_le _, rfl, Below.refl _ _⟩
  case round =>
    obtain ⟨k, hk, rfl, hbw⟩ := hrel
    by_cases hlt : k < ts.length
    · obtain ⟨x, hx⟩ : ∃ s, ts[k]? = some s := ⟨_, List.getElem?_eq_getElem hlt⟩
      have hsz := hbw.size
      obtain ⟨b, o, rfl, hb, x0, x1, x2, x3, x4⟩ := its_cells (H.out.below hbw) hx
      obtain ⟨b', o', rfl, hb', y0, y1, y2, y3, y4⟩ := its_cells (H'.out.below hbw) hx
      clear hx
      go_wp2
      go_quiet (fail)
      rw [drewN_more]
      go_wp2
      go_roundw
      case rel => exact ⟨k + 1, by omega, by go_num, below_ext hbw hbw.size _⟩
      case measure => simp [intOf]; omega
    · go_wp2
      go_ret
      exact ⟨rfl, hbw⟩

set_option maxHeartbeats 1000000 in
theorem spairs_any (ts : List (Int × Int)) (A A' : Option Addr) (c c' : Nat) (w : World) (hn : ts.length ≤ 100000) (h : Prs w A ts) (h' : Prs w A' ts) :
    Calls Try.prog 20 #[.slice A ts.length c, .slice A' ts.length c'] w fun e w' => e = .returned (.bool true) ∧ Below w.heap.size w w' := by
  have H := Lib.hid h
  have H' := Lib.hid h'
  clear h h'
  go_enter Try.func20, Try.ntmps20
  go_wp2
  go_loopw [5] (fun i wr => ∃ k : Nat, k ≤ ts.length ∧ i = .int .i64 k ∧ Below w.heap.size w wr) (fun i _ => ts.length - (intOf i).toNat)
  case atStart => exact ⟨0, Nat.zero_le _, rfl, Below.refl _ _⟩
  case round =>
    obtain ⟨k, hk, rfl, hbw⟩ := hrel
    by_cases hlt : k < ts.length
    · obtain ⟨x, hx⟩ : ∃ s, ts[k]? = some s := ⟨_, List.getElem?_eq_getElem hlt⟩
      have hsz := hbw.size
      obtain ⟨b, o, rfl, hb, x0, x1⟩ := prs_cells (H.out.below hbw) hx
      obtain ⟨b', o', rfl, hb', y0, y1⟩ := prs_cells (H'.out.below hbw) hx
      clear hx
      go_wp2
      go_quiet (fail)
      rw [drewN_more]
      go_wp2
      go_roundw
      case rel => exact ⟨k + 1, by omega, by go_num, below_ext hbw hbw.size _⟩
      case measure => simp [intOf]; omega
    · go_wp2
      go_ret
      exact ⟨rfl, hbw⟩

set_option maxHeartbeats 1000000 in
theorem sints_any (ts : List Int) (A A' : Option Addr) (c c' : Nat) (w : World) (hn : ts.length ≤ 100000) (h : Nts w A ts) (h' : Nts w A' ts) :
    Calls Try.prog 21 #[.slice A ts.length c, .slice A' ts.length c'] w fun e w' => e = .returned (.bool true) ∧ Below w.heap.size w w' := by
  have H := Lib.hid h
  have H' := Lib.hid h'
  clear h h'
  go_enter Try.func21, Try.ntmps21
  go_wp2
  go_loopw [5] (fun i wr => ∃ k : Nat, k ≤ ts.length ∧ i = .int .i64 k ∧ Below w.heap.size w wr) (fun i _ => ts.length - (intOf i).toNat)
  case atStart => exact ⟨0, Nat.zero_le _, rfl, Below.refl _ _⟩
  case round =>
    obtain ⟨k, hk, rfl, hbw⟩ := hrel
    by_cases hlt : k < ts.length
    · obtain ⟨x, hx⟩ : ∃ s, ts[k]? = some s := ⟨_, List.getElem?_eq_getElem hlt⟩
      have hsz := hbw.size
      obtain ⟨b, o, rfl, hb, x0⟩ := nts_cells (H.out.below hbw) hx
      obtain ⟨b', o', rfl, hb', y0⟩ := nts_cells (H'.out.below hbw) hx
      clear hx
      go_wp2
      go_quiet (fail)
      rw [drewN_more]
      go_wp2
      go_roundw
      case rel => exact ⟨k + 1, by omega, by go_num, below_ext hbw hbw.size _⟩
      case measure => simp [intOf]; omega
    · go_wp2
      go_ret
      exact ⟨rfl, hbw⟩
end Go.Proofs.Ytclaijheemkegaa

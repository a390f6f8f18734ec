/-
  Items and their units: the small walks of chapter 52.
-/
import Derived.Test.YtclaijheemkegaaKit
import Derived.Test.YtclaijheemkegaaRows
import Derived.BigQuiet
namespace Go.Proofs.Ytclaijheemkegaa
open Go.RowKit
set_option linter.unusedSimpArgs false
set_option linter.unusedVariables false

/-- An item. -/
structure It where
  a : ByteArray
  b : ByteArray
  kind : Int
  start : Int
  units : Int
def It.cells (x : It) : List Value := [.string x.a, .string x.b, .int .i64 x.kind, .int .i64 x.start, .int .i64 x.units]
def It.val (x : It) : Value := .agg #[.string x.a, .string x.b, .int .i64 x.kind, .int .i64 x.start, .int .i64 x.units]
/-- The units that count. -/
def It.cnt (x : It) : Int := if 0 ≤ x.units ∧ x.units ≤ 1099511627776 then x.units else 0
theorem It.cnt_in (x : It) : 0 ≤ x.cnt ∧ x.cnt ≤ 1099511627776 := by
  unfold It.cnt
  split <;> omega

/-- The items xs lie from A on. -/
def Its (w : World) (A : Option Addr) (xs : List It) : Prop := ∀ (j : Nat) (x : It), xs[j]? = some x → ∃ b o, A = some ⟨b, o, none⟩ ∧ b < w.heap.size ∧ ∀ i v, x.cells[i]? = some v → w.cell? ⟨b, o + j * 5 + i, none⟩ = some v
theorem Its.below {w w' : World} {A : Option Addr} {xs : List It} (h : Its w A xs) (hb : Below w.heap.size w w') : Its w' A xs := fun j x hx => by
  obtain ⟨b, o, hA, hlt, hc⟩ := h j x hx
  exact ⟨b, o, hA, Nat.lt_of_lt_of_le hlt hb.size, fun i v hv => (hb.cell (p := ⟨b, o + j * 5 + i, none⟩) hlt).trans (hc i v hv)⟩
theorem Its.ext {w : World} {A : Option Addr} {xs : List It} (h : Its w A xs) (s : More) : Its (Go.Proofs.Ytclaijheemkegaa.ext w s) A xs := h.below (below_ext (Below.refl _ _) (Nat.le_refl _) s)
theorem Its.alloc {w : World} {A : Option Addr} {xs : List It} (h : Its w A xs) (o : Obj) : Its (w.alloc o) A xs := h.below ((Below.refl _ _).alloc (Nat.le_refl _) o)
theorem its_cells {w : World} {A : Option Addr} {xs : List It} (h : Its w A xs) {j : Nat} {x : It} (hx : xs[j]? = some x) : ∃ b o, A = some ⟨b, o, none⟩ ∧ b < w.heap.size ∧
    w.cell? ⟨b, o + j * 5, none⟩ = some (.string x.a) ∧ w.cell? ⟨b, o + j * 5 + 1, none⟩ = some (.string x.b) ∧ w.cell? ⟨b, o + j * 5 + 2, none⟩ = some (.int .i64 x.kind) ∧ w.cell? ⟨b, o + j * 5 + 3, none⟩ = some (.int .i64 x.start) ∧ w.cell? ⟨b, o + j * 5 + 4, none⟩ = some (.int .i64 x.units) := by
  obtain ⟨b, o, hA, hlt, hc⟩ := h j x hx
  exact ⟨b, o, hA, hlt, hc 0 _ rfl, hc 1 _ rfl, hc 2 _ rfl, hc 3 _ rfl, hc 4 _ rfl⟩

set_option maxRecDepth 100000 in
theorem runits_any (xa xb : ByteArray) (xk xs xu : Int) (w : World) :
    Calls Try.prog 28 #[.agg #[.string xa, .string xb, .int .i64 xk, .int .i64 xs, .int .i64 xu]] w fun e w' => e = .returned (.int .i64 (⟨xa, xb, xk, xs, xu⟩ : It).cnt) ∧ Below w.heap.size w w' := by
  unfold It.cnt
  dsimp only
  by_cases h1 : xu < 0
  · rw [if_neg (by omega)]
    go_enter Try.func28, Try.ntmps28
    go_wp2
    go_ret
    refine ⟨rfl, ?_⟩
    repeat' (first | exact Below.refl _ _ | refine below_ext ?_ ?_ _ | refine Below.alloc ?_ ?_ _ | refine Below.setCell ?_ ?_ _ | refine Below.drew ?_ | (rw [size_ext]; refine Nat.le_add_right_of_le ?_) | go_size | (rw [World.size_alloc]; refine Nat.le_add_right_of_le ?_))
  · by_cases h2 : 1099511627776 < xu
    · rw [if_neg (by omega)]
      go_enter Try.func28, Try.ntmps28
      go_wp2
      go_ret
      refine ⟨rfl, ?_⟩
      repeat' (first | exact Below.refl _ _ | refine below_ext ?_ ?_ _ | refine Below.alloc ?_ ?_ _ | refine Below.setCell ?_ ?_ _ | refine Below.drew ?_ | (rw [size_ext]; refine Nat.le_add_right_of_le ?_) | go_size | (rw [World.size_alloc]; refine Nat.le_add_right_of_le ?_))
    · rw [if_pos (by omega)]
      go_enter Try.func28, Try.ntmps28
      go_wp2
      go_ret
      refine ⟨rfl, ?_⟩
      repeat' (first | exact Below.refl _ _ | refine below_ext ?_ ?_ _ | refine Below.alloc ?_ ?_ _ | refine Below.setCell ?_ ?_ _ | refine Below.drew ?_ | (rw [size_ext]; refine Nat.le_add_right_of_le ?_) | go_size | (rw [World.size_alloc]; refine Nat.le_add_right_of_le ?_))
end Go.Proofs.Ytclaijheemkegaa

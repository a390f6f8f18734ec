/-
  The law WalletKeeps over any wallet and any slice of calls.
-/
import Derived.Test.YtfbodilmjkcihaaWl4
import Derived.Test.YtfbodilmjkcihaaOpenS
namespace Go.Proofs.Ytfbodilmjkcihaa
open Go.RowKit Go.ChangeShapes Go.WideShapes Go.Deep

/-- A slice of calls, as cells. -/
def Ops (w : World) (A : Option Addr) (n : Nat) : Prop :=
  n ≤ maxLen ∧ (n = 0 ∨ ∃ (bo oo : Nat) (c p q : Nat → Int), A = some ⟨bo, oo, none⟩ ∧ bo < w.heap.size ∧
    (∀ j, j < n → w.cell? ⟨bo, oo + j * 3, none⟩ = some (.int .i64 (c j))) ∧ (∀ j, j < n → w.cell? ⟨bo, oo + j * 3 + 1, none⟩ = some (.int .i64 (p j))) ∧ (∀ j, j < n → w.cell? ⟨bo, oo + j * 3 + 2, none⟩ = some (.int .i64 (q j))))

theorem three {α : Type} {cs : List α} (h : cs.length = 3) : ∃ a b c, cs = [a, b, c] := by
  match cs, h with
  | [a, b, c], _ => exact ⟨a, b, c, rfl⟩

theorem open_op {H : Type} {enc : TypeId × Value → H} {w : World} {base : Nat} {spare : Nat → Bool} {held : Bool} {fuel : Nat} {cs : List Value} {x : DataW H × List MemPlace}
    (h : DataW.trod enc Try.prog w base spare held fuel 37 cs = some x) : ∃ c p q : Int, cs = [.int .i64 c, .int .i64 p, .int .i64 q] := by
  obtain ⟨hl, hc⟩ := struct_cells Try.underlying37 (by kernel_rfl) (by kernel_rfl) h
  obtain ⟨c0, c1, c2, rfl⟩ := three (hl.trans rfl)
  obtain ⟨_, x0, _, e0, t0⟩ := hc 0 _ rfl
  obtain ⟨_, x1, _, e1, t1⟩ := hc 1 _ rfl
  obtain ⟨_, x2, _, e2, t2⟩ := hc 2 _ rfl
  obtain ⟨n0, k0, _⟩ := DataW.trod_int Try.underlying3 t0
  obtain ⟨n1, k1, _⟩ := DataW.trod_int Try.underlying3 t1
  obtain ⟨n2, k2, _⟩ := DataW.trod_int Try.underlying3 t2
  simp only [List.getElem?_cons_zero, List.getElem?_cons_succ, Option.some.injEq, List.cons.injEq, and_true] at *
  subst e0 e1 e2 k0 k1 k2
  exact ⟨n0, n1, n2, rfl, rfl, rfl⟩

theorem open_ops {H : Type} {enc : TypeId × Value → H} {w : World} {base : Nat} {spare : Nat → Bool} {held : Bool} {A : Option Addr} {n cap : Nat} {d : DataW H} {p : List MemPlace}
    (h : DataW.Trod enc Try.prog w base spare held 34 (.slice A n cap) d p) : Ops w A n := by
  obtain ⟨hm, h⟩ := open_slice_cells 3 (by omega) Try.underlying34 (by kernel_rfl) h
  refine ⟨hm, ?_⟩
  rcases h with h0 | ⟨b, o, V, fuel, Y, rfl, hb, hi⟩
  · exact .inl h0
  · have hV : ∀ i, i < n → ∃ c p q : Int, V i = [.int .i64 c, .int .i64 p, .int .i64 q] := fun i hin => open_op (hi i hin).2.2
    refine .inr ⟨b, o, fun i => if hin : i < n then (hV i hin).choose else 0, fun i => if hin : i < n then (hV i hin).choose_spec.choose else 0, fun i => if hin : i < n then (hV i hin).choose_spec.choose_spec.choose else 0, rfl, hb, ?_, ?_, ?_⟩
    all_goals
      intro j hj
      have hs := (hV j hj).choose_spec.choose_spec.choose_spec
      simp only [dif_pos hj]
    · have := (hi j hj).2.1 0 (by omega)
      rw [hs] at this
      simpa using this
    · have := (hi j hj).2.1 1 (by omega)
      rw [hs] at this
      simpa using this
    · have := (hi j hj).2.1 2 (by omega)
      rw [hs] at this
      simpa using this

theorem walk_keeps (a b f h u : Int) (A : Option Addr) (n cap : Nat) (w : World) (hm : Ops w A n) :
    Calls Try.prog 9 #[.agg #[.int .i64 a, .int .i64 b, .int .i64 f, .int .i64 h, .int .i64 u], .slice A n cap] w fun e w' => e = .returned (.bool true) ∧ Below w.heap.size w w' := by
  obtain ⟨hm, hi⟩ := hm
  unfold maxLen at hm
  by_cases hch : (W5.mk a b f h u).chk = 0
  · by_cases hn : n ≤ 40
    · rcases hi with rfl | ⟨bo, oo, c, p, q, rfl, hbo, h0, h1, h2⟩
      · exact keeps_none a b f h u A cap w (by simp [hch])
      · exact keeps_loop a b f h u n cap bo oo c p q w hbo hn h0 h1 h2 hch
    · exact keeps_long a b f h u A n cap w (by simp [hch]) (by omega) (by omega)
  · exact keeps_bad a b f h u A n cap w (bne_iff_ne.2 hch)
end Go.Proofs.Ytfbodilmjkcihaa

/-
  A wallet that came in as an argument: its five numbers.
-/
import Derived.Test.YtfbodilmjkcihaaProg
import Derived.Test.YtfbodilmjkcihaaKit
namespace Go.Proofs.Ytfbodilmjkcihaa
open Go.RowKit Go.ChangeShapes Go.WideShapes Go.Deep

theorem five {α : Type} {cs : List α} (h : cs.length = 5) : ∃ a b c d e, cs = [a, b, c, d, e] := by
  match cs, h with
  | [a, b, c, d, e], _ => exact ⟨a, b, c, d, e, rfl⟩

theorem open_wallet {H : Type} {enc : TypeId × Value → H} {w : World} {base : Nat} {spare : Nat → Bool} {held : Bool} {r : Reach} {b0 : Nat} {v : Value} {d : DataW H} {p : List MemPlace}
    (hv : Value.okWide Try.prog w r b0 23 v) (h : DataW.Trod enc Try.prog w base spare held 23 v d p) :
    ∃ a b f h u : Int, v = .agg #[.int .i64 a, .int .i64 b, .int .i64 f, .int .i64 h, .int .i64 u] := by
  obtain ⟨cs, rfl, hl, hc⟩ := open_agg Try.underlying23 (by kernel_rfl) (by kernel_rfl) hv h
  obtain ⟨c0, c1, c2, c3, c4, rfl⟩ := five (hl.trans rfl)
  obtain ⟨_, x0, _, e0, t0, _⟩ := hc 0 _ rfl
  obtain ⟨_, x1, _, e1, t1, _⟩ := hc 1 _ rfl
  obtain ⟨_, x2, _, e2, t2, _⟩ := hc 2 _ rfl
  obtain ⟨_, x3, _, e3, t3, _⟩ := hc 3 _ rfl
  obtain ⟨_, x4, _, e4, t4, _⟩ := hc 4 _ rfl
  obtain ⟨n0, k0, _⟩ := DataW.trod_int Try.underlying3 t0
  obtain ⟨n1, k1, _⟩ := DataW.trod_int Try.underlying3 t1
  obtain ⟨n2, k2, _⟩ := DataW.trod_int Try.underlying3 t2
  obtain ⟨n3, k3, _⟩ := DataW.trod_int Try.underlying3 t3
  obtain ⟨n4, k4, _⟩ := DataW.trod_int Try.underlying3 t4
  simp only [List.getElem?_cons_zero, List.getElem?_cons_succ, Option.some.injEq, List.cons.injEq, and_true] at *
  subst e0 e1 e2 e3 e4 k0 k1 k2 k3 k4
  exact ⟨n0, n1, n2, n3, n4, rfl⟩
end Go.Proofs.Ytfbodilmjkcihaa

/-
  A wish that came in as an argument, by value.
-/
import Derived.Test.YthhpdpcingapgaaOpenB
namespace Go.Proofs.Ythhpdpcingapgaa
open Go.RowKit Go.ChangeShapes Go.WideShapes Go.Deep
theorem seven {α : Type} {cs : List α} (h : cs.length = 7) : ∃ a b c d e f g, cs = [a, b, c, d, e, f, g] := by
  match cs, h with
  | [a, b, c, d, e, f, g], _ => exact ⟨a, b, c, d, e, f, g, rfl⟩
theorem open_wish {H : Type} {enc : TypeId × Value → H} {w : World} {base : Nat} {spare : Nat → Bool} {held : Bool} {r : Reach} {b0 : Nat} {v : Value} {d : DataW H} {p : List MemPlace}
    (hv : Value.okWide Try.prog w r b0 32 v) (h : DataW.Trod enc Try.prog w base spare held 32 v d p) :
    ∃ (account sub kind : Int) (zone : ByteArray) (family : Bool) (t n : Int), v = .agg #[.int .i64 account, .int .i64 sub, .int .i64 kind, .string zone, .bool family, .int .i64 t, .int .i64 n] ∧ fits t ∧ fits n := by
  obtain ⟨cs, rfl, hl, hc⟩ := open_agg Try.underlying32 (by kernel_rfl) (by kernel_rfl) hv h
  obtain ⟨c0, c1, c2, c3, c4, c5, c6, rfl⟩ := seven (hl.trans rfl)
  obtain ⟨_, x0, _, e0, t0, _⟩ := hc 0 _ rfl
  obtain ⟨_, x1, _, e1, t1, _⟩ := hc 1 _ rfl
  obtain ⟨_, x2, _, e2, t2, _⟩ := hc 2 _ rfl
  obtain ⟨_, x3, _, e3, t3, _⟩ := hc 3 _ rfl
  obtain ⟨_, x4, _, e4, t4, _⟩ := hc 4 _ rfl
  obtain ⟨_, x5, _, e5, t5, _⟩ := hc 5 _ rfl
  obtain ⟨_, x6, _, e6, t6, _⟩ := hc 6 _ rfl
  obtain ⟨n0, k0, _⟩ := DataW.trod_int Try.underlying3 t0
  obtain ⟨n1, k1, _⟩ := DataW.trod_int Try.underlying3 t1
  obtain ⟨n2, k2, _⟩ := DataW.trod_int Try.underlying3 t2
  obtain ⟨n3, k3, _⟩ := DataW.trod_string Try.underlying9 t3
  obtain ⟨n4, k4, _⟩ := DataW.trod_bool Try.underlying4 t4
  obtain ⟨n5, k5, _, f5⟩ := DataW.trod_int Try.underlying3 t5
  obtain ⟨n6, k6, _, f6⟩ := DataW.trod_int Try.underlying3 t6
  simp only [List.getElem?_cons_zero, List.getElem?_cons_succ, Option.some.injEq, List.cons.injEq, and_true] at *
  subst e0 e1 e2 e3 e4 e5 e6 k0 k1 k2 k3 k4 k5 k6
  exact ⟨n0, n1, n2, n3, n4, n5, n6, rfl, fits_of f5, fits_of f6⟩
end Go.Proofs.Ythhpdpcingapgaa

/-
  TopSettle, as its arguments come in.
-/
import Derived.Test.YtmodghiokoiipaaGreatSl
import Derived.Test.YtmodghiokoiipaaGreatOpenA
namespace Go.Proofs.YtmodghiokoiipaaGreat
open Go.RowKit

theorem walk_topSettle (A0 : Option Addr) (n0 c0 : Nat) (A1 : Option Addr) (n1 c1 : Nat) (A2 : Option Addr) (n2 c2 : Nat) (W : World) (h0 : InAgs W A0 n0 c0) (h1 : InUgs W A1 n1 c1) (h2 : InNts W A2 n2) :
    Calls Tryz.prog 3 #[.slice A0 n0 c0, .slice A1 n1 c1, .slice A2 n2 c2] W fun e w' => e = .returned (.bool true) ∧ Below W.heap.size W w' := by
  obtain ⟨zs, rfl, a1, a2, a3, a4, a5, a6⟩ := h0
  obtain ⟨us, rfl, b1, b2, b3, b4⟩ := h1
  obtain ⟨cs, rfl, d1, d2⟩ := h2
  exact top_any zs us cs A0 A1 A2 c0 c1 c2 W a3 a6 a2 a1 a4 a5 b2 b4 b1 b3 d2 d1
end Go.Proofs.YtmodghiokoiipaaGreat

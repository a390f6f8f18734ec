/-
  The program's tables: zero values, orders, the function with a range over a function.
-/
import Derived.Test.YtmodghiokoiipaaGreatFe
import Derived.Test.YtmodghiokoiipaaGreatProg
import Derived.KernelRfl
namespace Go.Proofs.YtmodghiokoiipaaGreat
open Go Go.RowKit
set_option linter.unusedVariables false
set_option linter.unusedSimpArgs false

theorem mixT : Tryz.prog.follows .mixedOrders = true := by kernel_rfl
theorem xT_ok : (xOf (Tryz.f94.body.getD .skip) (Tryz.f183.body.getD .skip)).Ok :=
  ⟨by kernel_rfl, by kernel_rfl, by kernel_rfl, by kernel_rfl, by kernel_rfl, by kernel_rfl, by kernel_rfl, by kernel_rfl, by kernel_rfl, by kernel_rfl, by kernel_rfl, by kernel_rfl, by kernel_rfl, by kernel_rfl, by kernel_rfl, by kernel_rfl, by kernel_rfl, by kernel_rfl, by kernel_rfl⟩
theorem xT_5 : okX (fun _ => false) (fun _ => false) (xOf (Tryz.f94.body.getD .skip) (Tryz.f183.body.getD .skip)).o5 (xOf (Tryz.f94.body.getD .skip) (Tryz.f183.body.getD .skip)).o5.toList = true := by kernel_rfl
theorem f94T : Tryz.prog.funcs[94]? = some Tryz.f94 := by kernel_rfl
theorem f183T : Tryz.prog.funcs[183]? = some Tryz.f183 := by kernel_rfl
theorem b94T : Tryz.f94.body = some (codeO (xOf (Tryz.f94.body.getD .skip) (Tryz.f183.body.getD .skip))) := by kernel_rfl
theorem b183T : Tryz.f183.body = some (codeI (xOf (Tryz.f94.body.getD .skip) (Tryz.f183.body.getD .skip))) := by kernel_rfl
theorem n94T : Tryz.f94.ntmps = 17 := by kernel_rfl
theorem n183T : Tryz.f183.ntmps = 23 := by kernel_rfl
theorem r94T : Tryz.f94.results = #[.cell 4 204] := by kernel_rfl
theorem r183T : Tryz.f183.results = #[] := by kernel_rfl
theorem c183T (args : Array Value) (w : World) : (callFunc 183 args).run Tryz.prog w = .ok (.enter 183 args) w :=
  callFunc_run f183T (by kernel_rfl) (by kernel_rfl) args w
/-- A call of customer.State. -/
theorem ok94 {l : List E} (hl : ∀ x ∈ l, x.Ok Tryz.prog) {e : E} (he : e.f = 94) (h : ckS Tryz.prog (xOf (Tryz.f94.body.getD .skip) (Tryz.f183.body.getD .skip)) 183 200 l e = true) : e.Ok Tryz.prog :=
  E.ok_sp trivial xT_ok xT_5 hl (by rw [he]; exact f94T) b94T n94T r94T f183T b183T n183T r183T c183T h
theorem okT {l : List E} (hl : ∀ x ∈ l, x.Ok Tryz.prog) {e : E} (h : ckE Tryz.prog 200 l e = true) : e.Ok Tryz.prog := E.ok_of mixT trivial hl h
theorem okN : ∀ x ∈ ([] : List E), x.Ok Tryz.prog := fun x hx => by cases hx
theorem okC {e : E} {l : List E} (h : e.Ok Tryz.prog) (hl : ∀ x ∈ l, x.Ok Tryz.prog) : ∀ x ∈ e :: l, x.Ok Tryz.prog := fun x hx => by
  rcases List.mem_cons.1 hx with rfl | hx
  · exact h
  · exact hl x hx
end Go.Proofs.YtmodghiokoiipaaGreat

/-
  No cell of these rows narrows 'for every input' (looked for: loops, veiled, ifaces, maps, wideKeys, modest, calm, conditions, laid).
  DERIVED. THE GIVEN ROWS OF THIS SEAT. 7 by the template 'for every input the law returns true; each argument reads behind the call as it read before'; 0 by the template 'total and deterministic' (their statements: YtfbodilmjkcihaaTotals.lean).
  GIVEN WITH THE SEED: the statements are not yours to turn. If you find one false, say at which input.
  Laid BY PROGRAM, IN A SANDBOX (cutbox-rows.mjs): the forced cells as the released guide's own fill.sh prints them over the translation 802faeb698b0aee8… (all of the seat's roots in one cut). By AI agents, Wed Nov 11 2026. No macro, syntax, notation, axiom, sorry.
-/
import Derived.Test.YtfbodilmjkcihaaChecked
import GoSem.Claim
import GoSem.ClaimJoined
import GoSem.ClaimMapViews
import Derived.JoinedTies
import Derived.KernelRfl
namespace Go.Proofs.Ytfbodilmjkcihaa
/- THE CELL 'sum', in the pinned program and in every row, IS THE sha256 OF THE DUMP (.gsa) THAT YtfbodilmjkcihaaProg.lean LOADS. Nothing in Lean hashes anything: it is a label: what it is worth is what the hold of that sum in a sandbox is worth. -/
noncomputable def Try.pinned : Pinned := { name := "ytfbodilmjkcihaa", sum := "802faeb698b0aee8e97eb42a9112cb0e5ad406e60751503c1b0bbf5701e3c35d", checked := Try.checked }
namespace Rows
def none {H : Type} : Left H := { results := [], args := [] }

/-- 'billinglaw34.WalletChecks': WHATEVER THE INPUT: true; the input reads as it did. -/
def walletChecksSpec : ChangeSpec := { name := "walletChecks", fn := fun _ => fun
  | [d] => { results := [.lit (.bool true)], args := [d] }
  | _ => none }
def walletChecksRow : OpenClaim := { program := "ytfbodilmjkcihaa", sum := "802faeb698b0aee8e97eb42a9112cb0e5ad406e60751503c1b0bbf5701e3c35d", func := "billing/billinglaw34.WalletChecks", spec := "walletChecks", apart := false }
def WalletChecksSaid : Prop := walletChecksRow.holds Try.pinned (OpenSpec.ofChange walletChecksSpec)

/-- ITS FALSE NEIGHBOUR: 'it returns false'. Refute it at one input. -/
def walletChecksWrong : ChangeSpec := { name := "walletChecks", fn := fun _ => fun
  | [d] => { results := [.lit (.bool false)], args := [d] }
  | _ => none }
def WalletChecksWrongFalsely : Prop := walletChecksRow.holds Try.pinned (OpenSpec.ofChange walletChecksWrong)

/-- 'billinglaw34.WalletCredits': WHATEVER THE INPUT: true; the input reads as it did. -/
def walletCreditsSpec : ChangeSpec := { name := "walletCredits", fn := fun _ => fun
  | [d1, d2] => { results := [.lit (.bool true)], args := [d1, d2] }
  | _ => none }
def walletCreditsRow : OpenClaim := { program := "ytfbodilmjkcihaa", sum := "802faeb698b0aee8e97eb42a9112cb0e5ad406e60751503c1b0bbf5701e3c35d", func := "billing/billinglaw34.WalletCredits", spec := "walletCredits", apart := false }
def WalletCreditsSaid : Prop := walletCreditsRow.holds Try.pinned (OpenSpec.ofChange walletCreditsSpec)

/-- ITS FALSE NEIGHBOUR: 'it returns false'. Refute it at one input. -/
def walletCreditsWrong : ChangeSpec := { name := "walletCredits", fn := fun _ => fun
  | [d1, d2] => { results := [.lit (.bool false)], args := [d1, d2] }
  | _ => none }
def WalletCreditsWrongFalsely : Prop := walletCreditsRow.holds Try.pinned (OpenSpec.ofChange walletCreditsWrong)

/-- 'billinglaw34.WalletSettles': WHATEVER THE INPUT: true; the input reads as it did. -/
def walletSettlesSpec : ChangeSpec := { name := "walletSettles", fn := fun _ => fun
  | [d1, d2, d3] => { results := [.lit (.bool true)], args := [d1, d2, d3] }
  | _ => none }
def walletSettlesRow : OpenClaim := { program := "ytfbodilmjkcihaa", sum := "802faeb698b0aee8e97eb42a9112cb0e5ad406e60751503c1b0bbf5701e3c35d", func := "billing/billinglaw34.WalletSettles", spec := "walletSettles", apart := false }
def WalletSettlesSaid : Prop := walletSettlesRow.holds Try.pinned (OpenSpec.ofChange walletSettlesSpec)

/-- ITS FALSE NEIGHBOUR: 'it returns false'. Refute it at one input. -/
def walletSettlesWrong : ChangeSpec := { name := "walletSettles", fn := fun _ => fun
  | [d1, d2, d3] => { results := [.lit (.bool false)], args := [d1, d2, d3] }
  | _ => none }
def WalletSettlesWrongFalsely : Prop := walletSettlesRow.holds Try.pinned (OpenSpec.ofChange walletSettlesWrong)

/-- 'billinglaw34.WalletFloors': WHATEVER THE INPUT: true; the input reads as it did. -/
def walletFloorsSpec : ChangeSpec := { name := "walletFloors", fn := fun _ => fun
  | [d1, d2] => { results := [.lit (.bool true)], args := [d1, d2] }
  | _ => none }
def walletFloorsRow : OpenClaim := { program := "ytfbodilmjkcihaa", sum := "802faeb698b0aee8e97eb42a9112cb0e5ad406e60751503c1b0bbf5701e3c35d", func := "billing/billinglaw34.WalletFloors", spec := "walletFloors", apart := false }
def WalletFloorsSaid : Prop := walletFloorsRow.holds Try.pinned (OpenSpec.ofChange walletFloorsSpec)

/-- ITS FALSE NEIGHBOUR: 'it returns false'. Refute it at one input. -/
def walletFloorsWrong : ChangeSpec := { name := "walletFloors", fn := fun _ => fun
  | [d1, d2] => { results := [.lit (.bool false)], args := [d1, d2] }
  | _ => none }
def WalletFloorsWrongFalsely : Prop := walletFloorsRow.holds Try.pinned (OpenSpec.ofChange walletFloorsWrong)

/-- 'billinglaw34.WalletDebits': WHATEVER THE INPUT: true; the input reads as it did. -/
def walletDebitsSpec : ChangeSpec := { name := "walletDebits", fn := fun _ => fun
  | [d1, d2] => { results := [.lit (.bool true)], args := [d1, d2] }
  | _ => none }
def walletDebitsRow : OpenClaim := { program := "ytfbodilmjkcihaa", sum := "802faeb698b0aee8e97eb42a9112cb0e5ad406e60751503c1b0bbf5701e3c35d", func := "billing/billinglaw34.WalletDebits", spec := "walletDebits", apart := false }
def WalletDebitsSaid : Prop := walletDebitsRow.holds Try.pinned (OpenSpec.ofChange walletDebitsSpec)

/-- ITS FALSE NEIGHBOUR: 'it returns false'. Refute it at one input. -/
def walletDebitsWrong : ChangeSpec := { name := "walletDebits", fn := fun _ => fun
  | [d1, d2] => { results := [.lit (.bool false)], args := [d1, d2] }
  | _ => none }
def WalletDebitsWrongFalsely : Prop := walletDebitsRow.holds Try.pinned (OpenSpec.ofChange walletDebitsWrong)

/-- 'billinglaw34.WalletHolds': WHATEVER THE INPUT: true; the input reads as it did. -/
def walletHoldsSpec : ChangeSpec := { name := "walletHolds", fn := fun _ => fun
  | [d1, d2, d3] => { results := [.lit (.bool true)], args := [d1, d2, d3] }
  | _ => none }
def walletHoldsRow : OpenClaim := { program := "ytfbodilmjkcihaa", sum := "802faeb698b0aee8e97eb42a9112cb0e5ad406e60751503c1b0bbf5701e3c35d", func := "billing/billinglaw34.WalletHolds", spec := "walletHolds", apart := false }
def WalletHoldsSaid : Prop := walletHoldsRow.holds Try.pinned (OpenSpec.ofChange walletHoldsSpec)

/-- ITS FALSE NEIGHBOUR: 'it returns false'. Refute it at one input. -/
def walletHoldsWrong : ChangeSpec := { name := "walletHolds", fn := fun _ => fun
  | [d1, d2, d3] => { results := [.lit (.bool false)], args := [d1, d2, d3] }
  | _ => none }
def WalletHoldsWrongFalsely : Prop := walletHoldsRow.holds Try.pinned (OpenSpec.ofChange walletHoldsWrong)

/-- 'billinglaw34.WalletKeeps': WHATEVER THE INPUT: true; the input reads as it did. -/
def walletKeepsSpec : ChangeSpec := { name := "walletKeeps", fn := fun _ => fun
  | [d1, d2] => { results := [.lit (.bool true)], args := [d1, d2] }
  | _ => none }
def walletKeepsRow : OpenClaim := { program := "ytfbodilmjkcihaa", sum := "802faeb698b0aee8e97eb42a9112cb0e5ad406e60751503c1b0bbf5701e3c35d", func := "billing/billinglaw34.WalletKeeps", spec := "walletKeeps", apart := false }
def WalletKeepsSaid : Prop := walletKeepsRow.holds Try.pinned (OpenSpec.ofChange walletKeepsSpec)

/-- ITS FALSE NEIGHBOUR: 'it returns false'. Refute it at one input. -/
def walletKeepsWrong : ChangeSpec := { name := "walletKeeps", fn := fun _ => fun
  | [d1, d2] => { results := [.lit (.bool false)], args := [d1, d2] }
  | _ => none }
def WalletKeepsWrongFalsely : Prop := walletKeepsRow.holds Try.pinned (OpenSpec.ofChange walletKeepsWrong)

/- THE SECOND FORM. 'bulk': how many values and letters a reading holds, each counted each time it is reached (what is shared counts as often as it is met; a slice's spare places count too). A statement '..UptoSaid' is the law's where the arguments, and the package variables that the reading takes, are together of bulk at most 1048576: NARROWER than '..Said'. Prove '..Said' where nothing that the law and all that it calls make is longer than what came in: it says more and counts as full. Else prove '..UptoSaid'. A law counts once. -/
mutual
def uptoBulk {H : Type} : DataW H → Nat
  | .lit (.string bytes) => bytes.length + 1
  | .lit _ => 1
  | .nil => 1
  | .ptr d => uptoBulk d + 1
  | .slice elems spare => uptoBulkAll elems + uptoBulkAll spare + 1
  | .agg parts => uptoBulkAll parts + 1
  | .iface _ d => uptoBulk d + 1
  | .map entries => uptoBulkEntries entries + 1
  | .held _ => 1
def uptoBulkAll {H : Type} : List (DataW H) → Nat
  | [] => 0
  | d :: r => uptoBulk d + uptoBulkAll r
def uptoBulkEntries {H : Type} : List (Lit × DataW H) → Nat
  | [] => 0
  | x :: r => uptoBulkEntry x + uptoBulkEntries r
def uptoBulkEntry {H : Type} : Lit × DataW H → Nat
  | (.string bytes, d) => bytes.length + uptoBulk d + 1
  | (_, d) => uptoBulk d + 1
 end
def uptoSmall : (H : Type) → List (DataW H) → Bool := fun _ ds => decide (uptoBulkAll ds ≤ 1048576)
def OpenSpec.upto (s : _root_.Go.ChangeSpec) : _root_.Go.OpenSpec := { _root_.Go.OpenSpec.ofChange s with cond := some uptoSmall }

/-- 'billinglaw34.WalletChecks', WHERE WHAT IT READS IS OF BULK AT MOST 1048576: true; the input reads as it did. -/
def walletChecksUptoRow : OpenClaim := { program := "ytfbodilmjkcihaa", sum := "802faeb698b0aee8e97eb42a9112cb0e5ad406e60751503c1b0bbf5701e3c35d", func := "billing/billinglaw34.WalletChecks", spec := "walletChecks", apart := false, narrowed := true }
def WalletChecksUptoSaid : Prop := walletChecksUptoRow.holds Try.pinned (OpenSpec.upto walletChecksSpec)

/-- 'billinglaw34.WalletCredits', WHERE WHAT IT READS IS OF BULK AT MOST 1048576: true; the input reads as it did. -/
def walletCreditsUptoRow : OpenClaim := { program := "ytfbodilmjkcihaa", sum := "802faeb698b0aee8e97eb42a9112cb0e5ad406e60751503c1b0bbf5701e3c35d", func := "billing/billinglaw34.WalletCredits", spec := "walletCredits", apart := false, narrowed := true }
def WalletCreditsUptoSaid : Prop := walletCreditsUptoRow.holds Try.pinned (OpenSpec.upto walletCreditsSpec)

/-- 'billinglaw34.WalletSettles', WHERE WHAT IT READS IS OF BULK AT MOST 1048576: true; the input reads as it did. -/
def walletSettlesUptoRow : OpenClaim := { program := "ytfbodilmjkcihaa", sum := "802faeb698b0aee8e97eb42a9112cb0e5ad406e60751503c1b0bbf5701e3c35d", func := "billing/billinglaw34.WalletSettles", spec := "walletSettles", apart := false, narrowed := true }
def WalletSettlesUptoSaid : Prop := walletSettlesUptoRow.holds Try.pinned (OpenSpec.upto walletSettlesSpec)

/-- 'billinglaw34.WalletFloors', WHERE WHAT IT READS IS OF BULK AT MOST 1048576: true; the input reads as it did. -/
def walletFloorsUptoRow : OpenClaim := { program := "ytfbodilmjkcihaa", sum := "802faeb698b0aee8e97eb42a9112cb0e5ad406e60751503c1b0bbf5701e3c35d", func := "billing/billinglaw34.WalletFloors", spec := "walletFloors", apart := false, narrowed := true }
def WalletFloorsUptoSaid : Prop := walletFloorsUptoRow.holds Try.pinned (OpenSpec.upto walletFloorsSpec)

/-- 'billinglaw34.WalletDebits', WHERE WHAT IT READS IS OF BULK AT MOST 1048576: true; the input reads as it did. -/
def walletDebitsUptoRow : OpenClaim := { program := "ytfbodilmjkcihaa", sum := "802faeb698b0aee8e97eb42a9112cb0e5ad406e60751503c1b0bbf5701e3c35d", func := "billing/billinglaw34.WalletDebits", spec := "walletDebits", apart := false, narrowed := true }
def WalletDebitsUptoSaid : Prop := walletDebitsUptoRow.holds Try.pinned (OpenSpec.upto walletDebitsSpec)

/-- 'billinglaw34.WalletHolds', WHERE WHAT IT READS IS OF BULK AT MOST 1048576: true; the input reads as it did. -/
def walletHoldsUptoRow : OpenClaim := { program := "ytfbodilmjkcihaa", sum := "802faeb698b0aee8e97eb42a9112cb0e5ad406e60751503c1b0bbf5701e3c35d", func := "billing/billinglaw34.WalletHolds", spec := "walletHolds", apart := false, narrowed := true }
def WalletHoldsUptoSaid : Prop := walletHoldsUptoRow.holds Try.pinned (OpenSpec.upto walletHoldsSpec)

/-- 'billinglaw34.WalletKeeps', WHERE WHAT IT READS IS OF BULK AT MOST 1048576: true; the input reads as it did. -/
def walletKeepsUptoRow : OpenClaim := { program := "ytfbodilmjkcihaa", sum := "802faeb698b0aee8e97eb42a9112cb0e5ad406e60751503c1b0bbf5701e3c35d", func := "billing/billinglaw34.WalletKeeps", spec := "walletKeeps", apart := false, narrowed := true }
def WalletKeepsUptoSaid : Prop := walletKeepsUptoRow.holds Try.pinned (OpenSpec.upto walletKeepsSpec)

end Rows
end Go.Proofs.Ytfbodilmjkcihaa

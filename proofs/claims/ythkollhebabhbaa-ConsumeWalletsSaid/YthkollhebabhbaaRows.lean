/-
  No cell of these rows narrows 'for every input' (looked for: loops, veiled, ifaces, maps, wideKeys, modest, calm, conditions, laid).
  DERIVED. THE GIVEN ROWS OF THIS SEAT. 5 by the template 'for every input the law returns true; each argument reads behind the call as it read before'; 0 by the template 'total and deterministic' (their statements: YthkollhebabhbaaTotals.lean).
  GIVEN WITH THE SEED: the statements are not yours to turn. If you find one false, say at which input.
  Laid BY PROGRAM, IN A SANDBOX (cutbox-rows.mjs): the forced cells as the released guide's own fill.sh prints them over the translation bdc2ffe71b368f80… (all of the seat's roots in one cut). By AI agents, Wed Nov 11 2026. No macro, syntax, notation, axiom, sorry.
-/
import Derived.Test.YthkollhebabhbaaChecked
import GoSem.Claim
import GoSem.ClaimJoined
import GoSem.ClaimMapViews
import Derived.JoinedTies
import Derived.KernelRfl
namespace Go.Proofs.Ythkollhebabhbaa
/- THE CELL 'sum', in the pinned program and in every row, IS THE sha256 OF THE DUMP (.gsa) THAT YthkollhebabhbaaProg.lean LOADS. Nothing in Lean hashes anything: it is a label: what it is worth is what the hold of that sum in a sandbox is worth. -/
noncomputable def Try.pinned : Pinned := { name := "ythkollhebabhbaa", sum := "bdc2ffe71b368f80dadea7e709a52aa8bd8cb23229cf0135a36696e9284a4bab", checked := Try.checked }
namespace Rows
def none {H : Type} : Left H := { results := [], args := [] }

/-- 'billinglaw36.ConsumePays': WHATEVER THE INPUT: true; the input reads as it did. -/
def consumePaysSpec : ChangeSpec := { name := "consumePays", fn := fun _ => fun
  | [d1, d2] => { results := [.lit (.bool true)], args := [d1, d2] }
  | _ => none }
def consumePaysRow : OpenClaim := { program := "ythkollhebabhbaa", sum := "bdc2ffe71b368f80dadea7e709a52aa8bd8cb23229cf0135a36696e9284a4bab", func := "billing/billinglaw36.ConsumePays", spec := "consumePays", apart := false }
def ConsumePaysSaid : Prop := consumePaysRow.holds Try.pinned (OpenSpec.ofChange consumePaysSpec)

/-- ITS FALSE NEIGHBOUR: 'it returns false'. Refute it at one input. -/
def consumePaysWrong : ChangeSpec := { name := "consumePays", fn := fun _ => fun
  | [d1, d2] => { results := [.lit (.bool false)], args := [d1, d2] }
  | _ => none }
def ConsumePaysWrongFalsely : Prop := consumePaysRow.holds Try.pinned (OpenSpec.ofChange consumePaysWrong)

/-- 'billinglaw36.ConsumeUndoes': WHATEVER THE INPUT: true; the input reads as it did. -/
def consumeUndoesSpec : ChangeSpec := { name := "consumeUndoes", fn := fun _ => fun
  | [d1, d2, d3] => { results := [.lit (.bool true)], args := [d1, d2, d3] }
  | _ => none }
def consumeUndoesRow : OpenClaim := { program := "ythkollhebabhbaa", sum := "bdc2ffe71b368f80dadea7e709a52aa8bd8cb23229cf0135a36696e9284a4bab", func := "billing/billinglaw36.ConsumeUndoes", spec := "consumeUndoes", apart := false }
def ConsumeUndoesSaid : Prop := consumeUndoesRow.holds Try.pinned (OpenSpec.ofChange consumeUndoesSpec)

/-- ITS FALSE NEIGHBOUR: 'it returns false'. Refute it at one input. -/
def consumeUndoesWrong : ChangeSpec := { name := "consumeUndoes", fn := fun _ => fun
  | [d1, d2, d3] => { results := [.lit (.bool false)], args := [d1, d2, d3] }
  | _ => none }
def ConsumeUndoesWrongFalsely : Prop := consumeUndoesRow.holds Try.pinned (OpenSpec.ofChange consumeUndoesWrong)

/-- 'billinglaw36.ConsumeWallets': WHATEVER THE INPUT: true; the input reads as it did. -/
def consumeWalletsSpec : ChangeSpec := { name := "consumeWallets", fn := fun _ => fun
  | [d1, d2, d3] => { results := [.lit (.bool true)], args := [d1, d2, d3] }
  | _ => none }
def consumeWalletsRow : OpenClaim := { program := "ythkollhebabhbaa", sum := "bdc2ffe71b368f80dadea7e709a52aa8bd8cb23229cf0135a36696e9284a4bab", func := "billing/billinglaw36.ConsumeWallets", spec := "consumeWallets", unfollowed := true, recurses := true, apart := false }
def ConsumeWalletsSaid : Prop := consumeWalletsRow.holds Try.pinned (OpenSpec.ofChange consumeWalletsSpec)

/-- ITS FALSE NEIGHBOUR: 'it returns false'. Refute it at one input. -/
def consumeWalletsWrong : ChangeSpec := { name := "consumeWallets", fn := fun _ => fun
  | [d1, d2, d3] => { results := [.lit (.bool false)], args := [d1, d2, d3] }
  | _ => none }
def ConsumeWalletsWrongFalsely : Prop := consumeWalletsRow.holds Try.pinned (OpenSpec.ofChange consumeWalletsWrong)

/-- 'billinglaw36.ConsumeUnits': WHATEVER THE INPUT: true; the input reads as it did. -/
def consumeUnitsSpec : ChangeSpec := { name := "consumeUnits", fn := fun _ => fun
  | [d1, d2, d3] => { results := [.lit (.bool true)], args := [d1, d2, d3] }
  | _ => none }
def consumeUnitsRow : OpenClaim := { program := "ythkollhebabhbaa", sum := "bdc2ffe71b368f80dadea7e709a52aa8bd8cb23229cf0135a36696e9284a4bab", func := "billing/billinglaw36.ConsumeUnits", spec := "consumeUnits", recurses := true, apart := false }
def ConsumeUnitsSaid : Prop := consumeUnitsRow.holds Try.pinned (OpenSpec.ofChange consumeUnitsSpec)

/-- ITS FALSE NEIGHBOUR: 'it returns false'. Refute it at one input. -/
def consumeUnitsWrong : ChangeSpec := { name := "consumeUnits", fn := fun _ => fun
  | [d1, d2, d3] => { results := [.lit (.bool false)], args := [d1, d2, d3] }
  | _ => none }
def ConsumeUnitsWrongFalsely : Prop := consumeUnitsRow.holds Try.pinned (OpenSpec.ofChange consumeUnitsWrong)

/-- 'billinglaw36.ConsumeBack': WHATEVER THE INPUT: true; the input reads as it did. -/
def consumeBackSpec : ChangeSpec := { name := "consumeBack", fn := fun _ => fun
  | [d1, d2, d3] => { results := [.lit (.bool true)], args := [d1, d2, d3] }
  | _ => none }
def consumeBackRow : OpenClaim := { program := "ythkollhebabhbaa", sum := "bdc2ffe71b368f80dadea7e709a52aa8bd8cb23229cf0135a36696e9284a4bab", func := "billing/billinglaw36.ConsumeBack", spec := "consumeBack", recurses := true, apart := false }
def ConsumeBackSaid : Prop := consumeBackRow.holds Try.pinned (OpenSpec.ofChange consumeBackSpec)

/-- ITS FALSE NEIGHBOUR: 'it returns false'. Refute it at one input. -/
def consumeBackWrong : ChangeSpec := { name := "consumeBack", fn := fun _ => fun
  | [d1, d2, d3] => { results := [.lit (.bool false)], args := [d1, d2, d3] }
  | _ => none }
def ConsumeBackWrongFalsely : Prop := consumeBackRow.holds Try.pinned (OpenSpec.ofChange consumeBackWrong)

/- THE SECOND FORM. 'bulk': how many values and letters a reading holds, each counted each time it is reached (what is shared counts as often as it is met; a slice's spare places count too). A statement '..UptoSaid' is the law's where the arguments, and the package variables that the reading takes, are together of bulk at most 1048576: NARROWER than '..Said'. Prove '..Said' where nothing that the law and all that it calls make is longer than what came in: it says more and counts as full. Else prove '..UptoSaid'. A law counts once. -/
mutual
def uptoBulk {H : Type} : DataW H → Nat
  | .lit (.string bytes) => bytes.length + 1
  | .lit _ => 1
  | .nil => 1
  | .ptr d => uptoBulk d + 1
  | .slice elems spare => uptoBulkAll elems + uptoBulkAll spare + 1
  | .agg parts => uptoBulkAll parts + 1
  | .iface _ d => uptoBulk d + 1
  | .map entries => uptoBulkEntries entries + 1
  | .held _ => 1
def uptoBulkAll {H : Type} : List (DataW H) → Nat
  | [] => 0
  | d :: r => uptoBulk d + uptoBulkAll r
def uptoBulkEntries {H : Type} : List (Lit × DataW H) → Nat
  | [] => 0
  | x :: r => uptoBulkEntry x + uptoBulkEntries r
def uptoBulkEntry {H : Type} : Lit × DataW H → Nat
  | (.string bytes, d) => bytes.length + uptoBulk d + 1
  | (_, d) => uptoBulk d + 1
 end
def uptoSmall : (H : Type) → List (DataW H) → Bool := fun _ ds => decide (uptoBulkAll ds ≤ 1048576)
def OpenSpec.upto (s : _root_.Go.ChangeSpec) : _root_.Go.OpenSpec := { _root_.Go.OpenSpec.ofChange s with cond := some uptoSmall }

/-- 'billinglaw36.ConsumePays', WHERE WHAT IT READS IS OF BULK AT MOST 1048576: true; the input reads as it did. -/
def consumePaysUptoRow : OpenClaim := { program := "ythkollhebabhbaa", sum := "bdc2ffe71b368f80dadea7e709a52aa8bd8cb23229cf0135a36696e9284a4bab", func := "billing/billinglaw36.ConsumePays", spec := "consumePays", apart := false, narrowed := true }
def ConsumePaysUptoSaid : Prop := consumePaysUptoRow.holds Try.pinned (OpenSpec.upto consumePaysSpec)

/-- 'billinglaw36.ConsumeUndoes', WHERE WHAT IT READS IS OF BULK AT MOST 1048576: true; the input reads as it did. -/
def consumeUndoesUptoRow : OpenClaim := { program := "ythkollhebabhbaa", sum := "bdc2ffe71b368f80dadea7e709a52aa8bd8cb23229cf0135a36696e9284a4bab", func := "billing/billinglaw36.ConsumeUndoes", spec := "consumeUndoes", apart := false, narrowed := true }
def ConsumeUndoesUptoSaid : Prop := consumeUndoesUptoRow.holds Try.pinned (OpenSpec.upto consumeUndoesSpec)

/-- 'billinglaw36.ConsumeWallets', WHERE WHAT IT READS IS OF BULK AT MOST 1048576: true; the input reads as it did. -/
def consumeWalletsUptoRow : OpenClaim := { program := "ythkollhebabhbaa", sum := "bdc2ffe71b368f80dadea7e709a52aa8bd8cb23229cf0135a36696e9284a4bab", func := "billing/billinglaw36.ConsumeWallets", spec := "consumeWallets", unfollowed := true, recurses := true, apart := false, narrowed := true }
def ConsumeWalletsUptoSaid : Prop := consumeWalletsUptoRow.holds Try.pinned (OpenSpec.upto consumeWalletsSpec)

/-- 'billinglaw36.ConsumeUnits', WHERE WHAT IT READS IS OF BULK AT MOST 1048576: true; the input reads as it did. -/
def consumeUnitsUptoRow : OpenClaim := { program := "ythkollhebabhbaa", sum := "bdc2ffe71b368f80dadea7e709a52aa8bd8cb23229cf0135a36696e9284a4bab", func := "billing/billinglaw36.ConsumeUnits", spec := "consumeUnits", recurses := true, apart := false, narrowed := true }
def ConsumeUnitsUptoSaid : Prop := consumeUnitsUptoRow.holds Try.pinned (OpenSpec.upto consumeUnitsSpec)

/-- 'billinglaw36.ConsumeBack', WHERE WHAT IT READS IS OF BULK AT MOST 1048576: true; the input reads as it did. -/
def consumeBackUptoRow : OpenClaim := { program := "ythkollhebabhbaa", sum := "bdc2ffe71b368f80dadea7e709a52aa8bd8cb23229cf0135a36696e9284a4bab", func := "billing/billinglaw36.ConsumeBack", spec := "consumeBack", recurses := true, apart := false, narrowed := true }
def ConsumeBackUptoSaid : Prop := consumeBackUptoRow.holds Try.pinned (OpenSpec.upto consumeBackSpec)

end Rows
end Go.Proofs.Ythkollhebabhbaa

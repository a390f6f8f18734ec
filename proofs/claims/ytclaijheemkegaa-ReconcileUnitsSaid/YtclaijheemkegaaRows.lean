/-
  No cell of these rows narrows 'for every input' (looked for: loops, veiled, ifaces, maps, wideKeys, modest, calm, conditions, laid).
  DERIVED. THE GIVEN ROWS OF THIS SEAT. 6 by the template 'for every input the law returns true; each argument reads behind the call as it read before'; 0 by the template 'total and deterministic' (their statements: YtclaijheemkegaaTotals.lean).
  GIVEN WITH THE SEED: the statements are not yours to turn. If you find one false, say at which input.
  Laid BY PROGRAM, IN A SANDBOX (cutbox-rows.mjs): the forced cells as the released guide's own fill.sh prints them over the translation 0d69d250e04dc15a… (all of the seat's roots in one cut). By AI agents, Wed Nov 11 2026. No macro, syntax, notation, axiom, sorry.
-/
import Derived.Test.YtclaijheemkegaaChecked
import GoSem.Claim
import GoSem.ClaimJoined
import GoSem.ClaimMapViews
import Derived.JoinedTies
import Derived.KernelRfl
namespace Go.Proofs.Ytclaijheemkegaa
/- THE CELL 'sum', in the pinned program and in every row, IS THE sha256 OF THE DUMP (.gsa) THAT YtclaijheemkegaaProg.lean LOADS. Nothing in Lean hashes anything: it is a label: what it is worth is what the hold of that sum in a sandbox is worth. -/
noncomputable def Try.pinned : Pinned := { name := "ytclaijheemkegaa", sum := "0d69d250e04dc15a4017acfd7492546c00952ae4ef0ef116587adc28bca445a5", checked := Try.checked }
namespace Rows
def none {H : Type} : Left H := { results := [], args := [] }

/-- 'billinglaw52.ReconcileMatches': WHATEVER THE INPUT: true; the input reads as it did. -/
def reconcileMatchesSpec : ChangeSpec := { name := "reconcileMatches", fn := fun _ => fun
  | [d1, d2, d3] => { results := [.lit (.bool true)], args := [d1, d2, d3] }
  | _ => none }
def reconcileMatchesRow : OpenClaim := { program := "ytclaijheemkegaa", sum := "0d69d250e04dc15a4017acfd7492546c00952ae4ef0ef116587adc28bca445a5", func := "billing/billinglaw52.ReconcileMatches", spec := "reconcileMatches", unfollowed := true, recurses := true, plainKeys := false, apart := false }
def ReconcileMatchesSaid : Prop := reconcileMatchesRow.holds Try.pinned (OpenSpec.ofChange reconcileMatchesSpec)

/-- ITS FALSE NEIGHBOUR: 'it returns false'. Refute it at one input. -/
def reconcileMatchesWrong : ChangeSpec := { name := "reconcileMatches", fn := fun _ => fun
  | [d1, d2, d3] => { results := [.lit (.bool false)], args := [d1, d2, d3] }
  | _ => none }
def ReconcileMatchesWrongFalsely : Prop := reconcileMatchesRow.holds Try.pinned (OpenSpec.ofChange reconcileMatchesWrong)

/-- 'billinglaw52.ReconcileUnits': WHATEVER THE INPUT: true; the input reads as it did. -/
def reconcileUnitsSpec : ChangeSpec := { name := "reconcileUnits", fn := fun _ => fun
  | [d1, d2, d3] => { results := [.lit (.bool true)], args := [d1, d2, d3] }
  | _ => none }
def reconcileUnitsRow : OpenClaim := { program := "ytclaijheemkegaa", sum := "0d69d250e04dc15a4017acfd7492546c00952ae4ef0ef116587adc28bca445a5", func := "billing/billinglaw52.ReconcileUnits", spec := "reconcileUnits", unfollowed := true, recurses := true, plainKeys := false, apart := false }
def ReconcileUnitsSaid : Prop := reconcileUnitsRow.holds Try.pinned (OpenSpec.ofChange reconcileUnitsSpec)

/-- ITS FALSE NEIGHBOUR: 'it returns false'. Refute it at one input. -/
def reconcileUnitsWrong : ChangeSpec := { name := "reconcileUnits", fn := fun _ => fun
  | [d1, d2, d3] => { results := [.lit (.bool false)], args := [d1, d2, d3] }
  | _ => none }
def ReconcileUnitsWrongFalsely : Prop := reconcileUnitsRow.holds Try.pinned (OpenSpec.ofChange reconcileUnitsWrong)

/-- 'billinglaw52.ReconcilePlaces': WHATEVER THE INPUT: true; the input reads as it did. -/
def reconcilePlacesSpec : ChangeSpec := { name := "reconcilePlaces", fn := fun _ => fun
  | [d1, d2, d3] => { results := [.lit (.bool true)], args := [d1, d2, d3] }
  | _ => none }
def reconcilePlacesRow : OpenClaim := { program := "ytclaijheemkegaa", sum := "0d69d250e04dc15a4017acfd7492546c00952ae4ef0ef116587adc28bca445a5", func := "billing/billinglaw52.ReconcilePlaces", spec := "reconcilePlaces", unfollowed := true, recurses := true, plainKeys := false, apart := false }
def ReconcilePlacesSaid : Prop := reconcilePlacesRow.holds Try.pinned (OpenSpec.ofChange reconcilePlacesSpec)

/-- ITS FALSE NEIGHBOUR: 'it returns false'. Refute it at one input. -/
def reconcilePlacesWrong : ChangeSpec := { name := "reconcilePlaces", fn := fun _ => fun
  | [d1, d2, d3] => { results := [.lit (.bool false)], args := [d1, d2, d3] }
  | _ => none }
def ReconcilePlacesWrongFalsely : Prop := reconcilePlacesRow.holds Try.pinned (OpenSpec.ofChange reconcilePlacesWrong)

/-- 'billinglaw52.ReconcileSums': WHATEVER THE INPUT: true; the input reads as it did. -/
def reconcileSumsSpec : ChangeSpec := { name := "reconcileSums", fn := fun _ => fun
  | [d1, d2, d3] => { results := [.lit (.bool true)], args := [d1, d2, d3] }
  | _ => none }
def reconcileSumsRow : OpenClaim := { program := "ytclaijheemkegaa", sum := "0d69d250e04dc15a4017acfd7492546c00952ae4ef0ef116587adc28bca445a5", func := "billing/billinglaw52.ReconcileSums", spec := "reconcileSums", unfollowed := true, recurses := true, plainKeys := false, apart := false }
def ReconcileSumsSaid : Prop := reconcileSumsRow.holds Try.pinned (OpenSpec.ofChange reconcileSumsSpec)

/-- ITS FALSE NEIGHBOUR: 'it returns false'. Refute it at one input. -/
def reconcileSumsWrong : ChangeSpec := { name := "reconcileSums", fn := fun _ => fun
  | [d1, d2, d3] => { results := [.lit (.bool false)], args := [d1, d2, d3] }
  | _ => none }
def ReconcileSumsWrongFalsely : Prop := reconcileSumsRow.holds Try.pinned (OpenSpec.ofChange reconcileSumsWrong)

/-- 'billinglaw52.ReconcileSame': WHATEVER THE INPUT: true; the input reads as it did. -/
def reconcileSameSpec : ChangeSpec := { name := "reconcileSame", fn := fun _ => fun
  | [d1, d2] => { results := [.lit (.bool true)], args := [d1, d2] }
  | _ => none }
def reconcileSameRow : OpenClaim := { program := "ytclaijheemkegaa", sum := "0d69d250e04dc15a4017acfd7492546c00952ae4ef0ef116587adc28bca445a5", func := "billing/billinglaw52.ReconcileSame", spec := "reconcileSame", unfollowed := true, recurses := true, plainKeys := false, apart := false }
def ReconcileSameSaid : Prop := reconcileSameRow.holds Try.pinned (OpenSpec.ofChange reconcileSameSpec)

/-- ITS FALSE NEIGHBOUR: 'it returns false'. Refute it at one input. -/
def reconcileSameWrong : ChangeSpec := { name := "reconcileSame", fn := fun _ => fun
  | [d1, d2] => { results := [.lit (.bool false)], args := [d1, d2] }
  | _ => none }
def ReconcileSameWrongFalsely : Prop := reconcileSameRow.holds Try.pinned (OpenSpec.ofChange reconcileSameWrong)

/-- 'billinglaw52.ReconcileItems': WHATEVER THE INPUT: true; the input reads as it did. -/
def reconcileItemsSpec : ChangeSpec := { name := "reconcileItems", fn := fun _ => fun
  | [d1, d2, d3] => { results := [.lit (.bool true)], args := [d1, d2, d3] }
  | _ => none }
def reconcileItemsRow : OpenClaim := { program := "ytclaijheemkegaa", sum := "0d69d250e04dc15a4017acfd7492546c00952ae4ef0ef116587adc28bca445a5", func := "billing/billinglaw52.ReconcileItems", spec := "reconcileItems", unfollowed := true, recurses := true, plainKeys := false, apart := false }
def ReconcileItemsSaid : Prop := reconcileItemsRow.holds Try.pinned (OpenSpec.ofChange reconcileItemsSpec)

/-- ITS FALSE NEIGHBOUR: 'it returns false'. Refute it at one input. -/
def reconcileItemsWrong : ChangeSpec := { name := "reconcileItems", fn := fun _ => fun
  | [d1, d2, d3] => { results := [.lit (.bool false)], args := [d1, d2, d3] }
  | _ => none }
def ReconcileItemsWrongFalsely : Prop := reconcileItemsRow.holds Try.pinned (OpenSpec.ofChange reconcileItemsWrong)

/- THE SECOND FORM. 'bulk': how many values and letters a reading holds, each counted each time it is reached (what is shared counts as often as it is met; a slice's spare places count too). A statement '..UptoSaid' is the law's where the arguments, and the package variables that the reading takes, are together of bulk at most 1048576: NARROWER than '..Said'. Prove '..Said' where nothing that the law and all that it calls make is longer than what came in: it says more and counts as full. Else prove '..UptoSaid'. A law counts once. -/
mutual
def uptoBulk {H : Type} : DataW H → Nat
  | .lit (.string bytes) => bytes.length + 1
  | .lit _ => 1
  | .nil => 1
  | .ptr d => uptoBulk d + 1
  | .slice elems spare => uptoBulkAll elems + uptoBulkAll spare + 1
  | .agg parts => uptoBulkAll parts + 1
  | .iface _ d => uptoBulk d + 1
  | .map entries => uptoBulkEntries entries + 1
  | .held _ => 1
def uptoBulkAll {H : Type} : List (DataW H) → Nat
  | [] => 0
  | d :: r => uptoBulk d + uptoBulkAll r
def uptoBulkEntries {H : Type} : List (Lit × DataW H) → Nat
  | [] => 0
  | x :: r => uptoBulkEntry x + uptoBulkEntries r
def uptoBulkEntry {H : Type} : Lit × DataW H → Nat
  | (.string bytes, d) => bytes.length + uptoBulk d + 1
  | (_, d) => uptoBulk d + 1
 end
def uptoSmall : (H : Type) → List (DataW H) → Bool := fun _ ds => decide (uptoBulkAll ds ≤ 1048576)
def OpenSpec.upto (s : _root_.Go.ChangeSpec) : _root_.Go.OpenSpec := { _root_.Go.OpenSpec.ofChange s with cond := some uptoSmall }

/-- 'billinglaw52.ReconcileMatches', WHERE WHAT IT READS IS OF BULK AT MOST 1048576: true; the input reads as it did. -/
def reconcileMatchesUptoRow : OpenClaim := { program := "ytclaijheemkegaa", sum := "0d69d250e04dc15a4017acfd7492546c00952ae4ef0ef116587adc28bca445a5", func := "billing/billinglaw52.ReconcileMatches", spec := "reconcileMatches", unfollowed := true, recurses := true, plainKeys := false, apart := false, narrowed := true }
def ReconcileMatchesUptoSaid : Prop := reconcileMatchesUptoRow.holds Try.pinned (OpenSpec.upto reconcileMatchesSpec)

/-- 'billinglaw52.ReconcileUnits', WHERE WHAT IT READS IS OF BULK AT MOST 1048576: true; the input reads as it did. -/
def reconcileUnitsUptoRow : OpenClaim := { program := "ytclaijheemkegaa", sum := "0d69d250e04dc15a4017acfd7492546c00952ae4ef0ef116587adc28bca445a5", func := "billing/billinglaw52.ReconcileUnits", spec := "reconcileUnits", unfollowed := true, recurses := true, plainKeys := false, apart := false, narrowed := true }
def ReconcileUnitsUptoSaid : Prop := reconcileUnitsUptoRow.holds Try.pinned (OpenSpec.upto reconcileUnitsSpec)

/-- 'billinglaw52.ReconcilePlaces', WHERE WHAT IT READS IS OF BULK AT MOST 1048576: true; the input reads as it did. -/
def reconcilePlacesUptoRow : OpenClaim := { program := "ytclaijheemkegaa", sum := "0d69d250e04dc15a4017acfd7492546c00952ae4ef0ef116587adc28bca445a5", func := "billing/billinglaw52.ReconcilePlaces", spec := "reconcilePlaces", unfollowed := true, recurses := true, plainKeys := false, apart := false, narrowed := true }
def ReconcilePlacesUptoSaid : Prop := reconcilePlacesUptoRow.holds Try.pinned (OpenSpec.upto reconcilePlacesSpec)

/-- 'billinglaw52.ReconcileSums', WHERE WHAT IT READS IS OF BULK AT MOST 1048576: true; the input reads as it did. -/
def reconcileSumsUptoRow : OpenClaim := { program := "ytclaijheemkegaa", sum := "0d69d250e04dc15a4017acfd7492546c00952ae4ef0ef116587adc28bca445a5", func := "billing/billinglaw52.ReconcileSums", spec := "reconcileSums", unfollowed := true, recurses := true, plainKeys := false, apart := false, narrowed := true }
def ReconcileSumsUptoSaid : Prop := reconcileSumsUptoRow.holds Try.pinned (OpenSpec.upto reconcileSumsSpec)

/-- 'billinglaw52.ReconcileSame', WHERE WHAT IT READS IS OF BULK AT MOST 1048576: true; the input reads as it did. -/
def reconcileSameUptoRow : OpenClaim := { program := "ytclaijheemkegaa", sum := "0d69d250e04dc15a4017acfd7492546c00952ae4ef0ef116587adc28bca445a5", func := "billing/billinglaw52.ReconcileSame", spec := "reconcileSame", unfollowed := true, recurses := true, plainKeys := false, apart := false, narrowed := true }
def ReconcileSameUptoSaid : Prop := reconcileSameUptoRow.holds Try.pinned (OpenSpec.upto reconcileSameSpec)

/-- 'billinglaw52.ReconcileItems', WHERE WHAT IT READS IS OF BULK AT MOST 1048576: true; the input reads as it did. -/
def reconcileItemsUptoRow : OpenClaim := { program := "ytclaijheemkegaa", sum := "0d69d250e04dc15a4017acfd7492546c00952ae4ef0ef116587adc28bca445a5", func := "billing/billinglaw52.ReconcileItems", spec := "reconcileItems", unfollowed := true, recurses := true, plainKeys := false, apart := false, narrowed := true }
def ReconcileItemsUptoSaid : Prop := reconcileItemsUptoRow.holds Try.pinned (OpenSpec.upto reconcileItemsSpec)

end Rows
end Go.Proofs.Ytclaijheemkegaa

/-
  No cell of these rows narrows 'for every input' (looked for: loops, veiled, ifaces, maps, wideKeys, modest, calm, conditions, laid).
  DERIVED. THE GIVEN ROWS OF THIS SEAT. 8 by the template 'for every input the law returns true; each argument reads behind the call as it read before'; 0 by the template 'total and deterministic' (their statements: YthhpdpcingapgaaTotals.lean).
  GIVEN WITH THE SEED: the statements are not yours to turn. If you find one false, say at which input.
  Laid BY PROGRAM, IN A SANDBOX (cutbox-rows.mjs): the forced cells as the released guide's own fill.sh prints them over the translation 6a91ed8cfcd2c507… (all of the seat's roots in one cut). By AI agents, Wed Nov 11 2026. No macro, syntax, notation, axiom, sorry.
-/
import Derived.Test.YthhpdpcingapgaaChecked
import GoSem.Claim
import GoSem.ClaimJoined
import GoSem.ClaimMapViews
import Derived.JoinedTies
import Derived.KernelRfl
namespace Go.Proofs.Ythhpdpcingapgaa
/- THE CELL 'sum', in the pinned program and in every row, IS THE sha256 OF THE DUMP (.gsa) THAT YthhpdpcingapgaaProg.lean LOADS. Nothing in Lean hashes anything: it is a label: what it is worth is what the hold of that sum in a sandbox is worth. -/
noncomputable def Try.pinned : Pinned := { name := "ythhpdpcingapgaa", sum := "6a91ed8cfcd2c50789a45e23a1303121be43a06957518b3b9ba254aed936b9ff", checked := Try.checked }
namespace Rows
def none {H : Type} : Left H := { results := [], args := [] }

/-- 'billinglaw33.BucketChecks': WHATEVER THE INPUT: true; the input reads as it did. -/
def bucketChecksSpec : ChangeSpec := { name := "bucketChecks", fn := fun _ => fun
  | [d] => { results := [.lit (.bool true)], args := [d] }
  | _ => none }
def bucketChecksRow : OpenClaim := { program := "ythhpdpcingapgaa", sum := "6a91ed8cfcd2c50789a45e23a1303121be43a06957518b3b9ba254aed936b9ff", func := "billing/billinglaw33.BucketChecks", spec := "bucketChecks", recurses := true, apart := false }
def BucketChecksSaid : Prop := bucketChecksRow.holds Try.pinned (OpenSpec.ofChange bucketChecksSpec)

/-- ITS FALSE NEIGHBOUR: 'it returns false'. Refute it at one input. -/
def bucketChecksWrong : ChangeSpec := { name := "bucketChecks", fn := fun _ => fun
  | [d] => { results := [.lit (.bool false)], args := [d] }
  | _ => none }
def BucketChecksWrongFalsely : Prop := bucketChecksRow.holds Try.pinned (OpenSpec.ofChange bucketChecksWrong)

/-- 'billinglaw33.BucketUsable': WHATEVER THE INPUT: true; the input reads as it did. -/
def bucketUsableSpec : ChangeSpec := { name := "bucketUsable", fn := fun _ => fun
  | [d1, d2] => { results := [.lit (.bool true)], args := [d1, d2] }
  | _ => none }
def bucketUsableRow : OpenClaim := { program := "ythhpdpcingapgaa", sum := "6a91ed8cfcd2c50789a45e23a1303121be43a06957518b3b9ba254aed936b9ff", func := "billing/billinglaw33.BucketUsable", spec := "bucketUsable", recurses := true, apart := false }
def BucketUsableSaid : Prop := bucketUsableRow.holds Try.pinned (OpenSpec.ofChange bucketUsableSpec)

/-- ITS FALSE NEIGHBOUR: 'it returns false'. Refute it at one input. -/
def bucketUsableWrong : ChangeSpec := { name := "bucketUsable", fn := fun _ => fun
  | [d1, d2] => { results := [.lit (.bool false)], args := [d1, d2] }
  | _ => none }
def BucketUsableWrongFalsely : Prop := bucketUsableRow.holds Try.pinned (OpenSpec.ofChange bucketUsableWrong)

/-- 'billinglaw33.BucketTakes': WHATEVER THE INPUT: true; the input reads as it did. -/
def bucketTakesSpec : ChangeSpec := { name := "bucketTakes", fn := fun _ => fun
  | [d1, d2] => { results := [.lit (.bool true)], args := [d1, d2] }
  | _ => none }
def bucketTakesRow : OpenClaim := { program := "ythhpdpcingapgaa", sum := "6a91ed8cfcd2c50789a45e23a1303121be43a06957518b3b9ba254aed936b9ff", func := "billing/billinglaw33.BucketTakes", spec := "bucketTakes", recurses := true, apart := false }
def BucketTakesSaid : Prop := bucketTakesRow.holds Try.pinned (OpenSpec.ofChange bucketTakesSpec)

/-- ITS FALSE NEIGHBOUR: 'it returns false'. Refute it at one input. -/
def bucketTakesWrong : ChangeSpec := { name := "bucketTakes", fn := fun _ => fun
  | [d1, d2] => { results := [.lit (.bool false)], args := [d1, d2] }
  | _ => none }
def BucketTakesWrongFalsely : Prop := bucketTakesRow.holds Try.pinned (OpenSpec.ofChange bucketTakesWrong)

/-- 'billinglaw33.BucketTwice': WHATEVER THE INPUT: true; the input reads as it did. -/
def bucketTwiceSpec : ChangeSpec := { name := "bucketTwice", fn := fun _ => fun
  | [d1, d2, d3] => { results := [.lit (.bool true)], args := [d1, d2, d3] }
  | _ => none }
def bucketTwiceRow : OpenClaim := { program := "ythhpdpcingapgaa", sum := "6a91ed8cfcd2c50789a45e23a1303121be43a06957518b3b9ba254aed936b9ff", func := "billing/billinglaw33.BucketTwice", spec := "bucketTwice", recurses := true, apart := false }
def BucketTwiceSaid : Prop := bucketTwiceRow.holds Try.pinned (OpenSpec.ofChange bucketTwiceSpec)

/-- ITS FALSE NEIGHBOUR: 'it returns false'. Refute it at one input. -/
def bucketTwiceWrong : ChangeSpec := { name := "bucketTwice", fn := fun _ => fun
  | [d1, d2, d3] => { results := [.lit (.bool false)], args := [d1, d2, d3] }
  | _ => none }
def BucketTwiceWrongFalsely : Prop := bucketTwiceRow.holds Try.pinned (OpenSpec.ofChange bucketTwiceWrong)

/-- 'billinglaw33.BucketOrders': WHATEVER THE INPUT: true; the input reads as it did. -/
def bucketOrdersSpec : ChangeSpec := { name := "bucketOrders", fn := fun _ => fun
  | [d] => { results := [.lit (.bool true)], args := [d] }
  | _ => none }
def bucketOrdersRow : OpenClaim := { program := "ythhpdpcingapgaa", sum := "6a91ed8cfcd2c50789a45e23a1303121be43a06957518b3b9ba254aed936b9ff", func := "billing/billinglaw33.BucketOrders", spec := "bucketOrders", recurses := true, apart := false }
def BucketOrdersSaid : Prop := bucketOrdersRow.holds Try.pinned (OpenSpec.ofChange bucketOrdersSpec)

/-- ITS FALSE NEIGHBOUR: 'it returns false'. Refute it at one input. -/
def bucketOrdersWrong : ChangeSpec := { name := "bucketOrders", fn := fun _ => fun
  | [d] => { results := [.lit (.bool false)], args := [d] }
  | _ => none }
def BucketOrdersWrongFalsely : Prop := bucketOrdersRow.holds Try.pinned (OpenSpec.ofChange bucketOrdersWrong)

/-- 'billinglaw33.BucketExpires': WHATEVER THE INPUT: true; the input reads as it did. -/
def bucketExpiresSpec : ChangeSpec := { name := "bucketExpires", fn := fun _ => fun
  | [d1, d2] => { results := [.lit (.bool true)], args := [d1, d2] }
  | _ => none }
def bucketExpiresRow : OpenClaim := { program := "ythhpdpcingapgaa", sum := "6a91ed8cfcd2c50789a45e23a1303121be43a06957518b3b9ba254aed936b9ff", func := "billing/billinglaw33.BucketExpires", spec := "bucketExpires", unfollowed := true, recurses := true, apart := false }
def BucketExpiresSaid : Prop := bucketExpiresRow.holds Try.pinned (OpenSpec.ofChange bucketExpiresSpec)

/-- ITS FALSE NEIGHBOUR: 'it returns false'. Refute it at one input. -/
def bucketExpiresWrong : ChangeSpec := { name := "bucketExpires", fn := fun _ => fun
  | [d1, d2] => { results := [.lit (.bool false)], args := [d1, d2] }
  | _ => none }
def BucketExpiresWrongFalsely : Prop := bucketExpiresRow.holds Try.pinned (OpenSpec.ofChange bucketExpiresWrong)

/-- 'billinglaw33.BucketGives': WHATEVER THE INPUT: true; the input reads as it did. -/
def bucketGivesSpec : ChangeSpec := { name := "bucketGives", fn := fun _ => fun
  | [d1, d2] => { results := [.lit (.bool true)], args := [d1, d2] }
  | _ => none }
def bucketGivesRow : OpenClaim := { program := "ythhpdpcingapgaa", sum := "6a91ed8cfcd2c50789a45e23a1303121be43a06957518b3b9ba254aed936b9ff", func := "billing/billinglaw33.BucketGives", spec := "bucketGives", recurses := true, apart := false }
def BucketGivesSaid : Prop := bucketGivesRow.holds Try.pinned (OpenSpec.ofChange bucketGivesSpec)

/-- ITS FALSE NEIGHBOUR: 'it returns false'. Refute it at one input. -/
def bucketGivesWrong : ChangeSpec := { name := "bucketGives", fn := fun _ => fun
  | [d1, d2] => { results := [.lit (.bool false)], args := [d1, d2] }
  | _ => none }
def BucketGivesWrongFalsely : Prop := bucketGivesRow.holds Try.pinned (OpenSpec.ofChange bucketGivesWrong)

/-- 'billinglaw33.BucketUnits': WHATEVER THE INPUT: true; the input reads as it did. -/
def bucketUnitsSpec : ChangeSpec := { name := "bucketUnits", fn := fun _ => fun
  | [d1, d2] => { results := [.lit (.bool true)], args := [d1, d2] }
  | _ => none }
def bucketUnitsRow : OpenClaim := { program := "ythhpdpcingapgaa", sum := "6a91ed8cfcd2c50789a45e23a1303121be43a06957518b3b9ba254aed936b9ff", func := "billing/billinglaw33.BucketUnits", spec := "bucketUnits", recurses := true, apart := false }
def BucketUnitsSaid : Prop := bucketUnitsRow.holds Try.pinned (OpenSpec.ofChange bucketUnitsSpec)

/-- ITS FALSE NEIGHBOUR: 'it returns false'. Refute it at one input. -/
def bucketUnitsWrong : ChangeSpec := { name := "bucketUnits", fn := fun _ => fun
  | [d1, d2] => { results := [.lit (.bool false)], args := [d1, d2] }
  | _ => none }
def BucketUnitsWrongFalsely : Prop := bucketUnitsRow.holds Try.pinned (OpenSpec.ofChange bucketUnitsWrong)

/- THE SECOND FORM. 'bulk': how many values and letters a reading holds, each counted each time it is reached (what is shared counts as often as it is met; a slice's spare places count too). A statement '..UptoSaid' is the law's where the arguments, and the package variables that the reading takes, are together of bulk at most 1048576: NARROWER than '..Said'. Prove '..Said' where nothing that the law and all that it calls make is longer than what came in: it says more and counts as full. Else prove '..UptoSaid'. A law counts once. -/
mutual
def uptoBulk {H : Type} : DataW H → Nat
  | .lit (.string bytes) => bytes.length + 1
  | .lit _ => 1
  | .nil => 1
  | .ptr d => uptoBulk d + 1
  | .slice elems spare => uptoBulkAll elems + uptoBulkAll spare + 1
  | .agg parts => uptoBulkAll parts + 1
  | .iface _ d => uptoBulk d + 1
  | .map entries => uptoBulkEntries entries + 1
  | .held _ => 1
def uptoBulkAll {H : Type} : List (DataW H) → Nat
  | [] => 0
  | d :: r => uptoBulk d + uptoBulkAll r
def uptoBulkEntries {H : Type} : List (Lit × DataW H) → Nat
  | [] => 0
  | x :: r => uptoBulkEntry x + uptoBulkEntries r
def uptoBulkEntry {H : Type} : Lit × DataW H → Nat
  | (.string bytes, d) => bytes.length + uptoBulk d + 1
  | (_, d) => uptoBulk d + 1
 end
def uptoSmall : (H : Type) → List (DataW H) → Bool := fun _ ds => decide (uptoBulkAll ds ≤ 1048576)
def OpenSpec.upto (s : _root_.Go.ChangeSpec) : _root_.Go.OpenSpec := { _root_.Go.OpenSpec.ofChange s with cond := some uptoSmall }

/-- 'billinglaw33.BucketChecks', WHERE WHAT IT READS IS OF BULK AT MOST 1048576: true; the input reads as it did. -/
def bucketChecksUptoRow : OpenClaim := { program := "ythhpdpcingapgaa", sum := "6a91ed8cfcd2c50789a45e23a1303121be43a06957518b3b9ba254aed936b9ff", func := "billing/billinglaw33.BucketChecks", spec := "bucketChecks", recurses := true, apart := false, narrowed := true }
def BucketChecksUptoSaid : Prop := bucketChecksUptoRow.holds Try.pinned (OpenSpec.upto bucketChecksSpec)

/-- 'billinglaw33.BucketUsable', WHERE WHAT IT READS IS OF BULK AT MOST 1048576: true; the input reads as it did. -/
def bucketUsableUptoRow : OpenClaim := { program := "ythhpdpcingapgaa", sum := "6a91ed8cfcd2c50789a45e23a1303121be43a06957518b3b9ba254aed936b9ff", func := "billing/billinglaw33.BucketUsable", spec := "bucketUsable", recurses := true, apart := false, narrowed := true }
def BucketUsableUptoSaid : Prop := bucketUsableUptoRow.holds Try.pinned (OpenSpec.upto bucketUsableSpec)

/-- 'billinglaw33.BucketTakes', WHERE WHAT IT READS IS OF BULK AT MOST 1048576: true; the input reads as it did. -/
def bucketTakesUptoRow : OpenClaim := { program := "ythhpdpcingapgaa", sum := "6a91ed8cfcd2c50789a45e23a1303121be43a06957518b3b9ba254aed936b9ff", func := "billing/billinglaw33.BucketTakes", spec := "bucketTakes", recurses := true, apart := false, narrowed := true }
def BucketTakesUptoSaid : Prop := bucketTakesUptoRow.holds Try.pinned (OpenSpec.upto bucketTakesSpec)

/-- 'billinglaw33.BucketTwice', WHERE WHAT IT READS IS OF BULK AT MOST 1048576: true; the input reads as it did. -/
def bucketTwiceUptoRow : OpenClaim := { program := "ythhpdpcingapgaa", sum := "6a91ed8cfcd2c50789a45e23a1303121be43a06957518b3b9ba254aed936b9ff", func := "billing/billinglaw33.BucketTwice", spec := "bucketTwice", recurses := true, apart := false, narrowed := true }
def BucketTwiceUptoSaid : Prop := bucketTwiceUptoRow.holds Try.pinned (OpenSpec.upto bucketTwiceSpec)

/-- 'billinglaw33.BucketOrders', WHERE WHAT IT READS IS OF BULK AT MOST 1048576: true; the input reads as it did. -/
def bucketOrdersUptoRow : OpenClaim := { program := "ythhpdpcingapgaa", sum := "6a91ed8cfcd2c50789a45e23a1303121be43a06957518b3b9ba254aed936b9ff", func := "billing/billinglaw33.BucketOrders", spec := "bucketOrders", recurses := true, apart := false, narrowed := true }
def BucketOrdersUptoSaid : Prop := bucketOrdersUptoRow.holds Try.pinned (OpenSpec.upto bucketOrdersSpec)

/-- 'billinglaw33.BucketExpires', WHERE WHAT IT READS IS OF BULK AT MOST 1048576: true; the input reads as it did. -/
def bucketExpiresUptoRow : OpenClaim := { program := "ythhpdpcingapgaa", sum := "6a91ed8cfcd2c50789a45e23a1303121be43a06957518b3b9ba254aed936b9ff", func := "billing/billinglaw33.BucketExpires", spec := "bucketExpires", unfollowed := true, recurses := true, apart := false, narrowed := true }
def BucketExpiresUptoSaid : Prop := bucketExpiresUptoRow.holds Try.pinned (OpenSpec.upto bucketExpiresSpec)

/-- 'billinglaw33.BucketGives', WHERE WHAT IT READS IS OF BULK AT MOST 1048576: true; the input reads as it did. -/
def bucketGivesUptoRow : OpenClaim := { program := "ythhpdpcingapgaa", sum := "6a91ed8cfcd2c50789a45e23a1303121be43a06957518b3b9ba254aed936b9ff", func := "billing/billinglaw33.BucketGives", spec := "bucketGives", recurses := true, apart := false, narrowed := true }
def BucketGivesUptoSaid : Prop := bucketGivesUptoRow.holds Try.pinned (OpenSpec.upto bucketGivesSpec)

/-- 'billinglaw33.BucketUnits', WHERE WHAT IT READS IS OF BULK AT MOST 1048576: true; the input reads as it did. -/
def bucketUnitsUptoRow : OpenClaim := { program := "ythhpdpcingapgaa", sum := "6a91ed8cfcd2c50789a45e23a1303121be43a06957518b3b9ba254aed936b9ff", func := "billing/billinglaw33.BucketUnits", spec := "bucketUnits", recurses := true, apart := false, narrowed := true }
def BucketUnitsUptoSaid : Prop := bucketUnitsUptoRow.holds Try.pinned (OpenSpec.upto bucketUnitsSpec)

end Rows
end Go.Proofs.Ythhpdpcingapgaa

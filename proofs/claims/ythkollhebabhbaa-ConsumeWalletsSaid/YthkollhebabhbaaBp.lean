/-
  Buckets as plain data: what the functions of the chapter compute, over numbers, texts and lists. No program is named here.
-/
import Derived.Test.YthkollhebabhbaaKit
namespace Go.Proofs.Ythkollhebabhbaa
open Go.RowKit

/-- A bucket. -/
structure Bk where
  acc : Int
  sub : Int
  prod : ByteArray
  idx : Int
  kind : Int
  zones : List ByteArray
  frm : Int
  til : Int
  units : Int
  left : Int
  prio : Int
  shared : Bool

/-- A letter, a digit or a hyphen. -/
def okc (c : UInt8) : Prop := (97 ≤ (c.toNat : Int) ∧ (c.toNat : Int) ≤ 122) ∨ (48 ≤ (c.toNat : Int) ∧ (c.toNat : Int) ≤ 57) ∨ (c.toNat : Int) = 45
structure Name (s : ByteArray) : Prop where
  lo : 1 ≤ s.size
  hi : s.size ≤ 24
  head : ∀ h : 0 < s.size, 97 ≤ (s[0].toNat : Int) ∧ (s[0].toNat : Int) ≤ 122
  all : ∀ (j : Nat) (h : j < s.size), okc s[j]
open Classical in
noncomputable def nameB (s : ByteArray) : Bool := decide (Name s)
open Classical in
theorem nameB_yes {s : ByteArray} (h : Name s) : nameB s = true := by unfold nameB; exact decide_eq_true h
open Classical in
theorem nameB_no {s : ByteArray} (h : ¬ Name s) : nameB s = false := by unfold nameB; exact decide_eq_false h

def pvalB (f t : Int) : Bool := decide (0 ≤ f ∧ f < t ∧ t ≤ 12622780800)
def pconB (f t n : Int) : Bool := pvalB f t && decide (f ≤ n ∧ n < t)

namespace Bk
/-- Check: the first error. -/
noncomputable def chk (b : Bk) : Int :=
  if b.acc < 1 ∨ 9999 < b.acc ∨ b.sub < 1 ∨ 9999 < b.sub then 6
  else if nameB b.prod = false then 8
  else if b.idx < 0 ∨ 64 ≤ b.idx then 6
  else if b.kind < 1 ∨ 4 < b.kind then 7
  else if 64 < b.zones.length then 5
  else if b.zones.all nameB = false then 8
  else if pvalB b.frm b.til = false then 15
  else if b.units < 0 ∨ 2199023255552 < b.units ∨ b.left < 0 ∨ b.units < b.left then 6
  else 0
/-- Whether a bucket can be used. -/
def usable (b : Bk) (account sub kind : Int) (zone : ByteArray) (family : Bool) (t : Int) : Bool :=
  decide (0 < b.left ∧ b.kind = kind) && pconB b.frm b.til t && (decide (b.sub = sub) || (b.shared && decide (b.acc = account) && family)) && (b.zones.isEmpty || b.zones.any fun z => z.toList == zone.toList)
/-- Whether a bucket is used before another one. -/
def before (a b : Bk) : Bool :=
  if a.prio ≠ b.prio then decide (a.prio < b.prio)
  else if a.til ≠ b.til then decide (a.til < b.til)
  else if a.sub ≠ b.sub then decide (a.sub < b.sub)
  else if a.prod.toList ≠ b.prod.toList then Op.bytesLess a.prod.toList b.prod.toList
  else if a.idx ≠ b.idx then decide (a.idx < b.idx)
  else decide (a.frm < b.frm)
end Bk
end Go.Proofs.Ythkollhebabhbaa

/-
  The wallet as plain arithmetic: what Check, Free, Credit, Debit, Hold, Settle and Floor compute, over five numbers. No program is named here.
-/
import Derived.Test.YthkollhebabhbaaKit
namespace Go.Proofs.Ythkollhebabhbaa
open Go.RowKit

/-- A wallet: account, balance, floor, held, until. -/
structure W5 where
  a : Int
  b : Int
  f : Int
  h : Int
  u : Int

def inB (n lo hi : Int) : Bool := decide (lo ≤ n) && decide (n ≤ hi)
theorem inB_iff {n lo hi : Int} : inB n lo hi = true ↔ lo ≤ n ∧ n ≤ hi := by unfold inB; simp
theorem inB_no {n lo hi : Int} : inB n lo hi = false ↔ n < lo ∨ hi < n := by
  unfold inB; simp; omega

namespace W5
def zero : W5 := ⟨0, 0, 0, 0, 0⟩
/-- Check: the first error. -/
def chk (w : W5) : Int :=
  if 1 ≤ w.a ∧ w.a ≤ 9999 ∧ -1125899906842624 ≤ w.b ∧ w.b ≤ 1125899906842624 ∧ -1125899906842624 ≤ w.f ∧ w.f ≤ 0 ∧ 0 ≤ w.h ∧ w.h ≤ 1125899906842624 ∧ -1 ≤ w.u ∧ w.u ≤ 12622780799 then
    (if w.b - w.h < w.f then 19 else 0) else 6
theorem chk_ok {w : W5} : w.chk = 0 ↔ 1 ≤ w.a ∧ w.a ≤ 9999 ∧ -1125899906842624 ≤ w.b ∧ w.b ≤ 1125899906842624 ∧ -1125899906842624 ≤ w.f ∧ w.f ≤ 0 ∧ 0 ≤ w.h ∧ w.h ≤ 1125899906842624 ∧ -1 ≤ w.u ∧ w.u ≤ 12622780799 ∧ w.f ≤ w.b - w.h := by
  unfold chk
  split
  · split <;> omega
  · omega
/-- Free: the free amount. -/
def free (w : W5) : Int := if w.chk = 0 then w.b - w.h - w.f else 0
def credit (w : W5) (n : Int) : W5 × Int :=
  if w.chk = 0 then (if 0 ≤ n ∧ n ≤ 1125899906842624 ∧ w.b + n ≤ 1125899906842624 then ({ w with b := w.b + n }, 0) else (zero, 6)) else (zero, w.chk)
def debit (w : W5) (n : Int) : W5 × Int :=
  if w.chk = 0 then (if 0 ≤ n ∧ n ≤ 1125899906842624 then (if w.free < n then (zero, 19) else ({ w with b := w.b - n }, 0)) else (zero, 6)) else (zero, w.chk)
def hold (w : W5) (n : Int) : W5 × Int :=
  if w.chk = 0 then (if 0 ≤ n ∧ n ≤ 1125899906842624 then (if w.free < n then (zero, 19) else if w.h + n ≤ 1125899906842624 then ({ w with h := w.h + n }, 0) else (zero, 6)) else (zero, 6)) else (zero, w.chk)
def settle (w : W5) (held n : Int) : W5 × Int :=
  if w.chk = 0 then (if 0 ≤ n ∧ n ≤ held ∧ held ≤ w.h then ({ w with h := w.h - held, b := w.b - n }, 0) else (zero, 6)) else (zero, w.chk)
def floor (w : W5) (n : Int) : W5 × Int :=
  if w.chk = 0 then (if -1125899906842624 ≤ n ∧ n ≤ 0 then (if w.b - w.h < n then (zero, 19) else ({ w with f := n }, 0)) else (zero, 6)) else (zero, w.chk)
end W5
end Go.Proofs.Ythkollhebabhbaa

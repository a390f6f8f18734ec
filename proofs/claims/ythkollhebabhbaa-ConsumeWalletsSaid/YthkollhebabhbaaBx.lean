/-
  Facts on memory carried to a world with more new blocks.
-/
import Derived.Test.YthkollhebabhbaaBw11
namespace Go.Proofs.Ythkollhebabhbaa
open Go.RowKit

theorem Bks.ext {w : World} {A : Option Addr} {xs : List Bk} (h : Bks w A xs) (s : More) : Bks (Go.Proofs.Ythkollhebabhbaa.ext w s) A xs := h.below (below_ext (Below.refl _ _) (Nat.le_refl _) s)
theorem Bks.alloc {w : World} {A : Option Addr} {xs : List Bk} (h : Bks w A xs) (o : Obj) : Bks (w.alloc o) A xs := h.below ((Below.refl _ _).alloc (Nat.le_refl _) o)
theorem Bks.cat {w : World} {A : Option Addr} {xs : List Bk} {s : More} (h : Bks (Go.Proofs.Ythkollhebabhbaa.ext w s) A xs) (t : More) : Bks (Go.Proofs.Ythkollhebabhbaa.ext w (s.cat t)) A xs := by
  have := h.ext t
  rwa [ext_ext] at this
theorem Tks.ext {w : World} {A : Option Addr} {xs : List Tk} (h : Tks w A xs) (s : More) : Tks (Go.Proofs.Ythkollhebabhbaa.ext w s) A xs := h.below (below_ext (Below.refl _ _) (Nat.le_refl _) s)
theorem Tks.alloc {w : World} {A : Option Addr} {xs : List Tk} (h : Tks w A xs) (o : Obj) : Tks (w.alloc o) A xs := h.below ((Below.refl _ _).alloc (Nat.le_refl _) o)
theorem Tks.cat {w : World} {A : Option Addr} {xs : List Tk} {s : More} (h : Tks (Go.Proofs.Ythkollhebabhbaa.ext w s) A xs) (t : More) : Tks (Go.Proofs.Ythkollhebabhbaa.ext w (s.cat t)) A xs := by
  have := h.ext t
  rwa [ext_ext] at this
end Go.Proofs.Ythkollhebabhbaa

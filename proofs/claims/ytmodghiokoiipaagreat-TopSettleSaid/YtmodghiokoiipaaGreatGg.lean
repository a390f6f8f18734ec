/-
  The function awake26 answers true, in any world.
-/
import Derived.Test.YtmodghiokoiipaaGreatGf
namespace Go.Proofs.YtmodghiokoiipaaGreat
open Go Go.RowKit

theorem awake (w : World) : Calls Tryz.prog 5 #[] w fun e w' => e = .returned (.bool true) ∧ Below w.heap.size w w' := by
  have h := k353 (fun b => b < w.heap.size) (fun _ => none) #[] w ⟨fun a b o h => (by cases h), fun a b h => (by cases h), fun a a' b h => (by cases h)⟩ (fun b hb => hb) (PwR.nil _)
  refine Calls.mono h ?_
  rintro e w' ⟨g, v, _, rfl, hv, _, hk⟩
  refine ⟨?_, ⟨hk.os, hk.tape, hk.output, hk.size, hk.block⟩⟩
  have hv : VR g (.bool true) v := hv
  cases hv
  rfl
end Go.Proofs.YtmodghiokoiipaaGreat

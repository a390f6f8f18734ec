/-
  The executor: a range over a function: operations and straight lines within a round.
-/
import Derived.Test.YtmodghiokoiipaaGreatEx
import Derived.RangeFuncIn
import Derived.RangeFuncLeaves
import Derived.RangeFuncRecord
import Derived.OwnWalkIn
namespace Go.Proofs.YtmodghiokoiipaaGreat
open Go Go.RowKit
set_option linter.unusedVariables false
set_option linter.unusedSimpArgs false

/-- The fence that keeps nothing out, in a round or not. -/
def Wd (F : Fence) : Prop := F = Fence.wide ∨ ∃ l, F = Fence.wide.inRound l
theorem Wd.wide : Wd Fence.wide := .inl rfl
theorem Wd.round (l : Nat) : Wd (Fence.wide.inRound l) := .inr ⟨l, rfl⟩
theorem Wd.fn {F : Fence} (h : Wd F) (f : FuncId) : F.fn f := by
  rcases h with rfl | ⟨l, rfl⟩ <;> trivial
theorem Wd.depth {F : Fence} (h : Wd F) : F.depth.isSome = true → ∀ {p : Prop}, p := by
  rcases h with rfl | ⟨l, rfl⟩ <;> intro h <;> cases h
section
variable {P : Program} {base : PS} {n : Nat}
theorem Wd.calls {F : Fence} (hF : Wd F) {f : FuncId} {args : Array Value} {w : World} {R : Ending → World → Prop} (h : Calls P f args w R) : CallsIn F n P f args w R := by
  rcases hF with rfl | ⟨l, rfl⟩
  · exact callsIn_wide.2 h
  · exact callsIn_wide (n := n).2 h
theorem Wd.rows {F : Fence} (hF : Wd F) {row : String} {args : Array Value} {w : World} {R : Value → World → Prop} (h : Rows P row args w R) : RowsIn F n P row args w R := by
  intro c cs _
  obtain ⟨v, w', r, s⟩ := h c cs
  refine ⟨v, w', r, ?_⟩
  rcases hF with rfl | ⟨l, rfl⟩
  · exact stepsIn_wide.2 s
  · exact stepsIn_wide.2 s
def isDefer : Op → Bool
  | .defer _ => true
  | _ => false
theorem op_in {F : Fence} (hF : Wd F) {o : Oper} (hnd : isDefer o.op = false) {a : Act} {w : World} {K : Act → World → Prop} {Q : Exit → Act → World → Prop} (h : o.wp P a w K (fun _ _ _ => False)) : o.wpIn F n P a w K Q := by
  unfold Oper.wp at h
  unfold Oper.wpIn
  refine ⟨fun f _ => hF.fn f, ?_⟩
  rw [Oper.semAt_plain F a.eval o (fun c e => by rw [e] at hnd; cases hnd)]
  generalize (execOp a.eval o).run P w = r at h ⊢
  cases r with
  | halt x w' => cases x <;> exact h.elim
  | ok nx w' =>
    cases nx <;> simp only [Oper.upon, Oper.uponIn] at h ⊢ <;> first
      | exact h
      | exact ⟨fun x => hF.depth x, hF.calls (h.mono fun e w'' he => by cases e <;> first | exact he | exact he.elim | (obtain ⟨_, _, x⟩ := he; exact x.elim))⟩
      | exact ⟨fun x => hF.depth x, hF.rows h⟩
def noDefer : List Oper → Bool
  | [] => true
  | o :: l => (!isDefer o.op) && noDefer l
/-- A straight line of operations, a part of a region. -/
theorem runL_in {F : Fence} (hF : Wd F) (hz : PZ P) {cf : CFn} (hcf : CF P cf) {ap : AP} (hap : APS P ap) (ops : Array Oper) (r : List Oper) : ∀ (l : List Oper) (i : Nat) (S S' : FS) (f : NF) (a : Act) (w : World), ops.toList.drop i = l ++ r → noDefer l = true → RS f base S a w → runL P cf ap ops l S = some S' →
    ∀ (Q : Exit → Act → World → Prop), (∀ g a' w', NF.le f g → RS g base S' a' w' → Kept base w w' → wpOpsIn F n P ops Q (List.range' (i + l.length) r.length) a' w') → wpOpsIn F n P ops Q (List.range' i (l ++ r).length) a w
  | [], i, S, S', f, a, w, hd, hnd, hs, hr, Q, hk => by
    cases hr
    simpa using hk f a w (NF.le_refl f) hs (Kept.refl _ _)
  | o :: l, i, S, S', f, a, w, hd, hnd, hs, hr, Q, hk => by
    have ho : ops[i]? = some o := by
      have := congrArg (fun x => x[0]?) hd
      simpa using this
    have hd2 : ops.toList.drop (i + 1) = l ++ r := by
      have := congrArg (List.drop 1) hd
      rw [List.drop_drop] at this
      simpa using this
    simp only [noDefer, Bool.and_eq_true, Bool.not_eq_true'] at hnd
    unfold runL at hr
    split at hr
    · rename_i v m hv
      have next : ∀ g v' w', NF.le f g → VR g v v' → HR g base m.h w' → Kept base w w' → wpOpsIn F n P ops Q (List.range' (i + 1) (l ++ r).length) (a.put o.dst v') w' := by
        intro g v' w' h1 h2 h3 h4
        refine runL_in hF hz hcf hap ops r l (i + 1) _ S' g _ w' hd2 hnd.2 ⟨(hs.regs.mono h1).put o.dst h2, h3, by rw [put_defers]; exact hs.dn, hs.hb.mono h4⟩ hr Q fun g2 a2 w2 k1 k2 k3 => ?_
        have := hk g2 a2 w2 (NF.le_trans h1 k1) k2 (h4.trans k3)
        rw [List.length_cons, ← Nat.add_assoc, Nat.add_right_comm] at this
        exact this
      have key := svW_sound hz hcf hap ho hs.mem hs.hb (fun t _ => hs.regs.get t) hv (K := fun a w => wpOpsIn F n P ops Q (List.range' (i + 1) (l ++ r).length) a w) (Q := fun _ _ _ => False) next
      rw [List.cons_append, List.length_cons, List.range'_succ]
      unfold wpOpsIn
      unfold wpOp at key
      rw [ho] at key ⊢
      dsimp only at key ⊢
      split at key
      · rename_i hw
        rw [if_pos hw]
        rcases key with key | ⟨_, _, _, x⟩
        · exact op_in hF hnd.1 key
        · exact x.elim
      · rename_i hw
        rw [if_neg hw]
        exact ⟨fun f _ => hF.fn f, key⟩
    · cases hr
theorem region_in {F : Fence} (hF : Wd F) (hz : PZ P) {cf : CFn} (hcf : CF P cf) {ap : AP} (hap : APS P ap) {id : Nat} {ops : Array Oper} (hnd : noDefer ops.toList = true) {S S' : FS} {f : NF} {a : Act} {w : World} (hs : RS f base S a w) (hr : runL P cf ap ops ops.toList S = some S')
    {Q : Exit → Act → World → Prop} (hk : ∀ g a' w', NF.le f g → RS g base S' a' w' → Kept base w w' → Q .normal a' w') : (Code.region id ops false).wpIn F n P Q a w := by
  have := runL_in (base := base) (n := n) hF hz hcf hap ops [] ops.toList 0 S S' f a w (by simp) hnd hs hr Q fun g a' w' h1 h2 h3 => hk g a' w' h1 h2 h3
  rw [List.append_nil, Array.length_toList, ← List.range_eq_range'] at this
  exact wpIn_region this
end
end Go.Proofs.YtmodghiokoiipaaGreat

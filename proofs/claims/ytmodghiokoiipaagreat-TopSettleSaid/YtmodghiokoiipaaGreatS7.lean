/-
  The totals of agreements, in a map of one's own.
-/
import Derived.Test.YtmodghiokoiipaaGreatS6
import Derived.Maps.Own
import Derived.Maps.OwnSet
namespace Go.Proofs.YtmodghiokoiipaaGreat
open Go.RowKit
set_option linter.unusedSimpArgs false
set_option linter.unusedVariables false

def totV (p : Int × Int) : Value := .agg #[.int .i64 p.1, .int .i64 p.2]
def totD (p : Int × Int) : DataW Unit := .agg [.lit (.int .i64 p.1), .lit (.int .i64 p.2)]
def totE (v : Value) : Option (DataW Unit × List MemPlace) := match v with
  | .agg ⟨[.int .i64 c, .int .i64 u]⟩ => some (totD (c, u), [])
  | _ => none
theorem totE_mk (p : Int × Int) : totE (totV p) = some (totD p, []) := rfl
theorem totE_inv {v : Value} {p : Int × Int} {ps : List MemPlace} (h : totE v = some (totD p, ps)) : v = totV p := by
  unfold totE at h
  split at h
  · simp only [totD, Option.some.injEq, Prod.mk.injEq, DataW.agg.injEq, List.cons.injEq, DataW.lit.injEq, Lit.int.injEq, and_true, true_and] at h
    obtain ⟨⟨h1, h2⟩, _⟩ := h
    unfold totV
    rw [h1, h2]
  · cases h
theorem int_key : Maps.Keyed Tryz.prog 3 := Maps.int_keyed Tryz.underlying3
theorem wf_nat {i : Nat} (h : i ≤ 100) : (Lit.int .i64 (i : Int)).wf = true := by
  have h1 : IntKind.i64.min = -9223372036854775808 := rfl
  have h2 : IntKind.i64.max = 9223372036854775807 := rfl
  simp only [Lit.wf, Bool.and_eq_true, decide_eq_true_eq, h1, h2]
  omega
theorem key_nat {i : Nat} (h : i ≤ 100) : keyOf Tryz.prog 3 (.int .i64 (i : Int)) = some (.int .i64 (i : Int)) := Maps.keyOf_int_mk Tryz.underlying3 (wf_nat h)
theorem tot_zero (w : World) : (zeroValue 64).run Tryz.prog w = .ok (totV (0, 0)) w := by kernel_rfl
/-- Block D holds, for every agreement, its totals: the number and the units. -/
def Tots (w : World) (D n : Nat) (g : Nat → Int × Int) : Prop := ∃ Dm : DataW Unit, w.ownsMap Tryz.prog 3 totE D n Dm ∧ ∀ i : Nat, i ≤ 100 → Dm.atKey (.int .i64 (i : Int)) (totD (0, 0)) = totD (g i) ∧ Maps.has Dm (.int .i64 (i : Int)) = decide (0 < (g i).1)
theorem Tots.made {w : World} {D : Nat} (hb : w.heap[D]? = some (.map #[] 0)) : Tots w D 0 (fun _ => (0, 0)) :=
  ⟨.map [], ⟨#[], 0, hb, ⟨by simp, MapKept.stamped_empty 0, by simp⟩, Nat.le_refl _, rfl⟩, fun i _ => ⟨rfl, rfl⟩⟩
theorem Tots.lt {w : World} {D n : Nat} {g : Nat → Int × Int} (h : Tots w D n g) : D < w.heap.size := by
  obtain ⟨Dm, ho, _⟩ := h
  exact ho.lt
theorem Tots.below {w w' : World} {D n : Nat} {g : Nat → Int × Int} (h : Tots w D n g) (hb : Below w.heap.size w w') : Tots w' D n g := by
  obtain ⟨Dm, ho, hr⟩ := h
  exact ⟨Dm, ho.kept (row := none) ⟨hb.os, hb.tape, hb.output, hb.size, fun i hi _ => hb.block i hi⟩ (by simp), hr⟩
theorem Tots.look {w : World} {D n : Nat} {g : Nat → Int × Int} (h : Tots w D n g) {i : Nat} (hi : i ≤ 100) : (Instr.lookup 61 (.map (some D)) (.int .i64 (i : Int)) false).run Tryz.prog w = .ok (.agg #[.int .i64 (g i).1, .int .i64 (g i).2]) w := by
  obtain ⟨Dm, ho, hr⟩ := h
  obtain ⟨v, ps, hrun, hv⟩ := ho.lookup int_key Tryz.underlying61 (tot_zero w) (totE_mk _) (key_nat hi)
  rw [(hr i hi).1] at hv
  rw [hrun, totE_inv hv]
  rfl
theorem Tots.look_ok {w : World} {D n : Nat} {g : Nat → Int × Int} (h : Tots w D n g) {i : Nat} (hi : i ≤ 100) : (Instr.lookup 61 (.map (some D)) (.int .i64 (i : Int)) true).run Tryz.prog w = .ok (.tuple #[.agg #[.int .i64 (g i).1, .int .i64 (g i).2], .bool (decide (0 < (g i).1))]) w := by
  obtain ⟨Dm, ho, hr⟩ := h
  obtain ⟨v, ps, hrun, hv⟩ := ho.look_ok int_key Tryz.underlying61 (tot_zero w) (totE_mk _) (key_nat hi)
  rw [(hr i hi).1] at hv
  rw [hrun, totE_inv hv, (hr i hi).2]
  rfl
theorem Tots.put {w : World} {D n : Nat} {g g' : Nat → Int × Int} (h : Tots w D n g) (hn : n < maxLen) {i : Nat} (hi : i ≤ 100) {c u : Int} (hc : 0 < c) (hg : ∀ j, g' j = if j = i then (c, u) else g j) :
    ∃ w', (Instr.mapUpdate 61 (.map (some D)) (.int .i64 (i : Int)) (.agg #[.int .i64 c, .int .i64 u])).run Tryz.prog w = .ok () w' ∧ Tots w' D (n + 1) g' ∧ w.grownBy w' (some D) := by
  obtain ⟨Dm, ho, hr⟩ := h
  obtain ⟨w', hrun, ho', hg'⟩ := ho.update int_key Tryz.underlying61 hn (key_nat hi) (totE_mk (c, u))
  refine ⟨w', hrun, ⟨_, ho', fun j hj => ?_⟩, hg'⟩
  rw [hg j]
  by_cases e : j = i
  · subst e
    rw [if_pos rfl, Maps.atKey_put_same ho.isMap (int_key.key (key_nat hi)), Maps.has_put_same ho.isMap (int_key.key (key_nat hi))]
    exact ⟨rfl, by simp [hc]⟩
  · have e' : (Lit.int .i64 (j : Int)) ≠ .int .i64 (i : Int) := by
      intro h
      injection h with _ h
      exact e (by omega)
    rw [if_neg e, Maps.atKey_put_other e', Maps.has_put_other e']
    exact hr j hj

def hitB (a : Ag) (u : Ug) : Bool := decide (a.p = 7 ∧ a.k = u.k ∧ a.ib = u.ib) && contB a.f a.t u.s
/-- The agreement of a usage. -/
def hit (zs : List Ag) (u : Ug) : Option Nat := if decide (u.tr = 7) && contB 0 2678400 u.s then zs.findIdx? (fun a => hitB a u) else none
/-- The totals of the usages under agreement i. -/
def totF (zs : List Ag) (us : List Ug) (i : Nat) : Int × Int := (((us.filter fun u => hit zs u == some i).length : Nat), ((us.filter fun u => hit zs u == some i).map fun u => un u.n).sum)
theorem totF_snoc (zs : List Ag) (us : List Ug) (u : Ug) (j : Nat) : totF zs (us ++ [u]) j = if hit zs u = some j then ((totF zs us j).1 + 1, (totF zs us j).2 + un u.n) else totF zs us j := by
  unfold totF
  rw [List.filter_append]
  by_cases h : hit zs u = some j
  · rw [if_pos h, List.filter_cons, if_pos (by simpa using h)]
    simp
  · rw [if_neg h, List.filter_cons, if_neg (by simpa using h)]
    simp
theorem un_in (n : Int) : 0 ≤ un n ∧ un n ≤ 1099511627776 := by
  unfold un
  split <;> omega
theorem totF_in (zs : List Ag) (i : Nat) : ∀ (us : List Ug), 0 ≤ (totF zs us i).1 ∧ (totF zs us i).1 ≤ us.length ∧ 0 ≤ (totF zs us i).2 ∧ (totF zs us i).2 ≤ (us.length : Int) * 1099511627776 := by
  intro us
  refine ⟨by unfold totF; simp, ?_, ?_, ?_⟩
  · unfold totF
    have := List.length_filter_le (fun u => hit zs u == some i) us
    simp only
    omega
  · unfold totF
    generalize us.filter (fun u => hit zs u == some i) = l
    induction l with
    | nil => simp
    | cons x l ih => simp only [List.map_cons, List.sum_cons] at *; have := un_in x.n; omega
  · have h1 := List.length_filter_le (fun u => hit zs u == some i) us
    unfold totF
    simp only
    generalize us.filter (fun u => hit zs u == some i) = l at *
    have h2 : ∀ l : List Ug, (l.map fun u => un u.n).sum ≤ (l.length : Int) * 1099511627776 := by
      intro l
      induction l with
      | nil => simp
      | cons x l ih => simp only [List.map_cons, List.sum_cons, List.length_cons] at *; have := un_in x.n; omega
    have := h2 l
    have h3 : (l.length : Int) * 1099511627776 ≤ (us.length : Int) * 1099511627776 := by omega
    omega
end Go.Proofs.YtmodghiokoiipaaGreat

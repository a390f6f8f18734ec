/-
  What a pass leaves of memory; plain facts about its steps.
-/
import Derived.Test.YtclaijheemkegaaR9
namespace Go.Proofs.Ytclaijheemkegaa
open Go.RowKit
set_option linter.unusedSimpArgs false
set_option linter.unusedVariables false

/-- All old blocks but M and U are as they were. -/
structure Kp (M U : Nat) (w w' : World) : Prop where
  os : w'.os = w.os
  tape : w'.tape = w.tape
  output : w'.output = w.output
  size : w.heap.size ≤ w'.heap.size
  block : ∀ k, k < w.heap.size → k ≠ M → k ≠ U → w'.heap[k]? = w.heap[k]?
variable {M U : Nat}
theorem Kp.refl (w : World) : Kp M U w w := ⟨rfl, rfl, rfl, Nat.le_refl _, fun _ _ _ _ => rfl⟩
theorem Kp.step {w a b : World} (h : Kp M U w a) (hb : Below a.heap.size a b) : Kp M U w b :=
  ⟨hb.os.trans h.os, hb.tape.trans h.tape, hb.output.trans h.output, Nat.le_trans h.size hb.size, fun k hk h1 h2 => (hb.block k (Nat.lt_of_lt_of_le hk h.size)).trans (h.block k hk h1 h2)⟩
theorem Kp.ext {w a : World} (h : Kp M U w a) (s : More) : Kp M U w (Go.Proofs.Ytclaijheemkegaa.ext a s) := h.step (below_ext (Below.refl _ _) (Nat.le_refl _) s)
theorem Kp.alloc {w a : World} (h : Kp M U w a) (o : Obj) : Kp M U w (a.alloc o) := h.step ((Below.refl _ _).alloc (Nat.le_refl _) o)
theorem Kp.set {w a : World} (h : Kp M U w a) {k j : Nat} {v : Value} (hk : k = M ∨ k = U) : Kp M U w (a.setCell ⟨k, j, none⟩ v) :=
  ⟨h.os, h.tape, h.output, by simpa using h.size, fun i hi h1 h2 => (Below.heap_setCell a ⟨k, j, none⟩ v i (fun e => by
    simp only at e
    omega)).trans (h.block i hi h1 h2)⟩
theorem Kp.grown {w a b : World} {row : Option Nat} (h : Kp M U w a) (hg : a.grownBy b row) (hr : ∀ k, row = some k → w.heap.size ≤ k) : Kp M U w b :=
  have hb : Below w.heap.size a b := (Below.refl _ a).grown hg h.size hr
  ⟨hb.os.trans h.os, hb.tape.trans h.tape, hb.output.trans h.output, Nat.le_trans h.size hb.size, fun k hk h1 h2 => (hb.block k hk).trans (h.block k hk h1 h2)⟩
theorem Kp.toBelow {w0 w w' : World} {B : Nat} (h : Kp M U w w') (hb : Below B w0 w) (hB : B ≤ w.heap.size) (h1 : B ≤ M) (h2 : B ≤ U) : Below B w0 w' :=
  ⟨h.os.trans hb.os, h.tape.trans hb.tape, h.output.trans hb.output, Nat.le_trans hb.size h.size, fun k hk => (h.block k (by omega) (by omega) (by omega)).trans (hb.block k hk)⟩
theorem Kp.trans {w a b : World} (h : Kp M U w a) (k : Kp M U a b) : Kp M U w b :=
  ⟨k.os.trans h.os, k.tape.trans h.tape, k.output.trans h.output, Nat.le_trans h.size k.size, fun i hi h1 h2 => (k.block i (Nat.lt_of_lt_of_le hi h.size) h1 h2).trans (h.block i hi h1 h2)⟩
theorem Kp.keep {w w' : World} {B B1 B2 size n : Nat} {e : TypeId} {v : Value} {xs : List Value} {l1 l2 : List Bool} (k : Kp M U w w') (h : w.ownsRow B e size v n xs) (h1 : OwnBs w B1 M l1) (h2 : OwnBs w B2 U l2) (he : e ≠ 4) : w'.ownsRow B e size v n xs := by
  have n1 := own_ne h h1 he
  have n2 := own_ne h h2 he
  obtain ⟨g1, g2⟩ := h
  refine ⟨g1, ?_⟩
  rcases g2 with g2 | ⟨g, cap, cur, hv, hg, hh, r⟩
  · exact .inl g2
  · subst hv
    simp only [Value.ownBlock, ne_eq, Option.some.injEq] at n1 n2
    refine .inr ⟨g, cap, cur, rfl, hg, ?_, r⟩
    rw [k.block g (own_lt (o := 0) (cap := 0) (n := 0) hh) (by rcases n1 with h | h; cases h; exact h) (by rcases n2 with h | h; cases h; exact h)]
    exact hh
theorem Kp.cell {w w' : World} (h : Kp M U w w') {g j : Nat} (hg : g < w.heap.size) (h1 : g ≠ M) (h2 : g ≠ U) : w'.cell? ⟨g, j, none⟩ = w.cell? ⟨g, j, none⟩ := World.cell?_of_block (w := w) (a := ⟨g, j, none⟩) (h.block g hg h1 h2)

/-! Plain steps. -/
theorem pick_none {x : It} {slack : Int} {ex : Bool} {ts : List It} {used : List Bool} (h : ∀ j, j < ts.length → canB x slack ex ts used j = false) : pick x slack ex ts used = none := by
  unfold pick
  rw [List.find?_eq_none]
  intro j hj
  rw [h j (by simpa using hj)]
  simp
theorem pick_at {x : It} {slack : Int} {ex : Bool} {ts : List It} {used : List Bool} {k : Nat} (hk : k < ts.length) (hc : canB x slack ex ts used k = true) (h : ∀ j, j < k → canB x slack ex ts used j = false) : pick x slack ex ts used = some k := by
  unfold pick
  rw [List.find?_eq_some_iff_getElem]
  refine ⟨hc, k, by simpa using hk, by simp, fun j hj => ?_⟩
  simp [h j hj]
theorem can_at {x y : It} {slack : Int} {ex u : Bool} {ts : List It} {used : List Bool} {k : Nat} (hy : ts[k]? = some y) (hu : used[k]? = some u) : canB x slack ex ts used k = (!u && fitB x y slack ex) := by
  unfold canB
  rw [hy, hu]
  cases u <;> rfl
theorem step_skip {slack : Int} {ex : Bool} {ts : List It} {i : Nat} {x : It} {s : Ps} (h : s.mine[i]? = some true) : stepP slack ex ts i x s = s := by
  unfold stepP
  rw [h]
theorem step_none {slack : Int} {ex : Bool} {ts : List It} {i : Nat} {x : It} {s : Ps} (hp : pick x slack ex ts s.used = none) : stepP slack ex ts i x s = s := by
  unfold stepP
  split
  · rw [hp]
  · rfl
theorem step_some {slack : Int} {ex : Bool} {ts : List It} {i k : Nat} {x : It} {s : Ps} (h : s.mine[i]? = some false) (hp : pick x slack ex ts s.used = some k) : stepP slack ex ts i x s = ⟨s.out ++ [((i : Int), (k : Int))], s.mine.set i true, s.used.set k true⟩ := by
  unfold stepP
  rw [h]
  dsimp only
  rw [hp]
theorem pass_next {xs ts : List It} {slack : Int} {ex : Bool} {mine used : List Bool} {n : Nat} {x : It} (h : xs[n]? = some x) : passN xs ts slack ex mine used (n + 1) = stepP slack ex ts n x (passN xs ts slack ex mine used n) := by
  show (match xs[n]? with | some x => stepP slack ex ts n x (passN xs ts slack ex mine used n) | none => passN xs ts slack ex mine used n) = _
  rw [h]
theorem step_out (slack : Int) (ex : Bool) (ts : List It) (i : Nat) (x : It) (s : Ps) : (stepP slack ex ts i x s).out.length ≤ s.out.length + 1 := by
  unfold stepP
  split
  · split <;> simp
  · omega
theorem pass_out (xs ts : List It) (slack : Int) (ex : Bool) (mine used : List Bool) : ∀ n, (passN xs ts slack ex mine used n).out.length ≤ n
  | 0 => by simp [passN]
  | n + 1 => by
    have ih := pass_out xs ts slack ex mine used n
    unfold passN
    split
    · have := step_out slack ex ts n (by assumption) (passN xs ts slack ex mine used n)
      omega
    · omega
end Go.Proofs.Ytclaijheemkegaa

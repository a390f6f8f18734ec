/-
  What a statement is made of, in memory.
-/
import Derived.Test.YtmodghiokoiipaaGreatS9
namespace Go.Proofs.YtmodghiokoiipaaGreat
open Go.RowKit
set_option linter.unusedSimpArgs false
set_option linter.unusedVariables false

/-- A block of one's own, cell by cell. -/
def Blk (w : World) (B : Nat) (vs : List Value) : Prop := B < w.heap.size ∧ ∀ i v, vs[i]? = some v → w.cell? ⟨B, i, none⟩ = some v ∧ w.frozen? ⟨B, i, none⟩ = false
theorem Blk.heap {w w' : World} {B : Nat} {vs : List Value} (h : Blk w B vs) (hs : w.heap.size ≤ w'.heap.size) (hb : w'.heap[B]? = w.heap[B]?) : Blk w' B vs :=
  ⟨Nat.lt_of_lt_of_le h.1 hs, fun i v hv => ⟨(World.cell?_of_block (a := ⟨B, i, none⟩) hb).trans (h.2 i v hv).1, (World.frozen?_of_block (a := ⟨B, i, none⟩) hb).trans (h.2 i v hv).2⟩⟩
theorem Blk.below {w w' : World} {B : Nat} {vs : List Value} (h : Blk w B vs) (hb : Below w.heap.size w w') : Blk w' B vs := h.heap hb.size (hb.block B h.1)
theorem Blk.kq {D : Nat} {w w' : World} {B : Nat} {vs : List Value} (h : Blk w B vs) (hk : Kq D w w') (hn : B ≠ D) : Blk w' B vs := h.heap hk.size (hk.block B h.1 hn)
theorem Blk.grown {row : Option Nat} {w w' : World} {B : Nat} {vs : List Value} (h : Blk w B vs) (hk : w.grownBy w' row) (hn : some B ≠ row) : Blk w' B vs := h.heap hk.size (hk.block B h.1 hn)
theorem Blk.set {w : World} {B : Nat} {vs : List Value} (h : Blk w B vs) {j : Nat} (hj : j < vs.length) (v : Value) : Blk (w.setCell ⟨B, j, none⟩ v) B (vs.set j v) := by
  refine ⟨by simpa [World.setCell] using h.1, fun i u hu => ?_⟩
  obtain ⟨old, ho⟩ : ∃ u, vs[j]? = some u := ⟨_, List.getElem?_eq_getElem hj⟩
  rw [World.frozen?_setCell]
  by_cases e : j = i
  · subst e
    rw [List.getElem?_set_self hj] at hu
    obtain rfl := Option.some.inj hu
    refine ⟨?_, (h.2 j old ho).2⟩
    rw [World.cell?_setCell_same (h := (h.2 j old ho).1)]
  · rw [List.getElem?_set_ne e] at hu
    refine ⟨?_, (h.2 i u hu).2⟩
    rw [World.cell?_setCell_other (h := by intro x; cases x; exact e rfl)]
    exact (h.2 i u hu).1
theorem Blk.made5 (w : World) (a b c d e : Value) (t : TypeId) : Blk (w.alloc (.cells #[a, b, c, d, e] t)) w.heap.size [a, b, c, d, e] := by
  refine ⟨by simp, fun i v hv => ?_⟩
  have hi := (List.getElem?_eq_some_iff.1 hv).1
  rw [← hv]
  match i, hi with
  | 0, _ | 1, _ | 2, _ | 3, _ | 4, _ => exact ⟨by simp [go_sem], by simp [go_sem]⟩
theorem Blk.made5' (w : World) (o : Obj) (a b c d e : Value) (t : TypeId) : Blk ((w.alloc o).alloc (.cells #[a, b, c, d, e] t)) (w.heap.size + 1) [a, b, c, d, e] := by
  have := Blk.made5 (w.alloc o) a b c d e t
  rw [World.size_alloc] at this
  exact this
theorem Blk.ext {w : World} {B : Nat} {vs : List Value} (h : Blk w B vs) (s : More) : Blk (Go.Proofs.YtmodghiokoiipaaGreat.ext w s) B vs := h.below (below_ext (Below.refl _ _) (Nat.le_refl _) s)
theorem Blk.alloc {w : World} {B : Nat} {vs : List Value} (h : Blk w B vs) (o : Obj) : Blk (w.alloc o) B vs := h.below ((Below.refl _ _).alloc (Nat.le_refl _) o)
theorem Mon.made (w : World) (t : TypeId) : Mon (w.alloc (.cells #[.int .i64 0, .int .i64 2678400] t)) w.heap.size := ⟨by simp, by simp [go_sem], by simp [go_sem]⟩
theorem Mon.ext {w : World} {B : Nat} (h : Mon w B) (s : More) : Mon (Go.Proofs.YtmodghiokoiipaaGreat.ext w s) B := h.below (below_ext (Below.refl _ _) (Nat.le_refl _) s)
theorem Mon.alloc {w : World} {B : Nat} (h : Mon w B) (o : Obj) : Mon (w.alloc o) B := h.below ((Below.refl _ _).alloc (Nat.le_refl _) o)
theorem Kq.toGrown {D : Nat} {w w' : World} (h : Kq D w w') : w.grownBy w' (some D) := ⟨h.os, h.tape, h.output, h.size, fun k hk hn => h.block k hk (fun e => hn (by rw [e]))⟩
theorem Kq.grown {D : Nat} {w a b : World} {row : Option Nat} (h : Kq D w a) (hg : a.grownBy b row) (hr : ∀ k, row = some k → w.heap.size ≤ k) : Kq D w b :=
  ⟨hg.os.trans h.os, hg.tape.trans h.tape, hg.output.trans h.output, Nat.le_trans h.size hg.size, fun k hk h1 => (hg.block k (Nat.lt_of_lt_of_le hk h.size) (fun e => by have := hr k e.symm; omega)).trans (h.block k hk h1)⟩
theorem Kq.ofBelow {D : Nat} {w w' : World} (h : Below w.heap.size w w') : Kq D w w' := (Kq.refl D w).step h
theorem Kq.alloc {D : Nat} {w a : World} (h : Kq D w a) (o : Obj) : Kq D w (a.alloc o) := h.step ((Below.refl _ _).alloc (Nat.le_refl _) o)
theorem Kq.ext {D : Nat} {w a : World} (h : Kq D w a) (s : More) : Kq D w (Go.Proofs.YtmodghiokoiipaaGreat.ext a s) := h.step (below_ext (Below.refl _ _) (Nat.le_refl _) s)
theorem OA.kq {D E : Nat} {w w' : World} {zs : List Ag} (h : OA w E zs) (hk : Kq D w w') (hn : E ≠ D) : OA w' E zs :=
  ⟨Nat.lt_of_lt_of_le h.1 hk.size, fun j x hx i v hv => ⟨(World.cell?_of_block (a := ⟨E, j * 7 + i, none⟩) (hk.block E h.1 hn)).trans (h.2 j x hx i v hv).1, (World.frozen?_of_block (a := ⟨E, j * 7 + i, none⟩) (hk.block E h.1 hn)).trans (h.2 j x hx i v hv).2⟩⟩
theorem Tots.kq {D M n : Nat} {w w' : World} {g : Nat → Int × Int} (h : Tots w M n g) (hk : Kq D w w') (hn : M ≠ D) : Tots w' M n g := by
  obtain ⟨Dm, ho, hr⟩ := h
  exact ⟨Dm, ho.kept hk.toGrown (by simpa using hn), hr⟩
theorem Mon.kq {D B : Nat} {w w' : World} (h : Mon w B) (hk : Kq D w w') (hn : B ≠ D) : Mon w' B := h.grown hk.toGrown hn
abbrev Chs := Recs 5 Ch.cells
theorem cells5 (x : Ch) : x.cells.length = 5 := rfl
theorem ch_one (x : Ch) : ∀ u ∈ x.cells, u.oneCell' = true := by
  intro u hu
  simp only [Ch.cells, List.mem_cons, List.not_mem_nil, or_false] at hu
  rcases hu with rfl | rfl | rfl | rfl | rfl <;> rfl
/-- Charges in a row of one's own. -/
def OC (w : World) (B : Nat) (v : Value) (cs : List Ch) : Prop := w.ownsRow B 39 5 v cs.length (cs.flatMap Ch.cells)
theorem OC.nil (w : World) (B : Nat) : OC w B (.slice none 0 0) [] := World.ownsRow_nil w B _ _
theorem OC.chs {w : World} {B : Nat} {v : Value} {cs : List Ch} (h : OC w B v cs) : ∃ A c, v = .slice A cs.length c ∧ Chs w A cs := by
  obtain ⟨A, c, rfl, hA⟩ := own_form h
  refine ⟨A, c, rfl, ?_⟩
  rcases hA with ⟨rfl, h1, rfl⟩ | ⟨D, rfl, h1, h2, h3⟩
  · rw [List.length_eq_zero_iff] at h1
    subst h1
    exact Recs.nil
  · intro j x hx
    exact ⟨D, 0, rfl, h2, fun i v hv => by rw [Nat.zero_add]; exact ((own_recs cells5 h).2.2 j x hx i v hv).1⟩
theorem OC.kept {w w' : World} {B : Nat} {v : Value} {cs : List Ch} (h : OC w B v cs) (hk : ∀ k, B ≤ k → k < w.heap.size → w'.heap[k]? = w.heap[k]?) : OC w' B v cs := own_heap h hk
theorem OC.below {w w' : World} {B : Nat} {v : Value} {cs : List Ch} (h : OC w B v cs) (hb : Below w.heap.size w w') : OC w' B v cs := own_below h hb
theorem OC.set {w : World} {B D : Nat} {v : Value} {cs : List Ch} (h : OC w B v cs) (hD : D < B) (j : Nat) (u : Value) : OC (w.setCell ⟨D, j, none⟩ u) B v cs :=
  h.kept fun k hk _ => Below.heap_setCell w ⟨D, j, none⟩ u k (by show k ≠ D; omega)
theorem OC.snoc {w : World} {B : Nat} {v : Value} {cs : List Ch} {x : Ch} (h : w.ownsRow B 39 5 v (cs.length + 1) (cs.flatMap Ch.cells ++ x.cells)) : OC w B v (cs ++ [x]) := by
  unfold OC
  rw [List.length_append, List.flatMap_append]
  simpa using h
theorem info_ch : (Tryz.prog.info? 39).map (fun i => (i.zero, i.size, i.bytes)) = some (some (.agg #[.int .i64 0, .bool false, .int .i64 0, .int .i64 0, .int .i64 0]), 5, 40) := by kernel_rfl
/-- The cells of a new block, as news for an append. -/
theorem news5 {w : World} {b : Nat} {a c d e f : Value} (h : ∀ i v, [a, c, d, e, f][i]? = some v → w.cell? ⟨b, i, none⟩ = some v) : ∀ j u, [a, c, d, e, f][j]? = some u → w.cell? ((⟨b, 0, none⟩ : Addr).add j) = some u := by
  intro j u hu
  have ha : (⟨b, 0, none⟩ : Addr).add j = ⟨b, j, none⟩ := by
    unfold Addr.add
    split
    · rename_i h0
      simp [h0]
    · simp
  rw [ha]
  exact h j u hu
/-- What is handed back: a statement and an error; the charges lie in a row of its own. -/
def StR (w : World) (zs : List Ag) (us : List Ug) (e : Ending) (w' : World) : Prop := ∃ p f t v, e = .returned (.tuple #[.agg #[.int .i64 p, .int .i64 f, .int .i64 t, v, .int .i64 (stmF zs us).net], .int .i64 (stmF zs us).err]) ∧ OC w' w.heap.size v (stmF zs us).cs ∧ Below w.heap.size w w'
theorem str_mk {w w' : World} {zs : List Ag} {us : List Ug} {S : Stm} {B : Nat} {v : Value} (hS : stmF zs us = S) (p f t : Int) (h : OC w' B v S.cs) (hB : w.heap.size ≤ B) (hb : Below w.heap.size w w') : StR w zs us (.returned (.tuple #[.agg #[.int .i64 p, .int .i64 f, .int .i64 t, v, .int .i64 S.net], .int .i64 S.err])) w' :=
  ⟨p, f, t, v, by rw [hS], by rw [hS]; exact own_mono h hB, hb⟩
theorem str_bad {w w' : World} {zs : List Ag} {us : List Ug} {E : Int} (hS : stmF zs us = ⟨E, [], 0⟩) (p f t : Int) (hb : Below w.heap.size w w') : StR w zs us (.returned (.tuple #[.agg #[.int .i64 p, .int .i64 f, .int .i64 t, .slice none 0 0, .int .i64 0], .int .i64 E])) w' :=
  str_mk (S := ⟨E, [], 0⟩) hS p f t (OC.nil w' w.heap.size) (Nat.le_refl _) hb
theorem stmL_drop {g : Nat → Int × Int} {Z : List Ag} {k : Nat} {a : Ag} (ha : Z[k]? = some a) (cs : List Ch) (net : Int) : stmL g (Z.drop k) k cs net = if 0 < (g k).1 then (if (agF a.st a.cap (g k).2).2 = 0 then stmL g (Z.drop (k + 1)) (k + 1) (cs ++ [chOf a (g k)]) (netOf a (g k) net) else ⟨(agF a.st a.cap (g k).2).2, [], 0⟩) else stmL g (Z.drop (k + 1)) (k + 1) cs net := by
  rw [drop_cons ha, stmL]
theorem stmL_end {g : Nat → Int × Int} {Z : List Ag} (cs : List Ch) (net : Int) : stmL g (Z.drop Z.length) Z.length cs net = if -1125899906842624 ≤ net ∧ net ≤ 1125899906842624 then ⟨0, cs, net⟩ else ⟨6, [], 0⟩ := by
  rw [List.drop_length, stmL]
end Go.Proofs.YtmodghiokoiipaaGreat

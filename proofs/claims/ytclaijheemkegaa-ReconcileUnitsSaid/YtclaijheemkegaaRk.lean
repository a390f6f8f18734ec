/-
  Rows of the call's own: pairs, positions, bools.
-/
import Derived.Test.YtclaijheemkegaaRn
import Derived.Test.YtclaijheemkegaaR8
import Derived.Laws.AppendOwnNone
namespace Go.Proofs.Ytclaijheemkegaa
open Go.RowKit
set_option linter.unusedSimpArgs false
set_option linter.unusedVariables false

theorem own_mono {w : World} {base base' : Nat} {e : TypeId} {size : Nat} {v : Value} {n : Nat} {xs : List Value} (h : w.ownsRow base e size v n xs) (hb : base' ≤ base) : w.ownsRow base' e size v n xs := by
  obtain ⟨h1, h2⟩ := h
  refine ⟨h1, ?_⟩
  rcases h2 with h2 | ⟨g, cap, cur, hv, hg, r⟩
  · exact .inl h2
  · exact .inr ⟨g, cap, cur, hv, Nat.le_trans hb hg, r⟩
theorem own_heap {w w' : World} {base : Nat} {e : TypeId} {size : Nat} {v : Value} {n : Nat} {xs : List Value} (h : w.ownsRow base e size v n xs) (hk : ∀ k, base ≤ k → k < w.heap.size → w'.heap[k]? = w.heap[k]?) : w'.ownsRow base e size v n xs := by
  obtain ⟨h1, h2⟩ := h
  refine ⟨h1, ?_⟩
  rcases h2 with h2 | ⟨g, cap, cur, hv, hg, hh, r⟩
  · exact .inl h2
  · refine .inr ⟨g, cap, cur, hv, hg, ?_, r⟩
    rw [hk g hg ?_, hh]
    rcases Nat.lt_or_ge g w.heap.size with hlt | hge
    · exact hlt
    · rw [Array.getElem?_eq_none hge] at hh
      cases hh
theorem own_below {w w' : World} {base : Nat} {e : TypeId} {size : Nat} {v : Value} {n : Nat} {xs : List Value} (h : w.ownsRow base e size v n xs) (hb : Below w.heap.size w w') : w'.ownsRow base e size v n xs :=
  own_heap h fun k _ hk => hb.block k hk
/-- Rows of different element types never share a block. -/
theorem own_ne {w : World} {base base' : Nat} {e e' : TypeId} {size size' : Nat} {v v' : Value} {n n' : Nat} {xs xs' : List Value} (h : w.ownsRow base e size v n xs) (h' : w.ownsRow base' e' size' v' n' xs') (hne : e ≠ e') : v.ownBlock = none ∨ v.ownBlock ≠ v'.ownBlock := by
  rcases h.2 with ⟨rfl, _⟩ | ⟨g, cap, cur, rfl, _, hh, _⟩
  · exact .inl rfl
  · right
    rcases h'.2 with ⟨rfl, _⟩ | ⟨g', cap', cur', rfl, _, hh', _⟩
    · simp [Value.ownBlock]
    · intro e1
      simp only [Value.ownBlock, Option.some.injEq] at e1
      subst e1
      rw [hh] at hh'
      simp only [Option.some.injEq, Obj.cells.injEq] at hh'
      exact hne hh'.2.1
theorem own_grown {w w' : World} {B B' size size' n n' : Nat} {e e' : TypeId} {v v' : Value} {xs xs' : List Value} (h : w.ownsRow B e size v n xs) (h2 : w.ownsRow B' e' size' v' n' xs') (hne : e ≠ e') (hg : w.grownBy w' v'.ownBlock) : w'.ownsRow B e size v n xs :=
  h.kept hg (own_ne h h2 hne)
theorem own_lt {w : World} {g o cap n : Nat} {cur : Array Value} {e : TypeId} (hh : w.heap[g]? = some (.cells cur e)) : g < w.heap.size := by
  rcases Nat.lt_or_ge g w.heap.size with hlt | hge
  · exact hlt
  · rw [Array.getElem?_eq_none hge] at hh
    cases hh
theorem cells_new {W : World} {N : Nat} {T : TypeId} (cs : List Value) (hN : N = W.heap.size) : ∀ (j : Nat) (u : Value), cs[j]? = some u → (W.alloc (.cells cs.toArray T)).cell? ((⟨N, 0, none⟩ : Addr).add j) = some u := by
  intro j u hu
  subst hN
  have ha : ((⟨W.heap.size, 0, none⟩ : Addr).add j) = ⟨W.heap.size, j, none⟩ := by
    unfold Addr.add
    split
    · rename_i h0
      rw [h0]
    · simp
  rw [ha, World.cell?_alloc_at]
  · simpa using hu
  · rfl

theorem info_int : (Try.prog.info? 3).map (fun i => (i.zero, i.size, i.bytes)) = some (some (.int .i64 0), 1, 8) := by kernel_rfl
theorem info_pair : (Try.prog.info? 37).map (fun i => (i.zero, i.size, i.bytes)) = some (some (.agg #[.int .i64 0, .int .i64 0]), 2, 16) := by kernel_rfl
theorem info_bool : (Try.prog.info? 4).map (fun i => (i.zero, i.size, i.bytes)) = some (some (.bool false), 1, 1) := by kernel_rfl
theorem info_item : (Try.prog.info? 47).map (fun i => (i.zero, i.size, i.bytes)) = some (some (.agg #[.string ByteArray.empty, .string ByteArray.empty, .int .i64 0, .int .i64 0, .int .i64 0]), 5, 56) := by kernel_rfl

def OwnPrs (w : World) (B : Nat) (v : Value) (l : List (Int × Int)) : Prop := w.ownsRow B 37 2 v l.length (l.flatMap prCells)
def OwnNts (w : World) (B : Nat) (v : Value) (l : List Int) : Prop := w.ownsRow B 3 1 v l.length (l.flatMap ntCells)
def OwnIts (w : World) (B : Nat) (v : Value) (l : List It) : Prop := w.ownsRow B 47 5 v l.length (l.flatMap It.cells)
def OwnBs (w : World) (B L : Nat) (l : List Bool) : Prop := w.ownsRow B 4 1 (.slice (some ⟨L, 0, none⟩) l.length l.length) l.length (l.map Value.bool)
theorem OwnPrs.nil (w : World) (B : Nat) : OwnPrs w B (.slice none 0 0) [] := World.ownsRow_nil _ _ _ _
theorem OwnNts.nil (w : World) (B : Nat) : OwnNts w B (.slice none 0 0) [] := World.ownsRow_nil _ _ _ _
theorem OwnIts.nil (w : World) (B : Nat) : OwnIts w B (.slice none 0 0) [] := World.ownsRow_nil _ _ _ _
theorem pr_one (x : Int × Int) : ∀ u ∈ prCells x, u.oneCell' = true := by
  intro u hu
  simp only [prCells, List.mem_cons, List.not_mem_nil, or_false] at hu
  rcases hu with rfl | rfl <;> rfl
theorem nt_one (x : Int) : ∀ u ∈ ntCells x, u.oneCell' = true := by
  intro u hu
  simp only [ntCells, List.mem_cons, List.not_mem_nil, or_false] at hu
  rcases hu with rfl
  rfl
theorem it_one (x : It) : ∀ u ∈ x.cells, u.oneCell' = true := by
  intro u hu
  simp only [It.cells, List.mem_cons, List.not_mem_nil, or_false] at hu
  rcases hu with rfl | rfl | rfl | rfl | rfl <;> rfl

theorem flat_at {α : Type} {f : α → List Value} {n : Nat} (hf : ∀ x, (f x).length = n) : ∀ (ts : List α) (j i : Nat) (x : α), ts[j]? = some x → i < n → (ts.flatMap f)[j * n + i]? = (f x)[i]?
  | [], _, _, _, h, _ => by simp at h
  | y :: ts, 0, i, x, h, hi => by
    obtain rfl := Option.some.inj h
    rw [Nat.zero_mul, Nat.zero_add, List.flatMap_cons, List.getElem?_append_left (by rw [hf]; exact hi)]
  | y :: ts, j + 1, i, x, h, hi => by
    have hl : (f y).length = n := hf y
    rw [List.flatMap_cons, List.getElem?_append_right (by rw [hl, Nat.add_mul]; omega), hl, show (j + 1) * n + i - n = j * n + i from by rw [Nat.add_mul]; omega]
    exact flat_at hf ts j i x (by simpa using h) hi
theorem flat_form {α : Type} {f : α → List Value} {n : Nat} (hf : ∀ x, (f x).length = n) {w : World} {B : Nat} {e : TypeId} {v : Value} {ts : List α} (h : w.ownsRow B e n v ts.length (ts.flatMap f)) : ∃ A c, v = .slice A ts.length c ∧
    ∀ (j : Nat) (x : α), ts[j]? = some x → ∃ b o, A = some ⟨b, o, none⟩ ∧ b < w.heap.size ∧ ∀ i v, (f x)[i]? = some v → w.cell? ⟨b, o + j * n + i, none⟩ = some v := by
  rcases h.2 with ⟨rfl, h0⟩ | ⟨g, cap, cur, rfl, _, hh, _⟩
  · refine ⟨none, 0, by rw [h0], fun j x hx => ?_⟩
    have hj : j < ts.length := (List.getElem?_eq_some_iff.1 hx).1
    omega
  · refine ⟨some ⟨g, 0, none⟩, cap, rfl, fun j x hx => ?_⟩
    have hj : j < ts.length := (List.getElem?_eq_some_iff.1 hx).1
    refine ⟨g, 0, rfl, own_lt (o := 0) (cap := 0) (n := 0) hh, fun i u hu => ?_⟩
    have hi : i < n := by
      have := (List.getElem?_eq_some_iff.1 hu).1
      rwa [hf] at this
    have hlt : j * n + i < ts.length * n := by
      have : (j + 1) * n ≤ ts.length * n := Nat.mul_le_mul_right _ hj
      rw [Nat.add_mul] at this
      omega
    rw [Nat.zero_add, h.cellAt (j * n + i) hlt, ← hu]
    exact flat_at hf ts j i x hx hi
theorem OwnPrs.form {w : World} {B : Nat} {v : Value} {l : List (Int × Int)} (h : OwnPrs w B v l) : ∃ A c, v = .slice A l.length c ∧ Prs w A l := flat_form (f := prCells) (fun _ => rfl) h
theorem OwnNts.form {w : World} {B : Nat} {v : Value} {l : List Int} (h : OwnNts w B v l) : ∃ A c, v = .slice A l.length c ∧ Nts w A l := flat_form (f := ntCells) (fun _ => rfl) h
theorem OwnIts.form {w : World} {B : Nat} {v : Value} {l : List It} (h : OwnIts w B v l) : ∃ A c, v = .slice A l.length c ∧ Its w A l := flat_form (f := It.cells) (fun _ => rfl) h

theorem OwnBs.at {w : World} {B L : Nat} {l : List Bool} (h : OwnBs w B L l) {j : Nat} {b : Bool} (hj : l[j]? = some b) : w.cell? ⟨L, j, none⟩ = some (.bool b) ∧ w.frozen? ⟨L, j, none⟩ = false := by
  have hlt : j < l.length := (List.getElem?_eq_some_iff.1 hj).1
  exact ⟨by rw [World.ownsRow.cellAt h j (by omega)]; simp [hj], World.ownsRow.frozenAt h j⟩
theorem OwnBs.lt {w : World} {B L : Nat} {l : List Bool} (h : OwnBs w B L l) : B ≤ L ∧ L < w.heap.size := World.ownsRow.lt h L rfl
theorem OwnBs.stored {w : World} {B L : Nat} {l : List Bool} (h : OwnBs w B L l) (j : Nat) (b : Bool) : OwnBs (w.setCell ⟨L, j, none⟩ (.bool b)) B L (l.set j b) ∧ w.grownBy (w.setCell ⟨L, j, none⟩ (.bool b)) (some L) := by
  have hst := World.ownsRow.stored h j (.bool b)
  refine ⟨?_, hst.2⟩
  unfold OwnBs
  rw [List.length_set, List.map_set]
  exact hst.1
theorem OwnBs.below {w w' : World} {B L : Nat} {l : List Bool} (h : OwnBs w B L l) (hb : Below w.heap.size w w') : OwnBs w' B L l := own_below h hb
theorem OwnBs.other {w : World} {B L L' j : Nat} {l : List Bool} {u : Value} (h : OwnBs w B L l) (hne : L ≠ L') : OwnBs (w.setCell ⟨L', j, none⟩ u) B L l :=
  World.ownsRow.kept h (row := some L') ⟨rfl, rfl, rfl, by simp, fun k _ hk => Below.heap_setCell w ⟨L', j, none⟩ u k (fun e => hk (by rw [e]))⟩ (Or.inr (by simpa [Value.ownBlock] using hne))
theorem OwnBs.mono {w : World} {B B' L : Nat} {l : List Bool} (h : OwnBs w B L l) (hb : B' ≤ B) : OwnBs w B' L l := own_mono h hb
end Go.Proofs.Ytclaijheemkegaa

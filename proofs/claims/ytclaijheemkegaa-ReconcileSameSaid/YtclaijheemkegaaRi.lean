/-
  Worlds with more blocks, one set behind another; what holds there.
-/
import Derived.Test.YtclaijheemkegaaRh
namespace Go.Proofs.Ytclaijheemkegaa
open Go.RowKit
set_option linter.unusedSimpArgs false
set_option linter.unusedVariables false

def More.add (s : More) (o : Obj) : More := ⟨s.L ++ [o], s.d⟩
theorem alloc_add (w : World) (s : More) (o : Obj) : (ext w s).alloc o = ext w (s.add o) := by simp [ext, World.alloc, More.add]
theorem n_add (s : More) (o : Obj) : (s.add o).n = s.n + 1 := by simp [More.add, More.n]
def More.le (s t : More) : Prop := ∃ l, t.L = s.L ++ l
theorem More.le_refl (s : More) : More.le s s := ⟨[], by simp⟩
theorem More.le_trans {s t u : More} (h : More.le s t) (h' : More.le t u) : More.le s u := by
  obtain ⟨l, h⟩ := h
  obtain ⟨l', h'⟩ := h'
  exact ⟨l ++ l', by rw [h', h, List.append_assoc]⟩
theorem More.le_cat (s u : More) : More.le s (s.cat u) := ⟨u.L, rfl⟩
theorem More.le_add (s : More) (o : Obj) : More.le s (s.add o) := ⟨[o], rfl⟩
theorem More.le_draw {s t : More} (h : More.le s t) : More.le s t.draw := h
theorem More.draw_le {s t : More} (h : More.le s.draw t) : More.le s t := h
theorem below_le {w : World} {s t : More} (h : More.le s t) : Below (ext w s).heap.size (ext w s) (ext w t) := by
  obtain ⟨l, h⟩ := h
  refine ⟨rfl, rfl, rfl, by simp [ext, h], fun k hk => ?_⟩
  simp only [ext, List.size_toArray, Array.size_append] at hk
  simp only [ext, h, Array.getElem?_append, List.getElem?_toArray, List.getElem?_append]
  split
  · rfl
  · rw [if_pos (by omega)]
/-- The first cell of a block that was made. -/
theorem cell_le {w : World} {s t : More} {v : Value} {e : TypeId} {N : Nat} (h : More.le (s.add (.cells #[v] e)) t) (hN : N = w.heap.size + s.n) : (ext w t).cell? ⟨N, 0, none⟩ = some v := by
  subst hN
  have hb := below_le (w := w) h
  have hs : (ext w (s.add (.cells #[v] e))).heap.size = w.heap.size + s.n + 1 := by rw [size_ext, n_add]; omega
  rw [hb.cell (p := ⟨w.heap.size + s.n, 0, none⟩) (by rw [hs]; exact Nat.lt_succ_self _), ← alloc_add]
  have : w.heap.size + s.n = (ext w s).heap.size := (size_ext w s).symm
  rw [this]
  generalize ext w s = X
  rw [World.cell?_alloc_at _ _ _ _ rfl]
  rfl
theorem start_ext (w : World) : ∃ (W : World) (s : More), w = ext W s ∧ W = w := ⟨w, ⟨[], w.drawn⟩, by simp [ext], rfl⟩

theorem Grp.lt {w : World} {base D n m : Nat} {ts : List It} (h : Grp w base D n ts m) : D < base ∧ D < w.heap.size := by
  obtain ⟨Dm, ⟨es, clock, hb, F, hs, hD, hbb, hlen, hap⟩, hrel⟩ := h
  exact ⟨hbb, (Array.getElem?_eq_some_iff.1 hb).1⟩
theorem Grp.below {w w' : World} {base D n m : Nat} {ts : List It} (h : Grp w base D n ts m) (k : Below w.heap.size w w') : Grp w' base D n ts m := by
  obtain ⟨Dm, ⟨es, clock, hb, F, hs, hD, hbb, hlen, hap⟩, hrel⟩ := h
  have hlt : D < w.heap.size := (Array.getElem?_eq_some_iff.1 hb).1
  have keep : ∀ v zs, w.ownsInts base 3 .i64 v zs → w'.ownsInts base 3 .i64 v zs := fun v zs h => ⟨own_below h.1 k, h.2⟩
  have hst : ∀ x ∈ es.toList, ∀ z, rowElem (H := Unit) w base 3 .i64 x.val = some z → rowElem w' base 3 .i64 x.val = some z := fun x hx z hz => by
    obtain ⟨zs, ho, rfl⟩ := rowElem_inv hz
    exact rowElem_mk (keep _ _ ho)
  obtain ⟨F1, hmap, _⟩ := F.stay hst
  refine ⟨Dm, ⟨es, clock, (k.block D hlt).trans hb, F1, hs, by rw [hmap]; exact hD, hbb, fun x hx zs ho => ?_, hap⟩, hrel⟩
  obtain ⟨y, hy⟩ := F.reads x hx
  obtain ⟨z, hz, _⟩ := WideElems.rd_val hy
  obtain ⟨zs0, ho0, _⟩ := rowElem_inv hz
  rw [ho.unique (keep _ _ ho0)]
  exact hlen x hx zs0 ho0
theorem Grp.ext {w : World} {base D n m : Nat} {ts : List It} (h : Grp w base D n ts m) (s : More) : Grp (ext w s) base D n ts m := h.below (below_ext (Below.refl _ _) (Nat.le_refl _) s)

theorem OwnNts.add {W : World} {s : More} {B : Nat} {v : Value} {l : List Int} (h : OwnNts (Go.Proofs.Ytclaijheemkegaa.ext W s) B v l) (o : Obj) : OwnNts (Go.Proofs.Ytclaijheemkegaa.ext W (s.add o)) B v l := own_below h (below_le (More.le_add s o))

/-- The fields of an item, in a world with more blocks. -/
theorem of_ext (xa xb : ByteArray) (xk xs' xn : Int) (W : World) (t : More) :
    Calls Try.prog 22 #[.agg #[.string xa, .string xb, .int .i64 xk, .int .i64 xs', .int .i64 xn]] (ext W t) fun e w' => ∃ s : More, e = .returned (.agg #[.string xa, .string xb, .int .i64 xk]) ∧ w' = ext W s ∧ More.le t s := by
  refine (of_any xa xb xk xs' xn _).mono ?_
  rintro e w' ⟨rfl, hb⟩
  obtain ⟨s, rfl⟩ := ext_of_below hb
  exact ⟨t.cat s, rfl, ext_ext _ _ _, More.le_cat _ _⟩

/-- The open positions, in a world with more blocks. -/
theorem open_ext (l : List Bool) (L c n : Nat) (W : World) (t : More) (hl : l.length = n) (hn : n ≤ 1000) {B : Nat} (h : OwnBs W B L l) :
    Calls Try.prog 24 #[.slice (some ⟨L, 0, none⟩) n c] (Go.Proofs.Ytclaijheemkegaa.ext W t) fun e w' => ∃ (s : More) (A : Option Addr) (q : Nat), e = .returned (.slice A (leftN l n).length q) ∧ OwnNts (Go.Proofs.Ytclaijheemkegaa.ext W s) W.heap.size (.slice A (leftN l n).length q) (leftN l n) ∧ w' = Go.Proofs.Ytclaijheemkegaa.ext W s ∧ More.le t s := by
  refine (open_any' l L c n _ hl hn (h.below (below_ext (Below.refl _ _) (Nat.le_refl _) t))).mono ?_
  rintro e w' ⟨v, rfl, ho, hb⟩
  obtain ⟨s, rfl⟩ := ext_of_below hb
  obtain ⟨A, q, rfl, -⟩ := ho.form
  rw [ext_ext] at ho ⊢
  exact ⟨t.cat s, A, q, rfl, own_mono ho (by rw [size_ext]; omega), rfl, More.le_cat _ _⟩
theorem OwnNts.le {W : World} {s t : More} {B : Nat} {v : Value} {l : List Int} (h : OwnNts (Go.Proofs.Ytclaijheemkegaa.ext W s) B v l) (hle : More.le s t) : OwnNts (Go.Proofs.Ytclaijheemkegaa.ext W t) B v l := own_below h (below_le hle)

theorem own_lowx {W : World} {s : More} {B size n k i : Nat} {e : TypeId} {v x : Value} {xs : List Value} (h : (Go.Proofs.Ytclaijheemkegaa.ext W s).ownsRow B e size v n xs) (hk : k < B) (hw : k < W.heap.size) : (Go.Proofs.Ytclaijheemkegaa.ext (W.setCell ⟨k, i, none⟩ x) s).ownsRow B e size v n xs := by
  rw [← setCell_ext _ _ _ _ _ hw]
  exact own_low h hk
theorem own_low4 {W : World} {s : More} {B size n k : Nat} {e : TypeId} {v a b c d : Value} {xs : List Value} (h : (Go.Proofs.Ytclaijheemkegaa.ext W s).ownsRow B e size v n xs) (hk : k < B) (hw : k < W.heap.size) : (Go.Proofs.Ytclaijheemkegaa.ext ((((W.setCell ⟨k, 0, none⟩ a).setCell ⟨k, 1, none⟩ b).setCell ⟨k, 2, none⟩ c).setCell ⟨k, 3, none⟩ d) s).ownsRow B e size v n xs :=
  own_lowx (own_lowx (own_lowx (own_lowx h hk hw) hk (by simpa using hw)) hk (by simpa using hw)) hk (by simpa using hw)

/-- The map's row for an item's ends, and the way to lay one more position there; out of both worlds in which it may be looked up. -/
theorem Grp.look2 {W : World} {base D n : Nat} {ts : List It} {m : Nat} (h : Grp W base D n ts m) (s : More) {y : It} (hn : n < maxLen) (hm : m ≤ 100) (hy : ts[m]? = some y) (ha : y.a.size ≤ maxLen) (hb : y.b.size ≤ maxLen) (hk : fits y.kind) {wc : World} (hwc : Kp D D wc W) (hbase : wc.heap.size = base) {Mp B : Nat} {xs' xn : Int} {cs : Array Value} {fr : Nat × Nat} (hh : Held W Mp D B y.a y.b y.kind xs' xn) (hB : W.heap[B]? = some (.cells cs 47 fr)) (hMp : Mp < base) (hMB : base ≤ B) (hDM : D ≠ Mp) :
    ∃ v l, (Instr.lookup 51 (.map (some D)) (.agg #[.string y.a, .string y.b, .int .i64 y.kind]) false).run Try.prog (Go.Proofs.Ytclaijheemkegaa.ext W s) = .ok v (Go.Proofs.Ytclaijheemkegaa.ext W s) ∧ OwnNts (Go.Proofs.Ytclaijheemkegaa.ext W s) base v l ∧ l.length ≤ n ∧
      ∀ (wa : World), (Go.Proofs.Ytclaijheemkegaa.ext W s = wa ∨ ∃ o, wa = (Go.Proofs.Ytclaijheemkegaa.ext W s).alloc o) → ∀ (g cap : Nat) (w6 : World), w6.ownsRow base 3 1 (.slice (some ⟨g, 0, none⟩) (l.length + 1) cap) (l.length + 1) (l.flatMap ntCells ++ ntCells (m : Int)) → wa.grownBy w6 v.ownBlock → (v.ownBlock = some g ∨ g = wa.heap.size) →
        ∃ w2, (Instr.mapUpdate 51 (.map (some D)) (.agg #[.string y.a, .string y.b, .int .i64 y.kind]) (.slice (some ⟨g, 0, none⟩) (l.length + 1) cap)).run Try.prog w6 = .ok () w2 ∧ Grp w2 base D (n + 1) ts (m + 1) ∧ Kp D D wc w2 ∧ Held w6 Mp D B y.a y.b y.kind xs' xn ∧ Held w2 Mp D B y.a y.b y.kind xs' xn := by
  obtain ⟨v, hrun, ho, hl, back⟩ := Grp.look (h.ext s) (y := y) hn hm ha hb hk
  refine ⟨v, natI (endsN y ts m), hrun, ho, by simpa [natI] using hl, fun wa hla g cap w6 ho6 hg hat => ?_⟩
  obtain ⟨w2, hrun2, hG2, hg2⟩ := Grp.put (back hy) hla hg ho6 hat
  have k0 : Kp D D wc (Go.Proofs.Ytclaijheemkegaa.ext W s) := hwc.ext s
  have hBl : B < W.heap.size := (Array.getElem?_eq_some_iff.1 hB).1
  have hMl : Mp < W.heap.size := by omega
  have h0 : Held (Go.Proofs.Ytclaijheemkegaa.ext W s) Mp D B y.a y.b y.kind xs' xn := hh.below (below_ext (Below.refl _ _) (Nat.le_refl _) s) hMl hBl
  have l0 : W.heap.size ≤ (Go.Proofs.Ytclaijheemkegaa.ext W s).heap.size := by rw [size_ext]; omega
  have k1 : Kp D D wc wa ∧ Held wa Mp D B y.a y.b y.kind xs' xn ∧ W.heap.size ≤ wa.heap.size := by
    rcases hla with rfl | ⟨o, rfl⟩
    · exact ⟨k0, h0, l0⟩
    · exact ⟨k0.alloc o, h0.below (Below.alloc (Below.refl _ _) (Nat.le_refl _) _) (by omega) (by omega), by rw [World.size_alloc]; omega⟩
  obtain ⟨k1, h1, l1⟩ := k1
  have h6 : Held w6 Mp D B y.a y.b y.kind xs' xn := h1.grown hg (by omega) (by omega) (own_base ho hMp) (own_far ho ((ext_heap hBl).trans hB) (by decide))
  have hl6 := hg.size
  have hDb := (hG2.lt).1
  refine ⟨w2, hrun2, hG2, ?_, h6, h6.grown hg2 (by omega) (by omega) (fun e => hDM (Option.some.inj e).symm) (fun e => by
    have := Option.some.inj e
    omega)⟩
  exact (k1.grown hg fun k hk => by rw [hbase]; exact own_up ho k hk).grownM hg2
end Go.Proofs.Ytclaijheemkegaa

/-
  Small lemmas that every text of this seat uses: results, a region in which callees make memory, an argument read again behind the call, a struct by value taken apart. No program is named here.
-/
import Derived.WalkKit
import Derived.WalkSpells
import Derived.WalkLawsBesides
import Derived.ProofKit
import Derived.OpenShut
import Derived.ShutString
import Derived.ChangeOld
import Derived.Below
import Derived.Lib.Hide
import Derived.Handy
import Derived.Deep.Quiet
import Derived.Deep.QuietTactic
import Derived.Deep.Fields
import Derived.Deep.Slices
namespace Go.Proofs.YtmodghiokoiipaaGreat
open Go.RowKit Go.ChangeShapes Go.WideShapes Go.ChangeAt Go.Deep

theorem ret_bool {a b : Bool} (h : a = b) : Ending.returned (.bool a) = .returned (.bool b) := by rw [h]
theorem ret_int {k : IntKind} {a b : Int} (h : a = b) : Ending.returned (.int k a) = .returned (.int k b) := by rw [h]

/-- Two results, the first a wallet's five numbers. -/
theorem ret_w {a b f h u e a' b' f' h' u' e' : Int} (ha : a = a') (hb : b = b') (hf : f = f') (hh : h = h') (hu : u = u') (he : e = e') :
    Ending.returned (.tuple #[.agg #[.int .i64 a, .int .i64 b, .int .i64 f, .int .i64 h, .int .i64 u], .int .i64 e]) = .returned (.tuple #[.agg #[.int .i64 a', .int .i64 b', .int .i64 f', .int .i64 h', .int .i64 u'], .int .i64 e']) := by
  rw [ha, hb, hf, hh, hu, he]

/-- Behind a call that leaves all old blocks as they were: old cells and marks. -/
theorem bcell {W w1 : World} (hb : Below W.heap.size W w1) : (∀ b o, b < W.heap.size → w1.cell? ⟨b, o, none⟩ = W.cell? ⟨b, o, none⟩) ∧ (∀ b o, b < W.heap.size → w1.frozen? ⟨b, o, none⟩ = W.frozen? ⟨b, o, none⟩) :=
  ⟨fun b o h => hb.cell (p := ⟨b, o, none⟩) h, fun b o h => hb.frozen (p := ⟨b, o, none⟩) h⟩

/-- What has come to a world: new blocks, and the count of draws. -/
structure More where
  L : List Obj
  d : Nat
instance : Inhabited More := ⟨⟨[], 0⟩⟩
def More.n (s : More) : Nat := s.L.length
def More.cat (s t : More) : More := ⟨s.L ++ t.L, t.d⟩
def More.draw (s : More) : More := ⟨s.L, s.d + 1⟩

/-- The world w with new blocks laid behind its own. Whatever a callee does that changes nothing that was there, the world behind it is of this form. -/
def ext (w : World) (s : More) : World := { w with heap := w.heap ++ s.L.toArray, drawn := s.d }

theorem ext_of_below {w w' : World} (h : Below w.heap.size w w') : ∃ s, w' = ext w s := by
  refine ⟨⟨w'.heap.toList.drop w.heap.size, w'.drawn⟩, ?_⟩
  obtain ⟨heap, tape, drawn, os, output⟩ := w'
  obtain ⟨h1, h2, h3, h4, h5⟩ := h
  simp only at h1 h2 h3 h4 h5
  subst h1 h2 h3
  simp only [ext, World.mk.injEq, and_true]
  apply Array.ext_getElem?
  intro i
  simp only [Array.getElem?_append, List.getElem?_toArray, List.getElem?_drop]
  split
  · rename_i hi
    exact h5 i hi
  · rename_i hi
    rw [Nat.add_sub_cancel' (by omega), Array.getElem?_toList]

theorem ext_heap {w : World} {s : More} {n : Nat} (hn : n < w.heap.size) : (ext w s).heap[n]? = w.heap[n]? := by
  simp only [ext, Array.getElem?_append, if_pos hn]
@[go_sem] theorem size_ext (w : World) (s : More) : (ext w s).heap.size = w.heap.size + s.n := by simp [ext, More.n]
@[go_sem] theorem n_draw (s : More) : s.draw.n = s.n := rfl
theorem below_ext {B : Nat} {a w : World} (h : Below B a w) (hB : B ≤ w.heap.size) (s : More) : Below B a (ext w s) :=
  h.trans ⟨rfl, rfl, rfl, by simp [ext], fun _ hk => ext_heap (Nat.lt_of_lt_of_le hk hB)⟩
@[go_sem] theorem cell?_ext (w : World) (s : More) (n i : Nat) (hn : n < w.heap.size) : (ext w s).cell? ⟨n, i, none⟩ = w.cell? ⟨n, i, none⟩ := by simp [World.cell?, ext_heap hn]
@[go_sem] theorem frozen?_ext (w : World) (s : More) (n i : Nat) (hn : n < w.heap.size) : (ext w s).frozen? ⟨n, i, none⟩ = w.frozen? ⟨n, i, none⟩ := by simp [World.frozen?, ext_heap hn]
@[go_sem] theorem shape?_ext (w : World) (s : More) (n : Nat) (hn : n < w.heap.size) : (ext w s).shape? n = w.shape? n := by simp [World.shape?, ext_heap hn]
@[go_sem] theorem ext_ext (w : World) (s t : More) : ext (ext w s) t = ext w (s.cat t) := by simp [ext, More.cat]
@[go_sem] theorem drew_ext (w : World) (s : More) : (ext w s).drew = ext w s.draw := rfl
@[go_sem] theorem setCell_ext (w : World) (s : More) (n i : Nat) (v : Value) (hn : n < w.heap.size) : (ext w s).setCell ⟨n, i, none⟩ v = ext (w.setCell ⟨n, i, none⟩ v) s := by
  simp only [World.setCell, ext, World.mk.injEq, and_true]
  apply Array.ext_getElem?
  intro k
  by_cases hk : n = k
  · subst hk
    simp [Array.getElem?_modify, Array.getElem?_append, hn, Array.getElem_modify]
  · simp [Array.getElem?_modify, Array.getElem?_append, hk]

/-! Sizes of heaps, one below the other, as the walk's simp meets them. -/
@[go_sem] theorem lt_a0 (a k : Nat) (h : 0 < k) : a < a + k := by omega
@[go_sem] theorem lt_b0 (a j k : Nat) (h : j < k) : a + j < a + k := by omega
@[go_sem] theorem lt_c0 (b a k : Nat) (h : b < a) : b < a + k := by omega
@[go_sem] theorem lt_a1 (a k : Nat) (x1 : Nat) (h : 0 < k) : a < a + k + x1 := by omega
@[go_sem] theorem lt_b1 (a j k : Nat) (x1 : Nat) (h : j < k) : a + j < a + k + x1 := by omega
@[go_sem] theorem lt_c1 (b a k : Nat) (x1 : Nat) (h : b < a) : b < a + k + x1 := by omega
@[go_sem] theorem lt_a2 (a k : Nat) (x1 x2 : Nat) (h : 0 < k) : a < a + k + x1 + x2 := by omega
@[go_sem] theorem lt_b2 (a j k : Nat) (x1 x2 : Nat) (h : j < k) : a + j < a + k + x1 + x2 := by omega
@[go_sem] theorem lt_c2 (b a k : Nat) (x1 x2 : Nat) (h : b < a) : b < a + k + x1 + x2 := by omega
@[go_sem] theorem lt_a3 (a k : Nat) (x1 x2 x3 : Nat) (h : 0 < k) : a < a + k + x1 + x2 + x3 := by omega
@[go_sem] theorem lt_b3 (a j k : Nat) (x1 x2 x3 : Nat) (h : j < k) : a + j < a + k + x1 + x2 + x3 := by omega
@[go_sem] theorem lt_c3 (b a k : Nat) (x1 x2 x3 : Nat) (h : b < a) : b < a + k + x1 + x2 + x3 := by omega
@[go_sem] theorem lt_a4 (a k : Nat) (x1 x2 x3 x4 : Nat) (h : 0 < k) : a < a + k + x1 + x2 + x3 + x4 := by omega
@[go_sem] theorem lt_b4 (a j k : Nat) (x1 x2 x3 x4 : Nat) (h : j < k) : a + j < a + k + x1 + x2 + x3 + x4 := by omega
@[go_sem] theorem lt_c4 (b a k : Nat) (x1 x2 x3 x4 : Nat) (h : b < a) : b < a + k + x1 + x2 + x3 + x4 := by omega
@[go_sem] theorem lt_a5 (a k : Nat) (x1 x2 x3 x4 x5 : Nat) (h : 0 < k) : a < a + k + x1 + x2 + x3 + x4 + x5 := by omega
@[go_sem] theorem lt_b5 (a j k : Nat) (x1 x2 x3 x4 x5 : Nat) (h : j < k) : a + j < a + k + x1 + x2 + x3 + x4 + x5 := by omega
@[go_sem] theorem lt_c5 (b a k : Nat) (x1 x2 x3 x4 x5 : Nat) (h : b < a) : b < a + k + x1 + x2 + x3 + x4 + x5 := by omega
@[go_sem] theorem lt_a6 (a k : Nat) (x1 x2 x3 x4 x5 x6 : Nat) (h : 0 < k) : a < a + k + x1 + x2 + x3 + x4 + x5 + x6 := by omega
@[go_sem] theorem lt_b6 (a j k : Nat) (x1 x2 x3 x4 x5 x6 : Nat) (h : j < k) : a + j < a + k + x1 + x2 + x3 + x4 + x5 + x6 := by omega
@[go_sem] theorem lt_c6 (b a k : Nat) (x1 x2 x3 x4 x5 x6 : Nat) (h : b < a) : b < a + k + x1 + x2 + x3 + x4 + x5 + x6 := by omega
@[go_sem] theorem lt_a7 (a k : Nat) (x1 x2 x3 x4 x5 x6 x7 : Nat) (h : 0 < k) : a < a + k + x1 + x2 + x3 + x4 + x5 + x6 + x7 := by omega
@[go_sem] theorem lt_b7 (a j k : Nat) (x1 x2 x3 x4 x5 x6 x7 : Nat) (h : j < k) : a + j < a + k + x1 + x2 + x3 + x4 + x5 + x6 + x7 := by omega
@[go_sem] theorem lt_c7 (b a k : Nat) (x1 x2 x3 x4 x5 x6 x7 : Nat) (h : b < a) : b < a + k + x1 + x2 + x3 + x4 + x5 + x6 + x7 := by omega
@[go_sem] theorem lt_a8 (a k : Nat) (x1 x2 x3 x4 x5 x6 x7 x8 : Nat) (h : 0 < k) : a < a + k + x1 + x2 + x3 + x4 + x5 + x6 + x7 + x8 := by omega
@[go_sem] theorem lt_b8 (a j k : Nat) (x1 x2 x3 x4 x5 x6 x7 x8 : Nat) (h : j < k) : a + j < a + k + x1 + x2 + x3 + x4 + x5 + x6 + x7 + x8 := by omega
@[go_sem] theorem lt_c8 (b a k : Nat) (x1 x2 x3 x4 x5 x6 x7 x8 : Nat) (h : b < a) : b < a + k + x1 + x2 + x3 + x4 + x5 + x6 + x7 + x8 := by omega

/-- A region that draws its order, whose operations read old memory alone and whose callees change nothing that was there: one walk in the order of the text. -/
theorem wp_region_more {P : Program} {id : Nat} {Q : Exit → Act → World → Prop} {a : Act} {w : World} {l : List Oper} (hm : P.follows .mixedOrders = true) (hB : Region.lexB .any l.toArray = true)
    (h : wpQuiet P l.toArray (fun w' => ∃ s : More, w' = ext w s) (fun a' => ∀ w', (∃ s : More, w' = ext w s) → Q .normal a' w') l a) : (Code.region id l.toArray true).wp P Q a w :=
  wp_region_quiet (C := fun w' => ∃ s : More, w' = ext w s) hm hB ⟨⟨[], w.drawn + 1⟩, by simp [ext]⟩ (by simpa using h)

theorem more_call {P : Program} {f : FuncId} {args : Array Value} {w : World} {s : More} {v : Value}
    (h : Calls P f args (ext w s) fun e w' => e = .returned v ∧ Below (ext w s).heap.size (ext w s) w') : Calls P f args (ext w s) fun e w'' => e = .returned v ∧ ∃ t : More, w'' = ext w t :=
  h.mono fun _ w'' ⟨he, hb⟩ => ⟨he, by
    obtain ⟨t, rfl⟩ := ext_of_below hb
    exact ⟨s.cat t, ext_ext _ _ _⟩⟩
theorem more_call2 {P : Program} {f : FuncId} {args : Array Value} {w : World} {r s : More} {v : Value}
    (h : Calls P f args (ext w (r.cat s)) fun e w' => e = .returned v ∧ Below (ext w (r.cat s)).heap.size (ext w (r.cat s)) w') : Calls P f args (ext w (r.cat s)) fun e w'' => e = .returned v ∧ ∃ t : More, w'' = ext w (r.cat t) :=
  h.mono fun _ w'' ⟨he, hb⟩ => ⟨he, by
    obtain ⟨t, rfl⟩ := ext_of_below hb
    exact ⟨s.cat t, by simp [ext, More.cat]⟩⟩
theorem same_below {P : Program} {f : FuncId} {args : Array Value} {w : World} {v : Value} (h : Calls P f args w fun e w' => e = .returned v ∧ w = w') : Calls P f args w fun e w' => e = .returned v ∧ Below w.heap.size w w' :=
  h.mono fun _ _ ⟨he, hw⟩ => ⟨he, hw ▸ Below.refl _ _⟩

/-- All arguments read behind the call as they did before. -/
theorem trodAll_below {H : Type} {enc : TypeId × Value → H} {P : Program} (hl : laidOutB P = true) {W W' : World} (hb : Below W.heap.size W W') :
    ∀ (ts : List TypeId) (vs : List Value) (ds : List (DataW H)) (ps : List MemPlace), (ts.all fun t => P.readableRec t && decide (t < P.types.size)) = true →
      DataW.TrodAll enc P W 0 (fun _ => true) true ts vs ds ps → (∀ x ∈ ps, x.block < W.heap.size) → DataW.TrodAll enc P W' 0 (fun b => decide (b < W.heap.size)) true ts vs ds ps
  | [], vs, ds, ps, _, h, _ => by
    obtain ⟨rfl, rfl, rfl⟩ := trodAll_nil h
    exact trodAll_mk0
  | t :: ts, vs, ds, ps, hr, h, hlt => by
    obtain ⟨v, vs', d, ds', p, q, rfl, rfl, rfl, h0, r0⟩ := trodAll_cons h
    simp only [List.all_cons, Bool.and_eq_true, decide_eq_true_eq] at hr
    exact trodAll_cons_mk (Below.trod hl hr.1.1 hr.1.2 h0 hb fun x hx => hlt x (List.mem_append_left _ hx)) (trodAll_below hl hb ts vs' ds' q (by simpa using hr.2) r0 fun x hx => hlt x (List.mem_append_right _ hx))

theorem trodAll_lt {H : Type} {enc : TypeId × Value → H} {P : Program} {W : World} {base : Nat} {spare : Nat → Bool} {held : Bool} :
    ∀ (ts : List TypeId) (vs : List Value) (ds : List (DataW H)) (ps : List MemPlace), DataW.TrodAll enc P W base spare held ts vs ds ps → ∀ x ∈ ps, x.block < W.heap.size
  | [], vs, ds, ps, h => by
    obtain ⟨rfl, rfl, rfl⟩ := trodAll_nil h
    intro x hx
    cases hx
  | t :: ts, vs, ds, ps, h => by
    obtain ⟨v, vs', d, ds', p, q, rfl, rfl, rfl, ⟨m, hm⟩, r0⟩ := trodAll_cons h
    intro x hx
    rcases List.mem_append.1 hx with hx | hx
    · exact DataW.trod_lt m _ _ _ hm x hx
    · exact trodAll_lt ts vs' ds' q r0 x hx

/-- A struct by value whose fields are one cell each, of whatever number: its cells, each with its own reading. -/
theorem open_agg {H : Type} {enc : TypeId × Value → H} {P : Program} {w : World} {base : Nat} {spare : Nat → Bool} {held : Bool} {r : Reach} {b0 : Nat} {t : TypeId} {fs : Array Field} {v : Value} {d : DataW H} {p : List MemPlace}
    (hs : P.underlying t = some (.struct fs)) (hone : oneCellFields P fs = true) (hC : P.cellsOf t = fs.size) (hv : Value.okWide P w r b0 t v) (h : DataW.Trod enc P w base spare held t v d p) :
    ∃ cs : List Value, v = .agg cs.toArray ∧ cs.length = fs.size ∧ ∀ (i : Nat) (f : Field), fs[i]? = some f → ∃ (n : Nat) (c : Value) (y : DataW H × List MemPlace), cs[i]? = some c ∧ DataW.trod enc P w base spare held n f.type [c] = some y ∧ ∀ x ∈ y.2, x ∈ p := by
  obtain ⟨⟨cs⟩, rfl, hsz⟩ := okWide_struct hs hv
  obtain ⟨fuel, hf⟩ := h
  obtain ⟨xs, n, _, hx, _, hlen, hg⟩ := DataW.trod_struct hs hf
  simp only [Prod.mk.injEq] at hx
  refine ⟨cs, rfl, by simpa using hsz.trans hC, fun i f hi => ?_⟩
  have hlt : i < fs.size := (Array.getElem?_eq_some_iff.1 hi).1
  obtain ⟨o, k⟩ := hone_of hone i f hi
  have hcl : cs.length = fs.size := by simpa using hsz.trans hC
  have hg' := hg i f hi
  rw [o, k] at hg'
  have hcs : cs[i]? = some (cs[i]'(by omega)) := List.getElem?_eq_getElem (by omega)
  have hxs : xs[i]? = some (xs[i]'(by omega)) := List.getElem?_eq_getElem (by omega)
  refine ⟨n, cs[i]'(by omega), xs[i]'(by omega), hcs, ?_, fun x hxm => ?_⟩
  · rw [← hxs, ← hg']
    congr 1
    simp only [Value.cells]
    rw [List.drop_eq_getElem_cons (by omega)]
    rfl
  · rw [hx.2]
    exact List.mem_flatMap.2 ⟨_, List.getElem_mem _, hxm⟩

#print axioms open_agg
end Go.Proofs.YtmodghiokoiipaaGreat

/-
  Lists of items, pairs, numbers and usages, a match and a period that came in as arguments.
-/
import Derived.Test.YtclaijheemkegaaOpenS
import Derived.Test.YtclaijheemkegaaR14
namespace Go.Proofs.Ytclaijheemkegaa
open Go.RowKit Go.ChangeShapes Go.WideShapes Go.Deep
set_option linter.unusedVariables false

theorem fits_of {n : Int} (h : (Lit.int .i64 n).wf = true) : fits n := by
  simp only [Lit.wf, Bool.and_eq_true, decide_eq_true_eq] at h
  exact ⟨h.1, h.2⟩
structure Ug where
  id : Int
  kind : Int
  acc : Int
  sub : Int
  a : ByteArray
  b : ByteArray
  start : Int
  units : Int
  trunk : Int
  inb : Bool
  src : Int
  ser : Int
def Ug.cells (u : Ug) : List Value := [.int .i64 u.id, .int .i64 u.kind, .int .i64 u.acc, .int .i64 u.sub, .string u.a, .string u.b, .int .i64 u.start, .int .i64 u.units, .int .i64 u.trunk, .bool u.inb, .int .i64 u.src, .int .i64 u.ser]
def Ugs (w : World) (A : Option Addr) (us : List Ug) : Prop := ∀ (j : Nat) (x : Ug), us[j]? = some x → ∃ b o, A = some ⟨b, o, none⟩ ∧ b < w.heap.size ∧ ∀ i v, x.cells[i]? = some v → w.cell? ⟨b, o + j * 12 + i, none⟩ = some v
theorem Ugs.below {w w' : World} {A : Option Addr} {us : List Ug} (h : Ugs w A us) (hb : Below w.heap.size w w') : Ugs w' A us := fun j x hx => by
  obtain ⟨b, o, hA, hlt, hc⟩ := h j x hx
  exact ⟨b, o, hA, Nat.lt_of_lt_of_le hlt hb.size, fun i v hv => (hb.cell (p := ⟨b, o + j * 12 + i, none⟩) hlt).trans (hc i v hv)⟩
theorem ugs_cells {w : World} {A : Option Addr} {us : List Ug} (h : Ugs w A us) {j : Nat} {x : Ug} (hx : us[j]? = some x) : ∃ b o, A = some ⟨b, o, none⟩ ∧ b < w.heap.size ∧
    w.cell? ⟨b, o + j * 12, none⟩ = some (.int .i64 x.id) ∧ w.cell? ⟨b, o + j * 12 + 1, none⟩ = some (.int .i64 x.kind) ∧ w.cell? ⟨b, o + j * 12 + 2, none⟩ = some (.int .i64 x.acc) ∧ w.cell? ⟨b, o + j * 12 + 3, none⟩ = some (.int .i64 x.sub) ∧ w.cell? ⟨b, o + j * 12 + 4, none⟩ = some (.string x.a) ∧ w.cell? ⟨b, o + j * 12 + 5, none⟩ = some (.string x.b) ∧ w.cell? ⟨b, o + j * 12 + 6, none⟩ = some (.int .i64 x.start) ∧ w.cell? ⟨b, o + j * 12 + 7, none⟩ = some (.int .i64 x.units) ∧ w.cell? ⟨b, o + j * 12 + 8, none⟩ = some (.int .i64 x.trunk) ∧ w.cell? ⟨b, o + j * 12 + 9, none⟩ = some (.bool x.inb) ∧ w.cell? ⟨b, o + j * 12 + 10, none⟩ = some (.int .i64 x.src) ∧ w.cell? ⟨b, o + j * 12 + 11, none⟩ = some (.int .i64 x.ser) := by
  obtain ⟨b, o, hA, hlt, hc⟩ := h j x hx
  exact ⟨b, o, hA, hlt, hc 0 _ rfl, hc 1 _ rfl, hc 2 _ rfl, hc 3 _ rfl, hc 4 _ rfl, hc 5 _ rfl, hc 6 _ rfl, hc 7 _ rfl, hc 8 _ rfl, hc 9 _ rfl, hc 10 _ rfl, hc 11 _ rfl⟩

def InIts (w : World) (A : Option Addr) (n : Nat) : Prop := ∃ xs : List It, xs.length = n ∧ n ≤ maxLen ∧ Its w A xs ∧ Wide xs
def InPrs (w : World) (A : Option Addr) (n : Nat) : Prop := ∃ xs : List (Int × Int), xs.length = n ∧ n ≤ maxLen ∧ Prs w A xs
def InNts (w : World) (A : Option Addr) (n : Nat) : Prop := ∃ xs : List Int, xs.length = n ∧ n ≤ maxLen ∧ Nts w A xs
def InUgs (w : World) (A : Option Addr) (n : Nat) : Prop := ∃ xs : List Ug, xs.length = n ∧ n ≤ maxLen ∧ Ugs w A xs
def InMt (w : World) (v : Value) : Prop := ∃ (Ap Ad Au Av : Option Addr) (np nd nu nv cp cd cu cv : Nat), v = .agg #[.slice Ap np cp, .slice Ad nd cd, .slice Au nu cu, .slice Av nv cv] ∧ InPrs w Ap np ∧ InPrs w Ad nd ∧ InNts w Au nu ∧ InNts w Av nv

section
variable {H : Type} {enc : TypeId × Value → H} {w : World} {base : Nat} {spare : Nat → Bool} {held : Bool}

theorem two_ {α : Type} {cs : List α} (h : cs.length = 2) : ∃ a b, cs = [a, b] := by
  match cs, h with
  | [a, b], _ => exact ⟨a, b, rfl⟩
theorem four_ {α : Type} {cs : List α} (h : cs.length = 4) : ∃ a b c d, cs = [a, b, c, d] := by
  match cs, h with
  | [a, b, c, d], _ => exact ⟨a, b, c, d, rfl⟩
theorem five {α : Type} {cs : List α} (h : cs.length = 5) : ∃ a b c d e, cs = [a, b, c, d, e] := by
  match cs, h with
  | [a, b, c, d, e], _ => exact ⟨a, b, c, d, e, rfl⟩
theorem twelve {α : Type} {cs : List α} (h : cs.length = 12) : ∃ a b c d e f g i j k l m, cs = [a, b, c, d, e, f, g, i, j, k, l, m] := by
  match cs, h with
  | [a, b, c, d, e, f, g, i, j, k, l, m], _ => exact ⟨a, b, c, d, e, f, g, i, j, k, l, m, rfl⟩
theorem slice_form {P : Program} {t e : TypeId} {fuel : Nat} {c : Value} {x : DataW H × List MemPlace} (ht : P.underlying t = some (.slice e)) (h : DataW.trod enc P w base spare held fuel t [c] = some x) : ∃ A n cap, c = .slice A n cap := by
  rcases open_slice ht h with ⟨h0, _⟩ | ⟨a, len, cap', m, n', D, Pl, hcs, _⟩
  · simp only [List.cons.injEq, and_true] at h0
    exact ⟨none, 0, 0, h0⟩
  · simp only [List.cons.injEq, and_true] at hcs
    exact ⟨some a, len, cap', hcs⟩

theorem open_item_cells {fuel : Nat} {cs : List Value} {x : DataW H × List MemPlace} (h : DataW.trod enc Try.prog w base spare held fuel 47 cs = some x) : ∃ t : It, cs = t.cells ∧ InIt t := by
  obtain ⟨hl, hp⟩ := struct_cells Try.underlying47 (by kernel_rfl) (by kernel_rfl) h
  obtain ⟨c0, c1, c2, c3, c4, rfl⟩ := five (hl.trans rfl)
  obtain ⟨_, x0, _, e0, t0⟩ := hp 0 _ rfl
  obtain ⟨_, x1, _, e1, t1⟩ := hp 1 _ rfl
  obtain ⟨_, x2, _, e2, t2⟩ := hp 2 _ rfl
  obtain ⟨_, x3, _, e3, t3⟩ := hp 3 _ rfl
  obtain ⟨_, x4, _, e4, t4⟩ := hp 4 _ rfl
  obtain ⟨n0, k0, _, f0⟩ := DataW.trod_string Try.underlying9 t0
  obtain ⟨n1, k1, _, f1⟩ := DataW.trod_string Try.underlying9 t1
  obtain ⟨n2, k2, _, f2⟩ := DataW.trod_int Try.underlying3 t2
  obtain ⟨n3, k3, _, f3⟩ := DataW.trod_int Try.underlying3 t3
  obtain ⟨n4, k4, _, f4⟩ := DataW.trod_int Try.underlying3 t4
  simp only [List.getElem?_cons_zero, List.getElem?_cons_succ, Option.some.injEq, List.cons.injEq, and_true] at *
  subst e0 e1 e2 e3 e4 k0 k1 k2 k3 k4
  exact ⟨⟨n0, n1, n2, n3, n4⟩, rfl, fits_of f2, fits_of f3, fits_of f4, f0, f1⟩

theorem open_items {A : Option Addr} {n c : Nat} {d : DataW H} {p : List MemPlace} (h : DataW.Trod enc Try.prog w base spare held 22 (.slice A n c) d p) : InIts w A n := by
  obtain ⟨hm, h0⟩ := open_slice_cells 5 (by decide) Try.underlying22 (by kernel_rfl) h
  rcases h0 with h0 | ⟨b, o, V, fuel, Y, rfl, hb, hV⟩
  · exact ⟨[], h0.symm, hm, fun j x hx => by simp at hx, fun x hx => by cases hx⟩
  · have hx : ∀ i, i < n → ∃ t : It, V i = t.cells ∧ InIt t := fun i hi => open_item_cells (hV i hi).2.2
    refine ⟨(List.range n).map fun i => if hi : i < n then (hx i hi).choose else ⟨ByteArray.empty, ByteArray.empty, 0, 0, 0⟩, by simp, hm, fun j x hj => ?_, fun x hx2 => ?_⟩
    · have hjn : j < n := by
        have := (List.getElem?_eq_some_iff.1 hj).1
        simpa using this
      have hxj : (hx j hjn).choose = x := by simpa [List.getElem?_map, hjn] using hj
      have hc := (hx j hjn).choose_spec.1
      rw [hxj] at hc
      refine ⟨b, o, rfl, hb, fun i v hv => ?_⟩
      have hi : i < 5 := (List.getElem?_eq_some_iff.1 hv).1
      rw [(hV j hjn).2.1 i hi, hc]
      exact hv
    · obtain ⟨j, hj, rfl⟩ := List.mem_map.1 hx2
      have hjn : j < n := List.mem_range.1 hj
      simp only [hjn, dite_true]
      exact (hx j hjn).choose_spec.2

theorem open_pair_cells {fuel : Nat} {cs : List Value} {x : DataW H × List MemPlace} (h : DataW.trod enc Try.prog w base spare held fuel 37 cs = some x) : ∃ t : Int × Int, cs = prCells t := by
  obtain ⟨hl, hp⟩ := struct_cells Try.underlying37 (by kernel_rfl) (by kernel_rfl) h
  obtain ⟨c0, c1, rfl⟩ := two_ (hl.trans rfl)
  obtain ⟨_, x0, _, e0, t0⟩ := hp 0 _ rfl
  obtain ⟨_, x1, _, e1, t1⟩ := hp 1 _ rfl
  obtain ⟨n0, k0, _, f0⟩ := DataW.trod_int Try.underlying3 t0
  obtain ⟨n1, k1, _, f1⟩ := DataW.trod_int Try.underlying3 t1
  simp only [List.getElem?_cons_zero, List.getElem?_cons_succ, Option.some.injEq, List.cons.injEq, and_true] at *
  subst e0 e1 k0 k1
  exact ⟨(n0, n1), rfl⟩

theorem open_pairs {A : Option Addr} {n c : Nat} {d : DataW H} {p : List MemPlace} (h : DataW.Trod enc Try.prog w base spare held 25 (.slice A n c) d p) : InPrs w A n := by
  obtain ⟨hm, h0⟩ := open_slice_cells 2 (by decide) Try.underlying25 (by kernel_rfl) h
  rcases h0 with h0 | ⟨b, o, V, fuel, Y, rfl, hb, hV⟩
  · exact ⟨[], h0.symm, hm, fun j x hx => by simp at hx⟩
  · have hx : ∀ i, i < n → ∃ t : Int × Int, V i = prCells t := fun i hi => open_pair_cells (hV i hi).2.2
    refine ⟨(List.range n).map fun i => if hi : i < n then (hx i hi).choose else (0, 0), by simp, hm, fun j x hj => ?_⟩
    · have hjn : j < n := by
        have := (List.getElem?_eq_some_iff.1 hj).1
        simpa using this
      have hxj : (hx j hjn).choose = x := by simpa [List.getElem?_map, hjn] using hj
      have hc := (hx j hjn).choose_spec
      rw [hxj] at hc
      refine ⟨b, o, rfl, hb, fun i v hv => ?_⟩
      have hi : i < 2 := (List.getElem?_eq_some_iff.1 hv).1
      rw [(hV j hjn).2.1 i hi, hc]
      exact hv

theorem open_nt_cells {fuel : Nat} {cs : List Value} {x : DataW H × List MemPlace} (h : DataW.trod enc Try.prog w base spare held fuel 3 cs = some x) : ∃ t : Int, cs = ntCells t := by
  obtain ⟨n0, k0, _⟩ := DataW.trod_int Try.underlying3 h
  exact ⟨n0, k0⟩

theorem open_nts {A : Option Addr} {n c : Nat} {d : DataW H} {p : List MemPlace} (h : DataW.Trod enc Try.prog w base spare held 26 (.slice A n c) d p) : InNts w A n := by
  obtain ⟨hm, h0⟩ := open_slice_cells 1 (by decide) Try.underlying26 (by kernel_rfl) h
  rcases h0 with h0 | ⟨b, o, V, fuel, Y, rfl, hb, hV⟩
  · exact ⟨[], h0.symm, hm, fun j x hx => by simp at hx⟩
  · have hx : ∀ i, i < n → ∃ t : Int, V i = ntCells t := fun i hi => open_nt_cells (hV i hi).2.2
    refine ⟨(List.range n).map fun i => if hi : i < n then (hx i hi).choose else 0, by simp, hm, fun j x hj => ?_⟩
    · have hjn : j < n := by
        have := (List.getElem?_eq_some_iff.1 hj).1
        simpa using this
      have hxj : (hx j hjn).choose = x := by simpa [List.getElem?_map, hjn] using hj
      have hc := (hx j hjn).choose_spec
      rw [hxj] at hc
      refine ⟨b, o, rfl, hb, fun i v hv => ?_⟩
      have hi : i < 1 := (List.getElem?_eq_some_iff.1 hv).1
      rw [(hV j hjn).2.1 i hi, hc]
      exact hv

theorem open_usage_cells {fuel : Nat} {cs : List Value} {x : DataW H × List MemPlace} (h : DataW.trod enc Try.prog w base spare held fuel 65 cs = some x) : ∃ t : Ug, cs = t.cells := by
  obtain ⟨hl, hp⟩ := struct_cells Try.underlying65 (by kernel_rfl) (by kernel_rfl) h
  obtain ⟨c0, c1, c2, c3, c4, c5, c6, c7, c8, c9, c10, c11, rfl⟩ := twelve (hl.trans rfl)
  obtain ⟨_, x0, _, e0, t0⟩ := hp 0 _ rfl
  obtain ⟨_, x1, _, e1, t1⟩ := hp 1 _ rfl
  obtain ⟨_, x2, _, e2, t2⟩ := hp 2 _ rfl
  obtain ⟨_, x3, _, e3, t3⟩ := hp 3 _ rfl
  obtain ⟨_, x4, _, e4, t4⟩ := hp 4 _ rfl
  obtain ⟨_, x5, _, e5, t5⟩ := hp 5 _ rfl
  obtain ⟨_, x6, _, e6, t6⟩ := hp 6 _ rfl
  obtain ⟨_, x7, _, e7, t7⟩ := hp 7 _ rfl
  obtain ⟨_, x8, _, e8, t8⟩ := hp 8 _ rfl
  obtain ⟨_, x9, _, e9, t9⟩ := hp 9 _ rfl
  obtain ⟨_, x10, _, e10, t10⟩ := hp 10 _ rfl
  obtain ⟨_, x11, _, e11, t11⟩ := hp 11 _ rfl
  obtain ⟨n0, k0, _, f0⟩ := DataW.trod_int Try.underlying3 t0
  obtain ⟨n1, k1, _, f1⟩ := DataW.trod_int Try.underlying3 t1
  obtain ⟨n2, k2, _, f2⟩ := DataW.trod_int Try.underlying3 t2
  obtain ⟨n3, k3, _, f3⟩ := DataW.trod_int Try.underlying3 t3
  obtain ⟨n4, k4, _, f4⟩ := DataW.trod_string Try.underlying9 t4
  obtain ⟨n5, k5, _, f5⟩ := DataW.trod_string Try.underlying9 t5
  obtain ⟨n6, k6, _, f6⟩ := DataW.trod_int Try.underlying3 t6
  obtain ⟨n7, k7, _, f7⟩ := DataW.trod_int Try.underlying3 t7
  obtain ⟨n8, k8, _, f8⟩ := DataW.trod_int Try.underlying3 t8
  obtain ⟨n9, k9, _⟩ := DataW.trod_bool Try.underlying4 t9
  obtain ⟨n10, k10, _, f10⟩ := DataW.trod_int Try.underlying3 t10
  obtain ⟨n11, k11, _, f11⟩ := DataW.trod_int Try.underlying3 t11
  simp only [List.getElem?_cons_zero, List.getElem?_cons_succ, Option.some.injEq, List.cons.injEq, and_true] at *
  subst e0 e1 e2 e3 e4 e5 e6 e7 e8 e9 e10 e11 k0 k1 k2 k3 k4 k5 k6 k7 k8 k9 k10 k11
  exact ⟨⟨n0, n1, n2, n3, n4, n5, n6, n7, n8, n9, n10, n11⟩, rfl⟩

theorem open_usages {A : Option Addr} {n c : Nat} {d : DataW H} {p : List MemPlace} (h : DataW.Trod enc Try.prog w base spare held 40 (.slice A n c) d p) : InUgs w A n := by
  obtain ⟨hm, h0⟩ := open_slice_cells 12 (by decide) Try.underlying40 (by kernel_rfl) h
  rcases h0 with h0 | ⟨b, o, V, fuel, Y, rfl, hb, hV⟩
  · exact ⟨[], h0.symm, hm, fun j x hx => by simp at hx⟩
  · have hx : ∀ i, i < n → ∃ t : Ug, V i = t.cells := fun i hi => open_usage_cells (hV i hi).2.2
    refine ⟨(List.range n).map fun i => if hi : i < n then (hx i hi).choose else ⟨0, 0, 0, 0, ByteArray.empty, ByteArray.empty, 0, 0, 0, false, 0, 0⟩, by simp, hm, fun j x hj => ?_⟩
    · have hjn : j < n := by
        have := (List.getElem?_eq_some_iff.1 hj).1
        simpa using this
      have hxj : (hx j hjn).choose = x := by simpa [List.getElem?_map, hjn] using hj
      have hc := (hx j hjn).choose_spec
      rw [hxj] at hc
      refine ⟨b, o, rfl, hb, fun i v hv => ?_⟩
      have hi : i < 12 := (List.getElem?_eq_some_iff.1 hv).1
      rw [(hV j hjn).2.1 i hi, hc]
      exact hv

set_option maxRecDepth 100000 in
theorem open_match {r : Reach} {b0 : Nat} {v : Value} {d : DataW H} {p : List MemPlace} (hv : Value.okWide Try.prog w r b0 28 v) (h : DataW.Trod enc Try.prog w base spare held 28 v d p) : InMt w v := by
  obtain ⟨cs, rfl, hl, hc⟩ := open_agg Try.underlying28 (by kernel_rfl) (by kernel_rfl) hv h
  obtain ⟨c0, c1, c2, c3, rfl⟩ := four_ (hl.trans rfl)
  obtain ⟨n0, x0, y0, e0, t0, _⟩ := hc 0 _ rfl
  obtain ⟨n1, x1, y1, e1, t1, _⟩ := hc 1 _ rfl
  obtain ⟨n2, x2, y2, e2, t2, _⟩ := hc 2 _ rfl
  obtain ⟨n3, x3, y3, e3, t3, _⟩ := hc 3 _ rfl
  simp only [List.getElem?_cons_zero, List.getElem?_cons_succ, Option.some.injEq] at e0 e1 e2 e3
  subst e0 e1 e2 e3
  obtain ⟨Ap, np, cp, rfl⟩ := slice_form Try.underlying25 t0
  obtain ⟨Ad, nd, cd, rfl⟩ := slice_form Try.underlying25 t1
  obtain ⟨Au, nu, cu, rfl⟩ := slice_form Try.underlying26 t2
  obtain ⟨Av, nv, cv, rfl⟩ := slice_form Try.underlying26 t3
  exact ⟨Ap, Ad, Au, Av, np, nd, nu, nv, cp, cd, cu, cv, rfl, open_pairs (d := y0.1) (p := y0.2) ⟨n0, t0⟩, open_pairs (d := y1.1) (p := y1.2) ⟨n1, t1⟩, open_nts (d := y2.1) (p := y2.2) ⟨n2, t2⟩, open_nts (d := y3.1) (p := y3.2) ⟨n3, t3⟩⟩
set_option maxRecDepth 100000 in
theorem open_period {r : Reach} {b0 : Nat} {v : Value} {d : DataW H} {p : List MemPlace} (hv : Value.okWide Try.prog w r b0 42 v) (h : DataW.Trod enc Try.prog w base spare held 42 v d p) :
    ∃ (a n : Int), v = .agg #[.int .i64 a, .int .i64 n] := by
  obtain ⟨cs, rfl, hl, hc⟩ := open_agg Try.underlying42 (by kernel_rfl) (by kernel_rfl) hv h
  obtain ⟨c0, c1, rfl⟩ := two_ (hl.trans rfl)
  obtain ⟨_, x0, _, e0, t0, _⟩ := hc 0 _ rfl
  obtain ⟨_, x1, _, e1, t1, _⟩ := hc 1 _ rfl
  obtain ⟨n0, k0, _⟩ := DataW.trod_int Try.underlying3 t0
  obtain ⟨n1, k1, _⟩ := DataW.trod_int Try.underlying3 t1
  simp only [List.getElem?_cons_zero, List.getElem?_cons_succ, Option.some.injEq, List.cons.injEq, and_true] at *
  subst e0 e1 k0 k1
  exact ⟨n0, n1, rfl⟩
end
end Go.Proofs.Ytclaijheemkegaa

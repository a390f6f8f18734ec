/-
  A list of agreements, a list of usages, a list of numbers that came in as arguments.
-/
import Derived.Test.YtmodghiokoiipaaGreatSk
import Derived.Test.YtmodghiokoiipaaGreatOpenS
import Derived.OpenShut
namespace Go.Proofs.YtmodghiokoiipaaGreat
open Go.RowKit Go.ChangeShapes Go.WideShapes Go.Deep
set_option linter.unusedVariables false

theorem three {α : Type} {cs : List α} (h : cs.length = 3) : ∃ a b c, cs = [a, b, c] := by
  match cs, h with
  | [a, b, c], _ => exact ⟨a, b, c, rfl⟩
theorem seven {α : Type} {cs : List α} (h : cs.length = 7) : ∃ a b c d e f g, cs = [a, b, c, d, e, f, g] := by
  match cs, h with
  | [a, b, c, d, e, f, g], _ => exact ⟨a, b, c, d, e, f, g, rfl⟩
theorem twelve {α : Type} {cs : List α} (h : cs.length = 12) : ∃ a b c d e f g i j k l m, cs = [a, b, c, d, e, f, g, i, j, k, l, m] := by
  match cs, h with
  | [a, b, c, d, e, f, g, i, j, k, l, m], _ => exact ⟨a, b, c, d, e, f, g, i, j, k, l, m, rfl⟩
theorem recs_none {α : Type} {n : Nat} {cells : α → List Value} {w : World} {xs : List α} (h : Recs n cells w none xs) : xs.length = 0 := by
  rcases Nat.eq_zero_or_pos xs.length with h0 | h0
  · exact h0
  · obtain ⟨b, o, hA, _⟩ := h 0 _ (List.getElem?_eq_getElem h0)
    cases hA
section
variable {H : Type} {enc : TypeId × Value → H} {w : World} {base : Nat} {spare : Nat → Bool} {held : Bool}

theorem recs_of {α : Type} {C n : Nat} {cells : α → List Value} {e : TypeId} {A : Option Addr} (z : α) (hlen : ∀ x, (cells x).length = C) (Q : α → Prop)
    (hx : ∀ (fuel : Nat) cs (y : DataW H × List MemPlace), DataW.trod enc Tryz.prog w base spare held fuel e cs = some y → ∃ t, cs = cells t ∧ Q t)
    (h : n = 0 ∨ ∃ (b o : Nat) (V : Nat → List Value) (fuel : Nat) (Y : Nat → DataW H × List MemPlace), A = some ⟨b, o, none⟩ ∧ b < w.heap.size ∧
      ∀ i, i < n → (V i).length = C ∧ (∀ j, j < C → w.cell? ⟨b, o + i * C + j, none⟩ = (V i)[j]?) ∧ DataW.trod enc Tryz.prog w base spare held fuel e (V i) = some (Y i)) :
    ∃ ts : List α, ts.length = n ∧ Recs C cells w A ts ∧ ∀ t ∈ ts, Q t := by
  rcases h with h0 | ⟨b, o, V, fuel, Y, rfl, hb, hV⟩
  · exact ⟨[], h0.symm, fun j x hx => by simp at hx, fun x hx => by cases hx⟩
  · have hx2 : ∀ i, i < n → ∃ t : α, V i = cells t ∧ Q t := fun i hi => hx _ _ _ (hV i hi).2.2
    refine ⟨(List.range n).map fun i => if hi : i < n then (hx2 i hi).choose else z, by simp, fun j x hj => ?_, fun x hx' => ?_⟩
    · have hjn : j < n := by
        have := (List.getElem?_eq_some_iff.1 hj).1
        simpa using this
      have hxj : (hx2 j hjn).choose = x := by simpa [List.getElem?_map, hjn] using hj
      have hc := (hx2 j hjn).choose_spec.1
      rw [hxj] at hc
      refine ⟨b, o, rfl, hb, fun i v hv => ?_⟩
      have hi : i < C := by
        have := (List.getElem?_eq_some_iff.1 hv).1
        rwa [hlen] at this
      rw [(hV j hjn).2.1 i hi, hc]
      exact hv
    · obtain ⟨j, hj, rfl⟩ := List.mem_map.1 hx'
      have hjn : j < n := List.mem_range.1 hj
      simp only [hjn, dite_true]
      exact (hx2 j hjn).choose_spec.2
theorem slice_form {P : Program} {t e : TypeId} {fuel : Nat} {c : Value} {x : DataW H × List MemPlace} (ht : P.underlying t = some (.slice e)) (h : DataW.trod enc P w base spare held fuel t [c] = some x) : ∃ A n cap, c = .slice A n cap ∧ n ≤ cap ∧ (A = none → n = 0 ∧ cap = 0) := by
  rcases open_slice ht h with ⟨h0, _⟩ | ⟨a, len, cap', m, n', D, Pl, hcs, _, hl, _⟩
  · simp only [List.cons.injEq, and_true] at h0
    exact ⟨none, 0, 0, h0, Nat.le_refl _, fun _ => ⟨rfl, rfl⟩⟩
  · simp only [List.cons.injEq, and_true] at hcs
    exact ⟨some a, len, cap', hcs, hl, fun h => by cases h⟩
theorem open_step_cells {fuel : Nat} {cs : List Value} {x : DataW H × List MemPlace} (h : DataW.trod enc Tryz.prog w base spare held fuel 92 cs = some x) : ∃ t : St, cs = t.cells ∧ True := by
  obtain ⟨hl, hp⟩ := struct_cells Tryz.underlying92 (by kernel_rfl) (by kernel_rfl) h
  obtain ⟨c0, c1, c2, rfl⟩ := three (hl.trans rfl)
  obtain ⟨_, x0, _, e0, t0⟩ := hp 0 _ rfl
  obtain ⟨_, x1, _, e1, t1⟩ := hp 1 _ rfl
  obtain ⟨_, x2, _, e2, t2⟩ := hp 2 _ rfl
  obtain ⟨n0, k0, _⟩ := DataW.trod_int Tryz.underlying3 t0
  obtain ⟨n1, k1, _⟩ := DataW.trod_int Tryz.underlying3 t1
  obtain ⟨n2, k2, _⟩ := DataW.trod_int Tryz.underlying3 t2
  simp only [List.getElem?_cons_zero, List.getElem?_cons_succ, Option.some.injEq, List.cons.injEq, and_true] at *
  subst e0 e1 e2 k0 k1 k2
  exact ⟨⟨n0, n1, n2⟩, rfl⟩
theorem open_steps {fuel : Nat} {c : Value} {x : DataW H × List MemPlace} (h : DataW.trod enc Tryz.prog w base spare held fuel 40 [c] = some x) : ∃ (A : Option Addr) (st : List St) (cap : Nat), c = .slice A st.length cap ∧ Sts w A st ∧ st.length ≤ maxLen := by
  obtain ⟨A, n, cap, rfl, _, _⟩ := slice_form Tryz.underlying40 h
  obtain ⟨hm, h0⟩ := open_slice_cells (d := x.1) (p := x.2) 3 (by decide) Tryz.underlying40 (by kernel_rfl) ⟨fuel, h⟩
  obtain ⟨ts, rfl, h1, _⟩ := recs_of (cells := St.cells) ⟨0, 0, 0⟩ (fun _ => rfl) (fun _ => True) (fun _ _ _ h => open_step_cells h) h0
  exact ⟨A, ts, cap, rfl, h1, hm⟩
theorem open_ag_cells {fuel : Nat} {cs : List Value} {x : DataW H × List MemPlace} (h : DataW.trod enc Tryz.prog w base spare held fuel 42 cs = some x) : ∃ t : Ag, cs = t.cells ∧ (Sts w t.A t.st ∧ t.st.length ≤ maxLen) := by
  have hc7 : Tryz.prog.cellsOf 42 = 7 := by kernel_rfl
  have hci : Tryz.prog.cellsOf 3 = 1 := by kernel_rfl
  have hcb : Tryz.prog.cellsOf 4 = 1 := by kernel_rfl
  have hcs : Tryz.prog.cellsOf 40 = 1 := by kernel_rfl
  have hcp : Tryz.prog.cellsOf 29 = 2 := by kernel_rfl
  obtain ⟨xs, n, _, _, hcl, hlen, hg⟩ := DataW.trod_struct Tryz.underlying42 h
  rw [hc7] at hcl
  obtain ⟨c0, c1, c2, c3, c4, c5, c6, rfl⟩ := seven hcl
  have hlen : xs.length = 6 := hlen
  have hxs : ∀ i, i < 6 → ∃ y, xs[i]? = some y := fun i hi => ⟨_, List.getElem?_eq_getElem (by omega)⟩
  obtain ⟨y0, z0⟩ := hxs 0 (by omega)
  obtain ⟨y1, z1⟩ := hxs 1 (by omega)
  obtain ⟨y2, z2⟩ := hxs 2 (by omega)
  obtain ⟨y3, z3⟩ := hxs 3 (by omega)
  obtain ⟨y4, z4⟩ := hxs 4 (by omega)
  obtain ⟨y5, z5⟩ := hxs 5 (by omega)
  have g0 : DataW.trod enc Tryz.prog w base spare held n 3 ((List.drop 0 [c0, c1, c2, c3, c4, c5, c6]).take (Tryz.prog.cellsOf 3)) = xs[0]? := hg 0 _ rfl
  have g1 : DataW.trod enc Tryz.prog w base spare held n 3 ((List.drop 1 [c0, c1, c2, c3, c4, c5, c6]).take (Tryz.prog.cellsOf 3)) = xs[1]? := hg 1 _ rfl
  have g2 : DataW.trod enc Tryz.prog w base spare held n 4 ((List.drop 2 [c0, c1, c2, c3, c4, c5, c6]).take (Tryz.prog.cellsOf 4)) = xs[2]? := hg 2 _ rfl
  have g3 : DataW.trod enc Tryz.prog w base spare held n 29 ((List.drop 3 [c0, c1, c2, c3, c4, c5, c6]).take (Tryz.prog.cellsOf 29)) = xs[3]? := hg 3 _ rfl
  have g4 : DataW.trod enc Tryz.prog w base spare held n 40 ((List.drop 5 [c0, c1, c2, c3, c4, c5, c6]).take (Tryz.prog.cellsOf 40)) = xs[4]? := hg 4 _ rfl
  have g5 : DataW.trod enc Tryz.prog w base spare held n 3 ((List.drop 6 [c0, c1, c2, c3, c4, c5, c6]).take (Tryz.prog.cellsOf 3)) = xs[5]? := hg 5 _ rfl
  simp only [hci, hcb, hcs, hcp, z0, z1, z2, z3, z4, z5, List.drop_zero, List.drop_succ_cons, List.take_succ_cons, List.take_zero] at g0 g1 g2 g3 g4 g5
  obtain ⟨n0, k0, _⟩ := DataW.trod_int Tryz.underlying3 g0
  obtain ⟨n1, k1, _⟩ := DataW.trod_int Tryz.underlying3 g1
  obtain ⟨n2, k2, _⟩ := DataW.trod_bool Tryz.underlying4 g2
  obtain ⟨_, hp⟩ := struct_cells Tryz.underlying29 (by kernel_rfl) (by kernel_rfl) g3
  obtain ⟨_, x3, _, e3, t3⟩ := hp 0 _ rfl
  obtain ⟨_, x4, _, e4, t4⟩ := hp 1 _ rfl
  obtain ⟨n3, k3, _⟩ := DataW.trod_int Tryz.underlying3 t3
  obtain ⟨n4, k4, _⟩ := DataW.trod_int Tryz.underlying3 t4
  obtain ⟨A, st, cap, k5, hs, hsl⟩ := open_steps g4
  obtain ⟨n6, k6, _⟩ := DataW.trod_int Tryz.underlying3 g5
  simp only [List.getElem?_cons_zero, List.getElem?_cons_succ, Option.some.injEq, List.cons.injEq, and_true] at e3 e4 k0 k1 k2 k3 k4 k6
  subst e3 e4 k0 k1 k2 k3 k4 k5 k6
  exact ⟨⟨n0, n1, n2, n3, n4, A, cap, st, n6⟩, rfl, hs, hsl⟩
def InAgs (w : World) (A : Option Addr) (n c : Nat) : Prop := ∃ zs : List Ag, zs.length = n ∧ n ≤ maxLen ∧ n ≤ c ∧ Ags w A zs ∧ AgS w zs ∧ (∀ x ∈ zs, x.st.length ≤ maxLen) ∧ (A = none → n = 0 ∧ c = 0)
theorem open_ags {A : Option Addr} {n c : Nat} {d : DataW H} {p : List MemPlace} (h : DataW.Trod enc Tryz.prog w base spare held 22 (.slice A n c) d p) : InAgs w A n c := by
  obtain ⟨hm, h0⟩ := open_slice_cells 7 (by decide) Tryz.underlying22 (by kernel_rfl) h
  obtain ⟨fuel, hf⟩ := h
  obtain ⟨A', n', c', e1, e2, e3⟩ := slice_form Tryz.underlying22 hf
  simp only [Value.slice.injEq] at e1
  obtain ⟨rfl, rfl, rfl⟩ := e1
  obtain ⟨ts, rfl, h1, h2⟩ := recs_of (cells := Ag.cells) ⟨0, 0, false, 0, 0, none, 0, [], 0⟩ (fun _ => rfl) (fun t => Sts w t.A t.st ∧ t.st.length ≤ maxLen) (fun _ _ _ h => open_ag_cells h) h0
  exact ⟨ts, rfl, hm, e2, h1, fun x hx => (h2 x hx).1, fun x hx => (h2 x hx).2, e3⟩
theorem open_ug_cells {fuel : Nat} {cs : List Value} {x : DataW H × List MemPlace} (h : DataW.trod enc Tryz.prog w base spare held fuel 31 cs = some x) : ∃ t : Ug, cs = t.cells ∧ (t.a.size ≤ maxLen ∧ t.b.size ≤ maxLen) := by
  obtain ⟨hl, hp⟩ := struct_cells Tryz.underlying31 (by kernel_rfl) (by kernel_rfl) h
  obtain ⟨c0, c1, c2, c3, c4, c5, c6, c7, c8, c9, c10, c11, rfl⟩ := twelve (hl.trans rfl)
  obtain ⟨_, x0, _, e0, t0⟩ := hp 0 _ rfl
  obtain ⟨_, x1, _, e1, t1⟩ := hp 1 _ rfl
  obtain ⟨_, x2, _, e2, t2⟩ := hp 2 _ rfl
  obtain ⟨_, x3, _, e3, t3⟩ := hp 3 _ rfl
  obtain ⟨_, x4, _, e4, t4⟩ := hp 4 _ rfl
  obtain ⟨_, x5, _, e5, t5⟩ := hp 5 _ rfl
  obtain ⟨_, x6, _, e6, t6⟩ := hp 6 _ rfl
  obtain ⟨_, x7, _, e7, t7⟩ := hp 7 _ rfl
  obtain ⟨_, x8, _, e8, t8⟩ := hp 8 _ rfl
  obtain ⟨_, x9, _, e9, t9⟩ := hp 9 _ rfl
  obtain ⟨_, x10, _, e10, t10⟩ := hp 10 _ rfl
  obtain ⟨_, x11, _, e11, t11⟩ := hp 11 _ rfl
  obtain ⟨n0, k0, _⟩ := DataW.trod_int Tryz.underlying3 t0
  obtain ⟨n1, k1, _⟩ := DataW.trod_int Tryz.underlying3 t1
  obtain ⟨n2, k2, _⟩ := DataW.trod_int Tryz.underlying3 t2
  obtain ⟨n3, k3, _⟩ := DataW.trod_int Tryz.underlying3 t3
  obtain ⟨n4, k4, _, f4⟩ := DataW.trod_string Tryz.underlying9 t4
  obtain ⟨n5, k5, _, f5⟩ := DataW.trod_string Tryz.underlying9 t5
  obtain ⟨n6, k6, _⟩ := DataW.trod_int Tryz.underlying3 t6
  obtain ⟨n7, k7, _⟩ := DataW.trod_int Tryz.underlying3 t7
  obtain ⟨n8, k8, _⟩ := DataW.trod_int Tryz.underlying3 t8
  obtain ⟨n9, k9, _⟩ := DataW.trod_bool Tryz.underlying4 t9
  obtain ⟨n10, k10, _⟩ := DataW.trod_int Tryz.underlying3 t10
  obtain ⟨n11, k11, _⟩ := DataW.trod_int Tryz.underlying3 t11
  simp only [List.getElem?_cons_zero, List.getElem?_cons_succ, Option.some.injEq, List.cons.injEq, and_true] at *
  subst e0 e1 e2 e3 e4 e5 e6 e7 e8 e9 e10 e11 k0 k1 k2 k3 k4 k5 k6 k7 k8 k9 k10 k11
  exact ⟨⟨n0, n1, n2, n3, n4, n5, n6, n7, n8, n9, n10, n11⟩, rfl, f4, f5⟩
def InUgs (w : World) (A : Option Addr) (n c : Nat) : Prop := ∃ us : List Ug, us.length = n ∧ n ≤ maxLen ∧ Ugs w A us ∧ (∀ x ∈ us, x.a.size ≤ maxLen ∧ x.b.size ≤ maxLen) ∧ (A = none → n = 0 ∧ c = 0)
theorem open_ugs {A : Option Addr} {n c : Nat} {d : DataW H} {p : List MemPlace} (h : DataW.Trod enc Tryz.prog w base spare held 23 (.slice A n c) d p) : InUgs w A n c := by
  obtain ⟨hm, h0⟩ := open_slice_cells 12 (by decide) Tryz.underlying23 (by kernel_rfl) h
  obtain ⟨fuel, hf⟩ := h
  obtain ⟨A', n', c', e1, e2, e3⟩ := slice_form Tryz.underlying23 hf
  simp only [Value.slice.injEq] at e1
  obtain ⟨rfl, rfl, rfl⟩ := e1
  obtain ⟨ts, rfl, h1, h2⟩ := recs_of (cells := Ug.cells) ⟨0, 0, 0, 0, ByteArray.empty, ByteArray.empty, 0, 0, 0, false, 0, 0⟩ (fun _ => rfl) (fun t => t.a.size ≤ maxLen ∧ t.b.size ≤ maxLen) (fun _ _ _ h => open_ug_cells h) h0
  exact ⟨ts, rfl, hm, h1, h2, e3⟩
theorem open_int_cells {fuel : Nat} {cs : List Value} {x : DataW H × List MemPlace} (h : DataW.trod enc Tryz.prog w base spare held fuel 3 cs = some x) : ∃ t : Int, cs = ntCells t ∧ True := by
  obtain ⟨n0, k0, _⟩ := DataW.trod_int Tryz.underlying3 h
  exact ⟨n0, k0, trivial⟩
def InNts (w : World) (A : Option Addr) (n : Nat) : Prop := ∃ cs : List Int, cs.length = n ∧ n ≤ maxLen ∧ Nts w A cs
theorem open_ints {A : Option Addr} {n c : Nat} {d : DataW H} {p : List MemPlace} (h : DataW.Trod enc Tryz.prog w base spare held 24 (.slice A n c) d p) : InNts w A n := by
  obtain ⟨hm, h0⟩ := open_slice_cells 1 (by decide) Tryz.underlying24 (by kernel_rfl) h
  obtain ⟨ts, rfl, h1, _⟩ := recs_of (cells := ntCells) 0 (fun _ => rfl) (fun _ => True) (fun _ _ _ h => open_int_cells h) h0
  exact ⟨ts, rfl, hm, h1⟩
end
end Go.Proofs.YtmodghiokoiipaaGreat

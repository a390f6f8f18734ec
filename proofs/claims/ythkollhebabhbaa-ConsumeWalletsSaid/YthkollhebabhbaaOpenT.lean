/-
  A state, a payment, a usage and the like that came in as arguments.
-/
import Derived.Test.YthkollhebabhbaaCe3
namespace Go.Proofs.Ythkollhebabhbaa
open Go.RowKit Go.ChangeShapes Go.WideShapes Go.Deep
set_option linter.unusedVariables false

/-- A state as an argument. -/
structure StFits (st : St) : Prop where
  nb : st.bs.length ≤ maxLen
  nw : st.ws.length ≤ maxLen
  nc : st.cs.length ≤ maxLen
  fb : ∀ x ∈ st.bs, x.Fits
  fw : ∀ x ∈ st.ws, fits x.a
def InSt (w : World) (v : Value) : Prop := ∃ (st : St) (Ab Aw Ac : Option Addr) (cb cw cc : Nat), v = .agg #[.slice Ab st.bs.length cb, .slice Aw st.ws.length cw, .slice Ac st.cs.length cc] ∧ StIn w Ab Aw Ac cw cc st ∧ StFits st
theorem StFits.ok {st : St} (h : StFits st) (hf : fewS st = true) : StOk st := by
  obtain ⟨h1, h2, h3, h4⟩ := fewS_yes hf
  exact ⟨by omega, by omega, by omega, fun x hx => Nat.le_trans (h2 x hx) (by omega), h.fw, fun x hx => ⟨(h.fb x hx).left, (h.fb x hx).units⟩⟩

section
variable {H : Type} {enc : TypeId × Value → H} {w : World} {base : Nat} {spare : Nat → Bool} {held : Bool}

theorem slice_form {P : Program} {t e : TypeId} {fuel : Nat} {c : Value} {x : DataW H × List MemPlace} (ht : P.underlying t = some (.slice e)) (h : DataW.trod enc P w base spare held fuel t [c] = some x) : ∃ A n cap, c = .slice A n cap ∧ (A = none → cap = 0) := by
  rcases open_slice ht h with ⟨h0, _⟩ | ⟨a, len, cap', m, n', D, Pl, hcs, _⟩
  · simp only [List.cons.injEq, and_true] at h0
    exact ⟨none, 0, 0, h0, fun _ => rfl⟩
  · simp only [List.cons.injEq, and_true] at hcs
    exact ⟨some a, len, cap', hcs, fun h => by cases h⟩

theorem open_wallet_cells {fuel : Nat} {cs : List Value} {x : DataW H × List MemPlace} (h : DataW.trod enc Try.prog w base spare held fuel 37 cs = some x) : ∃ t : W5, cs = t.cells ∧ fits t.a := by
  obtain ⟨hl, hp⟩ := struct_cells Try.underlying37 (by kernel_rfl) (by kernel_rfl) h
  obtain ⟨c0, c1, c2, c3, c4, rfl⟩ := five (hl.trans rfl)
  obtain ⟨_, x0, _, e0, t0⟩ := hp 0 _ rfl
  obtain ⟨_, x1, _, e1, t1⟩ := hp 1 _ rfl
  obtain ⟨_, x2, _, e2, t2⟩ := hp 2 _ rfl
  obtain ⟨_, x3, _, e3, t3⟩ := hp 3 _ rfl
  obtain ⟨_, x4, _, e4, t4⟩ := hp 4 _ rfl
  obtain ⟨n0, k0, _, f0⟩ := DataW.trod_int Try.underlying3 t0
  obtain ⟨n1, k1, _⟩ := DataW.trod_int Try.underlying3 t1
  obtain ⟨n2, k2, _⟩ := DataW.trod_int Try.underlying3 t2
  obtain ⟨n3, k3, _⟩ := DataW.trod_int Try.underlying3 t3
  obtain ⟨n4, k4, _⟩ := DataW.trod_int Try.underlying3 t4
  simp only [List.getElem?_cons_zero, List.getElem?_cons_succ, Option.some.injEq, List.cons.injEq, and_true] at *
  subst e0 e1 e2 e3 e4 k0 k1 k2 k3 k4
  exact ⟨⟨n0, n1, n2, n3, n4⟩, rfl, fits_of f0⟩
theorem open_wallets {A : Option Addr} {n c : Nat} {d : DataW H} {p : List MemPlace} (h : DataW.Trod enc Try.prog w base spare held 23 (.slice A n c) d p) : ∃ ts : List W5, ts.length = n ∧ n ≤ maxLen ∧ Fives w A ts ∧ ∀ t ∈ ts, fits t.a := by
  obtain ⟨hm, h0⟩ := open_slice_cells 5 (by decide) Try.underlying23 (by kernel_rfl) h
  rcases h0 with h0 | ⟨b, o, V, fuel, Y, rfl, hb, hV⟩
  · exact ⟨[], h0.symm, hm, fun j x hx => by simp at hx, fun x hx => by cases hx⟩
  · have hx : ∀ i, i < n → ∃ t : W5, V i = t.cells ∧ fits t.a := fun i hi => open_wallet_cells (hV i hi).2.2
    refine ⟨(List.range n).map fun i => if hi : i < n then (hx i hi).choose else W5.zero, by simp, hm, fun j x hj => ?_, fun x hx' => ?_⟩
    · have hjn : j < n := by
        have := (List.getElem?_eq_some_iff.1 hj).1
        simpa using this
      have hxj : (hx j hjn).choose = x := by simpa [List.getElem?_map, hjn] using hj
      have hc := (hx j hjn).choose_spec.1
      rw [hxj] at hc
      refine ⟨b, o, rfl, hb, fun i v hv => ?_⟩
      have hi : i < 5 := (List.getElem?_eq_some_iff.1 hv).1
      rw [(hV j hjn).2.1 i hi, hc]
      exact hv
    · obtain ⟨j, hj, rfl⟩ := List.mem_map.1 hx'
      have hjn : j < n := List.mem_range.1 hj
      simp only [hjn, dite_true]
      exact (hx j hjn).choose_spec.2

theorem open_counter_cells {fuel : Nat} {cs : List Value} {x : DataW H × List MemPlace} (h : DataW.trod enc Try.prog w base spare held fuel 68 cs = some x) : ∃ t : W5, cs = t.cells ∧ fits t.a := by
  obtain ⟨hl, hp⟩ := struct_cells Try.underlying68 (by kernel_rfl) (by kernel_rfl) h
  obtain ⟨c0, c1, c2, c3, c4, rfl⟩ := five (hl.trans rfl)
  obtain ⟨_, x0, _, e0, t0⟩ := hp 0 _ rfl
  obtain ⟨_, x1, _, e1, t1⟩ := hp 1 _ rfl
  obtain ⟨_, x2, _, e2, t2⟩ := hp 2 _ rfl
  obtain ⟨_, x3, _, e3, t3⟩ := hp 3 _ rfl
  obtain ⟨_, x4, _, e4, t4⟩ := hp 4 _ rfl
  obtain ⟨n0, k0, _, f0⟩ := DataW.trod_int Try.underlying3 t0
  obtain ⟨n1, k1, _⟩ := DataW.trod_int Try.underlying3 t1
  obtain ⟨n2, k2, _⟩ := DataW.trod_int Try.underlying3 t2
  obtain ⟨n3, k3, _⟩ := DataW.trod_int Try.underlying3 t3
  obtain ⟨n4, k4, _⟩ := DataW.trod_int Try.underlying3 t4
  simp only [List.getElem?_cons_zero, List.getElem?_cons_succ, Option.some.injEq, List.cons.injEq, and_true] at *
  subst e0 e1 e2 e3 e4 k0 k1 k2 k3 k4
  exact ⟨⟨n0, n1, n2, n3, n4⟩, rfl, fits_of f0⟩
theorem open_counters {A : Option Addr} {n c : Nat} {d : DataW H} {p : List MemPlace} (h : DataW.Trod enc Try.prog w base spare held 24 (.slice A n c) d p) : ∃ ts : List W5, ts.length = n ∧ n ≤ maxLen ∧ Fives w A ts ∧ ∀ t ∈ ts, fits t.a := by
  obtain ⟨hm, h0⟩ := open_slice_cells 5 (by decide) Try.underlying24 (by kernel_rfl) h
  rcases h0 with h0 | ⟨b, o, V, fuel, Y, rfl, hb, hV⟩
  · exact ⟨[], h0.symm, hm, fun j x hx => by simp at hx, fun x hx => by cases hx⟩
  · have hx : ∀ i, i < n → ∃ t : W5, V i = t.cells ∧ fits t.a := fun i hi => open_counter_cells (hV i hi).2.2
    refine ⟨(List.range n).map fun i => if hi : i < n then (hx i hi).choose else W5.zero, by simp, hm, fun j x hj => ?_, fun x hx' => ?_⟩
    · have hjn : j < n := by
        have := (List.getElem?_eq_some_iff.1 hj).1
        simpa using this
      have hxj : (hx j hjn).choose = x := by simpa [List.getElem?_map, hjn] using hj
      have hc := (hx j hjn).choose_spec.1
      rw [hxj] at hc
      refine ⟨b, o, rfl, hb, fun i v hv => ?_⟩
      have hi : i < 5 := (List.getElem?_eq_some_iff.1 hv).1
      rw [(hV j hjn).2.1 i hi, hc]
      exact hv
    · obtain ⟨j, hj, rfl⟩ := List.mem_map.1 hx'
      have hjn : j < n := List.mem_range.1 hj
      simp only [hjn, dite_true]
      exact (hx j hjn).choose_spec.2

theorem three {α : Type} {cs : List α} (h : cs.length = 3) : ∃ a b c, cs = [a, b, c] := by
  match cs, h with
  | [a, b, c], _ => exact ⟨a, b, c, rfl⟩
theorem two_ {α : Type} {cs : List α} (h : cs.length = 2) : ∃ a b, cs = [a, b] := by
  match cs, h with
  | [a, b], _ => exact ⟨a, b, rfl⟩
set_option maxRecDepth 100000 in
theorem open_state {r : Reach} {b0 : Nat} {v : Value} {d : DataW H} {p : List MemPlace} (hv : Value.okWide Try.prog w r b0 26 v) (h : DataW.Trod enc Try.prog w base spare held 26 v d p) : InSt w v := by
  obtain ⟨cs, rfl, hl, hc⟩ := open_agg Try.underlying26 (by kernel_rfl) (by kernel_rfl) hv h
  obtain ⟨c0, c1, c2, rfl⟩ := three (hl.trans rfl)
  obtain ⟨n0, x0, y0, e0, t0, _⟩ := hc 0 _ rfl
  obtain ⟨n1, x1, y1, e1, t1, _⟩ := hc 1 _ rfl
  obtain ⟨n2, x2, y2, e2, t2, _⟩ := hc 2 _ rfl
  simp only [List.getElem?_cons_zero, List.getElem?_cons_succ, Option.some.injEq] at e0 e1 e2
  subst e0 e1 e2
  obtain ⟨Ab, nb, cb, rfl, _⟩ := slice_form Try.underlying22 t0
  obtain ⟨Aw, nw, cw, rfl, hwn⟩ := slice_form Try.underlying23 t1
  obtain ⟨Ac, nc, cc, rfl, hcn⟩ := slice_form Try.underlying24 t2
  obtain ⟨bs, rfl, hb1, hb2, hb3⟩ := open_buckets (d := y0.1) (p := y0.2) ⟨n0, t0⟩
  obtain ⟨ws, rfl, hw1, hw2, hw3⟩ := open_wallets (d := y1.1) (p := y1.2) ⟨n1, t1⟩
  obtain ⟨cs, rfl, hc1, hc2, _⟩ := open_counters (d := y2.1) (p := y2.2) ⟨n2, t2⟩
  exact ⟨⟨bs, ws, cs⟩, Ab, Aw, Ac, cb, cw, cc, rfl, ⟨hb2, hw2, hc2, hwn, hcn⟩, ⟨hb1, hw1, hc1, hb3, hw3⟩⟩
set_option maxRecDepth 100000 in
theorem open_payment {r : Reach} {b0 : Nat} {v : Value} {d : DataW H} {p : List MemPlace} (hv : Value.okWide Try.prog w r b0 28 v) (h : DataW.Trod enc Try.prog w base spare held 28 v d p) :
    ∃ (a n : Int) (pre : Bool), v = .agg #[.int .i64 a, .int .i64 n, .bool pre] ∧ fits a ∧ fits n := by
  obtain ⟨cs, rfl, hl, hc⟩ := open_agg Try.underlying28 (by kernel_rfl) (by kernel_rfl) hv h
  obtain ⟨c0, c1, c2, rfl⟩ := three (hl.trans rfl)
  obtain ⟨_, x0, _, e0, t0, _⟩ := hc 0 _ rfl
  obtain ⟨_, x1, _, e1, t1, _⟩ := hc 1 _ rfl
  obtain ⟨_, x2, _, e2, t2, _⟩ := hc 2 _ rfl
  obtain ⟨n0, k0, _, f0⟩ := DataW.trod_int Try.underlying3 t0
  obtain ⟨n1, k1, _, f1⟩ := DataW.trod_int Try.underlying3 t1
  obtain ⟨n2, k2, _⟩ := DataW.trod_bool Try.underlying4 t2
  simp only [List.getElem?_cons_zero, List.getElem?_cons_succ, Option.some.injEq, List.cons.injEq, and_true] at *
  subst e0 e1 e2 k0 k1 k2
  exact ⟨n0, n1, n2, rfl, fits_of f0, fits_of f1⟩
set_option maxRecDepth 100000 in
theorem open_towards {r : Reach} {b0 : Nat} {v : Value} {d : DataW H} {p : List MemPlace} (hv : Value.okWide Try.prog w r b0 53 v) (h : DataW.Trod enc Try.prog w base spare held 53 v d p) :
    ∃ (zone : ByteArray) (fam : Bool), v = .agg #[.string zone, .bool fam] := by
  obtain ⟨cs, rfl, hl, hc⟩ := open_agg Try.underlying53 (by kernel_rfl) (by kernel_rfl) hv h
  obtain ⟨c0, c1, rfl⟩ := two_ (hl.trans rfl)
  obtain ⟨_, x0, _, e0, t0, _⟩ := hc 0 _ rfl
  obtain ⟨_, x1, _, e1, t1, _⟩ := hc 1 _ rfl
  obtain ⟨n0, k0, _⟩ := DataW.trod_string Try.underlying9 t0
  obtain ⟨n1, k1, _⟩ := DataW.trod_bool Try.underlying4 t1
  simp only [List.getElem?_cons_zero, List.getElem?_cons_succ, Option.some.injEq, List.cons.injEq, and_true] at *
  subst e0 e1 k0 k1
  exact ⟨n0, n1, rfl⟩
set_option maxRecDepth 100000 in
theorem open_usage {r : Reach} {b0 : Nat} {v : Value} {d : DataW H} {p : List MemPlace} (hv : Value.okWide Try.prog w r b0 51 v) (h : DataW.Trod enc Try.prog w base spare held 51 v d p) :
    ∃ u : Ug, v = .agg #[.int .i64 u.id, .int .i64 u.kind, .int .i64 u.acc, .int .i64 u.sub, .string u.a, .string u.b, .int .i64 u.start, .int .i64 u.units, .int .i64 u.trunk, .bool u.inb, .int .i64 u.src, .int .i64 u.ser] ∧ fits u.units := by
  obtain ⟨cs, rfl, hl, hc⟩ := open_agg Try.underlying51 (by kernel_rfl) (by kernel_rfl) hv h
  obtain ⟨c0, c1, c2, c3, c4, c5, c6, c7, c8, c9, c10, c11, rfl⟩ := twelve (hl.trans rfl)
  obtain ⟨_, x0, _, e0, t0, _⟩ := hc 0 _ rfl
  obtain ⟨_, x1, _, e1, t1, _⟩ := hc 1 _ rfl
  obtain ⟨_, x2, _, e2, t2, _⟩ := hc 2 _ rfl
  obtain ⟨_, x3, _, e3, t3, _⟩ := hc 3 _ rfl
  obtain ⟨_, x4, _, e4, t4, _⟩ := hc 4 _ rfl
  obtain ⟨_, x5, _, e5, t5, _⟩ := hc 5 _ rfl
  obtain ⟨_, x6, _, e6, t6, _⟩ := hc 6 _ rfl
  obtain ⟨_, x7, _, e7, t7, _⟩ := hc 7 _ rfl
  obtain ⟨_, x8, _, e8, t8, _⟩ := hc 8 _ rfl
  obtain ⟨_, x9, _, e9, t9, _⟩ := hc 9 _ rfl
  obtain ⟨_, x10, _, e10, t10, _⟩ := hc 10 _ rfl
  obtain ⟨_, x11, _, e11, t11, _⟩ := hc 11 _ rfl
  obtain ⟨n0, k0, _⟩ := DataW.trod_int Try.underlying3 t0
  obtain ⟨n1, k1, _⟩ := DataW.trod_int Try.underlying3 t1
  obtain ⟨n2, k2, _⟩ := DataW.trod_int Try.underlying3 t2
  obtain ⟨n3, k3, _⟩ := DataW.trod_int Try.underlying3 t3
  obtain ⟨n4, k4, _⟩ := DataW.trod_string Try.underlying9 t4
  obtain ⟨n5, k5, _⟩ := DataW.trod_string Try.underlying9 t5
  obtain ⟨n6, k6, _⟩ := DataW.trod_int Try.underlying3 t6
  obtain ⟨n7, k7, _, f7⟩ := DataW.trod_int Try.underlying3 t7
  obtain ⟨n8, k8, _⟩ := DataW.trod_int Try.underlying3 t8
  obtain ⟨n9, k9, _⟩ := DataW.trod_bool Try.underlying4 t9
  obtain ⟨n10, k10, _⟩ := DataW.trod_int Try.underlying3 t10
  obtain ⟨n11, k11, _⟩ := DataW.trod_int Try.underlying3 t11
  simp only [List.getElem?_cons_zero, List.getElem?_cons_succ, Option.some.injEq, List.cons.injEq, and_true] at *
  subst e0 e1 e2 e3 e4 e5 e6 e7 e8 e9 e10 e11 k0 k1 k2 k3 k4 k5 k6 k7 k8 k9 k10 k11
  exact ⟨⟨n0, n1, n2, n3, n4, n5, n6, n7, n8, n9, n10, n11⟩, rfl, fits_of f7⟩
end
end Go.Proofs.Ythkollhebabhbaa

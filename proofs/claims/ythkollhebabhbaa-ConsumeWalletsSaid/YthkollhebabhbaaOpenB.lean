/-
  A bucket that came in as an argument, by value or in a list; a wish.
-/
import Derived.Test.YthkollhebabhbaaProg
import Derived.Test.YthkollhebabhbaaOpenS
import Derived.Test.YthkollhebabhbaaBm
import Derived.Deep.Strs
namespace Go.Proofs.Ythkollhebabhbaa
open Go.RowKit Go.ChangeShapes Go.WideShapes Go.Deep

def fits (x : Int) : Prop := -9223372036854775808 ≤ x ∧ x ≤ 9223372036854775807
theorem fits_of {n : Int} (h : (Lit.int .i64 n).wf = true) : fits n := by
  simp only [Lit.wf, Bool.and_eq_true, decide_eq_true_eq] at h
  exact ⟨h.1, h.2⟩
structure Bk.Fits (b : Bk) : Prop where
  acc : fits b.acc
  sub : fits b.sub
  idx : fits b.idx
  kind : fits b.kind
  frm : fits b.frm
  til : fits b.til
  units : fits b.units
  left : fits b.left
  prio : fits b.prio
  zones : b.zones.length ≤ maxLen

section
variable {H : Type} {enc : TypeId × Value → H} {w : World} {base : Nat} {spare : Nat → Bool} {held : Bool}

theorem open_zones {fuel : Nat} {cs : List Value} {x : DataW H × List MemPlace} (h : DataW.trod enc Try.prog w base spare held fuel 87 cs = some x) :
    ∃ (A : Option Addr) (c : Nat) (zs : List ByteArray), cs = [.slice A zs.length c] ∧ StrsAt w A zs ∧ (A = none → c = 0) ∧ zs.length ≤ maxLen := by
  rcases open_strs Try.underlying87 Try.underlying9 (by kernel_rfl) h with ⟨rfl, _⟩ | ⟨a, len, cap, m, Sx, rfl, hb, hl, hm, hmm, _, hx⟩
  · exact ⟨none, 0, [], rfl, fun j s h => by simp at h, fun _ => rfl, Nat.zero_le _⟩
  · have hlm : len ≤ m := by rw [hmm]; split <;> omega
    refine ⟨some a, cap, (List.range len).map Sx, by simp, fun j s hs => ?_, fun h => by (cases h), by simp; omega⟩
    have hj : j < len := by
      have := (List.getElem?_eq_some_iff.1 hs).1
      simpa using this
    have hsj : Sx j = s := by simpa [List.getElem?_map, hj] using hs
    have hc := (hx j (by omega)).1
    have hc0 := (hx 0 (by omega)).1
    have hsp := spot_of_cell hc0
    obtain ⟨b, o, sp⟩ := a
    have hsp : sp = none := by simpa [Addr.add] using hsp
    subst hsp
    have he : (⟨b, o, none⟩ : Addr).add j = ⟨b, o + j, none⟩ := by
      unfold Addr.add
      by_cases h1 : j = 0 <;> simp [h1]
    rw [he, hsj] at hc
    exact ⟨b, o, rfl, lt_of_cell hc, hc⟩

theorem twelve {α : Type} {cs : List α} (h : cs.length = 12) : ∃ a b c d e f g i j k l m, cs = [a, b, c, d, e, f, g, i, j, k, l, m] := by
  match cs, h with
  | [a, b, c, d, e, f, g, i, j, k, l, m], _ => exact ⟨a, b, c, d, e, f, g, i, j, k, l, m, rfl⟩

theorem open_bucket_cells {fuel : Nat} {cs : List Value} {x : DataW H × List MemPlace} (h : DataW.trod enc Try.prog w base spare held fuel 91 cs = some x) :
    ∃ (b : Bk) (A : Option Addr) (c : Nat), cs = b.cells A c ∧ StrsAt w A b.zones ∧ (A = none → c = 0) ∧ b.Fits := by
  have hc12 : Try.prog.cellsOf 91 = 12 := by kernel_rfl
  have hci : Try.prog.cellsOf 3 = 1 := by kernel_rfl
  have hcs : Try.prog.cellsOf 9 = 1 := by kernel_rfl
  have hcb : Try.prog.cellsOf 4 = 1 := by kernel_rfl
  have hcz : Try.prog.cellsOf 87 = 1 := by kernel_rfl
  have hcp : Try.prog.cellsOf 89 = 2 := by kernel_rfl
  obtain ⟨xs, n, _, _, hcl, hlen, hg⟩ := DataW.trod_struct Try.underlying91 h
  rw [hc12] at hcl
  obtain ⟨c0, c1, c2, c3, c4, c5, c6, c7, c8, c9, c10, c11, rfl⟩ := twelve hcl
  have hlen : xs.length = 11 := hlen
  have hxs : ∀ i, i < 11 → ∃ y, xs[i]? = some y := fun i hi => ⟨_, List.getElem?_eq_getElem (by omega)⟩
  obtain ⟨y0, z0⟩ := hxs 0 (by omega)
  obtain ⟨y1, z1⟩ := hxs 1 (by omega)
  obtain ⟨y2, z2⟩ := hxs 2 (by omega)
  obtain ⟨y3, z3⟩ := hxs 3 (by omega)
  obtain ⟨y4, z4⟩ := hxs 4 (by omega)
  obtain ⟨y5, z5⟩ := hxs 5 (by omega)
  obtain ⟨y6, z6⟩ := hxs 6 (by omega)
  obtain ⟨y7, z7⟩ := hxs 7 (by omega)
  obtain ⟨y8, z8⟩ := hxs 8 (by omega)
  obtain ⟨y9, z9⟩ := hxs 9 (by omega)
  obtain ⟨y10, z10⟩ := hxs 10 (by omega)
  have g0 : DataW.trod enc Try.prog w base spare held n 3 ((List.drop 0 [c0, c1, c2, c3, c4, c5, c6, c7, c8, c9, c10, c11]).take (Try.prog.cellsOf 3)) = xs[0]? := hg 0 _ rfl
  have g1 : DataW.trod enc Try.prog w base spare held n 3 ((List.drop 1 [c0, c1, c2, c3, c4, c5, c6, c7, c8, c9, c10, c11]).take (Try.prog.cellsOf 3)) = xs[1]? := hg 1 _ rfl
  have g2 : DataW.trod enc Try.prog w base spare held n 9 ((List.drop 2 [c0, c1, c2, c3, c4, c5, c6, c7, c8, c9, c10, c11]).take (Try.prog.cellsOf 9)) = xs[2]? := hg 2 _ rfl
  have g3 : DataW.trod enc Try.prog w base spare held n 3 ((List.drop 3 [c0, c1, c2, c3, c4, c5, c6, c7, c8, c9, c10, c11]).take (Try.prog.cellsOf 3)) = xs[3]? := hg 3 _ rfl
  have g4 : DataW.trod enc Try.prog w base spare held n 3 ((List.drop 4 [c0, c1, c2, c3, c4, c5, c6, c7, c8, c9, c10, c11]).take (Try.prog.cellsOf 3)) = xs[4]? := hg 4 _ rfl
  have g5 : DataW.trod enc Try.prog w base spare held n 87 ((List.drop 5 [c0, c1, c2, c3, c4, c5, c6, c7, c8, c9, c10, c11]).take (Try.prog.cellsOf 87)) = xs[5]? := hg 5 _ rfl
  have g6 : DataW.trod enc Try.prog w base spare held n 89 ((List.drop 6 [c0, c1, c2, c3, c4, c5, c6, c7, c8, c9, c10, c11]).take (Try.prog.cellsOf 89)) = xs[6]? := hg 6 _ rfl
  have g7 : DataW.trod enc Try.prog w base spare held n 3 ((List.drop 8 [c0, c1, c2, c3, c4, c5, c6, c7, c8, c9, c10, c11]).take (Try.prog.cellsOf 3)) = xs[7]? := hg 7 _ rfl
  have g8 : DataW.trod enc Try.prog w base spare held n 3 ((List.drop 9 [c0, c1, c2, c3, c4, c5, c6, c7, c8, c9, c10, c11]).take (Try.prog.cellsOf 3)) = xs[8]? := hg 8 _ rfl
  have g9 : DataW.trod enc Try.prog w base spare held n 3 ((List.drop 10 [c0, c1, c2, c3, c4, c5, c6, c7, c8, c9, c10, c11]).take (Try.prog.cellsOf 3)) = xs[9]? := hg 9 _ rfl
  have g10 : DataW.trod enc Try.prog w base spare held n 4 ((List.drop 11 [c0, c1, c2, c3, c4, c5, c6, c7, c8, c9, c10, c11]).take (Try.prog.cellsOf 4)) = xs[10]? := hg 10 _ rfl
  simp only [hci, hcs, hcb, hcz, hcp, z0, z1, z2, z3, z4, z5, z6, z7, z8, z9, z10, List.drop_zero, List.drop_succ_cons, List.take_succ_cons, List.take_zero] at g0 g1 g2 g3 g4 g5 g6 g7 g8 g9 g10
  obtain ⟨n0, k0, _, f0⟩ := DataW.trod_int Try.underlying3 g0
  obtain ⟨n1, k1, _, f1⟩ := DataW.trod_int Try.underlying3 g1
  obtain ⟨n2, k2, _, _⟩ := DataW.trod_string Try.underlying9 g2
  obtain ⟨n3, k3, _, f3⟩ := DataW.trod_int Try.underlying3 g3
  obtain ⟨n4, k4, _, f4⟩ := DataW.trod_int Try.underlying3 g4
  obtain ⟨A, cp, zs, k5, hz, hAc, hzl⟩ := open_zones g5
  obtain ⟨_, hp⟩ := struct_cells Try.underlying89 (by kernel_rfl) (by kernel_rfl) g6
  obtain ⟨_, x6, _, e6, t6⟩ := hp 0 _ rfl
  obtain ⟨_, x7, _, e7, t7⟩ := hp 1 _ rfl
  obtain ⟨n6, k6, _, f6⟩ := DataW.trod_int Try.underlying3 t6
  obtain ⟨n7, k7, _, f7⟩ := DataW.trod_int Try.underlying3 t7
  obtain ⟨n8, k8, _, f8⟩ := DataW.trod_int Try.underlying3 g7
  obtain ⟨n9, k9, _, f9⟩ := DataW.trod_int Try.underlying3 g8
  obtain ⟨n10, k10, _, f10⟩ := DataW.trod_int Try.underlying3 g9
  obtain ⟨n11, k11, _⟩ := DataW.trod_bool Try.underlying4 g10
  simp only [List.getElem?_cons_zero, List.getElem?_cons_succ, Option.some.injEq, List.cons.injEq, and_true] at e6 e7 k0 k1 k2 k3 k4 k5 k6 k7 k8 k9 k10 k11
  subst e6 e7 k0 k1 k2 k3 k4 k5 k6 k7 k8 k9 k10 k11
  exact ⟨⟨n0, n1, n2, n3, n4, zs, n6, n7, n8, n9, n10, n11⟩, A, cp, rfl, hz, hAc, fits_of f0, fits_of f1, fits_of f3, fits_of f4, fits_of f6, fits_of f7, fits_of f8, fits_of f9, fits_of f10, hzl⟩

set_option maxRecDepth 100000 in
theorem open_bucket {r : Reach} {b0 : Nat} {v : Value} {d : DataW H} {p : List MemPlace} (hv : Value.okWide Try.prog w r b0 91 v) (h : DataW.Trod enc Try.prog w base spare held 91 v d p) :
    ∃ (b : Bk) (A : Option Addr) (c : Nat), v = .agg #[.int .i64 b.acc, .int .i64 b.sub, .string b.prod, .int .i64 b.idx, .int .i64 b.kind, .slice A b.zones.length c, .int .i64 b.frm, .int .i64 b.til, .int .i64 b.units, .int .i64 b.left, .int .i64 b.prio, .bool b.shared] ∧ StrsAt w A b.zones ∧ (A = none → c = 0) ∧ b.Fits := by
  obtain ⟨⟨cs⟩, rfl, hsz⟩ := okWide_struct Try.underlying91 hv
  obtain ⟨fuel, hf⟩ := h
  obtain ⟨b, A, c, hcs, h1, h2, h3⟩ := open_bucket_cells hf
  have hcs : cs = b.cells A c := hcs
  subst hcs
  exact ⟨b, A, c, rfl, h1, h2, h3⟩
end
end Go.Proofs.Ythkollhebabhbaa

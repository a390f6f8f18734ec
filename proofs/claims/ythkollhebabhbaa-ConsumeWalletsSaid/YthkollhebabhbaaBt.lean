/-
  Taking units, as plain data and in memory.
-/
import Derived.Test.YthkollhebabhbaaBw8
namespace Go.Proofs.Ythkollhebabhbaa
open Go.RowKit
set_option linter.unusedSimpArgs false

/-- A take. -/
structure Tk where
  sub : Int
  prod : ByteArray
  idx : Int
  frm : Int
  units : Int

def Bk.withLeft (b : Bk) (l : Int) : Bk := { b with left := l }

/-- Taking n units from the buckets xs at the positions that are still to come. -/
def tk (xs : List Bk) (use : Bk → Bool) : List Nat → List Bk → List Tk → Int → List Bk × List Tk × Int
  | [], out, ts, n => (out, ts, n)
  | p :: ps, out, ts, n =>
    if n = 0 then (out, ts, n)
    else if use (xs.getD p Bk.zero) = true then
      tk xs use ps (out.set p ((xs.getD p Bk.zero).withLeft ((xs.getD p Bk.zero).left - min n (xs.getD p Bk.zero).left))) (ts ++ [⟨(xs.getD p Bk.zero).sub, (xs.getD p Bk.zero).prod, (xs.getD p Bk.zero).idx, (xs.getD p Bk.zero).frm, min n (xs.getD p Bk.zero).left⟩]) (n - min n (xs.getD p Bk.zero).left)
    else tk xs use ps out ts n
/-- Take. -/
def take (xs : List Bk) (use : Bk → Bool) (n : Int) : List Bk × List Tk × Int := tk xs use (srt (posr xs) 0 xs.length) xs [] (max n 0)

theorem tk_zero (xs : List Bk) (use : Bk → Bool) : ∀ (ps : List Nat) (out : List Bk) (ts : List Tk), tk xs use ps out ts 0 = (out, ts, 0)
  | [], _, _ => rfl
  | _ :: _, _, _ => by simp [tk]
theorem tk_skip {xs : List Bk} {use : Bk → Bool} {ps : List Nat} {j p : Nat} {out : List Bk} {ts : List Tk} {n : Int} {x : Bk} (hp : ps[j]? = some p) (hx : xs[p]? = some x) (hu : use x = false) : tk xs use (ps.drop j) out ts n = tk xs use (ps.drop (j + 1)) out ts n := by
  rw [drop_at hp]
  have hg : xs.getD p Bk.zero = x := by simp [List.getD, hx]
  simp only [tk, hg, hu]
  by_cases hn : n = 0
  · subst hn
    simp [tk_zero]
  · simp [hn]
theorem tk_take {xs : List Bk} {use : Bk → Bool} {ps : List Nat} {j p : Nat} {out : List Bk} {ts : List Tk} {n : Int} {x : Bk} (hp : ps[j]? = some p) (hx : xs[p]? = some x) (hn : n ≠ 0) (hu : use x = true) :
    tk xs use (ps.drop j) out ts n = tk xs use (ps.drop (j + 1)) (out.set p (x.withLeft (x.left - min n x.left))) (ts ++ [⟨x.sub, x.prod, x.idx, x.frm, min n x.left⟩]) (n - min n x.left) := by
  rw [drop_at hp]
  have hg : xs.getD p Bk.zero = x := by simp [List.getD, hx]
  simp only [tk, hg, hu, if_neg hn, if_true]

/-! In memory. -/
def Tk.cells (x : Tk) : List Value := [.int .i64 x.sub, .string x.prod, .int .i64 x.idx, .int .i64 x.frm, .int .i64 x.units]
def OwnTks (w : World) (B : Nat) (v : Value) (ts : List Tk) : Prop := w.ownsRow B 86 5 v ts.length (ts.flatMap Tk.cells)
theorem OwnTks.nil (w : World) (B : Nat) : w.ownsRow B 86 5 (.slice none 0 0) 0 [] := World.ownsRow_nil _ _ _ _
theorem tk_one (x : Tk) : ∀ u ∈ x.cells, u.oneCell' = true := by
  intro u hu
  simp only [Tk.cells, List.mem_cons, List.not_mem_nil, or_false] at hu
  rcases hu with rfl | rfl | rfl | rfl | rfl <;> rfl
theorem info_tk : (Try.prog.info? 86).map (fun i => (i.zero, i.size, i.bytes)) = some (some (.agg #[.int .i64 0, .string ByteArray.empty, .int .i64 0, .int .i64 0, .int .i64 0]), 5, 48) := by kernel_rfl

theorem Bk.rows_set : ∀ (xs : List Bk) (Z : List (Option Addr × Nat)) (p : Nat) (x : Bk) (l : Int), Z.length = xs.length → xs[p]? = some x → Bk.rows (xs.set p (x.withLeft l)) Z = (Bk.rows xs Z).set (p * 12 + 9) (.int .i64 l)
  | [], _, _, _, _, _, h => by simp at h
  | _ :: _, [], _, _, _, h, _ => by simp at h
  | y :: xs, z :: Z, 0, x, l, _, h => by
    simp only [List.getElem?_cons_zero, Option.some.injEq] at h
    subst h
    simp only [List.set_cons_zero, Bk.rows, Nat.zero_mul, Nat.zero_add]
    rw [List.set_append_left _ _ (by rw [Bk.len_cells]; omega)]
    rfl
  | y :: xs, z :: Z, p + 1, x, l, hl, h => by
    simp only [List.getElem?_cons_succ] at h
    simp only [List.set_cons_succ, Bk.rows]
    rw [List.set_append_right _ _ (by rw [Bk.len_cells]; omega), Bk.len_cells, Bk.rows_set xs Z p x l (by simpa using hl) h, show (p + 1) * 12 + 9 - 12 = p * 12 + 9 from by omega]

/-- One bucket's left units stored. -/
theorem OwnBks.stored {w : World} {B g n c : Nat} {xs : List Bk} (h : OwnBks w B (.slice (some ⟨g, 0, none⟩) n c) xs) {p : Nat} {x : Bk} (hx : xs[p]? = some x) (l : Int) :
    OwnBks (w.setCell ⟨g, p * 12 + 9, none⟩ (.int .i64 l)) B (.slice (some ⟨g, 0, none⟩) n c) (xs.set p (x.withLeft l)) ∧ w.grownBy (w.setCell ⟨g, p * 12 + 9, none⟩ (.int .i64 l)) (some g) := by
  obtain ⟨Z, h1, h2, h3⟩ := h
  have hn : n = xs.length := by
    rcases h2.2 with ⟨h4, _⟩ | ⟨_, _, _, h4, _⟩
    · cases h4
    · simp only [Value.slice.injEq] at h4
      exact h4.2.1
  subst hn
  have hst := h2.stored (p * 12 + 9) (.int .i64 l)
  refine ⟨⟨Z, by simpa using h1, ?_, fun j y z hy hz => ?_⟩, hst.2⟩
  · rw [Bk.rows_set xs Z p x l h1 hx]
    simpa using hst.1
  · by_cases hjp : j = p
    · subst hjp
      have hlt : j < xs.length := (List.getElem?_eq_some_iff.1 hx).1
      rw [List.getElem?_set_self hlt] at hy
      simp only [Option.some.injEq] at hy
      subst hy
      have := h3 j x z hx hz
      exact this.kept hst.2 (by have := own_ne this h2 (by decide); simpa [Value.ownBlock] using this)
    · rw [List.getElem?_set_ne (fun e => hjp e.symm)] at hy
      have := h3 j y z hy hz
      exact this.kept hst.2 (by have := own_ne this h2 (by decide); simpa [Value.ownBlock] using this)
end Go.Proofs.Ythkollhebabhbaa

/-
  The walks of the reference's SameTakes at equal lists.
-/
import Derived.Test.YthkollhebabhbaaBt
import Derived.BigQuiet
namespace Go.Proofs.Ythkollhebabhbaa
open Go.RowKit
set_option linter.unusedSimpArgs false

/-- The takes ts lie from A on. -/
def Tks (w : World) (A : Option Addr) (ts : List Tk) : Prop := ∀ (j : Nat) (x : Tk), ts[j]? = some x → ∃ b o, A = some ⟨b, o, none⟩ ∧ b < w.heap.size ∧ ∀ i v, x.cells[i]? = some v → w.cell? ⟨b, o + j * 5 + i, none⟩ = some v
theorem Tks.below {w w' : World} {A : Option Addr} {ts : List Tk} (h : Tks w A ts) (hb : Below w.heap.size w w') : Tks w' A ts := fun j x hx => by
  obtain ⟨b, o, hA, hlt, hc⟩ := h j x hx
  exact ⟨b, o, hA, Nat.lt_of_lt_of_le hlt hb.size, fun i v hv => (hb.cell (p := ⟨b, o + j * 5 + i, none⟩) hlt).trans (hc i v hv)⟩

theorem tks_cells {w : World} {A : Option Addr} {ts : List Tk} (h : Tks w A ts) {j : Nat} {x : Tk} (hx : ts[j]? = some x) : ∃ b o, A = some ⟨b, o, none⟩ ∧ b < w.heap.size ∧
    w.cell? ⟨b, o + j * 5, none⟩ = some (.int .i64 x.sub) ∧ w.cell? ⟨b, o + j * 5 + 1, none⟩ = some (.string x.prod) ∧ w.cell? ⟨b, o + j * 5 + 2, none⟩ = some (.int .i64 x.idx) ∧ w.cell? ⟨b, o + j * 5 + 3, none⟩ = some (.int .i64 x.frm) ∧ w.cell? ⟨b, o + j * 5 + 4, none⟩ = some (.int .i64 x.units) := by
  obtain ⟨b, o, hA, hlt, hc⟩ := h j x hx
  exact ⟨b, o, hA, hlt, hc 0 _ rfl, hc 1 _ rfl, hc 2 _ rfl, hc 3 _ rfl, hc 4 _ rfl⟩

theorem drewN_more (w : World) (n : Nat) : w.drewN n = ext w ⟨[], w.drawn + n⟩ := by simp [World.drewN, ext]
set_option maxHeartbeats 1000000 in
theorem same_any (ts : List Tk) (A A' : Option Addr) (c c' : Nat) (w : World) (hn : ts.length ≤ 100000) (h : Tks w A ts) (h' : Tks w A' ts) :
    Calls Try.prog 23 #[.slice A ts.length c, .slice A' ts.length c'] w fun e w' => e = .returned (.bool true) ∧ Below w.heap.size w w' := by
  have H := Lib.hid h
  have H' := Lib.hid h'
  clear h h'
  go_enter Try.func23, Try.ntmps23
  go_wp2
  go_loopw [5] (fun i wr => ∃ k : Nat, k ≤ ts.length ∧ i = .int .i64 k ∧ Below w.heap.size w wr) (fun i _ => ts.length - (intOf i).toNat)
  case atStart => exact ⟨0, Nat.zero_le _, rfl, Below.refl _ _⟩
  case round =>
    obtain ⟨k, hk, rfl, hbw⟩ := hrel
    by_cases hlt : k < ts.length
    · obtain ⟨x, hx⟩ : ∃ s, ts[k]? = some s := ⟨_, List.getElem?_eq_getElem hlt⟩
      have hsz := hbw.size
      obtain ⟨b, o, rfl, hb, x0, x1, x2, x3, x4⟩ := tks_cells (H.out.below hbw) hx
      obtain ⟨b', o', rfl, hb', y0, y1, y2, y3, y4⟩ := tks_cells (H'.out.below hbw) hx
      clear hx
      go_wp2
      go_quiet (fail)
      rw [drewN_more]
      go_wp2
      go_roundw
      case rel => exact ⟨k + 1, by omega, by go_num, below_ext hbw hbw.size _⟩
      case measure => simp [intOf]; omega
    · go_wp2
      go_ret
      exact ⟨rfl, hbw⟩
theorem tks_at : ∀ (ts : List Tk) (j i : Nat) (x : Tk), ts[j]? = some x → i < 5 → (ts.flatMap Tk.cells)[j * 5 + i]? = x.cells[i]?
  | [], _, _, _, h, _ => by simp at h
  | y :: ts, 0, i, x, h, hi => by
    obtain rfl := Option.some.inj h
    rw [Nat.zero_mul, Nat.zero_add, List.flatMap_cons, List.getElem?_append_left (by simpa [Tk.cells] using hi)]
  | y :: ts, j + 1, i, x, h, hi => by
    have hl : y.cells.length = 5 := rfl
    rw [List.flatMap_cons, List.getElem?_append_right (by rw [hl]; omega), hl, show (j + 1) * 5 + i - 5 = j * 5 + i from by omega]
    exact tks_at ts j i x (by simpa using h) hi
theorem OwnTks.form {w : World} {B : Nat} {v : Value} {ts : List Tk} (h : OwnTks w B v ts) : ∃ A c, v = .slice A ts.length c ∧ Tks w A ts := by
  unfold OwnTks at h
  rcases h.2 with ⟨rfl, h0⟩ | ⟨g, cap, cur, rfl, _, hh, _⟩
  · refine ⟨none, 0, by rw [h0], fun j x hx => ?_⟩
    have hj : j < ts.length := (List.getElem?_eq_some_iff.1 hx).1
    omega
  · refine ⟨some ⟨g, 0, none⟩, cap, rfl, fun j x hx => ?_⟩
    have hj : j < ts.length := (List.getElem?_eq_some_iff.1 hx).1
    refine ⟨g, 0, rfl, ?_, fun i u hu => ?_⟩
    · rcases Nat.lt_or_ge g w.heap.size with hlt | hge
      · exact hlt
      · rw [Array.getElem?_eq_none hge] at hh
        cases hh
    · have hi : i < 5 := (List.getElem?_eq_some_iff.1 hu).1
      rw [Nat.zero_add, h.cellAt (j * 5 + i) (by omega), ← hu]
      exact tks_at ts j i x hx hi

end Go.Proofs.Ythkollhebabhbaa

/-
  Helpers for the program's Compare: blocks that stay while the candidates are laid down.
-/
import Derived.Test.YtclaijheemkegaaR12
import Derived.Deep.AppendLies
namespace Go.Proofs.Ytclaijheemkegaa
open Go.RowKit
set_option linter.unusedSimpArgs false
set_option linter.unusedVariables false

theorem OwnBs.block {w w' : World} {B L : Nat} {l : List Bool} (h : OwnBs w B L l) (e : w'.heap[L]? = w.heap[L]?) : OwnBs w' B L l := by
  refine ⟨h.1, ?_⟩
  rcases h.2 with ⟨h3, _⟩ | ⟨g, cap, cur, hv, h1, hh, h2⟩
  · cases h3
  · right
    refine ⟨g, cap, cur, hv, h1, ?_, h2⟩
    simp only [Value.slice.injEq, Option.some.injEq, Addr.mk.injEq] at hv
    obtain ⟨⟨rfl, _⟩, _⟩ := hv
    rw [e]
    exact hh
theorem Kp.grownM {M U : Nat} {w a b : World} (h : Kp M U w a) (hg : a.grownBy b (some M)) : Kp M U w b :=
  ⟨hg.os.trans h.os, hg.tape.trans h.tape, hg.output.trans h.output, Nat.le_trans h.size hg.size, fun i hi h1 h2 => (hg.block i (Nat.lt_of_lt_of_le hi h.size) (fun e => h1 (Option.some.inj e))).trans (h.block i hi h1 h2)⟩
theorem Kp.drew {M U : Nat} {w a : World} (h : Kp M U w a) : Kp M U w a.drew := h.step (Below.drew (Below.refl _ _))
theorem grown_alloc {w w' : World} {o : Obj} {row : Option Nat} (h : (w.alloc o).grownBy w' row) : w.grownBy w' row :=
  ⟨h.os, h.tape, h.output, Nat.le_trans (by simp) h.size, fun i hi h1 => (h.block i (by simp; omega) h1).trans (Below.heap_alloc w o i hi)⟩
theorem own_far {w : World} {base size n B : Nat} {e e' : TypeId} {v : Value} {xs : List Value} {cs : Array Value} {fr : Nat × Nat} (h : w.ownsRow base e size v n xs) (hB : w.heap[B]? = some (.cells cs e' fr)) (hne : e ≠ e') : some B ≠ v.ownBlock := by
  intro hv
  rcases h.2 with ⟨rfl, _⟩ | ⟨g, cap, cur, rfl, _, hh, _⟩
  · cases hv
  · have : B = g := Option.some.inj hv
    subst this
    rw [hB] at hh
    simp only [Option.some.injEq, Obj.cells.injEq] at hh
    exact hne hh.2.1.symm
theorem own_base {w : World} {base size n B : Nat} {e : TypeId} {v : Value} {xs : List Value} (h : w.ownsRow base e size v n xs) (hB : B < base) : some B ≠ v.ownBlock := by
  intro hv
  rcases h.2 with ⟨rfl, _⟩ | ⟨g, cap, cur, rfl, hb, _⟩
  · cases hv
  · have : B = g := Option.some.inj hv
    omega
theorem own_up {w : World} {base size n : Nat} {e : TypeId} {v : Value} {xs : List Value} (h : w.ownsRow base e size v n xs) : ∀ k, v.ownBlock = some k → base ≤ k := by
  intro k hk
  rcases Nat.lt_or_ge k base with h1 | h1
  · exact (own_base h h1 hk.symm).elim
  · exact h1
theorem news_one {w : World} {N : Nat} {k : Int} (h : w.cell? ⟨N, 0, none⟩ = some (.int .i64 k)) : ∀ j u, (ntCells k)[j]? = some u → w.cell? ((⟨N, 0, none⟩ : Addr).add j) = some u := by
  intro j u hj
  match j, hj with
  | 0, hj =>
    have : u = .int .i64 k := by
      have h2 : (ntCells k)[0]? = some (.int .i64 k) := rfl
      rw [h2] at hj
      exact (Option.some.inj hj).symm
    subst this
    simpa [Addr.add] using h
  | j + 1, hj => simp [ntCells] at hj

/-- What the laying down of a candidate reads. -/
def Held (w : World) (Mp D B : Nat) (xa xb : ByteArray) (xk xs' xn : Int) : Prop := w.cell? ⟨Mp, 3, none⟩ = some (.map (some D)) ∧ w.cell? ⟨B, 0, none⟩ = some (.string xa) ∧ w.cell? ⟨B, 1, none⟩ = some (.string xb) ∧ w.cell? ⟨B, 2, none⟩ = some (.int .i64 xk) ∧ w.cell? ⟨B, 3, none⟩ = some (.int .i64 xs') ∧ w.cell? ⟨B, 4, none⟩ = some (.int .i64 xn)
theorem Held.below {w w' : World} {Mp D B : Nat} {xa xb : ByteArray} {xk xs' xn : Int} (h : Held w Mp D B xa xb xk xs' xn) (hb : Below w.heap.size w w') (h1 : Mp < w.heap.size) (h2 : B < w.heap.size) : Held w' Mp D B xa xb xk xs' xn :=
  ⟨(hb.cell (p := ⟨Mp, 3, none⟩) h1).trans h.1, (hb.cell (p := ⟨B, 0, none⟩) h2).trans h.2.1, (hb.cell (p := ⟨B, 1, none⟩) h2).trans h.2.2.1, (hb.cell (p := ⟨B, 2, none⟩) h2).trans h.2.2.2.1, (hb.cell (p := ⟨B, 3, none⟩) h2).trans h.2.2.2.2.1, (hb.cell (p := ⟨B, 4, none⟩) h2).trans h.2.2.2.2.2⟩
theorem Held.grown {w w' : World} {row : Option Nat} {Mp D B : Nat} {xa xb : ByteArray} {xk xs' xn : Int} (h : Held w Mp D B xa xb xk xs' xn) (hg : w.grownBy w' row) (h1 : Mp < w.heap.size) (h2 : B < w.heap.size) (h3 : some Mp ≠ row) (h4 : some B ≠ row) : Held w' Mp D B xa xb xk xs' xn :=
  ⟨(hg.cell_far ⟨Mp, 3, none⟩ h1 h3).trans h.1, (hg.cell_far ⟨B, 0, none⟩ h2 h4).trans h.2.1, (hg.cell_far ⟨B, 1, none⟩ h2 h4).trans h.2.2.1, (hg.cell_far ⟨B, 2, none⟩ h2 h4).trans h.2.2.2.1, (hg.cell_far ⟨B, 3, none⟩ h2 h4).trans h.2.2.2.2.1, (hg.cell_far ⟨B, 4, none⟩ h2 h4).trans h.2.2.2.2.2⟩

theorem OwnBs.of_heap {w : World} {B L n : Nat} (h : w.heap[L]? = some (.cells (Array.replicate n (Value.bool false)) 4)) (hB : B ≤ L) (hn : n ≤ 24) : OwnBs w B L (List.replicate n false) := by
  refine ⟨by simp, .inr ⟨L, n, _, by simp, hB, h, by simp, by simp only [maxLen]; omega, by simp, by simp⟩⟩
theorem cstart {w W1 : World} {O : Obj} {Mp D L R nx nt cx ct : Nat} {Ax At : Option Addr} {slack : Int} {ts : List It} (hMp : Mp = W1.heap.size) (hO : O = .cells #[.slice none 0 0, .slice none 0 0, .slice none 0 0, .slice none 0 0] 28)
    (hD : W1.heap[D]? = some (.map #[] 0)) (hL : W1.heap[L]? = some (.cells (Array.replicate nx (Value.bool false)) 4)) (hR : W1.heap[R]? = some (.cells (Array.replicate nt (Value.bool false)) 4))
    (hb : Below (w.heap.size + 1) (w.alloc O) W1) (hx : nx ≤ 24) (ht : nt ≤ 24) (hLR : L ≠ R) (h1 : w.heap.size < D) (h2 : w.heap.size < L) (h3 : w.heap.size < R) :
    ∃ Mp' D' L' R' : Nat, Value.pointer (some ⟨Mp, 0, none⟩) = .pointer (some ⟨Mp', 0, none⟩) ∧ Mch ((W1.alloc (.cells #[.slice Ax nx cx, .slice At nt ct, .int .i64 slack, .map (some D), .slice (some ⟨L, 0, none⟩) nx nx, .slice (some ⟨R, 0, none⟩) nt nt] 53)).drew) Mp' Ax At nx cx nt ct slack D' L' R' ∧
      OwnBs ((W1.alloc (.cells #[.slice Ax nx cx, .slice At nt ct, .int .i64 slack, .map (some D), .slice (some ⟨L, 0, none⟩) nx nx, .slice (some ⟨R, 0, none⟩) nt nt] 53)).drew) w.heap.size L' (List.replicate nx false) ∧
      OwnBs ((W1.alloc (.cells #[.slice Ax nx cx, .slice At nt ct, .int .i64 slack, .map (some D), .slice (some ⟨L, 0, none⟩) nx nx, .slice (some ⟨R, 0, none⟩) nt nt] 53)).drew) w.heap.size R' (List.replicate nt false) ∧ L' ≠ R' ∧ Mp' ≠ L' ∧ Mp' ≠ R' ∧ D' ≠ L' ∧ D' ≠ R' ∧ D' ≠ Mp' ∧ w.heap.size < Mp' ∧ w.heap.size < L' ∧ w.heap.size < R' ∧ w.heap.size < D' ∧
      Grp ((W1.alloc (.cells #[.slice Ax nx cx, .slice At nt ct, .int .i64 slack, .map (some D), .slice (some ⟨L, 0, none⟩) nx nx, .slice (some ⟨R, 0, none⟩) nt nt] 53)).drew) ((W1.alloc (.cells #[.slice Ax nx cx, .slice At nt ct, .int .i64 slack, .map (some D), .slice (some ⟨L, 0, none⟩) nx nx, .slice (some ⟨R, 0, none⟩) nt nt] 53)).drew).heap.size D' 0 ts 0 ∧
      Below w.heap.size w ((W1.alloc (.cells #[.slice Ax nx cx, .slice At nt ct, .int .i64 slack, .map (some D), .slice (some ⟨L, 0, none⟩) nx nx, .slice (some ⟨R, 0, none⟩) nt nt] 53)).drew) ∧
      Box4 ((W1.alloc (.cells #[.slice Ax nx cx, .slice At nt ct, .int .i64 slack, .map (some D), .slice (some ⟨L, 0, none⟩) nx nx, .slice (some ⟨R, 0, none⟩) nt nt] 53)).drew) w.heap.size (.slice none 0 0) (.slice none 0 0) (.slice none 0 0) (.slice none 0 0) := by
  subst hO
  subst hMp
  have lt : ∀ {k : Nat} {o : Obj}, W1.heap[k]? = some o → k < W1.heap.size := fun {k o} h => (Array.getElem?_eq_some_iff.1 h).1
  have ltD := lt hD
  have ltL := lt hL
  have ltR := lt hR
  have hs := hb.size
  simp only [World.size_alloc] at hs
  have hDL : D ≠ L := fun e => by
    rw [e, hL] at hD
    cases hD
  have hDR : D ≠ R := fun e => by
    rw [e, hR] at hD
    cases hD
  have key : ∀ {k : Nat} {o o' : Obj}, W1.heap[k]? = some o → (W1.alloc o').drew.heap[k]? = some o := fun {k o o'} h => (Below.heap_alloc W1 o' k (lt h)).trans h
  refine ⟨W1.heap.size, D, L, R, rfl, ?_, ?_, ?_, hLR, by omega, by omega, hDL, hDR, by omega, by omega, h2, h3, h1, ?_, ?_, ?_⟩
  · constructor <;> simp [go_sem]
  · exact OwnBs.of_heap (key hL) (by omega) hx
  · exact OwnBs.of_heap (key hR) (by omega) ht
  · exact Grp.made ts (key hD) (by simp; omega)
  · refine Below.drew (Below.alloc ?_ (by omega) _)
    exact ((Below.refl w.heap.size w).alloc (Nat.le_refl _) _).trans (hb.mono (by omega))
  · refine (Box4.new w _ _ _ _ 28).below ?_
    refine Below.drew (Below.alloc ?_ (by simpa using hs) _)
    simpa using hb

/-- An append to the list of an item's ends, and what the map holds then. -/
theorem Grp.put {wl wa w6 : World} {base D n m g cap : Nat} {ts : List It} {y : It} {v : Value} {zl : List Int}
    (back : ∀ w1 v', wl.grownBy w1 v.ownBlock → OwnNts w1 base v' (zl ++ [(m : Int)]) → (v'.ownBlock = v.ownBlock ∨ ∃ g, v'.ownBlock = some g ∧ wl.heap.size ≤ g) →
        ∃ w2, (Instr.mapUpdate 51 (.map (some D)) (keyV y) v').run Try.prog w1 = .ok () w2 ∧ Grp w2 base D (n + 1) ts (m + 1) ∧ w1.grownBy w2 (some D))
    (hla : wl = wa ∨ ∃ o, wa = wl.alloc o) (hg : wa.grownBy w6 v.ownBlock) (ho : w6.ownsRow base 3 1 (.slice (some ⟨g, 0, none⟩) (zl.length + 1) cap) (zl.length + 1) (zl.flatMap ntCells ++ ntCells (m : Int))) (hat : v.ownBlock = some g ∨ g = wa.heap.size) :
    ∃ w2, (Instr.mapUpdate 51 (.map (some D)) (keyV y) (.slice (some ⟨g, 0, none⟩) (zl.length + 1) cap)).run Try.prog w6 = .ok () w2 ∧ Grp w2 base D (n + 1) ts (m + 1) ∧ w6.grownBy w2 (some D) := by
  have hsz : wl.heap.size ≤ wa.heap.size := by
    rcases hla with rfl | ⟨o, rfl⟩
    · exact Nat.le_refl _
    · simp
  refine back w6 _ ?_ ?_ ?_
  · rcases hla with rfl | ⟨o, rfl⟩
    · exact hg
    · exact grown_alloc hg
  · unfold OwnNts
    rw [List.length_append, List.flatMap_append]
    simpa using ho
  · rcases hat with h | h
    · left
      rw [h]
      rfl
    · right
      exact ⟨g, rfl, by omega⟩
end Go.Proofs.Ytclaijheemkegaa

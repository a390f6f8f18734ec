/-
  Small lemmas for the walk of TopSettle: the parts of usages, and usages in memory.
-/
import Derived.Test.YtmodghiokoiipaaGreatJh
import Derived.Test.YtmodghiokoiipaaGreatGg
import Derived.StillTailTactics
import Derived.Deep.DeepCutAuto
namespace Go.Proofs.YtmodghiokoiipaaGreat
open Go.RowKit
set_option linter.unusedSimpArgs false
set_option linter.unusedVariables false

theorem partsF_append : ∀ (us vs : List Ug) (cs : List Int), partsF (us ++ vs) cs = partsF us cs ++ partsF vs (cs.drop us.length)
  | [], vs, cs => by simp [partsF]
  | u :: us, vs, cs => by
    show cut1 u cs[0]? ++ partsF (us ++ vs) (cs.drop 1) = (cut1 u cs[0]? ++ partsF us (cs.drop 1)) ++ partsF vs (cs.drop (us.length + 1))
    rw [partsF_append us vs (cs.drop 1), List.append_assoc, List.drop_drop, Nat.add_comm 1 us.length]
theorem partsF_snoc {us : List Ug} {k : Nat} {u : Ug} (hu : us[k]? = some u) (cs : List Int) : partsF (us.take (k + 1)) cs = partsF (us.take k) cs ++ cut1 u cs[k]? := by
  have hk : k < us.length := (List.getElem?_eq_some_iff.1 hu).1
  rw [take_snoc hu, partsF_append]
  congr 1
  rw [List.length_take, Nat.min_eq_left (by omega)]
  unfold partsF
  rw [List.getElem?_drop]
  simp [partsF]
theorem cut1_len (u : Ug) (c : Option Int) : (cut1 u c).length ≤ 2 := by
  unfold cut1
  split
  · split <;> simp
  · simp
theorem partsF_len : ∀ (us : List Ug) (cs : List Int), (partsF us cs).length ≤ 2 * us.length
  | [], cs => by simp [partsF]
  | u :: us, cs => by
    have h1 := partsF_len us (cs.drop 1)
    have h2 := cut1_len u cs[0]?
    unfold partsF
    rw [List.length_append, List.length_cons]
    omega
theorem cut1_yes {u : Ug} {m : Int} (h1 : 0 < m) (h2 : m < u.n) : cut1 u (some m) = [{ u with n := m }, { u with n := u.n - m }] := by
  unfold cut1
  dsimp only
  rw [if_pos ⟨h1, h2⟩]
theorem cut1_no {u : Ug} {c : Option Int} (h : ∀ m, c = some m → ¬ (0 < m ∧ m < u.n)) : cut1 u c = [u] := by
  unfold cut1
  split
  · rename_i m
    rw [if_neg (h m rfl)]
  · rfl
theorem UgV.nil' {w : World} {B : Nat} {v : Value} (h : w.ownsRow B UgT 12 v 0 []) : UgV w B v [] := h
theorem UgV.snoc {w : World} {B : Nat} {v : Value} {ps : List Ug} {x : Ug} {cs : List Value} (h : w.ownsRow B UgT 12 v (ps.length + 1) (ps.flatMap Ug.cells ++ cs)) (hc : cs = x.cells) : UgV w B v (ps ++ [x]) := by
  unfold UgV
  rw [List.length_append, List.flatMap_append]
  subst hc
  simpa using h
theorem UgV.below {w w' : World} {B : Nat} {v : Value} {us : List Ug} (h : UgV w B v us) (hb : Below w.heap.size w w') : UgV w' B v us := own_below h hb
theorem UgV.own {w : World} {B : Nat} {v : Value} {us : List Ug} (h : UgV w B v us) : w.ownsRow B UgT 12 v us.length (us.flatMap Ug.cells) := h
/-- Twelve cells of a block. -/
theorem blk12 {w : World} {U : Nat} {a b c d e f g h i j k l : Value} (hb : Blk w U [a, b, c, d, e, f, g, h, i, j, k, l]) : (w.cell? ⟨U, 0, none⟩ = some a ∧ w.cell? ⟨U, 1, none⟩ = some b ∧ w.cell? ⟨U, 2, none⟩ = some c ∧ w.cell? ⟨U, 3, none⟩ = some d ∧ w.cell? ⟨U, 4, none⟩ = some e ∧ w.cell? ⟨U, 5, none⟩ = some f ∧ w.cell? ⟨U, 6, none⟩ = some g ∧ w.cell? ⟨U, 7, none⟩ = some h ∧ w.cell? ⟨U, 8, none⟩ = some i ∧ w.cell? ⟨U, 9, none⟩ = some j ∧ w.cell? ⟨U, 10, none⟩ = some k ∧ w.cell? ⟨U, 11, none⟩ = some l) ∧ w.frozen? ⟨U, 7, none⟩ = false ∧ U < w.heap.size :=
  ⟨⟨(hb.2 0 _ rfl).1, (hb.2 1 _ rfl).1, (hb.2 2 _ rfl).1, (hb.2 3 _ rfl).1, (hb.2 4 _ rfl).1, (hb.2 5 _ rfl).1, (hb.2 6 _ rfl).1, (hb.2 7 _ rfl).1, (hb.2 8 _ rfl).1, (hb.2 9 _ rfl).1, (hb.2 10 _ rfl).1, (hb.2 11 _ rfl).1⟩, (hb.2 7 _ rfl).2, hb.1⟩
theorem Blk.made12 (w : World) (N : Nat) (hN : N = w.heap.size) (a b c d e f g h i j k l : Value) (t : TypeId) : Blk (w.alloc (.cells #[a, b, c, d, e, f, g, h, i, j, k, l] t)) N [a, b, c, d, e, f, g, h, i, j, k, l] := by
  subst hN
  refine ⟨by simp, fun q v hv => ?_⟩
  have hi := (List.getElem?_eq_some_iff.1 hv).1
  rw [← hv]
  match q, hi with
  | 0, _ | 1, _ | 2, _ | 3, _ | 4, _ | 5, _ | 6, _ | 7, _ | 8, _ | 9, _ | 10, _ | 11, _ => exact ⟨by simp [go_sem], by simp [go_sem]⟩
theorem drewN_ext' (w : World) (n : Nat) : w.drewN n = ext w ⟨[], w.drawn + n⟩ := by simp [World.drewN, ext]
/-- A world under a letter, with what is known of it. -/
theorem gen_world2 {p : World → Prop} {W : World} (F : World → Prop) (h0 : F W) (h : ∀ W', F W' → p W') : p W := h W h0
theorem Mon.ofBelow {w w' : World} {B M : Nat} (h : Mon w M) (hb : Below B w w') (hM : M < B) : Mon w' M :=
  ⟨Nat.lt_of_lt_of_le h.1 hb.size, (hb.cell (p := ⟨M, 0, none⟩) hM).trans h.2.1, (hb.cell (p := ⟨M, 1, none⟩) hM).trans h.2.2⟩
/-- Behind both statements: the same error, the same net amount, the same number of charges. -/
theorem stm_same (zs : List Ag) (us : List Ug) (cs : List Int) (h : ∀ u ∈ us, 0 ≤ u.n ∧ u.n ≤ 1099511627776) :
    (stmF zs (partsF us cs)).err = (stmF zs us).err ∧ (stmF zs (partsF us cs)).net = (stmF zs us).net ∧ (stmF zs (partsF us cs)).cs.length = (stmF zs us).cs.length ∧ ∀ (i : Nat) (x y : Ch), (stmF zs us).cs[i]? = some x → (stmF zs (partsF us cs)).cs[i]? = some y → chRel x y := by
  obtain ⟨h1, h2, h3⟩ := stm_cut zs us cs h
  exact ⟨h1.symm, h2.symm, h3.len.symm, fun i x y hx hy => h3.at hx hy⟩
theorem own_len {w : World} {B n m : Nat} {e : TypeId} {v : Value} {xs : List Value} (h : w.ownsRow B e n v m xs) : m ≤ maxLen := by
  rcases h.2 with ⟨_, h0⟩ | ⟨g, cap, cur, hv, hg, hh, hnc, hcm, _⟩
  · rw [h0]
    exact Nat.zero_le _
  · exact Nat.le_trans hnc hcm
theorem oc_at {w : World} {B : Nat} {v : Value} {cs : List Ch} (h : OC w B v cs) {j : Nat} {x : Ch} (hx : cs[j]? = some x) : ∃ g c, v = .slice (some ⟨g, 0, none⟩) cs.length c ∧ g < w.heap.size ∧ w.cell? ⟨g, j * 5, none⟩ = some (.int .i64 x.k) ∧ w.cell? ⟨g, j * 5 + 1, none⟩ = some (.bool x.ib) ∧ w.cell? ⟨g, j * 5 + 2, none⟩ = some (.int .i64 x.cnt) ∧ w.cell? ⟨g, j * 5 + 3, none⟩ = some (.int .i64 x.un) ∧ w.cell? ⟨g, j * 5 + 4, none⟩ = some (.int .i64 x.am) := by
  have hj : j < cs.length := (List.getElem?_eq_some_iff.1 hx).1
  obtain ⟨A, c, rfl, hA⟩ := own_form h
  rcases hA with ⟨rfl, h1, rfl⟩ | ⟨g, rfl, h1, h2, h3⟩
  · omega
  · obtain ⟨-, -, hc⟩ := own_recs cells5 h
    exact ⟨g, c, rfl, h2, (hc j x hx 0 _ rfl).1, (hc j x hx 1 _ rfl).1, (hc j x hx 2 _ rfl).1, (hc j x hx 3 _ rfl).1, (hc j x hx 4 _ rfl).1⟩
end Go.Proofs.YtmodghiokoiipaaGreat

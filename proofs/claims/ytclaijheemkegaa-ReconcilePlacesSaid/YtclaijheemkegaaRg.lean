/-
  The candidates: positions by ends, in a map.
-/
import Derived.Test.YtclaijheemkegaaR11
import Derived.Maps.GroupsBeside
import Derived.WideShapes
namespace Go.Proofs.Ytclaijheemkegaa
open Go.RowKit
open Go.Maps (Keyed)
open Go.ChangeShapes (lits)
set_option linter.unusedSimpArgs false
set_option linter.unusedVariables false

theorem laid : laidOutB Try.prog = true := by kernel_rfl
theorem ends_row : (55 : TypeId) < Try.prog.types.size := of_decide_eq_true (by kernel_rfl)
theorem ends_wide : (match Try.prog.underlying 55 with | some (.array _ _) | some (.struct _) => true | _ => false) = true := by kernel_rfl
theorem ends_keyed : Keyed Try.prog 55 := Keyed.of_law (deep_law_laid laid (m := 2) (by omega) ends_row (by kernel_rfl) ends_wide)
theorem ends_type : Try.prog.keyType 55 = true := by kernel_rfl
theorem types_size : Try.prog.types.size = 88 := by kernel_rfl
theorem ends_cells : Try.prog.cellsOf 55 = 3 := by kernel_rfl
theorem str_cells : Try.prog.cellsOf 9 = 1 := by kernel_rfl
theorem int_cells : Try.prog.cellsOf 3 = 1 := by kernel_rfl
theorem nts_zero (w : World) : (zeroValue 26).run Try.prog w = .ok (.slice none 0 0) w := by kernel_rfl

def keyV (x : It) : Value := .agg #[.string x.a, .string x.b, .int .i64 x.kind]
theorem key_ok {x : It} (ha : x.a.size ≤ maxLen) (hb : x.b.size ≤ maxLen) (hk : fits x.kind) : ∃ kl, keyOf Try.prog 55 (keyV x) = some kl := by
  have hwf : (Lit.int .i64 x.kind).wf = true := by
    unfold fits at hk
    have e1 : IntKind.i64.min = -9223372036854775808 := by decide
    have e2 : IntKind.i64.max = 9223372036854775807 := by decide
    simp [Lit.wf, e1, e2]
    omega
  obtain ⟨m, hm⟩ : ∃ m, Try.prog.types.size + 1 = m + 1 + 1 := ⟨87, by rw [types_size]⟩
  unfold keyOf keyV
  rw [hm]
  simp [Try.underlying55, ends_type, Value.formed, ends_cells, types_size, Value.cells, Program.keyLits, Try.underlying9, Try.underlying3, str_cells, int_cells, ha, hb, hwf]

/-- The positions among the first m of ts with the ends of x. -/
def endsN (x : It) (ts : List It) (m : Nat) : List Nat := (List.range m).filter fun k => match ts[k]? with | some y => endsB x y | none => false
def natI (l : List Nat) : List Int := l.map fun (k : Nat) => (k : Int)
theorem endsN_snoc (x : It) {ts : List It} {m : Nat} {y : It} (h : ts[m]? = some y) : endsN x ts (m + 1) = if endsB x y = true then endsN x ts m ++ [m] else endsN x ts m := by
  unfold endsN
  rw [List.range_succ, List.filter_append]
  simp only [List.filter_cons, List.filter_nil, h]
  split <;> simp_all
theorem endsN_lt (x : It) (ts : List It) (m : Nat) : ∀ k ∈ endsN x ts m, k < m := by
  intro k hk
  unfold endsN at hk
  simpa using (List.mem_filter.1 hk).1
theorem endsN_len (x : It) (ts : List It) (m : Nat) : (endsN x ts m).length ≤ m := by
  unfold endsN
  have := List.length_filter_le (fun k => match ts[k]? with | some y => endsB x y | none => false) (List.range m)
  simpa using this
theorem natI_append (l l' : List Nat) : natI (l ++ l') = natI l ++ natI l' := by simp [natI]
theorem wf_i64 {z : Int} (h : fits z) : (Lit.int .i64 z).wf = true := by
  unfold fits at h
  have e1 : IntKind.i64.min = -9223372036854775808 := by decide
  have e2 : IntKind.i64.max = 9223372036854775807 := by decide
  simp [Lit.wf, e1, e2]
  omega
theorem key_ends {x y : It} : endsB x y = true ↔ keyV x = keyV y := by
  unfold endsB keyV
  simp only [decide_eq_true_eq, Value.agg.injEq, Array.mk.injEq, List.cons.injEq, Value.string.injEq, Value.int.injEq, and_true, true_and]
  constructor
  · rintro ⟨h1, h2, h3⟩
    rw [ByteArray.toList_eq, ByteArray.toList_eq] at h1 h2
    exact ⟨WideShapes.bytes_inj h1, WideShapes.bytes_inj h2, h3⟩
  · rintro ⟨h1, h2, h3⟩
    rw [h1, h2]
    exact ⟨rfl, rfl, h3⟩

theorem flat_ints (l : List Int) : l.flatMap ntCells = l.map (Value.int .i64) := by
  induction l with
  | nil => rfl
  | cons x l ih => rw [List.flatMap_cons, ih]; rfl
theorem OwnNts.ints {w : World} {B : Nat} {v : Value} {l : List Int} (h : OwnNts w B v l) (hf : ∀ z ∈ l, fits z) : w.ownsInts B 3 .i64 v l := ⟨by
  have h := h
  unfold OwnNts at h
  rw [flat_ints] at h
  exact h, fun z hz => wf_i64 (hf z hz)⟩
theorem OwnNts.of {w : World} {B : Nat} {v : Value} {l : List Int} (h : w.ownsInts B 3 .i64 v l) : OwnNts w B v l := by
  unfold OwnNts
  rw [flat_ints]
  exact h.1

def dat (l : List Int) : DataW Unit := if l = [] then .nil else .slice (lits .i64 l) []
theorem dat_row {w : World} {B : Nat} {v : Value} {l zs : List Int} (h : w.ownsInts B 3 .i64 v zs) (hd : dat l = rowDatum .i64 v zs) : l = zs := by
  unfold dat at hd
  rcases h.datum (H := Unit) with ⟨h1, h2⟩ | h1
  · rw [h1] at hd
    split at hd
    · rename_i hl
      rw [hl, h2]
    · cases hd
  · rw [h1] at hd
    split at hd
    · cases hd
    · simp only [DataW.slice.injEq, and_true] at hd
      unfold lits at hd
      exact (List.map_inj_right (fun a b hab => by simpa using hab)).1 hd

/-- Block D holds, for all ends, the positions among the first m of ts. -/
def Grp (w : World) (base D n : Nat) (ts : List It) (m : Nat) : Prop := ∃ Dm : DataW Unit, w.ownsGroups Try.prog 55 base 3 .i64 D n Dm ∧ ∀ (x : It) (kl : Lit), keyOf Try.prog 55 (keyV x) = some kl → Dm.atKey kl .nil = dat (natI (endsN x ts m))

theorem natI_fits {l : List Nat} (h : ∀ k ∈ l, k ≤ 1000) : ∀ z ∈ natI l, fits z := by
  intro z hz
  unfold natI at hz
  obtain ⟨k, hk, rfl⟩ := List.mem_map.1 hz
  have := h k hk
  unfold fits
  omega
theorem Grp.look {w : World} {base D n : Nat} {ts : List It} {m : Nat} (h : Grp w base D n ts m) {y : It} (hn : n < maxLen) (hm : m ≤ 100) (ha : y.a.size ≤ maxLen) (hb : y.b.size ≤ maxLen) (hk : fits y.kind) :
    ∃ v, (Instr.lookup 51 (.map (some D)) (keyV y) false).run Try.prog w = .ok v w ∧ OwnNts w base v (natI (endsN y ts m)) ∧ (endsN y ts m).length ≤ n ∧
      (ts[m]? = some y → ∀ w1 v', w.grownBy w1 v.ownBlock → OwnNts w1 base v' (natI (endsN y ts m) ++ [(m : Int)]) → (v'.ownBlock = v.ownBlock ∨ ∃ g, v'.ownBlock = some g ∧ w.heap.size ≤ g) →
        ∃ w2, (Instr.mapUpdate 51 (.map (some D)) (keyV y) v').run Try.prog w1 = .ok () w2 ∧ Grp w2 base D (n + 1) ts (m + 1) ∧ w1.grownBy w2 (some D)) := by
  obtain ⟨Dm, hown, hrel⟩ := h
  obtain ⟨kl, hkl⟩ := key_ok ha hb hk
  obtain ⟨v, zs, hrun, hat, hoi, hzl, hback⟩ := hown.at ends_keyed Try.underlying51 (nts_zero w) hn hkl
  have hzs : natI (endsN y ts m) = zs := dat_row hoi ((hrel y kl hkl).symm.trans hat)
  subst hzs
  refine ⟨v, hrun, OwnNts.of hoi, by simpa [natI] using hzl, fun hy w1 v' hg ho hloc => ?_⟩
  have hoi' := ho.ints (fun z hz => by
    rcases List.mem_append.1 hz with hz | hz
    · exact natI_fits (fun k hk => by have := endsN_lt y ts m k hk; omega) z hz
    · obtain rfl := List.mem_singleton.1 hz
      unfold fits
      omega)
  obtain ⟨w2, hrun2, hown2, hg2⟩ := hback w1 v' _ hg hoi' (by simpa using hzl) hloc
  refine ⟨w2, hrun2, ⟨_, hown2, fun x kx hkx => ?_⟩, hg2⟩
  have hmap : Maps.IsMap Dm := by
    obtain ⟨es, clock, _, _, _, rfl, _⟩ := hown
    exact ⟨_, rfl⟩
  by_cases e : kx = kl
  · subst e
    have hxy : endsB x y = true := key_ends.2 (ends_keyed.inj hkx hkl)
    have hsame : endsN x ts m = endsN y ts m := by
      unfold endsN
      congr 1
      funext k
      cases ts[k]? with
      | none => rfl
      | some z =>
        dsimp only
        rw [Bool.eq_iff_iff, key_ends, key_ends, key_ends.1 hxy]
    rw [Maps.atKey_put_same hmap (ends_keyed.key hkl), endsN_snoc x hy, if_pos hxy, hoi'.datum_pos (by simp), natI_append, hsame]
    unfold dat
    rw [if_neg (by simp [natI])]
    rfl
  · rw [Maps.atKey_put_other e, endsN_snoc x hy, if_neg]
    · exact hrel x kx hkx
    · intro hxy
      rw [key_ends.1 hxy, hkl] at hkx
      exact e (Option.some.inj hkx).symm

/-- A new map. -/
theorem Grp.made {w : World} {base D : Nat} (ts : List It) (hb : w.heap[D]? = some (.map #[] 0)) (h : D < base) : Grp w base D 0 ts 0 :=
  ⟨.map [], ⟨#[], 0, hb, ⟨by simp, MapKept.stamped_empty 0, by simp⟩, Nat.le_refl _, rfl, h, by simp, by simp⟩, fun x kl _ => rfl⟩
theorem OwnBs.heap {w : World} {B L : Nat} {l : List Bool} (h : OwnBs w B L l) : ∃ cur, w.heap[L]? = some (.cells cur 4) := by
  rcases h.2 with ⟨h3, _⟩ | ⟨g, cap, cur, hv, _, hh, _⟩
  · cases h3
  · simp only [Value.slice.injEq, Option.some.injEq, Addr.mk.injEq] at hv
    obtain ⟨⟨rfl, _⟩, _⟩ := hv
    exact ⟨cur, hh⟩
/-- Rows of another kind may change. -/
theorem Grp.kp {M U : Nat} {w w' : World} {base D n m B1 B2 : Nat} {ts : List It} {l1 l2 : List Bool} (h : Grp w base D n ts m) (k : Kp M U w w') (h1 : OwnBs w B1 M l1) (h2 : OwnBs w B2 U l2) : Grp w' base D n ts m := by
  obtain ⟨Dm, ⟨es, clock, hb, F, hs, hD, hbb, hlen, hap⟩, hrel⟩ := h
  have hlt : D < w.heap.size := (Array.getElem?_eq_some_iff.1 hb).1
  obtain ⟨c1, e1⟩ := h1.heap
  obtain ⟨c2, e2⟩ := h2.heap
  have n1 : D ≠ M := fun e => by
    rw [e, e1] at hb
    cases hb
  have n2 : D ≠ U := fun e => by
    rw [e, e2] at hb
    cases hb
  have keep : ∀ v zs, w.ownsInts base 3 .i64 v zs → w'.ownsInts base 3 .i64 v zs := fun v zs h => ⟨k.keep h.1 h1 h2 (by decide), h.2⟩
  have hst : ∀ x ∈ es.toList, ∀ z, rowElem (H := Unit) w base 3 .i64 x.val = some z → rowElem w' base 3 .i64 x.val = some z := fun x hx z hz => by
    obtain ⟨zs, ho, rfl⟩ := rowElem_inv hz
    exact rowElem_mk (keep _ _ ho)
  obtain ⟨F1, hmap, _⟩ := F.stay hst
  refine ⟨Dm, ⟨es, clock, (k.block D hlt n1 n2).trans hb, F1, hs, by rw [hmap]; exact hD, hbb, fun x hx zs ho => ?_, hap⟩, hrel⟩
  obtain ⟨y, hy⟩ := F.reads x hx
  obtain ⟨z, hz, _⟩ := WideElems.rd_val hy
  obtain ⟨zs0, ho0, _⟩ := rowElem_inv hz
  rw [ho.unique (keep _ _ ho0)]
  exact hlen x hx zs0 ho0
end Go.Proofs.Ytclaijheemkegaa

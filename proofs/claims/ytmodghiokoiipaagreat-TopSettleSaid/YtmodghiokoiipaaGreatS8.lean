/-
  The plain law of settling: what a statement is, that cutting a usage turns nothing but counts, and that no charge is above the cap.
-/
import Derived.Test.YtmodghiokoiipaaGreatS7
namespace Go.Proofs.YtmodghiokoiipaaGreat
open Go.RowKit
set_option linter.unusedSimpArgs false
set_option linter.unusedVariables false

/-- A charge. -/
structure Ch where
  k : Int
  ib : Bool
  cnt : Int
  un : Int
  am : Int
def Ch.cells (x : Ch) : List Value := [.int .i64 x.k, .bool x.ib, .int .i64 x.cnt, .int .i64 x.un, .int .i64 x.am]
/-- An error, charges, a net amount. -/
structure Stm where
  err : Int
  cs : List Ch
  net : Int
def chOf (a : Ag) (g : Int × Int) : Ch := ⟨a.k, a.ib, g.1, g.2, (agF a.st a.cap g.2).1⟩
def netOf (a : Ag) (g : Int × Int) (net : Int) : Int := if a.ib then net + (agF a.st a.cap g.2).1 else net - (agF a.st a.cap g.2).1
def stmL (g : Nat → Int × Int) : List Ag → Nat → List Ch → Int → Stm
  | [], _, cs, net => if -1125899906842624 ≤ net ∧ net ≤ 1125899906842624 then ⟨0, cs, net⟩ else ⟨6, [], 0⟩
  | a :: l, i, cs, net => if 0 < (g i).1 then (if (agF a.st a.cap (g i).2).2 = 0 then stmL g l (i + 1) (cs ++ [chOf a (g i)]) (netOf a (g i) net) else ⟨(agF a.st a.cap (g i).2).2, [], 0⟩) else stmL g l (i + 1) cs net
def stmF (zs : List Ag) (us : List Ug) : Stm := if chkF zs ≠ 0 then ⟨chkF zs, [], 0⟩ else stmL (totF (srtF zs) us) (srtF zs) 0 [] 0

/-- The same charges, but for counts. -/
def chRel (x y : Ch) : Prop := x.k = y.k ∧ x.ib = y.ib ∧ x.un = y.un ∧ x.am = y.am ∧ x.cnt ≤ y.cnt
inductive ChR : List Ch → List Ch → Prop
  | nil : ChR [] []
  | cons {x y : Ch} {l m : List Ch} (h : chRel x y) (t : ChR l m) : ChR (x :: l) (y :: m)
theorem ChR.len : ∀ {l m : List Ch}, ChR l m → l.length = m.length
  | _, _, .nil => rfl
  | _, _, .cons _ t => by rw [List.length_cons, List.length_cons, t.len]
theorem ChR.snoc {x y : Ch} (h : chRel x y) : ∀ {l m : List Ch}, ChR l m → ChR (l ++ [x]) (m ++ [y])
  | _, _, .nil => .cons h .nil
  | _, _, .cons h0 t => .cons h0 (ChR.snoc h t)
theorem ChR.at : ∀ {l m : List Ch}, ChR l m → ∀ {i : Nat} {x y : Ch}, l[i]? = some x → m[i]? = some y → chRel x y
  | _, _, .nil, i, x, y, h, _ => by simp at h
  | _, _, .cons h0 t, 0, x, y, h, h' => by
    obtain rfl := Option.some.inj h
    obtain rfl := Option.some.inj h'
    exact h0
  | _, _, .cons h0 t, i + 1, x, y, h, h' => t.at (by simpa using h) (by simpa using h')
theorem stmL_rel {g g' : Nat → Int × Int} (hg : ∀ i, (g i).2 = (g' i).2 ∧ (0 < (g i).1 ↔ 0 < (g' i).1) ∧ (g i).1 ≤ (g' i).1) : ∀ (l : List Ag) (i : Nat) (cs cs' : List Ch) (net : Int), ChR cs cs' →
    (stmL g l i cs net).err = (stmL g' l i cs' net).err ∧ (stmL g l i cs net).net = (stmL g' l i cs' net).net ∧ ChR (stmL g l i cs net).cs (stmL g' l i cs' net).cs
  | [], i, cs, cs', net, h => by
    unfold stmL
    split
    · exact ⟨rfl, rfl, h⟩
    · exact ⟨rfl, rfl, .nil⟩
  | a :: l, i, cs, cs', net, h => by
    obtain ⟨h1, h2, h3⟩ := hg i
    unfold stmL
    by_cases hp : 0 < (g i).1
    · rw [if_pos hp, if_pos (h2.1 hp), ← h1]
      by_cases he : (agF a.st a.cap (g i).2).2 = 0
      · rw [if_pos he, if_pos he]
        have : netOf a (g' i) net = netOf a (g i) net := by unfold netOf; rw [h1]
        rw [this]
        refine stmL_rel hg l (i + 1) _ _ _ (ChR.snoc ?_ h)
        unfold chOf
        exact ⟨rfl, rfl, h1, by rw [h1], h3⟩
      · rw [if_neg he, if_neg he]
        exact ⟨rfl, rfl, .nil⟩
    · rw [if_neg hp, if_neg (fun x => hp (h2.2 x))]
      exact stmL_rel hg l (i + 1) _ _ _ h

/-- A usage, cut. -/
def cut1 (u : Ug) (c : Option Int) : List Ug := match c with
  | some c => if 0 < c ∧ c < u.n then [{ u with n := c }, { u with n := u.n - c }] else [u]
  | none => [u]
def partsF : List Ug → List Int → List Ug
  | [], _ => []
  | u :: us, cs => cut1 u cs[0]? ++ partsF us (cs.drop 1)
theorem hit_units (zs : List Ag) (u : Ug) (n : Int) : hit zs { u with n := n } = hit zs u := rfl
theorem totF_append (zs : List Ag) (us vs : List Ug) (j : Nat) : totF zs (us ++ vs) j = ((totF zs us j).1 + (totF zs vs j).1, (totF zs us j).2 + (totF zs vs j).2) := by
  unfold totF
  rw [List.filter_append]
  simp
theorem totF_one (zs : List Ag) (u : Ug) (j : Nat) : totF zs [u] j = if hit zs u = some j then (1, un u.n) else (0, 0) := by
  unfold totF
  by_cases h : hit zs u = some j
  · rw [if_pos h, List.filter_cons, if_pos (by simpa using h)]
    simp
  · rw [if_neg h, List.filter_cons, if_neg (by simpa using h)]
    simp
theorem tot_cut (zs : List Ag) (u : Ug) (c : Option Int) (hu : 0 ≤ u.n ∧ u.n ≤ 1099511627776) (j : Nat) : (totF zs [u] j).2 = (totF zs (cut1 u c) j).2 ∧ (0 < (totF zs [u] j).1 ↔ 0 < (totF zs (cut1 u c) j).1) ∧ (totF zs [u] j).1 ≤ (totF zs (cut1 u c) j).1 := by
  cases c with
  | none => exact ⟨rfl, Iff.rfl, Int.le_refl _⟩
  | some c =>
    unfold cut1
    dsimp only
    by_cases hc : 0 < c ∧ c < u.n
    · rw [if_pos hc, show [({ u with n := c } : Ug), { u with n := u.n - c }] = [{ u with n := c }] ++ [{ u with n := u.n - c }] from rfl, totF_append, totF_one, totF_one, totF_one, hit_units zs u c, hit_units zs u (u.n - c)]
      by_cases h : hit zs u = some j
      · rw [if_pos h, if_pos h, if_pos h]
        unfold un
        dsimp only
        rw [if_pos hu, if_pos (by omega), if_pos (by omega)]
        omega
      · rw [if_neg h, if_neg h, if_neg h]
        dsimp only
        omega
    · rw [if_neg hc]
      exact ⟨rfl, Iff.rfl, Int.le_refl _⟩
theorem tot_parts (zs : List Ag) (j : Nat) : ∀ (us : List Ug) (cs : List Int), (∀ u ∈ us, 0 ≤ u.n ∧ u.n ≤ 1099511627776) → (totF zs us j).2 = (totF zs (partsF us cs) j).2 ∧ (0 < (totF zs us j).1 ↔ 0 < (totF zs (partsF us cs) j).1) ∧ (totF zs us j).1 ≤ (totF zs (partsF us cs) j).1
  | [], cs, _ => ⟨rfl, Iff.rfl, Int.le_refl _⟩
  | u :: us, cs, h => by
    obtain ⟨a1, a2, a3⟩ := tot_cut zs u cs[0]? (h u List.mem_cons_self) j
    obtain ⟨b1, b2, b3⟩ := tot_parts zs j us (cs.drop 1) (fun x hx => h x (List.mem_cons_of_mem _ hx))
    have c0 := (totF_in zs j us).1
    have c1 := (totF_in zs j [u]).1
    have c2 := (totF_in zs j (cut1 u cs[0]?)).1
    have c3 := (totF_in zs j (partsF us (cs.drop 1))).1
    rw [show u :: us = [u] ++ us from rfl]
    unfold partsF
    rw [show [u] ++ us = u :: us from rfl]
    dsimp only
    rw [show u :: us = [u] ++ us from rfl, totF_append, totF_append]
    dsimp only
    omega
/-- Cutting usages turns nothing but counts. -/
theorem stm_cut (zs : List Ag) (us : List Ug) (cs : List Int) (h : ∀ u ∈ us, 0 ≤ u.n ∧ u.n ≤ 1099511627776) :
    (stmF zs us).err = (stmF zs (partsF us cs)).err ∧ (stmF zs us).net = (stmF zs (partsF us cs)).net ∧ ChR (stmF zs us).cs (stmF zs (partsF us cs)).cs := by
  unfold stmF
  split
  · exact ⟨rfl, rfl, .nil⟩
  · exact stmL_rel (fun i => tot_parts (srtF zs) i us cs h) _ _ _ _ _ .nil

/-- The price of an agreement is within its cap. -/
theorem agF_in (st : List St) (cap n : Int) (h : (agF st cap n).2 = 0) : 0 ≤ (agF st cap n).1 ∧ (agF st cap n).1 ≤ 1125899906842624 ∧ (cap ≠ 0 → (agF st cap n).1 ≤ cap) := by
  unfold agF at h ⊢
  by_cases h1 : n < 0 ∨ 1099511627776 < n ∨ cap < 0 ∨ 1125899906842624 < cap
  · rw [if_pos h1] at h
    cases h
  rw [if_neg h1] at h ⊢
  by_cases h2 : (capF st cap n).2 ≠ 0
  · rw [if_pos h2] at h
    exact absurd h h2
  rw [if_neg h2] at h ⊢
  by_cases h3 : (capF st cap 0).2 ≠ 0
  · rw [if_pos h3] at h
    exact absurd h h3
  rw [if_neg h3] at h ⊢
  obtain ⟨a1, a2, a3⟩ := capF_in st cap n (by omega)
  have hz : (capF st cap 0).1 = 0 := by
    have hl : (ladF st 0).1 = 0 := by
      unfold ladF
      split
      · rfl
      · rw [if_neg (by omega)]
        cases st with
        | nil => rfl
        | cons s l =>
          unfold priceL
          rw [if_pos]
          unfold toOf
          split
          · exact Int.le_refl _
          · exact Int.min_le_left _ _
    obtain ⟨b1, b2, b3⟩ := capF_in st cap 0 (by omega)
    unfold capF at b1 ⊢
    dsimp only at b1 ⊢
    split
    · exact hl
    · rw [hl] at b1 ⊢
      rename_i hc
      rw [if_neg hc] at b1
      have := Int.min_le_left 0 cap
      omega
  dsimp only
  rw [hz]
  refine ⟨by omega, by omega, fun hc => ?_⟩
  have := a3 hc
  omega
/-- What is true of a charge under agreements. -/
def chIn (zs : List Ag) (x : Ch) : Prop := 0 ≤ x.am ∧ ∃ a ∈ zs, a.p = 7 ∧ a.k = x.k ∧ a.ib = x.ib ∧ x.am ≤ 1125899906842624 ∧ (a.cap ≠ 0 → x.am ≤ a.cap)
theorem hit_at {zs : List Ag} {u : Ug} {i : Nat} (h : hit zs u = some i) : ∃ a, zs[i]? = some a ∧ hitB a u = true := by
  unfold hit at h
  split at h
  · obtain ⟨hl, h1, _⟩ := List.findIdx?_eq_some_iff_getElem.1 h
    exact ⟨zs[i], List.getElem?_eq_getElem hl, h1⟩
  · cases h
theorem tot_pos {zs : List Ag} {us : List Ug} {i : Nat} {a : Ag} (h : 0 < (totF zs us i).1) (ha : zs[i]? = some a) : a.p = 7 := by
  unfold totF at h
  simp only at h
  have h2 : 0 < (us.filter fun u => hit zs u == some i).length := by omega
  obtain ⟨u, hu⟩ := List.exists_mem_of_length_pos h2
  have := (List.mem_filter.1 hu).2
  obtain ⟨a', ha', hb⟩ := hit_at (by simpa using this)
  rw [ha] at ha'
  obtain rfl := Option.some.inj ha'
  unfold hitB at hb
  rw [Bool.and_eq_true, decide_eq_true_eq] at hb
  exact hb.1.1
theorem stmL_in (zs Z : List Ag) (us : List Ug) (hz : ∀ a ∈ Z, a ∈ zs) : ∀ (l : List Ag) (i : Nat) (cs : List Ch) (net : Int), Z.drop i = l → (∀ x ∈ cs, chIn zs x) → ∀ x ∈ (stmL (totF Z us) l i cs net).cs, chIn zs x
  | [], i, cs, net, _, h => by
    unfold stmL
    split
    · exact h
    · intro x hx
      cases hx
  | a :: l, i, cs, net, hd, h => by
    have hl : i < Z.length := by
      rcases Nat.lt_or_ge i Z.length with h1 | h1
      · exact h1
      · rw [List.drop_eq_nil_of_le h1] at hd
        cases hd
    have hd2 := List.drop_eq_getElem_cons hl
    rw [hd] at hd2
    obtain ⟨e1, e2⟩ := List.cons.inj hd2
    have hai : Z[i]? = some a := by rw [List.getElem?_eq_getElem hl, e1]
    unfold stmL
    split
    · rename_i hp
      split
      · rename_i he
        refine stmL_in zs Z us hz l (i + 1) _ _ e2.symm ?_
        intro x hx
        rcases List.mem_append.1 hx with hx | hx
        · exact h x hx
        · obtain rfl := List.mem_singleton.1 hx
          obtain ⟨a1, a2, a3⟩ := agF_in a.st a.cap _ he
          exact ⟨a1, a, hz a (List.mem_of_getElem? hai), tot_pos hp hai, rfl, rfl, a2, a3⟩
      · intro x hx
        cases hx
    · exact stmL_in zs Z us hz l (i + 1) _ _ e2.symm h
theorem stm_in (zs : List Ag) (us : List Ug) : ∀ x ∈ (stmF zs us).cs, chIn zs x := by
  unfold stmF
  split
  · intro x hx
    cases hx
  · exact stmL_in zs (srtF zs) us (fun a ha => srtF_mem ha) _ 0 [] 0 rfl (fun x hx => by cases hx)
/-- The greatest cap. -/
def mostS (x : Ch) (m : Int) (a : Ag) : Int := if a.p = 7 ∧ a.k = x.k ∧ a.ib = x.ib then max (if a.cap = 0 then 1125899906842624 else m) a.cap else m
def mostF (x : Ch) (zs : List Ag) : Int := zs.foldl (mostS x) 0
theorem mostF_snoc (x : Ch) (zs : List Ag) (a : Ag) : mostF x (zs ++ [a]) = mostS x (mostF x zs) a := by
  unfold mostF
  rw [List.foldl_append]
  rfl
def capsIn (zs : List Ag) : Prop := ∀ a ∈ zs, a.cap ≤ 1125899906842624
theorem most_le (x : Ch) (n : Int) (hn : n ≤ 1125899906842624) : ∀ (zs : List Ag) (m : Int), n ≤ m → n ≤ zs.foldl (mostS x) m
  | [], m, h => h
  | a :: zs, m, h => by
    rw [List.foldl_cons]
    refine most_le x n hn zs _ ?_
    unfold mostS
    split
    · split <;> omega
    · exact h
theorem most_at (x : Ch) : ∀ (zs : List Ag) (m : Int), (∃ a ∈ zs, a.p = 7 ∧ a.k = x.k ∧ a.ib = x.ib ∧ x.am ≤ 1125899906842624 ∧ (a.cap ≠ 0 → x.am ≤ a.cap)) → x.am ≤ zs.foldl (mostS x) m
  | [], m, ⟨a, ha, _⟩ => by cases ha
  | b :: zs, m, ⟨a, ha, h⟩ => by
    rw [List.foldl_cons]
    rcases List.mem_cons.1 ha with rfl | ha
    · obtain ⟨h1, h2, h3, h4, h5⟩ := h
      refine most_le x x.am h4 zs _ ?_
      unfold mostS
      rw [if_pos ⟨h1, h2, h3⟩]
      split
      · omega
      · rename_i hc
        have := h5 hc
        omega
    · exact most_at x zs _ ⟨a, ha, h⟩
/-- No charge is above the greatest cap. -/
theorem stm_most (zs : List Ag) (us : List Ug) (x : Ch) (h : x ∈ (stmF zs us).cs) : 0 ≤ x.am ∧ x.am ≤ mostF x zs := by
  obtain ⟨h0, h1⟩ := stm_in zs us x h
  exact ⟨h0, most_at x zs 0 h1⟩
end Go.Proofs.YtmodghiokoiipaaGreat

/-
  Every position is marked once: the plain laws of Compare.
-/
import Derived.Test.YtclaijheemkegaaRm
namespace Go.Proofs.Ytclaijheemkegaa
set_option linter.unusedSimpArgs false
set_option linter.unusedVariables false

/-- The positions l, one after another, are free, and are then marked. -/
def Marks : List Bool → List Int → List Bool → Prop
  | m, [], m' => m = m'
  | m, i :: l, m' => 0 ≤ i ∧ m[i.toNat]? = some false ∧ Marks (m.set i.toNat true) l m'
theorem Marks.append : ∀ {l l' : List Int} {m m1 m2 : List Bool}, Marks m l m1 → Marks m1 l' m2 → Marks m (l ++ l') m2
  | [], l', m, m1, m2, h, h' => by
    obtain rfl : m = m1 := h
    exact h'
  | i :: l, l', m, m1, m2, h, h' => ⟨h.1, h.2.1, Marks.append h.2.2 h'⟩
theorem Marks.snoc {l : List Int} {m m1 : List Bool} {i : Nat} (h : Marks m l m1) (hi : m1[i]? = some false) : Marks m (l ++ [(i : Int)]) (m1.set i true) :=
  h.append ⟨by omega, by simpa using hi, by simp [Marks]⟩
theorem Marks.len : ∀ {l : List Int} {m m1 : List Bool}, Marks m l m1 → m1.length = m.length
  | [], m, m1, h => by
    obtain rfl : m = m1 := h
    rfl
  | i :: l, m, m1, h => by
    have := Marks.len h.2.2
    simpa using this

theorem can_free {x : It} {slack : Int} {ex : Bool} {ts : List It} {used : List Bool} {k : Nat} (h : canB x slack ex ts used k = true) : used[k]? = some false ∧ ∃ y, ts[k]? = some y ∧ fitB x y slack ex = true := by
  unfold canB at h
  split at h
  · rename_i y hy hu
    exact ⟨hu, y, hy, h⟩
  · cases h
theorem pass_marks (xs ts : List It) (slack : Int) (ex : Bool) (mine used : List Bool) : ∀ n,
    Marks mine ((passN xs ts slack ex mine used n).out.map Prod.fst) (passN xs ts slack ex mine used n).mine ∧
    Marks used ((passN xs ts slack ex mine used n).out.map Prod.snd) (passN xs ts slack ex mine used n).used ∧
    ∀ p ∈ (passN xs ts slack ex mine used n).out, ∃ (i k : Nat) (x y : It), p = ((i : Int), (k : Int)) ∧ xs[i]? = some x ∧ ts[k]? = some y ∧ fitB x y slack ex = true
  | 0 => ⟨rfl, rfl, fun p hp => by cases hp⟩
  | n + 1 => by
    obtain ⟨h1, h2, h3⟩ := pass_marks xs ts slack ex mine used n
    unfold passN
    split
    · rename_i x hx
      generalize passN xs ts slack ex mine used n = s at *
      unfold stepP
      split
      · rename_i hm
        split
        · rename_i k hk
          obtain ⟨hu, y, hy, hf⟩ := can_free (List.find?_some hk)
          dsimp only
          refine ⟨?_, ?_, fun p hp => ?_⟩
          · rw [List.map_append]
            exact h1.snoc hm
          · rw [List.map_append]
            exact h2.snoc hu
          · rcases List.mem_append.1 hp with hp | hp
            · exact h3 p hp
            · obtain rfl := List.mem_singleton.1 hp
              exact ⟨n, k, x, y, rfl, hx, hy, hf⟩
        · exact ⟨h1, h2, h3⟩
      · exact ⟨h1, h2, h3⟩
    · exact ⟨h1, h2, h3⟩
theorem left_marks (m : List Bool) : ∀ n, n ≤ m.length → ∃ m', Marks m (leftN m n) m' ∧ ∀ k, k < m.length → m'[k]? = if k < n then some true else m[k]?
  | 0, _ => ⟨m, rfl, fun k _ => by simp⟩
  | n + 1, hn => by
    obtain ⟨m', h1, h2⟩ := left_marks m n (by omega)
    have hl := h1.len
    unfold leftN
    split
    · rename_i hm
      have hm' : m'[n]? = some false := by rw [h2 n (by omega), if_neg (by omega), hm]
      refine ⟨_, h1.snoc hm', fun k hk => ?_⟩
      rw [List.getElem?_set]
      split
      · rename_i h
        subst h
        rw [if_pos (by omega), if_pos (by omega)]
      · rw [h2 k hk]
        by_cases hkn : k < n
        · rw [if_pos hkn, if_pos (by omega)]
        · rw [if_neg hkn, if_neg (by omega)]
    · rename_i hm
      refine ⟨m', h1, fun k hk => ?_⟩
      rw [h2 k hk]
      by_cases hkn : k < n
      · rw [if_pos hkn, if_pos (by omega)]
      · by_cases hke : k = n
        · subst hke
          rw [if_neg hkn, if_pos (by omega)]
          have hg : m[k]? = some m[k] := List.getElem?_eq_getElem hk
          rw [hg] at hm ⊢
          cases hb : m[k]
          · rw [hb] at hm
            exact absurd rfl hm
          · rfl
        · rw [if_neg hkn, if_neg (by omega)]

/-- The sum over the free positions. -/
def S (f : Nat → Int) : List Bool → Nat → Int
  | [], _ => 0
  | b :: m, k => (if b then 0 else f k) + S f m (k + 1)
theorem S_set (f : Nat → Int) : ∀ (m : List Bool) (k i : Nat), m[i]? = some false → S f m k = f (k + i) + S f (m.set i true) k
  | [], k, i, h => by simp at h
  | b :: m, k, 0, h => by
    obtain rfl : b = false := by simpa using h
    simp [S]
  | b :: m, k, i + 1, h => by
    have ih := S_set f m (k + 1) i (by simpa using h)
    simp only [S, List.set_cons_succ]
    rw [ih, show k + 1 + i = k + (i + 1) by omega]
    omega
theorem Marks.sum (f : Nat → Int) : ∀ {l : List Int} {m m1 : List Bool}, Marks m l m1 → S f m 0 = (l.map fun i => f i.toNat).sum + S f m1 0
  | [], m, m1, h => by
    obtain rfl : m = m1 := h
    simp
  | i :: l, m, m1, h => by
    have ih := Marks.sum f h.2.2
    have := S_set f m 0 i.toNat h.2.1
    rw [List.map_cons, List.sum_cons, this, ih, Nat.zero_add]
    omega
theorem S_done (f : Nat → Int) : ∀ (m : List Bool) (k : Nat), (∀ j, j < m.length → m[j]? = some true) → S f m k = 0
  | [], k, _ => rfl
  | b :: m, k, h => by
    obtain rfl : b = true := by simpa using h 0 (by simp)
    have ih := S_done f m (k + 1) (fun j hj => by simpa using h (j + 1) (by simpa using hj))
    simp [S, ih]
end Go.Proofs.Ytclaijheemkegaa

/-
  The plain model of Compare.
-/
import Derived.Test.YtclaijheemkegaaR4
namespace Go.Proofs.Ytclaijheemkegaa
set_option linter.unusedSimpArgs false
set_option linter.unusedVariables false

def fitB (x y : It) (slack : Int) (ex : Bool) : Bool := agreeB x y slack && (!ex || decide (x.units = y.units))
/-- Whether the position k of theirs is free and fits x. -/
def canB (x : It) (slack : Int) (ex : Bool) (ts : List It) (used : List Bool) (k : Nat) : Bool :=
  match ts[k]?, used[k]? with
  | some y, some false => fitB x y slack ex
  | _, _ => false
def pick (x : It) (slack : Int) (ex : Bool) (ts : List It) (used : List Bool) : Option Nat := (List.range ts.length).find? (canB x slack ex ts used)
/-- What a pass has done. -/
structure Ps where
  out : List (Int × Int)
  mine : List Bool
  used : List Bool
def stepP (slack : Int) (ex : Bool) (ts : List It) (i : Nat) (x : It) (s : Ps) : Ps :=
  match s.mine[i]? with
  | some false => (match pick x slack ex ts s.used with
    | some k => ⟨s.out ++ [((i : Int), (k : Int))], s.mine.set i true, s.used.set k true⟩
    | none => s)
  | _ => s
def passN (xs ts : List It) (slack : Int) (ex : Bool) (mine used : List Bool) : Nat → Ps
  | 0 => ⟨[], mine, used⟩
  | n + 1 => match xs[n]? with
    | some x => stepP slack ex ts n x (passN xs ts slack ex mine used n)
    | none => passN xs ts slack ex mine used n
def leftN (m : List Bool) : Nat → List Int
  | 0 => []
  | n + 1 => if m[n]? = some false then leftN m n ++ [(n : Int)] else leftN m n
structure Mt where
  pairs : List (Int × Int)
  differ : List (Int × Int)
  ours : List Int
  theirs : List Int
def p1 (xs ts : List It) (slack : Int) : Ps := passN xs ts slack true (List.replicate xs.length false) (List.replicate ts.length false) xs.length
def p2 (xs ts : List It) (slack : Int) : Ps := passN xs ts slack false (p1 xs ts slack).mine (p1 xs ts slack).used xs.length
def cmp (xs ts : List It) (slack : Int) : Mt := ⟨(p1 xs ts slack).out, (p2 xs ts slack).out, leftN (p2 xs ts slack).mine xs.length, leftN (p2 xs ts slack).used ts.length⟩

theorem stepP_len (slack : Int) (ex : Bool) (ts : List It) (i : Nat) (x : It) (s : Ps) : (stepP slack ex ts i x s).mine.length = s.mine.length ∧ (stepP slack ex ts i x s).used.length = s.used.length := by
  unfold stepP
  split
  · split
    · simp
    · exact ⟨rfl, rfl⟩
  · exact ⟨rfl, rfl⟩
theorem passN_len (xs ts : List It) (slack : Int) (ex : Bool) (mine used : List Bool) : ∀ n, (passN xs ts slack ex mine used n).mine.length = mine.length ∧ (passN xs ts slack ex mine used n).used.length = used.length
  | 0 => ⟨rfl, rfl⟩
  | n + 1 => by
    have ih := passN_len xs ts slack ex mine used n
    unfold passN
    split
    · have h := stepP_len slack ex ts n (by assumption) (passN xs ts slack ex mine used n)
      rw [h.1, h.2]
      exact ih
    · exact ih

/-- Among the positions with the same ends the first fit is the first fit of all. -/
theorem pick_ends (x : It) (slack : Int) (ex : Bool) (ts : List It) (used : List Bool) :
    pick x slack ex ts used = (((List.range ts.length).filter fun k => match ts[k]? with | some y => endsB x y | none => false)).find? (canB x slack ex ts used) := by
  unfold pick
  rw [List.find?_filter]
  congr 1
  funext k
  unfold canB fitB agreeB
  cases ts[k]? with
  | none => simp
  | some y =>
    cases used[k]? with
    | none => simp
    | some u =>
      cases u
      · simp
        exact fun h _ _ => h
      · simp

/-! A list compared with itself. -/
theorem fit_self (x : It) (slack : Int) (hs : 0 ≤ slack) : fitB x x slack true = true := by
  unfold fitB agreeB endsB nearB
  simp
  omega
def upto (n : Nat) : List (Int × Int) := (List.range n).map fun i : Nat => ((i : Int), (i : Int))
theorem pass_self (xs : List It) (slack : Int) (hs : 0 ≤ slack) : ∀ n, n ≤ xs.length →
    (passN xs xs slack true (List.replicate xs.length false) (List.replicate xs.length false) n).out = upto n ∧
    (∀ k, k < xs.length → (passN xs xs slack true (List.replicate xs.length false) (List.replicate xs.length false) n).mine[k]? = some (decide (k < n))) ∧
    (∀ k, k < xs.length → (passN xs xs slack true (List.replicate xs.length false) (List.replicate xs.length false) n).used[k]? = some (decide (k < n)))
  | 0, _ => ⟨rfl, fun k hk => by simp [passN, hk], fun k hk => by simp [passN, hk]⟩
  | n + 1, hn => by
    obtain ⟨h1, h2, h3⟩ := pass_self xs slack hs n (by omega)
    have hx : xs[n]? = some xs[n] := List.getElem?_eq_getElem (by omega)
    unfold passN
    rw [hx]
    dsimp only
    generalize passN xs xs slack true (List.replicate xs.length false) (List.replicate xs.length false) n = s at *
    have hm : s.mine[n]? = some false := by rw [h2 n (by omega)]; simp
    have hp : pick xs[n] slack true xs s.used = some n := by
      unfold pick
      rw [List.find?_eq_some_iff_getElem]
      refine ⟨?_, n, by simpa using (show n < xs.length by omega), by simp, fun j hj => ?_⟩
      · unfold canB
        rw [hx, h3 n (by omega)]
        simp [fit_self _ _ hs]
      · have hjl : j < xs.length := by omega
        unfold canB
        simp [h3 j hjl, hj, hjl]
    unfold stepP
    rw [hm]
    dsimp only
    rw [hp]
    dsimp only
    refine ⟨by rw [h1]; simp [upto, List.range_succ], fun k hk => ?_, fun k hk => ?_⟩
    · rw [List.getElem?_set]
      split
      · rename_i h
        subst h
        have hl : n < s.mine.length := (List.getElem?_eq_some_iff.1 hm).1
        simp [hl]
      · rw [h2 k hk]
        congr 1
        rw [decide_eq_decide]
        omega
    · rw [List.getElem?_set]
      split
      · rename_i h
        subst h
        have hl : n < s.used.length := (List.getElem?_eq_some_iff.1 (h3 n (by omega))).1
        simp [hl]
      · rw [h3 k hk]
        congr 1
        rw [decide_eq_decide]
        omega
end Go.Proofs.Ytclaijheemkegaa

/-
  The plain laws of Compare and Units.
-/
import Derived.Test.YtclaijheemkegaaRn
import Derived.Test.YtclaijheemkegaaR7
import Derived.Test.YtclaijheemkegaaRp
namespace Go.Proofs.Ytclaijheemkegaa
set_option linter.unusedSimpArgs false
set_option linter.unusedVariables false

theorem Marks.nonneg : ∀ {l : List Int} {m m1 : List Bool}, Marks m l m1 → ∀ i ∈ l, 0 ≤ i
  | [], _, _, _ => fun i hi => by cases hi
  | i :: l, _, _, h => fun j hj => by
    rcases List.mem_cons.1 hj with rfl | hj
    · exact h.1
    · exact Marks.nonneg h.2.2 j hj
theorem S_all {α : Type} (f : Nat → Int) (g : α → Int) : ∀ (xs : List α) (k : Nat), (∀ j x, xs[j]? = some x → f (k + j) = g x) → S f (List.replicate xs.length false) k = sm g xs
  | [], k, _ => rfl
  | x :: xs, k, h => by
    have ih := S_all f g xs (k + 1) (fun j y hy => by
      have := h (j + 1) y (by simpa using hy)
      rw [← this]
      congr 1
      omega)
    have h0 := h 0 x rfl
    rw [Nat.add_zero] at h0
    simp only [List.length_cons, List.replicate_succ, S, sm, List.map_cons, List.sum_cons] at ih ⊢
    rw [ih, h0]
    simp
/-- The two passes and the rest mark every position once. -/
theorem cmp_marks (xs ts : List It) (slack : Int) :
    (∃ m1, Marks (List.replicate xs.length false) ((cmp xs ts slack).pairs.map Prod.fst ++ (cmp xs ts slack).differ.map Prod.fst ++ (cmp xs ts slack).ours) m1 ∧ ∀ j, j < m1.length → m1[j]? = some true) ∧
    (∃ m1, Marks (List.replicate ts.length false) ((cmp xs ts slack).pairs.map Prod.snd ++ (cmp xs ts slack).differ.map Prod.snd ++ (cmp xs ts slack).theirs) m1 ∧ ∀ j, j < m1.length → m1[j]? = some true) ∧
    (∀ p ∈ (cmp xs ts slack).pairs, ∃ (i k : Nat) (x y : It), p = ((i : Int), (k : Int)) ∧ xs[i]? = some x ∧ ts[k]? = some y ∧ fitB x y slack true = true) ∧
    (∀ p ∈ (cmp xs ts slack).differ, ∃ (i k : Nat) (x y : It), p = ((i : Int), (k : Int)) ∧ xs[i]? = some x ∧ ts[k]? = some y ∧ fitB x y slack false = true) := by
  obtain ⟨a1, a2, a3⟩ := pass_marks xs ts slack true (List.replicate xs.length false) (List.replicate ts.length false) xs.length
  have l1 := passN_len xs ts slack true (List.replicate xs.length false) (List.replicate ts.length false) xs.length
  obtain ⟨b1, b2, b3⟩ := pass_marks xs ts slack false (p1 xs ts slack).mine (p1 xs ts slack).used xs.length
  have l2 := passN_len xs ts slack false (p1 xs ts slack).mine (p1 xs ts slack).used xs.length
  have hm : (p2 xs ts slack).mine.length = xs.length := by
    show (passN xs ts slack false (p1 xs ts slack).mine (p1 xs ts slack).used xs.length).mine.length = _
    rw [l2.1]
    show (passN xs ts slack true (List.replicate xs.length false) (List.replicate ts.length false) xs.length).mine.length = _
    rw [l1.1]
    simp
  have hu : (p2 xs ts slack).used.length = ts.length := by
    show (passN xs ts slack false (p1 xs ts slack).mine (p1 xs ts slack).used xs.length).used.length = _
    rw [l2.2]
    show (passN xs ts slack true (List.replicate xs.length false) (List.replicate ts.length false) xs.length).used.length = _
    rw [l1.2]
    simp
  obtain ⟨m1, c1, c2⟩ := left_marks (p2 xs ts slack).mine xs.length (by omega)
  obtain ⟨m2, e1, e2⟩ := left_marks (p2 xs ts slack).used ts.length (by omega)
  refine ⟨⟨m1, (Marks.append a1 b1).append c1, fun j hj => ?_⟩, ⟨m2, (Marks.append a2 b2).append e1, fun j hj => ?_⟩, a3, b3⟩
  · have := c1.len
    rw [c2 j (by omega), if_pos (by omega)]
  · have := e1.len
    rw [e2 j (by omega), if_pos (by omega)]

theorem sm_append {α : Type} (f : α → Int) (l l' : List α) : sm f (l ++ l') = sm f l + sm f l' := by simp [sm]
theorem sm_map {α β : Type} (f : β → Int) (g : α → β) (l : List α) : sm f (l.map g) = sm (fun x => f (g x)) l := by simp [sm, Function.comp_def]
theorem sm_congr {α : Type} {f g : α → Int} : ∀ {l : List α}, (∀ x ∈ l, f x = g x) → sm f l = sm g l
  | [], _ => rfl
  | x :: l, h => by
    have ih := sm_congr (l := l) (fun y hy => h y (List.mem_cons_of_mem _ hy))
    have h0 := h x (List.mem_cons_self ..)
    simp only [sm, List.map_cons, List.sum_cons] at ih ⊢
    rw [ih, h0]
theorem sm_add {α : Type} (f g : α → Int) : ∀ (l : List α), sm (fun x => f x + g x) l = sm f l + sm g l
  | [] => rfl
  | x :: l => by
    have ih := sm_add f g l
    simp only [sm, List.map_cons, List.sum_cons] at ih ⊢
    omega
theorem marks_sum (xs : List It) {l : List Int} {m1 : List Bool} (h : Marks (List.replicate xs.length false) l m1) (hd : ∀ j, j < m1.length → m1[j]? = some true) : sm (uamt xs) l = sm It.cnt xs := by
  have hs := h.sum (fun k => uamt xs (k : Int))
  rw [S_done _ m1 0 hd, S_all (fun k => uamt xs (k : Int)) It.cnt xs 0 (fun j x hx => by
    rw [Nat.zero_add]
    exact uamt_at hx)] at hs
  rw [hs]
  have : sm (uamt xs) l = sm (fun i => uamt xs ((i.toNat : Nat) : Int)) l := sm_congr fun i hi => by
    have := h.nonneg i hi
    rw [Int.toNat_of_nonneg this]
  rw [this]
  simp [sm]
theorem marks_len (n : Nat) {l : List Int} {m1 : List Bool} (h : Marks (List.replicate n false) l m1) (hd : ∀ j, j < m1.length → m1[j]? = some true) : l.length = n := by
  have hs := h.sum (fun _ => 1)
  have hn : S (fun _ => 1) (List.replicate n false) 0 = n := by
    have := S_all (fun _ => (1 : Int)) (fun _ : Unit => (1 : Int)) (List.replicate n ()) 0 (fun _ _ _ => rfl)
    rw [List.length_replicate] at this
    rw [this]
    simp [sm]
  rw [S_done _ m1 0 hd, hn] at hs
  have h2 : (l.map fun _ => (1 : Int)).sum = (l.length : Int) := by
    clear hs h
    induction l with
    | nil => rfl
    | cons x l ih =>
      rw [List.map_cons, List.sum_cons, List.length_cons, ih]
      omega
  rw [h2] at hs
  omega

theorem uin_at {xs : List It} {k : Nat} {x : It} (h : xs[k]? = some x) : uin xs (k : Int) = true := by
  have := (List.getElem?_eq_some_iff.1 h).1
  unfold uin
  rw [decide_eq_true_eq]
  omega
/-- What agrees and a surplus add up to a list's units. -/
theorem cmp_sums (xs ts : List It) (slack : Int) :
    agP xs ts (cmp xs ts slack).pairs + sm (dA xs ts) (cmp xs ts slack).differ + (sm (dM xs ts) (cmp xs ts slack).differ + sm (uamt xs) (cmp xs ts slack).ours) = sm It.cnt xs ∧
    agP xs ts (cmp xs ts slack).pairs + sm (dA xs ts) (cmp xs ts slack).differ + (sm (dN xs ts) (cmp xs ts slack).differ + sm (uamt ts) (cmp xs ts slack).theirs) = sm It.cnt ts := by
  obtain ⟨⟨m1, a1, a2⟩, ⟨m2, b1, b2⟩, hp, hd⟩ := cmp_marks xs ts slack
  have e1 := marks_sum xs a1 a2
  have e2 := marks_sum ts b1 b2
  generalize cmp xs ts slack = m at *
  rw [sm_append, sm_append, sm_map, sm_map] at e1 e2
  have p1 : agP xs ts m.pairs = sm (fun p => uamt xs p.1) m.pairs := by
    show sm (fun p => if uin xs p.1 && uin ts p.2 then uamt xs p.1 else 0) m.pairs = _
    refine sm_congr fun p hpm => ?_
    obtain ⟨i, k, x, y, rfl, hx, hy, hf⟩ := hp p hpm
    rw [uin_at hx, uin_at hy]
    rfl
  have p2 : agP xs ts m.pairs = sm (fun p => uamt ts p.2) m.pairs := by
    rw [p1]
    refine sm_congr fun p hpm => ?_
    obtain ⟨i, k, x, y, rfl, hx, hy, hf⟩ := hp p hpm
    rw [uamt_at hx, uamt_at hy]
    unfold fitB at hf
    simp only [Bool.not_true, Bool.false_or, Bool.and_eq_true, decide_eq_true_eq] at hf
    unfold It.cnt
    rw [hf.2]
  have d1 : sm (dA xs ts) m.differ + sm (dM xs ts) m.differ = sm (fun p => uamt xs p.1) m.differ := by
    rw [← sm_add]
    refine sm_congr fun p hpm => ?_
    obtain ⟨i, k, x, y, rfl, hx, hy, hf⟩ := hd p hpm
    unfold dA dM
    rw [uin_at hx, uin_at hy]
    simp only [Bool.and_self, if_true]
    omega
  have d2 : sm (dA xs ts) m.differ + sm (dN xs ts) m.differ = sm (fun p => uamt ts p.2) m.differ := by
    rw [← sm_add]
    refine sm_congr fun p hpm => ?_
    obtain ⟨i, k, x, y, rfl, hx, hy, hf⟩ := hd p hpm
    unfold dA dN
    rw [uin_at hx, uin_at hy]
    simp only [Bool.and_self, if_true]
    omega
  omega
/-- Every position is in one place. -/
theorem cmp_places (xs ts : List It) (slack : Int) :
    (cmp xs ts slack).pairs.length + (cmp xs ts slack).differ.length + (cmp xs ts slack).ours.length = xs.length ∧ (cmp xs ts slack).pairs.length + (cmp xs ts slack).differ.length + (cmp xs ts slack).theirs.length = ts.length := by
  obtain ⟨⟨m1, a1, a2⟩, ⟨m2, b1, b2⟩, -, -⟩ := cmp_marks xs ts slack
  have e1 := marks_len _ a1 a2
  have e2 := marks_len _ b1 b2
  simp only [List.length_append, List.length_map] at e1 e2
  exact ⟨e1, e2⟩

theorem pass_full (xs ts : List It) (slack : Int) (ex : Bool) (mine used : List Bool) (h : ∀ k, k < xs.length → mine[k]? = some true) : ∀ n, passN xs ts slack ex mine used n = ⟨[], mine, used⟩
  | 0 => rfl
  | n + 1 => by
    have ih := pass_full xs ts slack ex mine used h n
    unfold passN
    rw [ih]
    split
    · rename_i x hx
      exact step_skip (h n (List.getElem?_eq_some_iff.1 hx).1)
    · rfl
theorem left_full (m : List Bool) (h : ∀ k, k < m.length → m[k]? = some true) : ∀ n, n ≤ m.length → leftN m n = []
  | 0, _ => rfl
  | n + 1, hn => by
    have ih := left_full m h n (by omega)
    simp [leftN, ih, h n (by omega)]
/-- A list beside itself. -/
theorem cmp_self (xs : List It) (slack : Int) (hs : 0 ≤ slack) : cmp xs xs slack = ⟨upto xs.length, [], [], []⟩ := by
  obtain ⟨h1, h2, h3⟩ := pass_self xs slack hs xs.length (Nat.le_refl _)
  have l1 := passN_len xs xs slack true (List.replicate xs.length false) (List.replicate xs.length false) xs.length
  have hm : ∀ k, k < xs.length → (p1 xs xs slack).mine[k]? = some true := fun k hk => by
    have := h2 k hk
    rw [show decide (k < xs.length) = true from decide_eq_true hk] at this
    exact this
  have hu : ∀ k, k < xs.length → (p1 xs xs slack).used[k]? = some true := fun k hk => by
    have := h3 k hk
    rw [show decide (k < xs.length) = true from decide_eq_true hk] at this
    exact this
  have e2 : p2 xs xs slack = ⟨[], (p1 xs xs slack).mine, (p1 xs xs slack).used⟩ := pass_full xs xs slack false _ _ hm xs.length
  have lm : (p1 xs xs slack).mine.length = xs.length := l1.1.trans (by simp)
  have lu : (p1 xs xs slack).used.length = xs.length := l1.2.trans (by simp)
  unfold cmp
  rw [e2]
  dsimp only
  rw [left_full _ (fun k hk => hm k (by omega)) _ (by omega), left_full _ (fun k hk => hu k (by omega)) _ (by omega)]
  congr 1
theorem upto_len (n : Nat) : (upto n).length = n := by simp [upto]
theorem self_sums (xs : List It) (slack : Int) (hs : 0 ≤ slack) : agP xs xs (upto xs.length) = sm It.cnt xs := by
  have h := (cmp_sums xs xs slack).1
  rw [cmp_self xs slack hs] at h
  simpa [sm] using h
theorem cmp_lens (xs ts : List It) (slack : Int) (hx : xs.length ≤ 24) (ht : ts.length ≤ 24) : (cmp xs ts slack).pairs.length ≤ 24 ∧ (cmp xs ts slack).differ.length ≤ 24 ∧ (cmp xs ts slack).ours.length ≤ 24 ∧ (cmp xs ts slack).theirs.length ≤ 24 := by
  have := cmp_places xs ts slack
  omega
end Go.Proofs.Ytclaijheemkegaa

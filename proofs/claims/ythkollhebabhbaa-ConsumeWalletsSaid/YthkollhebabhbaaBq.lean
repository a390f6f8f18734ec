/-
  Taking units and giving them back, amount by amount: plain laws of what Take and Give compute. No program is walked here.
-/
import Derived.Test.YthkollhebabhbaaBt
namespace Go.Proofs.Ythkollhebabhbaa
open Go.RowKit
set_option linter.unusedSimpArgs false

/-- What is taken at each position, and what is still wanted. -/
def am (eff : Nat → Int) : List Nat → Int → (Nat → Int) × Int
  | [], n => (fun _ => 0, n)
  | p :: ps, n => (fun q => if q = p then min n (eff p) else (am eff ps (n - min n (eff p))).1 q, (am eff ps (n - min n (eff p))).2)

theorem am_other {eff : Nat → Int} : ∀ (ps : List Nat) (n : Int) (q : Nat), q ∉ ps → (am eff ps n).1 q = 0
  | [], _, _, _ => rfl
  | p :: ps, n, q, h => by
    have h1 : q ≠ p := fun e => h (e ▸ List.mem_cons_self ..)
    have h2 : q ∉ ps := fun e => h (List.mem_cons_of_mem _ e)
    simp only [am, if_neg h1]
    exact am_other ps _ q h2
theorem am_rest {eff : Nat → Int} (he : ∀ p, 0 ≤ eff p) : ∀ (ps : List Nat) (n : Int), 0 ≤ n → 0 ≤ (am eff ps n).2 ∧ (am eff ps n).2 ≤ n
  | [], n, h => ⟨h, Int.le_refl _⟩
  | p :: ps, n, h => by
    have h1 := he p
    have h2 := am_rest he ps (n - min n (eff p)) (by omega)
    simp only [am]
    omega
theorem am_le {eff : Nat → Int} (he : ∀ p, 0 ≤ eff p) : ∀ (ps : List Nat) (n : Int) (q : Nat), 0 ≤ n → 0 ≤ (am eff ps n).1 q ∧ (am eff ps n).1 q ≤ eff q ∧ (am eff ps n).1 q ≤ n
  | [], n, q, h => ⟨Int.le_refl _, he q, h⟩
  | p :: ps, n, q, h => by
    have h1 := he p
    have h2 := am_le he ps (n - min n (eff p)) q (by omega)
    simp only [am]
    split
    · rename_i e
      subst e
      omega
    · omega
theorem am_zero {eff : Nat → Int} (he : ∀ p, 0 ≤ eff p) (ps : List Nat) : (∀ q, (am eff ps 0).1 q = 0) ∧ (am eff ps 0).2 = 0 :=
  ⟨fun q => by have := am_le he ps 0 q (Int.le_refl _); omega, by have := am_rest he ps 0 (Int.le_refl _); omega⟩
/-- Taking twice is taking at once. -/
theorem am_twice {eff eff' : Nat → Int} (he : ∀ p, 0 ≤ eff p) : ∀ (ps : List Nat) (n m : Int), ps.Nodup → 0 ≤ n → 0 ≤ m → (∀ p ∈ ps, eff' p = eff p - (am eff ps n).1 p) →
    (∀ q ∈ ps, (am eff ps n).1 q + (am eff' ps m).1 q = (am eff ps (n + m)).1 q) ∧ (am eff ps n).2 + (am eff' ps m).2 = (am eff ps (n + m)).2
  | [], n, m, _, _, _, _ => ⟨fun q hq => (by cases hq), rfl⟩
  | p :: ps, n, m, hd, hn, hm, h => by
    obtain ⟨hp, hd'⟩ := List.nodup_cons.1 hd
    have h1 := he p
    have h2 : eff' p = eff p - min n (eff p) := by
      rw [h p (List.mem_cons_self ..)]
      simp [am]
    have ih := am_twice he ps (n - min n (eff p)) (m - min m (eff' p)) hd' (by omega) (by omega) (fun q hq => by
      have hne : q ≠ p := fun e => hp (e ▸ hq)
      have := h q (List.mem_cons_of_mem _ hq)
      simp only [am, if_neg hne] at this
      exact this)
    have h3 : n - min n (eff p) + (m - min m (eff' p)) = n + m - min (n + m) (eff p) := by omega
    rw [h3] at ih
    refine ⟨fun q hq => ?_, ?_⟩
    · simp only [am]
      by_cases e : q = p
      · simp only [if_pos e]
        omega
      · simp only [if_neg e]
        rcases List.mem_cons.1 hq with hq | hq
        · exact absurd hq e
        · exact ih.1 q hq
    · simp only [am]
      exact ih.2
/-- What is still wanted could not be had. -/
theorem am_exhaust {eff : Nat → Int} (he : ∀ p, 0 ≤ eff p) : ∀ (ps : List Nat) (n : Int), 0 ≤ n → 0 < (am eff ps n).2 → ∀ q ∈ ps, (am eff ps n).1 q = eff q
  | [], _, _, _, q, hq => by cases hq
  | p :: ps, n, hn, h, q, hq => by
    have h1 := he p
    have h2 := am_rest he ps (n - min n (eff p)) (by omega)
    simp only [am] at h ⊢
    split
    · rename_i e
      subst e
      omega
    · rename_i e
      rcases List.mem_cons.1 hq with hq | hq
      · exact absurd hq e
      · exact am_exhaust he ps _ (by omega) h q hq

/-- A test that looks at what is left only to see that something is. -/
structure UseOk (use : Bk → Bool) : Prop where
  pos : ∀ {x : Bk}, use x = true → 0 < x.left
  cut : ∀ (x : Bk) (l : Int), use (x.withLeft l) = (decide (0 < l) && use (x.withLeft 1))
theorem usable_ok (account sub kind : Int) (zone : ByteArray) (family : Bool) (t : Int) : UseOk (fun x => x.usable account sub kind zone family t) where
  pos := fun {x} h => by
    simp only [Bk.usable, Bool.and_eq_true, decide_eq_true_eq] at h
    exact h.1.1.1.1
  cut := fun x l => by
    rw [Bool.eq_iff_iff]
    show (Bk.usable ⟨x.acc, x.sub, x.prod, x.idx, x.kind, x.zones, x.frm, x.til, x.units, l, x.prio, x.shared⟩ account sub kind zone family t = true) ↔ (decide (0 < l) && Bk.usable ⟨x.acc, x.sub, x.prod, x.idx, x.kind, x.zones, x.frm, x.til, x.units, 1, x.prio, x.shared⟩ account sub kind zone family t) = true
    unfold Bk.usable
    dsimp only
    by_cases h : 0 < l <;> by_cases hk : x.kind = kind <;> simp [h, hk]
theorem Bk.withLeft_self (x : Bk) : x.withLeft x.left = x := rfl
theorem Bk.withLeft_with (x : Bk) (a b : Int) : (x.withLeft a).withLeft b = x.withLeft b := rfl
theorem Bk.left_with (x : Bk) (a : Int) : (x.withLeft a).left = a := rfl

def effOf (xs : List Bk) (use : Bk → Bool) (p : Nat) : Int := if use (xs.getD p Bk.zero) = true then (xs.getD p Bk.zero).left else 0
theorem eff_nonneg {use : Bk → Bool} (hu : UseOk use) (xs : List Bk) (p : Nat) : 0 ≤ effOf xs use p := by
  unfold effOf
  split
  · rename_i h
    have := hu.pos h
    omega
  · exact Int.le_refl _
theorem getD_at {xs : List Bk} {p : Nat} {x : Bk} (h : xs[p]? = some x) : xs.getD p Bk.zero = x := by simp [List.getD, h]

/-- The takes. -/
def tks (xs : List Bk) (use : Bk → Bool) : List Nat → Int → List Tk
  | [], _ => []
  | p :: ps, n =>
    if n = 0 then []
    else if use (xs.getD p Bk.zero) = true then
      ⟨(xs.getD p Bk.zero).sub, (xs.getD p Bk.zero).prod, (xs.getD p Bk.zero).idx, (xs.getD p Bk.zero).frm, min n (xs.getD p Bk.zero).left⟩ :: tks xs use ps (n - min n (xs.getD p Bk.zero).left)
    else tks xs use ps n

theorem tk_tks (xs : List Bk) (use : Bk → Bool) : ∀ (ps : List Nat) (out : List Bk) (ts : List Tk) (n : Int), (tk xs use ps out ts n).2.1 = ts ++ tks xs use ps n
  | [], _, ts, _ => by simp [tk, tks]
  | p :: ps, out, ts, n => by
    simp only [tk, tks]
    split
    · simp
    · split
      · rw [tk_tks xs use ps]
        simp
      · rw [tk_tks xs use ps]

theorem tk_out {xs : List Bk} {use : Bk → Bool} (hu : UseOk use) : ∀ (ps : List Nat) (out : List Bk) (ts : List Tk) (n : Int), ps.Nodup → 0 ≤ n → (∀ p ∈ ps, p < xs.length ∧ out[p]? = xs[p]?) →
    (tk xs use ps out ts n).2.2 = (am (effOf xs use) ps n).2 ∧ ∀ q : Nat, (tk xs use ps out ts n).1[q]? = (out[q]?).map fun x : Bk => x.withLeft (x.left - (am (effOf xs use) ps n).1 q)
  | [], out, ts, n, _, _, _ => by
    refine ⟨rfl, fun q => ?_⟩
    simp only [tk, am, Int.sub_zero, Bk.withLeft_self]
    simp
  | p :: ps, out, ts, n, hd, hn, ho => by
    obtain ⟨hp, hd'⟩ := List.nodup_cons.1 hd
    have he := eff_nonneg hu xs
    obtain ⟨hpl, hop⟩ := ho p (List.mem_cons_self ..)
    obtain ⟨x, hx⟩ : ∃ x, xs[p]? = some x := ⟨_, List.getElem?_eq_getElem hpl⟩
    have hg := getD_at hx
    by_cases hz : n = 0
    · subst hz
      rw [tk_zero]
      obtain ⟨z1, z2⟩ := am_zero he (p :: ps)
      refine ⟨z2.symm, fun q => ?_⟩
      simp only [z1, Int.sub_zero, Bk.withLeft_self]
      simp
    · cases huse : use x
      · have h0 : effOf xs use p = 0 := by simp [effOf, hx, List.getD, huse]
        have hm : min n (effOf xs use p) = 0 := by omega
        have ih := tk_out (xs := xs) hu ps out ts n hd' hn (fun q hq => ho q (List.mem_cons_of_mem _ hq))
        simp only [tk, hg, huse, if_neg hz, am, hm, Int.sub_zero]
        refine ⟨ih.1, fun q => ?_⟩
        have := ih.2 q
        simp only [Bool.false_eq_true, if_false] at this ⊢
        rw [this]
        by_cases e : q = p
        · subst e
          rw [am_other ps n q hp]
          simp
        · simp [e]
      · have h0 : effOf xs use p = x.left := by simp [effOf, hx, List.getD, huse]
        have hpos := hu.pos huse
        have ih := tk_out (xs := xs) hu ps (out.set p (x.withLeft (x.left - min n x.left))) (ts ++ [⟨x.sub, x.prod, x.idx, x.frm, min n x.left⟩]) (n - min n x.left) hd' (by omega) (fun q hq => by
          have hne : p ≠ q := fun e => hp (e ▸ hq)
          rw [List.getElem?_set_ne hne]
          exact ho q (List.mem_cons_of_mem _ hq))
        simp only [tk, hg, huse, if_neg hz, if_true, am, h0]
        refine ⟨ih.1, fun q => ?_⟩
        rw [ih.2 q]
        by_cases e : q = p
        · subst e
          rw [am_other ps _ q hp, if_pos rfl, hop, hx]
          have hlt : q < out.length := (List.getElem?_eq_some_iff.1 (hop.trans hx)).1
          rw [List.getElem?_set_self hlt]
          simp [Bk.withLeft]
        · rw [List.getElem?_set_ne (fun e' => e e'.symm), if_neg e]

theorem tks_sum {xs : List Bk} {use : Bk → Bool} (hu : UseOk use) : ∀ (ps : List Nat) (n : Int), 0 ≤ n → (∀ p ∈ ps, p < xs.length) → ((tks xs use ps n).map Tk.units).sum + (am (effOf xs use) ps n).2 = n
  | [], n, _, _ => by simp [tks, am]
  | p :: ps, n, hn, ho => by
    have he := eff_nonneg hu xs
    have hpl := ho p (List.mem_cons_self ..)
    obtain ⟨x, hx⟩ : ∃ x, xs[p]? = some x := ⟨_, List.getElem?_eq_getElem hpl⟩
    have hg := getD_at hx
    by_cases hz : n = 0
    · subst hz
      rw [(am_zero he _).2]
      simp [tks]
    · cases huse : use x
      · have h0 : effOf xs use p = 0 := by simp [effOf, hx, List.getD, huse]
        have hm : min n (effOf xs use p) = 0 := by omega
        have ih := tks_sum hu ps n hn (fun q hq => ho q (List.mem_cons_of_mem _ hq))
        simp only [tks, hg, huse, if_neg hz, am, hm, Int.sub_zero]
        simpa using ih
      · have h0 : effOf xs use p = x.left := by simp [effOf, hx, List.getD, huse]
        have hpos := hu.pos huse
        have ih := tks_sum hu ps (n - min n x.left) (by omega) (fun q hq => ho q (List.mem_cons_of_mem _ hq))
        simp only [tks, hg, huse, if_neg hz, if_true, am, h0, List.map_cons, List.sum_cons]
        omega
theorem tks_units {xs : List Bk} {use : Bk → Bool} (hu : UseOk use) : ∀ (ps : List Nat) (n : Int), 0 ≤ n → ∀ t ∈ tks xs use ps n, 1 ≤ t.units ∧ t.units ≤ n
  | [], n, _, t, ht => by simp [tks] at ht
  | p :: ps, n, hn, t, ht => by
    by_cases hz : n = 0
    · simp [tks, hz] at ht
    · cases huse : use (xs.getD p Bk.zero)
      · simp only [tks, huse, if_neg hz] at ht
        exact tks_units hu ps n hn t (by simpa using ht)
      · have hpos := hu.pos huse
        simp only [tks, huse, if_neg hz, if_true] at ht
        rcases List.mem_cons.1 ht with rfl | ht
        · dsimp only
          omega
        · have := tks_units hu ps _ (by omega) t ht
          omega
theorem tks_len {xs : List Bk} {use : Bk → Bool} : ∀ (ps : List Nat) (n : Int), (tks xs use ps n).length ≤ ps.length
  | [], _ => Nat.le_refl _
  | p :: ps, n => by
    simp only [tks]
    split
    · simp
    · split
      · have := tks_len (xs := xs) (use := use) ps (n - min n (xs.getD p Bk.zero).left)
        simp only [List.length_cons]
        omega
      · have := tks_len (xs := xs) (use := use) ps n
        simp only [List.length_cons]
        omega

/-! Take. -/
theorem order_nodup (xs : List Bk) : (srt (posr xs) 0 xs.length).Nodup := (srt_perm (r := posr xs) 0 xs.length).nodup_iff.2 List.nodup_range'
theorem order_mem {xs : List Bk} {p : Nat} : p ∈ srt (posr xs) 0 xs.length ↔ p < xs.length := by rw [srt_mem]; omega

/-- What is taken from each bucket. -/
def amt (xs : List Bk) (use : Bk → Bool) (n : Int) (q : Nat) : Int := (am (effOf xs use) (srt (posr xs) 0 xs.length) n).1 q
theorem take_out {xs : List Bk} {use : Bk → Bool} (hu : UseOk use) {n : Int} (hn : 0 ≤ n) (q : Nat) : (take xs use n).1[q]? = (xs[q]?).map fun x : Bk => x.withLeft (x.left - amt xs use n q) := by
  unfold take
  rw [show max n 0 = n by omega]
  exact (tk_out hu _ xs [] n (order_nodup xs) hn (fun p hp => ⟨order_mem.1 hp, rfl⟩)).2 q
theorem take_rest {xs : List Bk} {use : Bk → Bool} (hu : UseOk use) {n : Int} (hn : 0 ≤ n) : (take xs use n).2.2 = (am (effOf xs use) (srt (posr xs) 0 xs.length) n).2 := by
  unfold take
  rw [show max n 0 = n by omega]
  exact (tk_out hu _ xs [] n (order_nodup xs) hn (fun p hp => ⟨order_mem.1 hp, rfl⟩)).1
theorem take_tks (xs : List Bk) (use : Bk → Bool) {n : Int} (hn : 0 ≤ n) : (take xs use n).2.1 = tks xs use (srt (posr xs) 0 xs.length) n := by
  unfold take
  rw [show max n 0 = n by omega, tk_tks]
  rfl
theorem take_len (xs : List Bk) (use : Bk → Bool) (n : Int) : (take xs use n).1.length = xs.length := by
  unfold take
  generalize srt (posr xs) 0 xs.length = ps
  generalize max n 0 = m
  have : ∀ (ps : List Nat) (out : List Bk) (ts : List Tk) (m : Int), (tk xs use ps out ts m).1.length = out.length := by
    intro ps
    induction ps with
    | nil => intros; rfl
    | cons p ps ih =>
      intro out ts m
      simp only [tk]
      split
      · rfl
      · split
        · rw [ih, List.length_set]
        · rw [ih]
  exact this ps xs [] m

theorem eff_at {xs : List Bk} {use : Bk → Bool} {q : Nat} {x : Bk} (hx : xs[q]? = some x) : effOf xs use q = if use x = true then x.left else 0 := by
  unfold effOf
  rw [getD_at hx]

/-- The order of use does not look at what is left. -/
theorem posr_left {xs ys : List Bk} (f : Nat → Bk → Int) (h : ∀ q : Nat, ys[q]? = (xs[q]?).map fun x : Bk => x.withLeft (f q x)) : posr ys = posr xs := by
  funext i j
  unfold posr
  have hg : ∀ q : Nat, ∃ l, ys.getD q Bk.zero = (xs.getD q Bk.zero).withLeft l := fun q => by
    simp only [List.getD, h q]
    cases xs[q]? with
    | none => exact ⟨0, rfl⟩
    | some x => exact ⟨f q x, rfl⟩
  obtain ⟨a, ha⟩ := hg i
  obtain ⟨b, hb⟩ := hg j
  rw [ha, hb]
  rfl

theorem take_twice {xs : List Bk} {use : Bk → Bool} (hu : UseOk use) {n m : Int} (hn : 0 ≤ n) (hm : 0 ≤ m) :
    (take (take xs use n).1 use m).1 = (take xs use (n + m)).1 ∧ (take xs use n).2.2 + (take (take xs use n).1 use m).2.2 = (take xs use (n + m)).2.2 := by
  have ho := take_out (xs := xs) hu hn
  have hl := take_len xs use n
  generalize hys : (take xs use n).1 = ys at *
  have hr : posr ys = posr xs := posr_left _ ho
  have hps : srt (posr ys) 0 ys.length = srt (posr xs) 0 xs.length := by rw [hr, hl]
  have he := eff_nonneg hu xs
  have hle := fun q : Nat => am_le he (srt (posr xs) 0 xs.length) n q hn
  have heff : ∀ p ∈ srt (posr xs) 0 xs.length, effOf ys use p = effOf xs use p - (am (effOf xs use) (srt (posr xs) 0 xs.length) n).1 p := fun p hp => by
    obtain ⟨x, hx⟩ : ∃ x, xs[p]? = some x := ⟨_, List.getElem?_eq_getElem (order_mem.1 hp)⟩
    have hy := ho p
    rw [hx] at hy
    have h1 := hle p
    rw [eff_at hx] at h1
    rw [eff_at hx, eff_at hy, hu.cut, show use x = (decide (0 < x.left) && use (x.withLeft 1)) from by rw [← hu.cut, Bk.withLeft_self], Bk.left_with]
    rw [show use x = (decide (0 < x.left) && use (x.withLeft 1)) from by rw [← hu.cut, Bk.withLeft_self]] at h1
    unfold amt
    generalize (am (effOf xs use) (srt (posr xs) 0 xs.length) n).1 p = a at *
    generalize use (x.withLeft 1) = ub at *
    cases ub
    · simp at h1 ⊢
      omega
    · by_cases h2 : 0 < x.left
      · by_cases h3 : 0 < x.left - a
        · simp [h2, h3] at h1 ⊢
          omega
        · simp [h2, h3] at h1 ⊢
          omega
      · by_cases h3 : 0 < x.left - a
        · simp [h2, h3] at h1 ⊢
          omega
        · simp [h2, h3] at h1 ⊢
          omega
  have tw := am_twice he (srt (posr xs) 0 xs.length) n m (order_nodup xs) hn hm heff
  constructor
  · apply List.ext_getElem?
    intro q
    rw [take_out hu hm, take_out hu (by omega), ho q]
    cases hx : xs[q]? with
    | none => rfl
    | some x =>
      have hq : q ∈ srt (posr xs) 0 xs.length := order_mem.2 (List.getElem?_eq_some_iff.1 hx).1
      have := tw.1 q hq
      simp only [Option.map_some, Option.some.injEq, Bk.withLeft_with, Bk.left_with]
      unfold amt
      rw [hps]
      congr 1
      omega
  · rw [take_rest hu hn, take_rest hu hm, take_rest hu (by omega), hps]
    exact tw.2

/-- What the takes and what is still wanted come to; what is left; and that no bucket can be used while units are wanted. -/
theorem take_units {xs : List Bk} {use : Bk → Bool} (hu : UseOk use) {n : Int} (hn : 0 ≤ n) :
    (((take xs use n).2.1.map Tk.units).sum + (take xs use n).2.2 = n) ∧ (∀ t ∈ (take xs use n).2.1, 1 ≤ t.units ∧ t.units ≤ n) ∧ 0 ≤ (take xs use n).2.2 ∧ (take xs use n).2.2 ≤ n ∧
    (∀ (q : Nat) (x : Bk), xs[q]? = some x → ∃ y, (take xs use n).1[q]? = some y ∧ y.left ≤ x.left ∧ (0 < (take xs use n).2.2 → use y = false)) := by
  have he := eff_nonneg hu xs
  have hr := am_rest he (srt (posr xs) 0 xs.length) n hn
  refine ⟨?_, ?_, ?_, ?_, fun q x hx => ⟨x.withLeft (x.left - amt xs use n q), ?_, ?_, ?_⟩⟩
  · rw [take_tks xs use hn, take_rest hu hn]
    exact tks_sum hu _ n hn fun p hp => order_mem.1 hp
  · rw [take_tks xs use hn]
    exact tks_units hu _ n hn
  · rw [take_rest hu hn]
    exact hr.1
  · rw [take_rest hu hn]
    exact hr.2
  · rw [take_out hu hn, hx]
    rfl
  · have := am_le he (srt (posr xs) 0 xs.length) n q hn
    rw [Bk.left_with]
    unfold amt
    omega
  · rw [take_rest hu hn]
    intro h
    have hq : q ∈ srt (posr xs) 0 xs.length := order_mem.2 (List.getElem?_eq_some_iff.1 hx).1
    have h1 := am_exhaust he _ n hn h q hq
    rw [hu.cut]
    unfold amt
    rw [h1, eff_at hx, show use x = (decide (0 < x.left) && use (x.withLeft 1)) from by rw [← hu.cut, Bk.withLeft_self]]
    cases use (x.withLeft 1)
    · simp
    · by_cases h2 : 0 < x.left
      · simp [h2]
      · simp [h2]

/-! Give. -/
def Bk.isOf (b : Bk) (t : Tk) : Bool := decide (b.sub = t.sub ∧ b.prod.toList = t.prod.toList ∧ b.idx = t.idx ∧ b.frm = t.frm)
/-- The first bucket that a take names. -/
def fnd (t : Tk) : List Bk → Option Nat
  | [] => none
  | b :: l => if b.isOf t = true then some 0 else (fnd t l).map (· + 1)
theorem fnd_at {t : Tk} : ∀ {l : List Bk} {k : Nat} {b : Bk}, l[k]? = some b → b.isOf t = true → (∀ j c, j < k → l[j]? = some c → c.isOf t = false) → fnd t l = some k
  | [], _, _, h, _, _ => by simp at h
  | c :: l, 0, b, h, hb, _ => by
    obtain rfl := Option.some.inj h
    simp [fnd, hb]
  | c :: l, k + 1, b, h, hb, hj => by
    have h0 := hj 0 c (by omega) rfl
    have ih := fnd_at (l := l) (k := k) (b := b) (by simpa using h) hb (fun j c' hjk hc => hj (j + 1) c' (by omega) (by simpa using hc))
    simp [fnd, h0, ih]
theorem fnd_none {t : Tk} : ∀ {l : List Bk}, (∀ (j : Nat) (c : Bk), l[j]? = some c → c.isOf t = false) → fnd t l = none
  | [], _ => rfl
  | c :: l, h => by
    have h0 := h 0 c rfl
    have ih := fnd_none (l := l) (fun j c' hc => h (j + 1) c' (by simpa using hc))
    simp [fnd, h0, ih]
theorem fnd_some {t : Tk} : ∀ {l : List Bk} {k : Nat}, fnd t l = some k → ∃ b, l[k]? = some b ∧ b.isOf t = true
  | [], _, h => by simp [fnd] at h
  | c :: l, k, h => by
    simp only [fnd] at h
    split at h
    · rename_i hc
      obtain rfl := Option.some.inj h
      exact ⟨c, rfl, hc⟩
    · rw [Option.map_eq_some_iff] at h
      obtain ⟨j, hj, rfl⟩ := h
      obtain ⟨b, hb, h2⟩ := fnd_some hj
      exact ⟨b, by simpa using hb, h2⟩

/-- Giving units back, and the first error. -/
def give : List Tk → List Bk → List Bk × Int
  | [], out => (out, 0)
  | t :: ts, out =>
    if t.units < 0 then ([], 6)
    else match fnd t out with
      | none => ([], 11)
      | some k => if (out.getD k Bk.zero).left + t.units ≤ (out.getD k Bk.zero).units then give ts (out.set k ((out.getD k Bk.zero).withLeft ((out.getD k Bk.zero).left + t.units))) else ([], 6)

/-- No two buckets have the same identity, and none has more left than units. -/
def Distinct (xs : List Bk) : Prop := ∀ (i : Nat) (b : Bk), xs[i]? = some b → b.left ≤ b.units ∧ ∀ (j : Nat) (c : Bk), j < i → xs[j]? = some c → c.isOf ⟨b.sub, b.prod, b.idx, b.frm, 0⟩ = false

theorem isOf_left (b : Bk) (l : Int) (t : Tk) : (b.withLeft l).isOf t = b.isOf t := rfl
theorem isOf_units (b : Bk) (s : Int) (p : ByteArray) (i f u v : Int) : b.isOf ⟨s, p, i, f, u⟩ = b.isOf ⟨s, p, i, f, v⟩ := rfl

theorem give_tks {xs : List Bk} {use : Bk → Bool} (hu : UseOk use) (hd : Distinct xs) : ∀ (ps : List Nat) (n : Int) (G : List Bk), ps.Nodup → 0 ≤ n → (∀ p ∈ ps, p < xs.length) →
    (∀ q : Nat, G[q]? = (xs[q]?).map fun x : Bk => x.withLeft (x.left - (am (effOf xs use) ps n).1 q)) → give (tks xs use ps n) G = (xs, 0)
  | [], n, G, _, _, _, hG => by
    simp only [tks, give, Prod.mk.injEq, and_true]
    apply List.ext_getElem?
    intro q
    rw [hG q]
    simp only [am, Int.sub_zero, Bk.withLeft_self]
    simp
  | p :: ps, n, G, hn, h0, hp, hG => by
    obtain ⟨hpp, hn'⟩ := List.nodup_cons.1 hn
    have he := eff_nonneg hu xs
    have hpl := hp p (List.mem_cons_self ..)
    obtain ⟨x, hx⟩ : ∃ x, xs[p]? = some x := ⟨_, List.getElem?_eq_getElem hpl⟩
    have hg := getD_at hx
    by_cases hz : n = 0
    · subst hz
      have z := (am_zero he (p :: ps)).1
      have : G = xs := by
        apply List.ext_getElem?
        intro q
        rw [hG q]
        simp only [z, Int.sub_zero, Bk.withLeft_self]
        simp
      simp [tks, give, this]
    · cases huse : use x
      · have e0 : effOf xs use p = 0 := by rw [eff_at hx, huse]; rfl
        have hm : min n (effOf xs use p) = 0 := by omega
        simp only [tks, hg, huse, if_neg hz]
        refine give_tks hu hd ps n G hn' h0 (fun q hq => hp q (List.mem_cons_of_mem _ hq)) fun q => ?_
        rw [hG q]
        simp only [am, hm, Int.sub_zero]
        by_cases e : q = p
        · subst e
          rw [am_other ps n q hpp]
          simp
        · simp [e]
      · have e0 : effOf xs use p = x.left := by rw [eff_at hx, huse]; rfl
        have hpos := hu.pos huse
        simp only [tks, hg, huse, if_neg hz, if_true]
        have hGp : G[p]? = some (x.withLeft (x.left - min n x.left)) := by
          rw [hG p, hx]
          simp [am, e0]
        have hfn : fnd ⟨x.sub, x.prod, x.idx, x.frm, min n x.left⟩ G = some p := by
          refine fnd_at hGp (by simp [Bk.isOf, Bk.withLeft]) fun j c hj hc => ?_
          rw [hG j] at hc
          obtain ⟨y, hy, rfl⟩ := Option.map_eq_some_iff.1 hc
          rw [isOf_left, isOf_units _ _ _ _ _ _ 0]
          exact (hd p x hx).2 j y hj hy
        have hle := (hd p x hx).1
        have hneg : ¬ min n x.left < 0 := by omega
        simp only [give, hneg, if_false, hfn, getD_at hGp, Bk.left_with, Bk.withLeft_with]
        rw [if_pos (by show x.left - min n x.left + min n x.left ≤ x.units; omega)]
        rw [show x.left - min n x.left + min n x.left = x.left by omega, Bk.withLeft_self]
        refine give_tks hu hd ps (n - min n x.left) (G.set p x) hn' (by omega) (fun q hq => hp q (List.mem_cons_of_mem _ hq)) fun q => ?_
        by_cases e : q = p
        · subst e
          have hlt : q < G.length := (List.getElem?_eq_some_iff.1 hGp).1
          rw [List.getElem?_set_self hlt, am_other ps _ q hpp, hx]
          simp [Bk.withLeft_self]
        · rw [List.getElem?_set_ne (fun e' => e e'.symm), hG q]
          simp only [am, if_neg e, e0]

theorem give_take {xs : List Bk} {use : Bk → Bool} (hu : UseOk use) (hd : Distinct xs) {n : Int} (hn : 0 ≤ n) : give (take xs use n).2.1 (take xs use n).1 = (xs, 0) := by
  rw [take_tks xs use hn]
  exact give_tks hu hd _ n _ (order_nodup xs) hn (fun p hp => order_mem.1 hp) fun q => take_out hu hn q
end Go.Proofs.Ythkollhebabhbaa

/-
  The order of use as plain data: a strict order on positions, and the one list of positions that is sorted by it. No program is named here.
-/
import Derived.Test.YthkollhebabhbaaBp
namespace Go.Proofs.Ythkollhebabhbaa

/-! Bytes. -/
theorem bl_irrefl : ∀ a : List UInt8, Op.bytesLess a a = false
  | [] => rfl
  | x :: a => by simp [Op.bytesLess, bl_irrefl a]
theorem bl_trans : ∀ {a b c : List UInt8}, Op.bytesLess a b = true → Op.bytesLess b c = true → Op.bytesLess a c = true
  | [], [], _, h, _ => by simp [Op.bytesLess] at h
  | _ :: _, [], _, h, _ => by simp [Op.bytesLess] at h
  | _, _ :: _, [], _, h => by simp [Op.bytesLess] at h
  | [], _ :: _, _ :: _, _, _ => rfl
  | x :: a, y :: b, z :: c, h, h' => by
    simp only [Op.bytesLess] at h h' ⊢
    by_cases hxy : x = y
    · subst hxy
      by_cases hxz : x = z
      · subst hxz
        simp at h h' ⊢
        exact bl_trans h h'
      · simp [hxz] at h h' ⊢
        exact h'
    · by_cases hyz : y = z
      · subst hyz
        simp [hxy] at h ⊢
        exact h
      · simp [hxy] at h
        simp [hyz] at h'
        have hlt : x < z := UInt8.lt_trans h h'

        simp [hlt]
theorem bl_total : ∀ {a b : List UInt8}, a ≠ b → Op.bytesLess a b = true ∨ Op.bytesLess b a = true
  | [], [], h => absurd rfl h
  | [], _ :: _, _ => .inl rfl
  | _ :: _, [], _ => .inr rfl
  | x :: a, y :: b, h => by
    simp only [Op.bytesLess]
    by_cases hxy : x = y
    · subst hxy
      rcases bl_total (a := a) (b := b) (fun e => h (by rw [e])) with h1 | h1 <;> simp [h1]
    · rcases Nat.lt_or_gt_of_ne (fun e => hxy (UInt8.toNat_inj.1 e)) with hl | hl
      · left
        simp [UInt8.lt_iff_toNat_lt, hl]
      · right
        have hl' : y.toNat < x.toNat := hl
        simp [UInt8.lt_iff_toNat_lt, hl']

/-! Orders in which some may be equal. -/
structure Weak {α : Type} (r : α → α → Bool) : Prop where
  asymm : ∀ {a b}, r a b = true → r b a = false
  cotr : ∀ {a c} (b), r a c = true → r a b = true ∨ r b c = true
theorem Weak.trans {α : Type} {r : α → α → Bool} (h : Weak r) {a b c : α} (h1 : r a b = true) (h2 : r b c = true) : r a c = true := by
  rcases h.cotr c h1 with h3 | h3
  · exact h3
  · rw [h.asymm h2] at h3
    cases h3
theorem Weak.lex {α β : Type} [DecidableEq β] {r : α → α → Bool} (h : Weak r) (f : α → β) (lt : β → β → Bool) (ha : ∀ {a b}, lt a b = true → lt b a = false) (ht : ∀ {a b c}, lt a b = true → lt b c = true → lt a c = true) (hc : ∀ {a b}, a ≠ b → lt a b = true ∨ lt b a = true) :
    Weak (fun a b => if f a ≠ f b then lt (f a) (f b) else r a b) where
  asymm := by
    intro a b hab
    by_cases hf : f a = f b
    · rw [if_neg (by simpa using hf)] at hab
      rw [if_neg (by simpa using hf.symm)]
      exact h.asymm hab
    · rw [if_pos hf] at hab
      rw [if_pos (fun e => hf e.symm)]
      exact ha hab
  cotr := by
    intro a c b hac
    by_cases hf : f a = f c
    · rw [if_neg (by simpa using hf)] at hac
      by_cases hb : f a = f b
      · have hbc : f b = f c := hb.symm.trans hf
        rw [if_neg (by simpa using hb), if_neg (by simpa using hbc)]
        exact h.cotr b hac
      · have hbc : f b ≠ f c := fun e => hb (hf.trans e.symm)
        rw [if_pos hb, if_pos hbc, ← hf]
        exact hc hb
    · rw [if_pos hf] at hac
      by_cases hb : f a = f b
      · right
        have hbc : f b ≠ f c := fun e => hf (hb.trans e)
        rw [if_pos hbc, ← hb]
        exact hac
      · by_cases hbc : f b = f c
        · left
          rw [if_pos hb, hbc]
          exact hac
        · rw [if_pos hb, if_pos hbc]
          rcases hc hb with h1 | h1
          · exact .inl h1
          · exact .inr (ht h1 hac)
theorem weak_int {α : Type} (f : α → Int) : Weak (fun a b => decide (f a < f b)) where
  asymm := by intro a b h; simp at h ⊢; omega
  cotr := by
    intro a c b h
    simp only [decide_eq_true_eq] at h ⊢
    omega
theorem ilt_a {a b : Int} (h : decide (a < b) = true) : decide (b < a) = false := by simp at h ⊢; omega
theorem ilt_t {a b c : Int} (h : decide (a < b) = true) (h' : decide (b < c) = true) : decide (a < c) = true := by simp at h h' ⊢; omega
theorem ilt_c {a b : Int} (h : a ≠ b) : decide (a < b) = true ∨ decide (b < a) = true := by simp; omega
theorem bl_asymm {a b : List UInt8} (h : Op.bytesLess a b = true) : Op.bytesLess b a = false := by
  cases h2 : Op.bytesLess b a
  · rfl
  · have := bl_trans h h2
    rw [bl_irrefl] at this
    cases this

theorem before_weak : Weak Bk.before := by
  have h5 := (weak_int Bk.frm).lex Bk.idx (fun a b => decide (a < b)) ilt_a ilt_t ilt_c
  have h4 := h5.lex (fun b => b.prod.toList) Op.bytesLess bl_asymm bl_trans bl_total
  have h3 := h4.lex Bk.sub (fun a b => decide (a < b)) ilt_a ilt_t ilt_c
  have h2 := h3.lex Bk.til (fun a b => decide (a < b)) ilt_a ilt_t ilt_c
  have h1 := h2.lex Bk.prio (fun a b => decide (a < b)) ilt_a ilt_t ilt_c
  exact h1

/-! Positions. -/
section
variable {r : Nat → Nat → Bool} (h : Weak r)

/-- Position p comes before position q: its element does, or they are equal and p is the smaller one. -/
def Pre (r : Nat → Nat → Bool) (p q : Nat) : Prop := r p q = true ∨ (r q p = false ∧ p < q)
include h
theorem pre_asymm {p q : Nat} (h1 : Pre r p q) : ¬ Pre r q p := by
  rintro (h2 | ⟨h2, h3⟩)
  · rcases h1 with h1 | ⟨h1, _⟩
    · rw [h.asymm h1] at h2
      cases h2
    · rw [h1] at h2
      cases h2
  · rcases h1 with h1 | ⟨_, h4⟩
    · rw [h1] at h2
      cases h2
    · omega
theorem pre_trans {p q s : Nat} (h1 : Pre r p q) (h2 : Pre r q s) : Pre r p s := by
  rcases h1 with h1 | ⟨h1, h1'⟩ <;> rcases h2 with h2 | ⟨h2, h2'⟩
  · exact .inl (h.trans h1 h2)
  · rcases h.cotr s h1 with h3 | h3
    · exact .inl h3
    · rw [h2] at h3
      cases h3
  · rcases h.cotr p h2 with h3 | h3
    · rw [h1] at h3
      cases h3
    · exact .inl h3
  · refine .inr ⟨?_, by omega⟩
    cases h3 : r s p
    · rfl
    · rcases h.cotr q h3 with h4 | h4
      · rw [h2] at h4
        cases h4
      · rw [h1] at h4
        cases h4
/-- The sorted list is one. -/
theorem sorted_one : ∀ {l m : List Nat}, l.Perm m → l.Pairwise (Pre r) → m.Pairwise (Pre r) → l = m
  | [], m, hp, _, _ => (List.nil_perm.1 hp).symm
  | x :: l, [], hp, _, _ => absurd hp.length_eq (by simp)
  | x :: l, y :: m, hp, h1, h2 => by
    obtain ⟨h1a, h1b⟩ := List.pairwise_cons.1 h1
    obtain ⟨h2a, h2b⟩ := List.pairwise_cons.1 h2
    by_cases hxy : x = y
    · subst hxy
      rw [sorted_one (hp.cons_inv) h1b h2b]
    · have hx : x ∈ m := by
        rcases List.mem_cons.1 (hp.mem_iff.1 (List.mem_cons_self ..)) with e | e
        · exact absurd e hxy
        · exact e
      have hy : y ∈ l := by
        rcases List.mem_cons.1 (hp.mem_iff.2 (List.mem_cons_self ..)) with e | e
        · exact absurd e.symm hxy
        · exact e
      exact absurd (h1a y hy) (pre_asymm h (h2a x hx))
omit h

def ins (r : Nat → Nat → Bool) (i : Nat) : List Nat → List Nat
  | [] => [i]
  | y :: l => if r i y = true then i :: y :: l else y :: ins r i l
theorem ins_perm (i : Nat) : ∀ l : List Nat, (ins r i l).Perm (i :: l)
  | [] => .refl _
  | y :: l => by
    unfold ins
    split
    · exact .refl _
    · exact ((ins_perm i l).cons y).trans (List.Perm.swap _ _ _)
include h in
theorem ins_sorted (i : Nat) : ∀ l : List Nat, l.Pairwise (Pre r) → (∀ q ∈ l, q < i) → (ins r i l).Pairwise (Pre r)
  | [], _, _ => List.pairwise_singleton _ _
  | y :: l, h1, h2 => by
    obtain ⟨h1a, h1b⟩ := List.pairwise_cons.1 h1
    unfold ins
    split
    · rename_i hi
      refine List.pairwise_cons.2 ⟨fun q hq => ?_, h1⟩
      rcases List.mem_cons.1 hq with rfl | hq
      · exact .inl hi
      · exact pre_trans h (.inl hi) (h1a q hq)
    · rename_i hi
      refine List.pairwise_cons.2 ⟨fun q hq => ?_, ins_sorted i l h1b fun q hq => h2 q (List.mem_cons_of_mem _ hq)⟩
      rcases List.mem_cons.1 ((ins_perm i l).mem_iff.1 hq) with rfl | hq
      · exact .inr ⟨by simpa using hi, h2 y (List.mem_cons_self ..)⟩
      · exact h1a q hq
/-- The positions from 'first' on, n of them, in the order of use. -/
def srt (r : Nat → Nat → Bool) (first : Nat) : Nat → List Nat
  | 0 => []
  | n + 1 => ins r (first + n) (srt r first n)
theorem srt_perm (first : Nat) : ∀ n, (srt r first n).Perm (List.range' first n)
  | 0 => .refl _
  | n + 1 => by
    have := ((ins_perm (r := r) (first + n) (srt r first n)).trans ((srt_perm first n).cons _))
    refine this.trans ?_
    rw [List.range'_concat]
    simpa using (List.perm_append_singleton (first + n) (List.range' first n)).symm
theorem srt_mem {first n p : Nat} : p ∈ srt r first n ↔ first ≤ p ∧ p < first + n := by
  rw [(srt_perm first n).mem_iff]
  simp [List.mem_range'_1]
theorem srt_length (first n : Nat) : (srt r first n).length = n := by
  rw [(srt_perm first n).length_eq]
  simp
include h in
theorem srt_sorted (first : Nat) : ∀ n, (srt r first n).Pairwise (Pre r)
  | 0 => .nil
  | n + 1 => ins_sorted h _ _ (srt_sorted first n) fun _ hq => (srt_mem.1 hq).2
include h in
theorem srt_eq {first n : Nat} {l : List Nat} (hp : l.Perm (List.range' first n)) (hs : l.Pairwise (Pre r)) : l = srt r first n :=
  sorted_one h (hp.trans (srt_perm first n).symm) hs (srt_sorted h first n)
end

/-! Merging two sorted lists of positions. -/
structure MInv (r : Nat → Nat → Bool) (la lb : List Nat) (p q : Nat) (out : List Nat) : Prop where
  hp : p ≤ la.length
  hq : q ≤ lb.length
  perm : out.Perm (la.take p ++ lb.take q)
  sorted : out.Pairwise (Pre r)
  below : ∀ x ∈ out, ∀ y ∈ la.drop p ++ lb.drop q, Pre r x y
theorem MInv.start (r : Nat → Nat → Bool) (la lb : List Nat) : MInv r la lb 0 0 [] := ⟨Nat.zero_le _, Nat.zero_le _, .refl _, .nil, fun _ h => by cases h⟩
section
variable {r : Nat → Nat → Bool} {la lb : List Nat} {p q : Nat} {out : List Nat}
theorem drop_at {l : List Nat} {p x : Nat} (h : l[p]? = some x) : l.drop p = x :: l.drop (p + 1) := by
  obtain ⟨hlt, rfl⟩ := List.getElem?_eq_some_iff.1 h
  exact List.drop_eq_getElem_cons hlt
theorem take_at {l : List Nat} {p x : Nat} (h : l[p]? = some x) : l.take (p + 1) = l.take p ++ [x] := by
  obtain ⟨hlt, rfl⟩ := List.getElem?_eq_some_iff.1 h
  exact List.take_succ_eq_append_getElem hlt
theorem MInv.left (h : Weak r) (m : MInv r la lb p q out) (ha : la.Pairwise (Pre r)) (hb : lb.Pairwise (Pre r)) (hab : ∀ x ∈ la, ∀ y ∈ lb, x < y) {x : Nat} (hx : la[p]? = some x)
    (hc : q = lb.length ∨ ∃ y, lb[q]? = some y ∧ r y x = false) : MInv r la lb (p + 1) q (out ++ [x]) := by
  have hlt : p < la.length := (List.getElem?_eq_some_iff.1 hx).1
  have hxm : x ∈ la := List.mem_of_getElem? hx
  have hda := drop_at hx
  have hxa : ∀ z ∈ la.drop (p + 1), Pre r x z := by
    have := ha.sublist (List.drop_sublist p la)
    rw [hda] at this
    exact (List.pairwise_cons.1 this).1
  have hxb : ∀ z ∈ lb.drop q, Pre r x z := by
    rcases hc with hc | ⟨y, hy, hyx⟩
    · rw [hc, List.drop_length]
      intro z hz
      cases hz
    · have hdb := drop_at hy
      have hxy : Pre r x y := by
        cases hr : r x y
        · exact .inr ⟨hyx, hab x hxm y (List.mem_of_getElem? hy)⟩
        · exact .inl hr
      rw [hdb]
      have hyb := hb.sublist (List.drop_sublist q lb)
      rw [hdb] at hyb
      intro z hz
      rcases List.mem_cons.1 hz with rfl | hz
      · exact hxy
      · exact pre_trans h hxy ((List.pairwise_cons.1 hyb).1 z hz)
  refine ⟨hlt, m.hq, ?_, ?_, ?_⟩
  · rw [take_at hx]
    have := m.perm.append_right [x]
    refine this.trans ?_
    rw [List.append_assoc, List.append_assoc]
    exact List.Perm.append_left _ List.perm_append_comm
  · refine List.pairwise_append.2 ⟨m.sorted, List.pairwise_singleton _ _, fun z hz u hu => ?_⟩
    obtain rfl := List.mem_singleton.1 hu
    exact m.below z hz u (List.mem_append_left _ (by rw [hda]; exact List.mem_cons_self ..))
  · intro z hz u hu
    rcases List.mem_append.1 hz with hz | hz
    · refine m.below z hz u ?_
      rcases List.mem_append.1 hu with hu | hu
      · exact List.mem_append_left _ (by rw [hda]; exact List.mem_cons_of_mem _ hu)
      · exact List.mem_append_right _ hu
    · obtain rfl := List.mem_singleton.1 hz
      rcases List.mem_append.1 hu with hu | hu
      · exact hxa u hu
      · exact hxb u hu
theorem MInv.right (h : Weak r) (m : MInv r la lb p q out) (ha : la.Pairwise (Pre r)) (hb : lb.Pairwise (Pre r)) {y : Nat} (hy : lb[q]? = some y)
    (hc : p = la.length ∨ ∃ x, la[p]? = some x ∧ r y x = true) : MInv r la lb p (q + 1) (out ++ [y]) := by
  have hlt : q < lb.length := (List.getElem?_eq_some_iff.1 hy).1
  have hdb := drop_at hy
  have hyb : ∀ z ∈ lb.drop (q + 1), Pre r y z := by
    have := hb.sublist (List.drop_sublist q lb)
    rw [hdb] at this
    exact (List.pairwise_cons.1 this).1
  have hya : ∀ z ∈ la.drop p, Pre r y z := by
    rcases hc with hc | ⟨x, hx, hyx⟩
    · rw [hc, List.drop_length]
      intro z hz
      cases hz
    · have hda := drop_at hx
      rw [hda]
      have hxa := ha.sublist (List.drop_sublist p la)
      rw [hda] at hxa
      intro z hz
      rcases List.mem_cons.1 hz with rfl | hz
      · exact .inl hyx
      · exact pre_trans h (.inl hyx) ((List.pairwise_cons.1 hxa).1 z hz)
  refine ⟨m.hp, hlt, ?_, ?_, ?_⟩
  · rw [take_at hy]
    have := m.perm.append_right [y]
    rwa [List.append_assoc] at this
  · refine List.pairwise_append.2 ⟨m.sorted, List.pairwise_singleton _ _, fun z hz u hu => ?_⟩
    obtain rfl := List.mem_singleton.1 hu
    exact m.below z hz u (List.mem_append_right _ (by rw [hdb]; exact List.mem_cons_self ..))
  · intro z hz u hu
    rcases List.mem_append.1 hz with hz | hz
    · refine m.below z hz u ?_
      rcases List.mem_append.1 hu with hu | hu
      · exact List.mem_append_left _ hu
      · exact List.mem_append_right _ (by rw [hdb]; exact List.mem_cons_of_mem _ hu)
    · obtain rfl := List.mem_singleton.1 hz
      rcases List.mem_append.1 hu with hu | hu
      · exact hya u hu
      · exact hyb u hu
end
theorem MInv.done {r : Nat → Nat → Bool} (h : Weak r) {first k n : Nat} {out : List Nat} (hk : k ≤ n) (m : MInv r (srt r first k) (srt r (first + k) (n - k)) k (n - k) out) : out = srt r first n := by
  refine srt_eq h ?_ m.sorted
  have h1 : (srt r first k).take k = srt r first k := List.take_of_length_le (by rw [srt_length]; exact Nat.le_refl _)
  have h2 : (srt r (first + k) (n - k)).take (n - k) = srt r (first + k) (n - k) := List.take_of_length_le (by rw [srt_length]; exact Nat.le_refl _)
  have h3 := m.perm
  rw [h1, h2] at h3
  refine h3.trans (((srt_perm first k).append (srt_perm (first + k) (n - k))).trans ?_)
  rw [List.range'_append_1, show k + (n - k) = n from by omega]
end Go.Proofs.Ythkollhebabhbaa

/-
  TopSettle: texts joined (by joint.py).
-/
import Derived.Test.YtmodghiokoiipaaGreatJa
import Derived.Laws.Sem

/-!
  The steps of operations over names: slices of slices.
-/
namespace Go.Proofs.YtmodghiokoiipaaGreat
open Go Go.RowKit
set_option linter.unusedVariables false
set_option linter.unusedSimpArgs false

def OV (f : NF) : Option Value → Option Value → Prop
  | some a, some a' => VR f a a'
  | none, none => True
  | _, _ => False
theorem OV.mono {f g : NF} (hl : NF.le f g) {a a' : Option Value} (h : OV f a a') : OV g a a' := by
  cases a <;> cases a' <;> first | exact h | exact VR.mono hl h
section
variable {α β : Type} {P : Program} {base : PS}
theorem ss_sliceBound {f : NF} {x x' : Value} (h : VR f x x') {y y' : Nat} (hy : y ≤ y') (c : BoundsCode) : SS P base (fun _ (n n' : Nat) => n = n' ∧ n ≤ y) (Instr.sliceBound x y c) (Instr.sliceBound x' y' c) f := by
  unfold Instr.sliceBound
  refine ss_bind (ss_asIntOf h) fun g hg p p' hp => ?_
  cases hp
  obtain ⟨k, i⟩ := p
  dsimp only
  by_cases hc : 0 ≤ i ∧ i ≤ y
  · rw [if_pos hc, if_pos (by omega)]
    exact ss_pure (fun _ _ _ _ _ h => h) ⟨rfl, by omega⟩
  · rw [if_neg hc]
    exact ss_dead (dead_boundsPanic _ _ _ _)
theorem ss_sliceBounds {f : NF} (b : Bool) {n c c' : Nat} (hn : n ≤ c) (hc : c ≤ c') {lo lo' hi hi' mx mx' : Option Value} (h1 : OV f lo lo') (h2 : OV f hi hi') (h3 : OV f mx mx') :
    SS P base (fun _ (q q' : Nat × Nat × Nat) => q.1 = q'.1 ∧ q.2.1 = q'.2.1 ∧ q.1 ≤ q.2.1 ∧ q.2.1 ≤ q.2.2 ∧ q.2.2 ≤ q'.2.2 ∧ q.2.2 ≤ c ∧ q'.2.2 ≤ c') (Instr.sliceBounds b n c lo hi mx) (Instr.sliceBounds b n c' lo' hi' mx') f := by
  have L0 : ∀ (g : NF) (q : Nat), SS P base (fun _ (l l' : Nat) => l = l' ∧ l ≤ q) (pure 0) (pure 0) g := fun g q => ss_pure (fun _ _ _ _ _ h => h) ⟨rfl, Nat.zero_le _⟩
  have E : ∀ (g : NF) (l h m m' : Nat), l ≤ h → h ≤ m → m ≤ m' → m ≤ c → m' ≤ c' → SS P base (fun _ (q q' : Nat × Nat × Nat) => q.1 = q'.1 ∧ q.2.1 = q'.2.1 ∧ q.1 ≤ q.2.1 ∧ q.2.1 ≤ q.2.2 ∧ q.2.2 ≤ q'.2.2 ∧ q.2.2 ≤ c ∧ q'.2.2 ≤ c') (pure (l, h, m)) (pure (l, h, m')) g := fun g l h m m' e1 e2 e3 e4 e5 => ss_pure (fun _ _ _ _ _ h => h) ⟨rfl, rfl, e1, e2, e3, e4, e5⟩
  unfold Instr.sliceBounds
  cases mx <;> cases mx' <;> first | exact absurd h3 id | skip
  · refine ss_bind (RR := fun _ (m m' : Nat) => m = c ∧ m' = c') (ss_pure (fun _ _ _ _ _ h => h) ⟨rfl, rfl⟩) fun g hg m m' hm => ?_
    obtain ⟨rfl, rfl⟩ := hm
    have h2' := h2.mono hg
    have h1' := h1.mono hg
    cases hi <;> cases hi' <;> first | exact absurd h2 id | skip
    · refine ss_bind (RR := fun _ (q q' : Nat) => q = q' ∧ q = n) (ss_pure (fun _ _ _ _ _ h => h) ⟨rfl, rfl⟩) fun g2 hg2 q q' hq => ?_
      obtain ⟨rfl, rfl⟩ := hq
      cases lo <;> cases lo' <;> first | exact absurd h1 id | skip
      · refine ss_bind (L0 g2 q) fun g3 hg3 l l' hl => ?_
        obtain ⟨rfl, hl⟩ := hl
        exact E g3 _ _ _ _ hl hn hc (Nat.le_refl _) (Nat.le_refl _)
      · refine ss_bind (ss_sliceBound (VR.mono hg2 h1') (Nat.le_refl q) _) fun g3 hg3 l l' hl => ?_
        obtain ⟨rfl, hl⟩ := hl
        exact E g3 _ _ _ _ hl hn hc (Nat.le_refl _) (Nat.le_refl _)
    · refine ss_bind (ss_sliceBound h2' hc _) fun g2 hg2 q q' hq => ?_
      obtain ⟨rfl, hq⟩ := hq
      cases lo <;> cases lo' <;> first | exact absurd h1 id | skip
      · refine ss_bind (L0 g2 q) fun g3 hg3 l l' hl => ?_
        obtain ⟨rfl, hl⟩ := hl
        exact E g3 _ _ _ _ hl hq hc (Nat.le_refl _) (Nat.le_refl _)
      · refine ss_bind (ss_sliceBound (VR.mono hg2 h1') (Nat.le_refl q) _) fun g3 hg3 l l' hl => ?_
        obtain ⟨rfl, hl⟩ := hl
        exact E g3 _ _ _ _ hl hq hc (Nat.le_refl _) (Nat.le_refl _)
  · refine ss_bind (ss_sliceBound h3 hc _) fun g hg m m' hm => ?_
    obtain ⟨rfl, hm⟩ := hm
    have h2' := h2.mono hg
    have h1' := h1.mono hg
    cases hi <;> cases hi' <;> first | exact absurd h2 id | skip
    · exact ss_dead (dead_bind (dead_stuck _) _)
    · refine ss_bind (ss_sliceBound h2' (Nat.le_refl m) _) fun g2 hg2 q q' hq => ?_
      obtain ⟨rfl, hq⟩ := hq
      cases lo <;> cases lo' <;> first | exact absurd h1 id | skip
      · refine ss_bind (L0 g2 q) fun g3 hg3 l l' hl => ?_
        obtain ⟨rfl, hl⟩ := hl
        exact E g3 _ _ _ _ hl hq (Nat.le_refl _) hm (by omega)
      · refine ss_bind (ss_sliceBound (VR.mono hg2 h1') (Nat.le_refl q) _) fun g3 hg3 l l' hl => ?_
        obtain ⟨rfl, hl⟩ := hl
        exact E g3 _ _ _ _ hl hq (Nat.le_refl _) hm (by omega)
theorem vr_sub {f : NF} {a b o l h m m' k : Nat} (hf : f a = some b) (h1 : l ≤ h) (h2 : h ≤ m) (h3 : m ≤ m') :
    VR f (.slice (if m = l then some ⟨a, o, none⟩ else (some (⟨a, o, none⟩ : Addr)).map (·.add k)) (h - l) (m - l)) (.slice (if m' = l then some ⟨b, o, none⟩ else (some (⟨b, o, none⟩ : Addr)).map (·.add k)) (h - l) (m' - l)) := by
  have ha : ∀ x : Nat, (Addr.add ⟨x, o, none⟩ k) = ⟨x, o + k, none⟩ := fun x => by
    unfold Addr.add
    split
    · rename_i hk
      subst hk
      rfl
    · rfl
  by_cases e : m = l
  · have e0 : h - l = 0 := by omega
    have e1 : m - l = 0 := by omega
    rw [if_pos e, e0, e1]
    by_cases e' : m' = l
    · rw [if_pos e']
      exact .sl0 o o hf
    · rw [if_neg e', Option.map_some, ha]
      exact .sl0 o _ hf
  · rw [if_neg e, if_neg (by omega), Option.map_some, Option.map_some, ha, ha]
    exact .sl _ _ hf (by omega) (by omega)
theorem ss_underlying {RS : NF → β → β → Prop} {f : NF} {t : TypeId} {d : TypeDesc} (hd : P.underlying t = some d) {k k' : TypeDesc → Go.Sem β} (hk : SS P base RS (k d) (k' d) f) : SS P base RS (underlying t >>= k) (underlying t >>= k') f := by
  refine ss_bind (RR := fun _ a a' => a = d ∧ a' = d) ?_ fun g hg a a' ha => ?_
  · intro g hg H w a H' hh hb hr
    have e : ∀ w, (underlying t).run P w = .ok d w := fun w => by
      show (match P.underlying t with | some d => (pure d : Go.Sem TypeDesc) | none => stuck "no such type").run P w = _
      rw [hd]
      rfl
    have e2 : Sem.arun P (underlying t) H = some (d, H) := by
      show Sem.arun P (match P.underlying t with | some d => (pure d : Go.Sem TypeDesc) | none => stuck "no such type") H = _
      rw [hd]
      rfl
    rw [e2] at hr
    cases hr
    exact ⟨g, d, w, e w, NF.le_refl g, ⟨rfl, rfl⟩, hh, Kept.refl _ _⟩
  · obtain ⟨rfl, rfl⟩ := ha
    exact hk.mono hg
theorem ss_sliceAt {f : NF} {t e : TypeId} (hd : P.underlying t = some (.slice e)) {x x' : Value} (h : VR f x x') {lo lo' hi hi' mx mx' : Option Value} (h1 : OV f lo lo') (h2 : OV f hi hi') (h3 : OV f mx mx') : SS P base VR (Instr.sliceAt t x lo hi mx) (Instr.sliceAt t x' lo' hi' mx') f := by
  unfold Instr.sliceAt
  refine ss_underlying hd ?_
  dsimp only
  unfold Instr.slice
  refine ss_underlying hd ?_
  cases h with
  | nilS =>
    refine ss_bind (ss_sliceBounds true (Nat.le_refl 0) (Nat.le_refl 0) h1 h2 h3) fun g hg q q' hq => ?_
    obtain ⟨l, h, m⟩ := q
    obtain ⟨l', h', m'⟩ := q'
    obtain ⟨q1, q2, q3, q4, q5, q6, q7⟩ := hq
    dsimp only at q1 q2 q3 q4 q5 q6 q7 ⊢
    subst q1 q2
    refine ss_calm (calm_sizeOf e) fun n => ss_val ?_
    have e1 : h - l = 0 := by omega
    have e2 : m - l = 0 := by omega
    have e3 : m' - l = 0 := by omega
    rw [e1, e2, e3]
    have : ∀ c : Prop, [Decidable c] → (if c then (none : Option Addr) else Option.map (fun (x : Addr) => x.add (l * n)) none) = none := fun c _ => by split <;> rfl
    rw [this, this]
    exact .nilS
  | sl o n hf hn hc =>
    refine ss_bind (ss_sliceBounds true hn hc h1 h2 h3) fun g hg q q' hq => ?_
    obtain ⟨l, h, m⟩ := q
    obtain ⟨l', h', m'⟩ := q'
    obtain ⟨q1, q2, q3, q4, q5, q6, q7⟩ := hq
    dsimp only at q1 q2 q3 q4 q5 q6 q7 ⊢
    subst q1 q2
    refine ss_calm (calm_sizeOf e) fun k => ss_val ?_
    exact vr_sub (hg _ _ hf) q3 q4 q5
  | @sl0 a b c' o o' hf =>
    refine ss_bind (ss_sliceBounds true (Nat.le_refl 0) (Nat.zero_le c') h1 h2 h3) fun g hg q q' hq => ?_
    obtain ⟨l, h, m⟩ := q
    obtain ⟨l', h', m'⟩ := q'
    obtain ⟨q1, q2, q3, q4, q5, q6, q7⟩ := hq
    dsimp only at q1 q2 q3 q4 q5 q6 q7 ⊢
    subst q1 q2
    refine ss_calm (calm_sizeOf e) fun k => ss_val ?_
    obtain rfl : l = 0 := by omega
    obtain rfl : h = 0 := by omega
    obtain rfl : m = 0 := by omega
    rw [if_pos rfl]
    by_cases e' : m' = 0
    · rw [if_pos e']
      exact .sl0 _ _ (hg _ _ hf)
    · rw [if_neg e', Option.map_some, Nat.zero_mul]
      exact .sl0 _ _ (hg _ _ hf)
  | _ => exact ss_dead (dead_stuck _)
end
end Go.Proofs.YtmodghiokoiipaaGreat

/-!
  The steps of operations over names: what is built anew.
-/
namespace Go.Proofs.YtmodghiokoiipaaGreat
open Go Go.RowKit
set_option linter.unusedVariables false
set_option linter.unusedSimpArgs false

theorem PwR.set {f : NF} {a a' : Array Value} (h : PwR f a a') (i : Nat) {v v' : Value} (hv : VR f v v') : PwR f (a.setIfInBounds i v) (a'.setIfInBounds i v') := by
  refine ⟨by simp [h.1], fun k u u' hu hu' => ?_⟩
  rw [Array.getElem?_setIfInBounds] at hu hu'
  rw [← h.1] at hu'
  by_cases e : i = k
  · subst e
    rw [if_pos rfl] at hu hu'
    split at hu
    · rename_i hi
      rw [if_pos hi] at hu'
      cases hu
      cases hu'
      exact hv
    · cases hu
  · rw [if_neg e] at hu hu'
    exact h.2 k u u' hu hu'
/-- Parts. -/
inductive PL (f : NF) : List (Nat × Value) → List (Nat × Value) → Prop
  | nil : PL f [] []
  | cons {i v v' l l'} (h : VR f v v') (t : PL f l l') : PL f ((i, v) :: l) ((i, v') :: l')
theorem PL.mono {f g : NF} (hl : NF.le f g) {a a' : List (Nat × Value)} (h : PL f a a') : PL g a a' := by
  induction h with
  | nil => exact .nil
  | cons h _ ih => exact .cons (h.mono hl) ih
theorem fold_pw {f : NF} (off : Nat) : ∀ (l l' : List (Value × Nat)) (a a' : Array Value), l.length = l'.length → (∀ (i : Nat) (x x' : Value × Nat), l[i]? = some x → l'[i]? = some x' → VR f x.1 x'.1 ∧ x.2 = x'.2) → PwR f a a' →
    PwR f (l.foldl (fun cs (p : Value × Nat) => cs.setIfInBounds (off + p.2) p.1) a) (l'.foldl (fun cs (p : Value × Nat) => cs.setIfInBounds (off + p.2) p.1) a')
  | [], [], a, a', _, _, h => h
  | [], _ :: _, _, _, hl, _, _ => by simp at hl
  | _ :: _, [], _, _, hl, _, _ => by simp at hl
  | x :: l, x' :: l', a, a', hl, hx, h => by
    obtain ⟨h1, h2⟩ := hx 0 x x' (by simp) (by simp)
    simp only [List.foldl_cons]
    rw [← h2]
    exact fold_pw off l l' _ _ (by simpa using hl) (fun i y y' hy hy' => hx (i + 1) y y' (by simpa using hy) (by simpa using hy')) (h.set _ h1)
theorem zip_fold {f : NF} (off : Nat) {v v' : Array Value} (hv : PwR f v v') {a a' : Array Value} (h : PwR f a a') :
    PwR f (v.zipIdx.foldl (fun cs (p : Value × Nat) => cs.setIfInBounds (off + p.2) p.1) a) (v'.zipIdx.foldl (fun cs (p : Value × Nat) => cs.setIfInBounds (off + p.2) p.1) a') := by
  rw [← Array.foldl_toList, ← Array.foldl_toList]
  refine fold_pw off _ _ _ _ (by simp [hv.1]) (fun i x x' hx hx' => ?_) h
  simp only [Array.toList_zipIdx, List.getElem?_zipIdx, Array.getElem?_toList, Option.map_eq_some_iff] at hx hx'
  obtain ⟨u, h1, rfl⟩ := hx
  obtain ⟨u', h2, rfl⟩ := hx'
  exact ⟨hv.2 i u u' h1 h2, rfl⟩
theorem fill_pw {f : NF} (place : Nat → Option (Nat × Nat)) : ∀ (ps ps' : List (Nat × Value)) (a a' : Array Value), PL f ps ps' → PwR f a a' →
    (∀ r, Instr.fill place a ps = some r → ∃ r', Instr.fill place a' ps' = some r' ∧ PwR f r r') := by
  intro ps ps' a a' h
  induction h generalizing a a' with
  | nil =>
    intro ha r hr
    cases hr
    exact ⟨a', rfl, ha⟩
  | @cons i v v' l l' hv ht ih =>
    intro ha r hr
    unfold Instr.fill at hr ⊢
    split at hr
    · cases hr
    · rename_i off size hp
      have hc := hv.cells
      rw [← hc.1, ← ha.1]
      split at hr
      · cases hr
      · rename_i hn
        rw [if_neg hn]
        exact ih _ _ (zip_fold off hc ha) r hr
section
variable {α β : Type} {P : Program} {base : PS}
theorem calm_foldlM {γ δ : Type} {g : δ → γ → Go.Sem δ} (h : ∀ b x, Calm P (g b x)) : ∀ (l : List γ) (b : δ), Calm P (l.foldlM g b)
  | [], b => .pure _
  | x :: l, b => (h b x).bind' fun c => calm_foldlM h l c
theorem calm_mapM {γ δ : Type} {g : γ → Go.Sem δ} (h : ∀ x, Calm P (g x)) (as : Array γ) : Calm P (as.mapM g) := by
  rw [Array.mapM_eq_foldlM_push, ← Array.foldlM_toList]
  exact calm_foldlM (fun b x => (h x).bind' fun c => .pure _) _ _
theorem ss_fill {f : NF} (place : Nat → Option (Nat × Nat)) {ps ps' : List (Nat × Value)} {a a' : Array Value} (hp : PL f ps ps') (ha : PwR f a a') (why : String) {k : Array Value → Go.Sem Value} (hk : ∀ g, NF.le f g → ∀ r r', PwR g r r' → SS P base VR (k r) (k r') g) :
    SS P base VR (match Instr.fill place a ps with | some c => k c | _ => stuck why) (match Instr.fill place a' ps' with | some c => k c | _ => stuck why) f := by
  cases hf : Instr.fill place a ps with
  | none => exact ss_dead (dead_stuck _)
  | some r =>
    obtain ⟨r', h1, h2⟩ := fill_pw place _ _ _ _ hp ha r hf
    rw [h1]
    exact hk f (NF.le_refl f) r r' h2
theorem ss_build {f : NF} (t : TypeId) (ht : tOk P t = true) {ps ps' : Array (Nat × Value)} (h : PL f ps.toList ps'.toList) : SS P base VR (Instr.build t ps) (Instr.build t ps') f := by
  unfold Instr.build
  refine ss_bind (ss_of_sim fun g hg => sim_zeroValue t ht) fun g hg z z' hzz => ?_
  refine ss_calm (calm_underlying t) fun d => ?_
  have hc := hzz.cells
  have h' := h.mono hg
  split
  · refine ss_calm (calm_mapM (fun x => (calm_sizeOf _).bind' fun n => .pure _) _) fun places => ?_
    exact ss_fill _ h' hc _ fun g2 hg2 r r' hr => ss_val hr.agg
  · refine ss_calm (calm_sizeOf _) fun n => ?_
    exact ss_fill _ h' hc _ fun g2 hg2 r r' hr => ss_val hr.agg
  · exact ss_dead (dead_stuck _)
end
end Go.Proofs.YtmodghiokoiipaaGreat

/-!
  The steps of operations over names: rows, functions, maps made anew; lengths.
-/
namespace Go.Proofs.YtmodghiokoiipaaGreat
open Go Go.RowKit
set_option linter.unusedVariables false
set_option linter.unusedSimpArgs false

theorem AR.sl {f : NF} {a a' : Addr} (h : AR f a a') {n c c' : Nat} (hn : n ≤ c) (hc : c ≤ c') : VR f (.slice (some a) n c) (.slice (some a') n c') := by
  obtain ⟨b, h1, h2, rfl⟩ := h
  obtain ⟨ab, ao, as⟩ := a
  dsimp only at h1 h2
  subst h2
  exact .sl _ _ h1 hn hc
theorem PwR.bang {f : NF} {a a' : Array Value} (h : PwR f a a') (j : Nat) : VR f a[j]! a'[j]! := by
  rw [Array.getElem!_eq_getD, Array.getElem!_eq_getD]
  cases hv : a[j]? with
  | none =>
    rw [Array.getD_eq_getD_getElem?, Array.getD_eq_getD_getElem?, hv, h.getNone hv]
    exact .bool false
  | some v =>
    obtain ⟨v', h1, h2⟩ := h.get hv
    rw [Array.getD_eq_getD_getElem?, Array.getD_eq_getD_getElem?, hv, h1]
    exact h2
theorem PwR.zeros {f : NF} {a a' : Array Value} (h : PwR f a a') (n : Nat) : PwR f ((Array.range n).map (a[· % a.size]!)) ((Array.range n).map (a'[· % a'.size]!)) := by
  refine ⟨by simp, fun i v v' hv hv' => ?_⟩
  simp only [Array.getElem?_map, Array.getElem?_range, Option.map_eq_some_iff] at hv hv'
  obtain ⟨x, hx, rfl⟩ := hv
  obtain ⟨x', hx', rfl⟩ := hv'
  rw [hx] at hx'
  cases hx'
  rw [← h.1]
  exact h.bang _
section
variable {α β : Type} {P : Program} {base : PS}
theorem ss_zeroCells {f : NF} (e : TypeId) (hz : tOk P e = true) (c : Prop) [Decidable c] : SS P base PwR (if c then pure #[] else do pure (← zeroValue e).cells) (if c then pure #[] else do pure (← zeroValue e).cells) f := by
  split
  · exact ss_pure (RR := PwR) (fun _ _ _ _ hl h => PwR.mono hl h) (PwR.nil f)
  · refine ss_bind (ss_of_sim fun g hg => sim_zeroValue e hz) fun g hg z z' hzz => ?_
    exact ss_pure (RR := PwR) (fun _ _ _ _ hl h => PwR.mono hl h) hzz.cells
theorem ss_newRow {f : NF} (e : TypeId) {cs cs' : Array Value} (h : PwR f cs cs') : SS P base AR (newRow e cs) (newRow e cs') f := ss_of_sim fun g hg => sim_newRow e (h.mono hg)
theorem ss_buildSlice {f : NF} {t e : TypeId} (hz : tOk P e = true) (hd : P.underlying t = some (.slice e)) (len : Nat) {ps ps' : Array (Nat × Value)} (h : PL f ps.toList ps'.toList) : SS P base VR (Instr.buildSlice t len ps) (Instr.buildSlice t len ps') f := by
  unfold Instr.buildSlice
  refine ss_underlying hd ?_
  dsimp only
  refine ss_calm (calm_sizeOf e) fun size => ?_
  split
  · exact ss_dead (dead_bind (dead_unsupported _) _)
  · have key : ∀ z z' g, NF.le f g → PwR g z z' → SS P base VR
        (match Instr.fill (fun i => some (i * size, size)) ((Array.range (len * size)).map (z[· % z.size]!)) ps.toList with
          | some cells => do pure (.slice (some (← newRow e cells)) len len)
          | _ => stuck "buildSlice: a part of the wrong size")
        (match Instr.fill (fun i => some (i * size, size)) ((Array.range (len * size)).map (z'[· % z'.size]!)) ps'.toList with
          | some cells => do pure (.slice (some (← newRow e cells)) len len)
          | _ => stuck "buildSlice: a part of the wrong size") g := fun z z' g hg hzz =>
      ss_fill _ (h.mono hg) (hzz.zeros _) _ fun g2 hg2 r r' hr => ss_bind (ss_newRow e hr) fun g3 hg3 a a' ha => ss_val (ha.sl (Nat.le_refl _) (Nat.le_refl _))
    by_cases hc : len * size = 0
    · simp only [hc, if_true]
      have := key #[] #[] f (NF.le_refl f) (PwR.nil f)
      rw [hc] at this
      exact this
    · simp only [hc, if_false]
      exact ss_bind (ss_of_sim fun g hg => sim_zeroValue e hz) fun g hg z z' hzz => key _ _ g hg hzz.cells
theorem ss_makeFunc {f : NF} (fn : Fn) {xs xs' ys ys' : Array Value} (h1 : PwR f xs xs') (h2 : PwR f ys ys') : SS P base VR (Instr.makeFunc fn xs ys) (Instr.makeFunc fn xs' ys') f :=
  ss_val (.fn h1.1 h2.1 h1.2 h2.2)
theorem ss_newMap {f : NF} {es es' : Array MapEntry} (h : EnR f es es') (c : Nat) : SS P base (fun g (r r' : Nat) => g r = some r') (newObj (.map es c)) (newObj (.map es' c)) f :=
  ss_of_sim fun g hg => ⟨.inl ⟨es', rfl, h.mono hg⟩, fun k hk r r' hr => hr⟩
theorem ss_makeMap {f : NF} (t : TypeId) : SS P base VR (Instr.makeMap t none) (Instr.makeMap t none) f := by
  unfold Instr.makeMap
  refine ss_bind (RR := fun g (r r' : Nat) => g r = some r') (ss_newMap ⟨rfl, fun i e e' he => by simp at he⟩ 0) fun g hg r r' hr => ?_
  exact ss_val (.mp hr)
theorem calm_askRoom (n : Nat) : Calm P (askRoom n) := by
  unfold askRoom
  split
  · exact .mark (.pure _)
  · exact .pure _
theorem ss_makeSlice {f : NF} {t e : TypeId} (hz : tOk P e = true) (hd : P.underlying t = some (.slice e)) {l l' c c' : Value} (h1 : VR f l l') (h2 : VR f c c') : SS P base VR (Instr.makeSlice t l c) (Instr.makeSlice t l' c') f := by
  unfold Instr.makeSlice
  refine ss_underlying hd ?_
  dsimp only
  refine ss_bind (ss_asInt h1) fun g hg a a' ha => ?_
  cases ha
  refine ss_bind (ss_asInt (h2.mono hg)) fun g2 hg2 b b' hb => ?_
  cases hb
  refine ss_calm (calm_typeInfo e) fun i => ?_
  have fin : ∀ (z z' : Array Value) (g3 : NF) (n : Nat), PwR g3 z z' → (IntKind.i64.wrap a).toNat ≤ (IntKind.i64.wrap b).toNat → SS P base VR
      (do
        let zero ← pure z
        let r ← newRow e (Array.map (fun x => zero[x % zero.size]!) (Array.range n))
        pure (Value.slice (some r) (IntKind.i64.wrap a).toNat (IntKind.i64.wrap b).toNat))
      (do
        let zero ← pure z'
        let r ← newRow e (Array.map (fun x => zero[x % zero.size]!) (Array.range n))
        pure (Value.slice (some r) (IntKind.i64.wrap a).toNat (IntKind.i64.wrap b).toNat)) g3 := fun z z' g3 n hzz hle => by
    refine ss_bind (ss_pure (RR := PwR) (fun _ _ _ _ hl h => PwR.mono hl h) hzz) fun g4 hg4 y y' hy => ?_
    exact ss_bind (ss_newRow e (hy.zeros n)) fun g5 hg5 r r' hr => ss_val (hr.sl hle (Nat.le_refl _))
  split
  · refine ss_dead ?_
    split
    · exact dead_bind (dead_runtimePanic _) _
    · split
      · exact dead_bind (dead_runtimePanic _) _
      · exact dead_bind (fun H => rfl) _
  · rename_i hcnd
    have hle : (IntKind.i64.wrap a).toNat ≤ (IntKind.i64.wrap b).toNat := by
      simp only [Bool.or_eq_true, decide_eq_true_eq, not_or] at hcnd
      omega
    refine ss_calm (calm_askRoom _) fun _ => ?_
    refine ss_calm (calm_sizeOf _) fun n => ?_
    split
    · exact fin #[] #[] g2 _ (PwR.nil _) hle
    · exact ss_bind (ss_of_sim fun g hg => sim_zeroValue e hz) fun g3 hg3 z z' hzz => fin z.cells z'.cells g3 _ hzz.cells hle
/-! Lengths. -/
theorem ss_len {f : NF} (ts : Array TypeId) (t : TypeId) {x x' : Value} (h : VR f x x') : SS P base VR (Builtin.len_ ts t #[x]) (Builtin.len_ ts t #[x']) f := by
  unfold Builtin.len_
  cases hts : ts[0]? with
  | none => exact ss_dead (dead_stuck _)
  | some ty =>
    have e1 : (#[x] : Array Value)[0]? = some x := rfl
    have e2 : (#[x'] : Array Value)[0]? = some x' := rfl
    rw [e1, e2]
    refine ss_calm (calm_underlying ty) fun d => ?_
    cases d <;> first
      | exact ss_val (.int _ _)
      | exact ss_dead (dead_stuck _)
      | skip
    case string => cases h <;> first | exact ss_val (.int _ _) | exact ss_dead (dead_stuck _)
    case slice => cases h <;> first | exact ss_val (.int _ _) | exact ss_dead (dead_stuck _)
    case pointer =>
      refine ss_calm (calm_underlying _) fun d => ?_
      split
      · exact ss_val (.int _ _)
      · exact ss_dead (dead_stuck _)
    case chan => cases h <;> first | exact ss_val (.int _ _) | exact ss_dead (dead_stuck _)
    case map =>
      cases h <;> first
        | exact ss_val (.int _ _)
        | exact ss_dead (dead_stuck _)
        | skip
      rename_i a b hf
      dsimp only
      refine ss_bind (RR := fun g (o o' : Obj) => ∃ es es' c, o = .map es c ∧ o' = .map es' c ∧ EnR g es es') (ss_of_sim fun g hg => ⟨hg _ _ hf, fun k hk es es' c he => ⟨es, es', c, rfl, rfl, he⟩⟩) fun g hg o o' ho => ?_
      obtain ⟨es, es', c, rfl, rfl, he⟩ := ho
      dsimp only
      rw [he.1]
      exact ss_val (.int _ _)
end
end Go.Proofs.YtmodghiokoiipaaGreat

/-!
  The steps of operations over names: keys of maps.
-/
namespace Go.Proofs.YtmodghiokoiipaaGreat
open Go Go.RowKit
set_option linter.unusedVariables false
set_option linter.unusedSimpArgs false

section
variable {α β : Type} {P : Program} {base : PS}
theorem calm_pure (a : α) : Calm P (pure a : Go.Sem α) := .pure a
theorem calm_stuck (s : String) : Calm P (stuck s : Go.Sem α) := .halt _
theorem calm_uns (s : Unsupported) : Calm P (unsupported s : Go.Sem α) := .halt _
theorem calm_isAggPart (t : TypeId) (cs : Array Value) (o : Nat) : Calm P (part t cs o) := by
  unfold part
  refine (calm_isAgg t).bind' fun b => ?_
  split
  · exact (calm_sizeOf t).bind' fun n => .pure _
  · split
    · exact .pure _
    · exact .halt _
theorem calm_numberAt (r : Nat) : Calm P (numberAt r) := Calm.shape _ _
theorem calm_behind (a : Addr) : Calm P (behindNumber a) := (calm_numberAt _).bind' fun _ => .pure _
theorem calm_sameAddr (a b : Addr) : Calm P (sameAddr a b) := by
  unfold sameAddr
  split
  · exact .pure _
  · exact Calm.frozen _ _
theorem calm_samePointer (a b : Option Addr) : Calm P (samePointer a b) := by
  unfold samePointer
  split
  · exact calm_sameAddr _ _
  · exact .pure _
theorem calm_byteOf (a : Addr) : Calm P (byteOf a) := by
  unfold byteOf
  split
  · exact .pure _
  · refine calm_program.bind' fun p => ?_
    exact Calm.bind' (s := noView a) (Calm.bind' (s := viewAt a.block) (Calm.shape _ _) fun _ => by split <;> first | exact .halt _ | exact .pure _) fun _ => (Calm.shape _ _)
theorem calm_forIn {γ δ : Type} (l : List γ) {g : γ → δ → Go.Sem (ForInStep δ)} (h : ∀ x b, Calm P (g x b)) (b : δ) : Calm P (forIn l b g) := by
  induction l generalizing b with
  | nil => exact .pure _
  | cons x l ih =>
    rw [List.forIn_cons]
    refine (h x b).bind' fun s => ?_
    cases s
    · exact .pure _
    · exact ih _
theorem calm_forInA {γ δ : Type} (l : Array γ) {g : γ → δ → Go.Sem (ForInStep δ)} (h : ∀ x b, Calm P (g x b)) (b : δ) : Calm P (forIn l b g) := by
  rw [← Array.forIn_toList]
  exact calm_forIn _ h b
theorem calm_forInR {δ : Type} (n : Nat) {g : Nat → δ → Go.Sem (ForInStep δ)} (h : ∀ x b, Calm P (g x b)) (b : δ) : Calm P (forIn [:n] b g) := by
  rw [Std.Legacy.Range.forIn_eq_forIn_range']
  exact calm_forIn _ h b
theorem calm_typeStr (t : TypeId) : Calm P (typeStr t) := by
  refine (calm_typeInfo t).bind' fun i => ?_
  dsimp only
  split
  · exact .halt _
  · exact .pure _
theorem calm_panicError (s : String) : Calm P (runtimePanic (.error s) : Go.Sem α) := .program (.halt _)
theorem calm_equalIn : ∀ (d : Nat) (t : TypeId) (x y : Value), Calm P (Op.equalIn d t x y)
  | 0, t, x, y => .halt _
  | d + 1, t, x, y => by
    unfold Op.equalIn
    refine (calm_underlying t).bind' fun ty => ?_
    split <;> (try dsimp only) <;> first
      | exact .pure _
      | exact .halt _
      | exact calm_samePointer _ _
      | (split <;> first | exact .pure _ | exact .halt _)
      | skip
    · refine (calm_behind _).bind' fun a => (calm_behind _).bind' fun b => calm_program.bind' fun p => ?_
      split
      · exact (calm_byteOf _).bind' fun _ => (calm_byteOf _).bind' fun _ => .pure _
      · refine (calm_typeInfo t).bind' fun i => ?_
        split
        · split
          · exact .pure _
          · exact .halt _
        · exact .halt _
    · refine (calm_sizeOf _).bind' fun n => ?_
      split
      · exact calm_sameAddr _ _
      · split
        · exact .pure _
        · exact Calm.choose _ _
    · split
      · exact .pure _
      · refine (calm_typeInfo _).bind' fun i => ?_
        split
        · refine calm_program.bind' fun p => calm_program.bind' fun p => ?_
          split
          · exact (Calm.halt _).bind' fun _ => (calm_typeStr _).bind' fun _ => calm_panicError _
          · exact (calm_typeStr _).bind' fun _ => calm_panicError _
        · exact calm_equalIn d _ _ _
    · refine calm_program.bind' fun p => ?_
      split
      · refine (Calm.halt _).bind' fun _ => ?_
        refine (calm_forInA _ (fun f b => ?_) _).bind' fun s => ?_
        · split
          · refine (calm_isAggPart _ _ _).bind' fun _ => (calm_isAggPart _ _ _).bind' fun _ => (calm_equalIn d _ _ _).bind' fun _ => ?_
            split <;> exact .pure _
          · exact .pure _
        · split <;> exact .pure _
      · refine (calm_forInA _ (fun f b => ?_) _).bind' fun s => ?_
        · split
          · refine (calm_isAggPart _ _ _).bind' fun _ => (calm_isAggPart _ _ _).bind' fun _ => (calm_equalIn d _ _ _).bind' fun _ => ?_
            split <;> exact .pure _
          · exact .pure _
        · split <;> exact .pure _
    · refine (calm_sizeOf _).bind' fun n => ?_
      refine (calm_forInR _ (fun i b => ?_) _).bind' fun s => ?_
      · refine (calm_isAggPart _ _ _).bind' fun _ => (calm_isAggPart _ _ _).bind' fun _ => (calm_equalIn d _ _ _).bind' fun _ => ?_
        split <;> exact .pure _
      · split <;> exact .pure _
theorem calm_equal (t : TypeId) (x y : Value) : Calm P (Op.equal t x y) := calm_equalIn _ t x y
theorem calm_unhash (t : TypeId) : Calm P (runtimePanic (.unhashable t) : Go.Sem α) := .program (.halt _)
theorem calm_checkKey : ∀ (d : Nat) (b : Bool) (t : TypeId) (v : Value), Calm P (Instr.checkKey b d t v)
  | 0, b, t, v => .halt _
  | d + 1, b, t, v => by
    unfold Instr.checkKey
    refine (calm_underlying t).bind' fun ty => ?_
    split <;> (try dsimp only) <;> first
      | exact .pure _
      | exact .halt _
      | skip
    · refine (calm_typeInfo _).bind' fun i => ?_
      split
      · split
        · exact (calm_unhash _).bind' fun _ => (calm_typeStr _).bind' fun _ => (calm_panicError _).bind' fun _ => calm_checkKey d _ _ _
        · exact (calm_typeStr _).bind' fun _ => (calm_panicError _).bind' fun _ => calm_checkKey d _ _ _
      · exact calm_checkKey d _ _ _
    · refine (calm_forInR _ (fun i b => ?_) _).bind' fun s => .pure _
      exact (calm_sizeOf _).bind' fun _ => (calm_isAggPart _ _ _).bind' fun _ => (calm_checkKey d _ _ _).bind' fun _ => .pure _
    · refine (calm_forInA _ (fun f b => ?_) _).bind' fun s => .pure _
      split
      · exact (calm_isAggPart _ _ _).bind' fun _ => (calm_checkKey d _ _ _).bind' fun _ => .pure _
      · exact .pure _
/-! A key without names is the same key. -/
theorem closed_eq {f : NF} : ∀ {n : Nat} {v v' : Value}, closedN n v = true → VR f v v' → v' = v := by
  intro n v v' hc h
  induction h generalizing n with
  | fn h1 h2 h3 h4 i3 i4 =>
    cases n with
    | zero => simp [closedN] at hc
    | succ n =>
      simp only [closedN, Bool.and_eq_true, Array.all_eq_true_iff_forall_mem] at hc
      rename_i g xs xs' ys ys'
      have e1 : xs' = xs := by
        apply Array.ext_getElem?
        intro i
        cases hx : xs[i]? with
        | none => rw [Array.getElem?_eq_none_iff] at hx ⊢; omega
        | some v =>
          obtain ⟨v', hv', _⟩ := PwR.get ⟨h1, h3⟩ hx
          rw [hv', i3 i v v' hx hv' (hc.1 v (Array.mem_of_getElem? hx))]
      have e2 : ys' = ys := by
        apply Array.ext_getElem?
        intro i
        cases hx : ys[i]? with
        | none => rw [Array.getElem?_eq_none_iff] at hx ⊢; omega
        | some v =>
          obtain ⟨v', hv', _⟩ := PwR.get ⟨h2, h4⟩ hx
          rw [hv', i4 i v v' hx hv' (hc.2 v (Array.mem_of_getElem? hx))]
      rw [e1, e2]
  | agg h1 h3 i3 =>
    cases n with
    | zero => simp [closedN] at hc
    | succ n =>
      simp only [closedN, Array.all_eq_true_iff_forall_mem] at hc
      rename_i xs xs'
      have e1 : xs' = xs := by
        apply Array.ext_getElem?
        intro i
        cases hx : xs[i]? with
        | none => rw [Array.getElem?_eq_none_iff] at hx ⊢; omega
        | some v =>
          obtain ⟨v', hv', _⟩ := PwR.get ⟨h1, h3⟩ hx
          rw [hv', i3 i v v' hx hv' (hc v (Array.mem_of_getElem? hx))]
      rw [e1]
  | tup h1 h3 i3 =>
    cases n with
    | zero => simp [closedN] at hc
    | succ n =>
      simp only [closedN, Array.all_eq_true_iff_forall_mem] at hc
      rename_i xs xs'
      have e1 : xs' = xs := by
        apply Array.ext_getElem?
        intro i
        cases hx : xs[i]? with
        | none => rw [Array.getElem?_eq_none_iff] at hx ⊢; omega
        | some v =>
          obtain ⟨v', hv', _⟩ := PwR.get ⟨h1, h3⟩ hx
          rw [hv', i3 i v v' hx hv' (hc v (Array.mem_of_getElem? hx))]
      rw [e1]
  | _ => first | rfl | (cases n <;> simp [closedN] at hc)
end
end Go.Proofs.YtmodghiokoiipaaGreat

/-!
  The steps of operations over names: maps.
-/
namespace Go.Proofs.YtmodghiokoiipaaGreat
open Go Go.RowKit
set_option linter.unusedVariables false
set_option linter.unusedSimpArgs false

inductive EL (f : NF) : List MapEntry → List MapEntry → Prop
  | nil : EL f [] []
  | cons {e e' l l'} (h1 : e.key = e'.key) (h2 : VR f e.val e'.val) (h3 : e.born = e'.born) (t : EL f l l') : EL f (e :: l) (e' :: l')
theorem EL.of : ∀ {f : NF} {l l' : List MapEntry}, l.length = l'.length → (∀ (i : Nat) (e e' : MapEntry), l[i]? = some e → l'[i]? = some e' → e.key = e'.key ∧ VR f e.val e'.val ∧ e.born = e'.born) → EL f l l'
  | f, [], [], _, _ => .nil
  | f, [], _ :: _, h, _ => by simp at h
  | f, _ :: _, [], h, _ => by simp at h
  | f, e :: l, e' :: l', h, hx => by
    obtain ⟨h1, h2, h3⟩ := hx 0 e e' (by simp) (by simp)
    exact .cons h1 h2 h3 (EL.of (by simpa using h) fun i x x' hi hi' => hx (i + 1) x x' (by simpa using hi) (by simpa using hi'))
theorem EnR.el {f : NF} {es es' : Array MapEntry} (h : EnR f es es') : EL f es.toList es'.toList := EL.of (by simpa using h.1) fun i e e' hi hi' => h.2 i e e' (by simpa using hi) (by simpa using hi')
/-- A place and a value. -/
def FR (f : NF) : Option (Nat × Value) → Option (Nat × Value) → Prop
  | none, none => True
  | some p, some p' => p.1 = p'.1 ∧ VR f p.2 p'.2
  | _, _ => False
theorem FR.mono {f g : NF} (hl : NF.le f g) {a a' : Option (Nat × Value)} (h : FR f a a') : FR g a a' := by
  cases a <;> cases a' <;> first | exact h | exact ⟨h.1, VR.mono hl h.2⟩
theorem findNow_rel {f : NF} (kind : TypeDesc) (k : Value) {l l' : List MapEntry} (h : EL f l l') : ∀ i, (Instr.findNow kind k l i = none ∧ Instr.findNow kind k l' i = none) ∨ ∃ r r', Instr.findNow kind k l i = some r ∧ Instr.findNow kind k l' i = some r' ∧ FR f r r' := by
  induction h with
  | nil => exact fun i => .inr ⟨none, none, rfl, rfl, trivial⟩
  | @cons e e' l l' h1 h2 h3 t ih =>
    intro i
    unfold Instr.findNow
    rw [← h1]
    split
    · exact .inr ⟨_, _, rfl, rfl, rfl, h2⟩
    · exact ih _
    · exact .inl ⟨rfl, rfl⟩
theorem EnR.push {f : NF} {es es' : Array MapEntry} (h : EnR f es es') {k v v' : Value} {b : Nat} (hv : VR f v v') : EnR f (es.push { key := k, val := v, born := b }) (es'.push { key := k, val := v', born := b }) := by
  refine ⟨by simp [h.1], fun i e e' hi hi' => ?_⟩
  rw [Array.getElem?_push] at hi hi'
  rw [← h.1] at hi'
  split at hi
  · rename_i he
    rw [if_pos he] at hi'
    cases hi
    cases hi'
    exact ⟨rfl, hv, rfl⟩
  · rename_i he
    rw [if_neg he] at hi'
    exact h.2 i e e' hi hi'
theorem EnR.modify {f : NF} {es es' : Array MapEntry} (h : EnR f es es') (i : Nat) {u u' : MapEntry → MapEntry} (hu : ∀ e e', e.key = e'.key → VR f e.val e'.val → e.born = e'.born → (u e).key = (u' e').key ∧ VR f (u e).val (u' e').val ∧ (u e).born = (u' e').born) : EnR f (es.modify i u) (es'.modify i u') := by
  refine ⟨by simp [h.1], fun j e e' hi hi' => ?_⟩
  rw [Array.getElem?_modify] at hi hi'
  split at hi
  · rename_i he
    rw [if_pos he] at hi'
    simp only [Option.map_eq_some_iff] at hi hi'
    obtain ⟨x, hx, rfl⟩ := hi
    obtain ⟨x', hx', rfl⟩ := hi'
    obtain ⟨h1, h2, h3⟩ := h.2 j x x' hx hx'
    exact hu x x' h1 h2 h3
  · rename_i he
    rw [if_neg he] at hi'
    exact h.2 j e e' hi hi'
theorem EnR.get {f : NF} {es es' : Array MapEntry} (h : EnR f es es') (i : Nat) : (es[i]?).map (·.key) = (es'[i]?).map (·.key) ∧ (es[i]?).map (·.born) = (es'[i]?).map (·.born) := by
  cases hi : es[i]? with
  | none =>
    have : es'[i]? = none := by
      rw [Array.getElem?_eq_none_iff] at hi ⊢
      rw [← h.1]
      exact hi
    rw [this]
    exact ⟨rfl, rfl⟩
  | some e =>
    have hlt := (Array.getElem?_eq_some_iff.1 hi).1
    have hlt' : i < es'.size := by rw [← h.1]; exact hlt
    have hi' : es'[i]? = some es'[i] := Array.getElem?_eq_getElem hlt'
    obtain ⟨h1, h2, h3⟩ := h.2 i e _ hi hi'
    rw [hi']
    exact ⟨congrArg some h1, congrArg some h3⟩
section
variable {α β : Type} {P : Program} {base : PS}
theorem ss_findAsking {f : NF} (t : TypeId) (k : Value) {l l' : List MapEntry} (h : EL f l l') : ∀ i, SS P base FR (Instr.findAsking t k l i) (Instr.findAsking t k l' i) f := by
  induction h with
  | nil => exact fun i => ss_pure (RR := FR) (fun _ _ _ _ hl h => FR.mono hl h) trivial
  | @cons e e' l l' h1 h2 h3 th ih =>
    intro i
    unfold Instr.findAsking
    rw [← h1]
    refine ss_calm (calm_equal t k e.key) fun b => ?_
    split
    · exact ss_pure (RR := FR) (fun _ _ _ _ hl h => FR.mono hl h) ⟨rfl, h2⟩
    · exact ih _
theorem ss_findKey {f : NF} (t : TypeId) (k : Value) {l l' : List MapEntry} (h : EL f l l') : SS P base FR (Instr.findKey t k l) (Instr.findKey t k l') f := by
  unfold Instr.findKey
  refine ss_calm (calm_underlying t) fun d => ?_
  rcases findNow_rel d k h 0 with ⟨h1, h2⟩ | ⟨r, r', h1, h2, h3⟩
  · rw [h1, h2]
    exact ss_findAsking t k h 0
  · rw [h1, h2]
    exact ss_pure (RR := FR) (fun _ _ _ _ hl h => FR.mono hl h) h3
def MO (f : NF) (o o' : Obj) : Prop := ∃ es es' c, o = .map es c ∧ o' = .map es' c ∧ EnR f es es'
theorem ss_getObj {f : NF} {r r' : Nat} (h : f r = some r') : SS P base MO (getObj r) (getObj r') f :=
  ss_of_sim fun g hg => ⟨hg _ _ h, fun k hk es es' c he => ⟨es, es', c, rfl, rfl, he⟩⟩
theorem ss_setObj {f : NF} {r r' : Nat} (h : f r = some r') {es es' : Array MapEntry} (c : Nat) (he : EnR f es es') : SS P base (fun _ _ _ => True) (setObj r (.map es c)) (setObj r' (.map es' c)) f :=
  ss_of_sim fun g hg => ⟨hg _ _ h, fun es1 c1 e => by cases e; exact ⟨es', rfl, he.mono hg⟩, fun k hk => trivial⟩
theorem ss_zero {f : NF} (t : TypeId) (hz : tOk P t = true) : SS P base VR (zeroValue t) (zeroValue t) f := ss_of_sim fun g hg => sim_zeroValue t hz
theorem calm_keyThatStays (a b : Value) : Calm P (Instr.keyThatStays a b) := by
  unfold Instr.keyThatStays
  split
  · exact .pure _
  · exact Calm.choose _ _
theorem ss_mapUpdate {f : NF} (t : TypeId) {m m' k v v' : Value} (hm : VR f m m') (hv : VR f v v') : SS P base (fun _ _ _ => True) (Instr.mapUpdate t m k v) (Instr.mapUpdate t m' k v') f := by
  unfold Instr.mapUpdate
  refine ss_calm (calm_underlying t) fun d => ?_
  split
  · cases hm with
    | mp hf =>
      dsimp only
      refine ss_bind (ss_getObj hf) fun g hg o o' ho => ?_
      obtain ⟨es, es', c, rfl, rfl, he⟩ := ho
      dsimp only
      refine ss_calm (calm_checkKey _ _ _ _) fun _ => ?_
      refine ss_bind (ss_findKey _ k he.el) fun g2 hg2 r r' hr => ?_
      have he2 := he.mono hg2
      have hf2 := hg2 _ _ (hg _ _ hf)
      have hv2 := (hv.mono hg).mono hg2
      cases r with
      | none =>
        cases r' with
        | none => exact ss_setObj hf2 _ (he2.push hv2)
        | some p => exact absurd hr id
      | some p =>
        cases r' with
        | none => exact absurd hr id
        | some p' =>
          obtain ⟨i, w⟩ := p
          obtain ⟨i', w'⟩ := p'
          obtain ⟨h1, h2⟩ := hr
          dsimp only at h1 h2 ⊢
          subst h1
          rw [(he2.get i).1]
          refine ss_calm (calm_keyThatStays _ _) fun key => ?_
          exact ss_setObj hf2 _ (he2.modify i fun e e' a b c => ⟨rfl, hv2, c⟩)
    | nilM => exact ss_dead (dead_runtimePanic _)
    | _ => exact ss_dead (dead_stuck _)
  · exact ss_dead (dead_stuck _)
theorem ss_lookup {f : NF} {t kt et : TypeId} (hd : P.underlying t = some (.map kt et)) (hz : tOk P et = true) {m m' k : Value} (hm : VR f m m') (ok : Bool) : SS P base VR (Instr.lookup t m k ok) (Instr.lookup t m' k ok) f := by
  unfold Instr.lookup
  refine ss_underlying hd ?_
  dsimp only
  · have hskip := hd
    have fin : ∀ (g : NF) (es es' : Array MapEntry), EnR g es es' → SS P base VR
        (do
          Instr.checkKey es.isEmpty 10000 kt k
          let (v, b) ← match ← Instr.findKey kt k es.toList with
            | some (_, v) => pure (v, true)
            | none => pure (← zeroValue et, false)
          pure (if ok then .tuple #[v, .bool b] else v))
        (do
          Instr.checkKey es'.isEmpty 10000 kt k
          let (v, b) ← match ← Instr.findKey kt k es'.toList with
            | some (_, v) => pure (v, true)
            | none => pure (← zeroValue et, false)
          pure (if ok then .tuple #[v, .bool b] else v)) g := fun g es es' he => by
      have e1 : es'.isEmpty = es.isEmpty := by simp [Array.isEmpty, he.1]
      rw [e1]
      refine ss_calm (calm_checkKey _ _ _ _) fun _ => ?_
      refine ss_bind (ss_findKey _ k he.el) fun g2 hg2 r r' hr => ?_
      have last : ∀ (g : NF) (v v' : Value) (b : Bool), VR g v v' → SS P base VR (pure (if ok = true then .tuple #[v, .bool b] else v)) (pure (if ok = true then .tuple #[v', .bool b] else v')) g := fun g v v' b hv => by
        split
        · exact ss_val (.tup rfl (((PwR.nil g).push hv).push (.bool b)).2)
        · exact ss_val hv
      cases r with
      | none =>
        cases r' with
        | none => exact ss_bind (ss_zero et hz) fun g3 hg3 z z' hzz => last _ _ _ _ hzz
        | some p => exact absurd hr id
      | some p =>
        cases r' with
        | none => exact absurd hr id
        | some p' => exact last _ _ _ _ hr.2
    cases hm with
    | mp hf =>
      refine ss_bind (ss_getObj hf) fun g hg o o' ho => ?_
      obtain ⟨es, es', c, rfl, rfl, he⟩ := ho
      exact fin g es es' he
    | nilM => exact fin f #[] #[] ⟨rfl, fun i e e' he => by simp at he⟩
    | _ => exact ss_dead (dead_bind (dead_stuck _) _)
end
end Go.Proofs.YtmodghiokoiipaaGreat

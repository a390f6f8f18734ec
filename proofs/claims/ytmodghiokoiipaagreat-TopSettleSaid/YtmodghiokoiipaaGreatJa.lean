/-
  TopSettle: texts joined (by joint.py).
-/
import Derived.WalkKit
import Derived.Below
import Derived.Laws.Rows

/-!
  An executor over named memory: values, memory, the run of one operation.
-/
namespace Go.Proofs.YtmodghiokoiipaaGreat
open Go
set_option linter.unusedVariables false

/-- Which block a name stands for. -/
abbrev NF := Nat → Option Nat
def NF.le (f g : NF) : Prop := ∀ a b, f a = some b → g a = some b
theorem NF.le_refl (f : NF) : NF.le f f := fun _ _ h => h
theorem NF.le_trans {f g h : NF} (h1 : NF.le f g) (h2 : NF.le g h) : NF.le f h := fun a b e => h2 a b (h1 a b e)

/-- A value with names, and the real one; of a slice's capacity only a lower bound is kept. -/
inductive VR (f : NF) : Value → Value → Prop
  | bool (b : Bool) : VR f (.bool b) (.bool b)
  | int (k : IntKind) (n : Int) : VR f (.int k n) (.int k n)
  | float (k : FloatKind) (b : Nat) : VR f (.float k b) (.float k b)
  | string (s : ByteArray) : VR f (.string s) (.string s)
  | nilP : VR f (.pointer none) (.pointer none)
  | ptr {a b : Nat} (o : Nat) (h : f a = some b) : VR f (.pointer (some ⟨a, o, none⟩)) (.pointer (some ⟨b, o, none⟩))
  | nilS : VR f (.slice none 0 0) (.slice none 0 0)
  | sl {a b c c' : Nat} (o n : Nat) (h : f a = some b) (hn : n ≤ c) (hc : c ≤ c') : VR f (.slice (some ⟨a, o, none⟩) n c) (.slice (some ⟨b, o, none⟩) n c')
  | sl0 {a b c' : Nat} (o o' : Nat) (h : f a = some b) : VR f (.slice (some ⟨a, o, none⟩) 0 0) (.slice (some ⟨b, o', none⟩) 0 c')
  | nilM : VR f (.map none) (.map none)
  | mp {a b : Nat} (h : f a = some b) : VR f (.map (some a)) (.map (some b))
  | nilF : VR f .nilFunc .nilFunc
  | nilI : VR f .nilIface .nilIface
  | fn {g : Fn} {xs xs' ys ys' : Array Value} (h1 : xs.size = xs'.size) (h2 : ys.size = ys'.size)
      (h3 : ∀ (i : Nat) (v v' : Value), xs[i]? = some v → xs'[i]? = some v' → VR f v v') (h4 : ∀ (i : Nat) (v v' : Value), ys[i]? = some v → ys'[i]? = some v' → VR f v v') : VR f (.func g xs ys) (.func g xs' ys')
  | agg {xs xs' : Array Value} (h1 : xs.size = xs'.size) (h3 : ∀ (i : Nat) (v v' : Value), xs[i]? = some v → xs'[i]? = some v' → VR f v v') : VR f (.agg xs) (.agg xs')
  | tup {xs xs' : Array Value} (h1 : xs.size = xs'.size) (h3 : ∀ (i : Nat) (v v' : Value), xs[i]? = some v → xs'[i]? = some v' → VR f v v') : VR f (.tuple xs) (.tuple xs')
theorem VR.mono {f g : NF} (hl : NF.le f g) {v v' : Value} (h : VR f v v') : VR g v v' := by
  induction h with
  | bool b => exact .bool b
  | int k n => exact .int k n
  | float k b => exact .float k b
  | string s => exact .string s
  | nilP => exact .nilP
  | ptr o h => exact .ptr o (hl _ _ h)
  | nilS => exact .nilS
  | sl o n h hn hc => exact .sl o n (hl _ _ h) hn hc
  | sl0 o o' h => exact .sl0 o o' (hl _ _ h)
  | nilM => exact .nilM
  | mp h => exact .mp (hl _ _ h)
  | nilF => exact .nilF
  | nilI => exact .nilI
  | fn h1 h2 _ _ i3 i4 => exact .fn h1 h2 i3 i4
  | agg h1 _ i3 => exact .agg h1 i3
  | tup h1 _ i3 => exact .tup h1 i3
def AR (f : NF) (a a' : Addr) : Prop := ∃ b, f a.block = some b ∧ a.spot = none ∧ a' = ⟨b, a.off, none⟩
theorem AR.mono {f g : NF} (hl : NF.le f g) {a a' : Addr} (h : AR f a a') : AR g a a' := by
  obtain ⟨b, h1, h2, h3⟩ := h
  exact ⟨b, hl _ _ h1, h2, h3⟩
/-- A row of which the first cells are known. -/
def RowR (f : NF) (cs cs' : Array Value) : Prop := cs.size ≤ cs'.size ∧ ∀ (i : Nat) (v : Value), cs[i]? = some v → ∃ v', cs'[i]? = some v' ∧ VR f v v'
theorem RowR.mono {f g : NF} (hl : NF.le f g) {a a' : Array Value} (h : RowR f a a') : RowR g a a' := ⟨h.1, fun i v hv => by
  obtain ⟨v', h1, h2⟩ := h.2 i v hv
  exact ⟨v', h1, h2.mono hl⟩⟩
def EnR (f : NF) (es es' : Array MapEntry) : Prop := es.size = es'.size ∧ ∀ (i : Nat) (e e' : MapEntry), es[i]? = some e → es'[i]? = some e' → e.key = e'.key ∧ VR f e.val e'.val ∧ e.born = e'.born
theorem EnR.mono {f g : NF} (hl : NF.le f g) {a a' : Array MapEntry} (h : EnR f a a') : EnR g a a' := ⟨h.1, fun i e e' he he' => by
  obtain ⟨h1, h2, h3⟩ := h.2 i e e' he he'
  exact ⟨h1, h2.mono hl, h3⟩⟩
def OH (f : NF) (o : Obj) (x : Option Obj) : Prop := match o with
  | .cells cs e _ => ∃ cs', x = some (.cells cs' e (0, 0)) ∧ RowR f cs cs'
  | .map es c => ∃ es', x = some (.map es' c) ∧ EnR f es es'
  | _ => True
theorem OH.mono {f g : NF} (hl : NF.le f g) {o : Obj} {x : Option Obj} (h : OH f o x) : OH g o x := by
  cases o <;> simp only [OH] at h ⊢
  · obtain ⟨cs', h1, h2⟩ := h
    exact ⟨cs', h1, h2.mono hl⟩
  · obtain ⟨es', h1, h2⟩ := h
    exact ⟨es', h1, h2.mono hl⟩
def OR (f : NF) (o o' : Obj) : Prop := match o with
  | .cells cs e fr => fr = (0, 0) ∧ ∃ cs', o' = .cells cs' e (0, 0) ∧ RowR f cs cs'
  | .map es c => ∃ es', o' = .map es' c ∧ EnR f es es'
  | _ => False
theorem OR.oh {f : NF} {o o' : Obj} (h : OR f o o') : OH f o (some o') := by
  cases o <;> simp only [OR, OH] at h ⊢
  · obtain ⟨_, cs', h1, h2⟩ := h
    exact ⟨cs', by rw [h1], h2⟩
  · obtain ⟨es', h1, h2⟩ := h
    exact ⟨es', by rw [h1], h2⟩

/-! Named memory. -/
def alook : List (Nat × Obj) → Nat → Option Obj
  | [], _ => none
  | (k, o) :: l, a => if k = a then some o else alook l a
def aset : List (Nat × Obj) → Nat → Obj → List (Nat × Obj)
  | [], _, _ => []
  | (k, x) :: l, a, o => if k = a then (k, o) :: l else (k, x) :: aset l a o
def ains : List (Nat × Obj) → Nat → Obj → List (Nat × Obj)
  | [], a, o => [(a, o)]
  | (k, x) :: l, a, o => if k < a then (a, o) :: (k, x) :: l else (k, x) :: ains l a o
theorem alook_aset (l : List (Nat × Obj)) (a b : Nat) (o : Obj) : alook (aset l a o) b = if a = b then (alook l a).map (fun _ => o) else alook l b := by
  induction l with
  | nil => simp [aset, alook]
  | cons x l ih =>
    obtain ⟨k, x⟩ := x
    by_cases h : k = a
    · subst h
      by_cases hb : k = b
      · subst hb; simp [aset, alook]
      · simp [aset, alook, hb]
    · by_cases hb : k = b
      · subst hb
        have : ¬ a = k := fun e => h e.symm
        simp [aset, alook, h, this]
      · simp only [aset, if_neg h, alook, if_neg hb, ih]
theorem alook_ains (l : List (Nat × Obj)) (a b : Nat) (o : Obj) (hn : alook l a = none) : alook (ains l a o) b = if a = b then some o else alook l b := by
  induction l with
  | nil => simp [ains, alook]
  | cons x l ih =>
    obtain ⟨k, x⟩ := x
    by_cases hk : k = a
    · simp [alook, hk] at hn
    · simp only [alook, if_neg hk] at hn
      by_cases h : k < a
      · simp only [ains, if_pos h, alook]
      · simp only [ains, if_neg h, alook, ih hn]
        by_cases hb : k = b
        · subst hb
          have : ¬ a = k := fun e => hk e.symm
          simp [this]
        · simp [hb]
structure AH where
  h : List (Nat × Obj)
  c : Nat
  st : Nat
/-- Blocks that are not to be turned. -/
abbrev PS := Nat → Prop
def Old (B : PS) (w : World) : Prop := ∀ b, B b → b < w.heap.size
/-- The blocks of B lie as they lay, the streams too; no block has gone. -/
structure Kept (B : PS) (w w' : World) : Prop where
  os : w'.os = w.os
  tape : w'.tape = w.tape
  output : w'.output = w.output
  size : w.heap.size ≤ w'.heap.size
  block : ∀ k, B k → w'.heap[k]? = w.heap[k]?
theorem Kept.refl (B : PS) (w : World) : Kept B w w := ⟨rfl, rfl, rfl, Nat.le_refl _, fun _ _ => rfl⟩
theorem Kept.trans {B : PS} {a b c : World} (h : Kept B a b) (k : Kept B b c) : Kept B a c :=
  ⟨k.os.trans h.os, k.tape.trans h.tape, k.output.trans h.output, Nat.le_trans h.size k.size, fun i hi => (k.block i hi).trans (h.block i hi)⟩
theorem Kept.drew {B : PS} {a w : World} (h : Kept B a w) : Kept B a w.drew := ⟨h.os, h.tape, h.output, h.size, h.block⟩
theorem Old.mono {B : PS} {w w' : World} (h : Old B w) (k : Kept B w w') : Old B w' := fun b hb => Nat.lt_of_lt_of_le (h b hb) k.size
theorem Kept.alloc {B : PS} {a w : World} (h : Kept B a w) (hB : Old B w) (o : Obj) : Kept B a (w.alloc o) :=
  h.trans ⟨rfl, rfl, rfl, by simp, fun k hk => RowKit.Below.heap_alloc _ _ _ (hB k hk)⟩
theorem Kept.setCell {B : PS} {a w : World} (h : Kept B a w) {p : Addr} (hp : ¬ B p.block) (u : Value) : Kept B a (w.setCell p u) :=
  h.trans ⟨rfl, rfl, rfl, by simp [World.setCell], fun k hk => RowKit.Below.heap_setCell _ _ _ _ (fun e => hp (e ▸ hk))⟩
/-- The named memory H, the real memory w. -/
structure HR (f : NF) (base : PS) (H : List (Nat × Obj)) (w : World) : Prop where
  get : ∀ a b o, f a = some b → alook H a = some o → OH f o w.heap[b]?
  dom : ∀ a b, f a = some b → (alook H a).isSome = true ∧ ¬ base b ∧ b < w.heap.size
  inj : ∀ a a' b, f a = some b → f a' = some b → a = a'

section
variable {α : Type} (P : Program)
def Sem.arun : Sem α → AH → Option (α × AH)
  | .pure a, H => some (a, H)
  | .load _ a k, H => match alook H.h a.block, a.spot with
    | some (.cells cs _ _), none => match cs[a.off]? with
      | some v => Sem.arun (k v) H
      | none => none
    | _, _ => none
  | .store _ a v k, H => match v with
    | .agg _ | .tuple _ => none
    | v => match alook H.h a.block, a.spot with
      | some (.cells cs e fr), none => if a.off < cs.size then Sem.arun k { H with h := aset H.h a.block (.cells (cs.setIfInBounds a.off v) e fr), st := H.st + 1 } else none
      | _, _ => none
  | .new o k, H => match o with
    | .cells .. | .map .. => match alook H.h H.c with
      | none => Sem.arun (k H.c) { H with h := ains H.h H.c o, c := H.c + 1, st := H.st + 1 }
      | some _ => none
    | _ => none
  | .getObj r k, H => match alook H.h r with
    | some (.map es c) => Sem.arun (k (.map es c)) H
    | _ => none
  | .setObj r o k, H => match alook H.h r, o with
    | some (.map ..), .map es c => Sem.arun k { H with h := aset H.h r (.map es c), st := H.st + 1 }
    | _, _ => none
  | .program k, H => Sem.arun (k P) H
  | .mark _ k, H => Sem.arun k H
  | _, _ => none

/-- The run of s over names says what the run of s' does. -/
def Sim (RR : NF → α → α → Prop) : Sem α → Sem α → NF → Prop
  | .pure a, s', f => match s' with
    | .pure a' => RR f a a'
    | _ => False
  | .load _ a k, s', f => match s' with
    | .load _ a' k' => AR f a a' ∧ ∀ g, NF.le f g → ∀ v v', VR g v v' → Sim RR (k v) (k' v') g
    | _ => False
  | .store _ a v k, s', f => match s' with
    | .store _ a' v' k' => AR f a a' ∧ VR f v v' ∧ ∀ g, NF.le f g → Sim RR k k' g
    | _ => False
  | .new o k, s', f => match s' with
    | .new o' k' => (OR f o o' ∨ ∀ cs e fr es c, o ≠ .cells cs e fr ∧ o ≠ .map es c) ∧ ∀ g, NF.le f g → ∀ r r', g r = some r' → Sim RR (k r) (k' r') g
    | _ => False
  | .getObj r k, s', f => match s' with
    | .getObj r' k' => f r = some r' ∧ ∀ g, NF.le f g → ∀ es es' c, EnR g es es' → Sim RR (k (.map es c)) (k' (.map es' c)) g
    | _ => False
  | .setObj r o k, s', f => match s' with
    | .setObj r' o' k' => f r = some r' ∧ (∀ es c, o = .map es c → ∃ es', o' = .map es' c ∧ EnR f es es') ∧ ∀ g, NF.le f g → Sim RR k k' g
    | _ => False
  | .program k, s', f => match s' with
    | .program k' => Sim RR (k P) (k' P) f
    | _ => False
  | .mark _ k, s', f => match s' with
    | .mark _ k' => Sim RR k k' f
    | _ => False
  | _, _, _ => True
end
end Go.Proofs.YtmodghiokoiipaaGreat

/-!
  The run over names is sound.
-/
namespace Go.Proofs.YtmodghiokoiipaaGreat
open Go Go.RowKit
set_option linter.unusedVariables false
set_option linter.unusedSimpArgs false

theorem below_obj {base : PS} {w : World} (r : Nat) (o : Obj) (hr : ¬ base r) : Kept base w { w with heap := w.heap.setIfInBounds r o } :=
  ⟨rfl, rfl, rfl, by simp, fun k hk => by
    exact Array.getElem?_setIfInBounds_ne (fun e => by subst e; exact hr hk)⟩
theorem run_store {α : Type} {P : Program} {m : Mode} {a : Addr} {v u : Value} {k : Sem α} {w : World} (h1 : ∀ xs, v ≠ .agg xs) (h2 : ∀ xs, v ≠ .tuple xs) (hc : w.cell? a = some u) (hf : w.frozen? a = false) : (Go.Sem.store m a v k).run P w = k.run P (w.setCell a v) := by
  cases v <;> simp_all [Go.Sem.run]
theorem VR.plain {f : NF} {v v' : Value} (h : VR f v v') (h1 : ∀ xs, v ≠ .agg xs) (h2 : ∀ xs, v ≠ .tuple xs) : (∀ xs, v' ≠ .agg xs) ∧ ∀ xs, v' ≠ .tuple xs := by
  cases h <;> simp_all
theorem HR.load {f : NF} {base : PS} {H : List (Nat × Obj)} {w : World} (h : HR f base H w) {a a' : Addr} {cs : Array Value} {e : TypeId} {fr : Nat × Nat} (ha : AR f a a') (hl : alook H a.block = some (.cells cs e fr)) :
    ∃ b cs', a' = ⟨b, a.off, none⟩ ∧ f a.block = some b ∧ w.heap[b]? = some (.cells cs' e (0, 0)) ∧ RowR f cs cs' := by
  obtain ⟨b, h1, h2, h3⟩ := ha
  obtain ⟨cs', h4, h5⟩ := h.get _ _ _ h1 hl
  exact ⟨b, cs', h3, h1, h4, h5⟩
theorem HR.set {f : NF} {base : PS} {H : List (Nat × Obj)} {w : World} (h : HR f base H w) {a b o : Nat} {cs cs' : Array Value} {e : TypeId} {fr : Nat × Nat} (h1 : f a = some b) (hl : alook H a = some (.cells cs e fr)) (hb : w.heap[b]? = some (.cells cs' e (0, 0))) (hr : RowR f cs cs') (ho : o < cs.size) {v v' : Value} (hv : VR f v v') :
    HR f base (aset H a (.cells (cs.setIfInBounds o v) e fr)) (w.setCell ⟨b, o, none⟩ v') := by
  refine ⟨fun x y ob hx hy => ?_, fun x y hx => ?_, h.inj⟩
  · rw [alook_aset] at hy
    by_cases hxa : a = x
    · subst hxa
      rw [if_pos rfl, hl] at hy
      simp only [Option.map_some, Option.some.injEq] at hy
      subst hy
      obtain rfl : b = y := by rw [h1] at hx; exact Option.some.inj hx
      refine ⟨_, heap_setCell_same w b o cs' e v' hb, ?_, fun i u hu => ?_⟩
      · simpa using hr.1
      · rw [Array.getElem?_setIfInBounds] at hu ⊢
        by_cases hi : o = i
        · subst hi
          rw [if_pos rfl, if_pos ho] at hu
          have : o < cs'.size := Nat.lt_of_lt_of_le ho hr.1
          rw [if_pos rfl, if_pos this]
          exact ⟨v', rfl, by rw [← Option.some.inj hu]; exact hv⟩
        · rw [if_neg hi] at hu ⊢
          exact hr.2 i u hu
    · rw [if_neg hxa] at hy
      have hne : y ≠ b := fun e1 => hxa (h.inj _ _ _ (by rw [h1]) (by rw [hx, e1]))
      rw [heap_setCell_other w ⟨b, o, none⟩ y v' hne]
      exact h.get _ _ _ hx hy
  · obtain ⟨d1, d2, d3⟩ := h.dom _ _ hx
    refine ⟨?_, d2, by simpa using d3⟩
    rw [alook_aset]
    split
    · rw [hl]; rfl
    · exact d1
def NF.put (f : NF) (a b : Nat) : NF := fun x => if x = a then some b else f x
theorem HR.new {f : NF} {base : PS} {H : List (Nat × Obj)} {w : World} (h : HR f base H w) {a : Nat} {o o' : Obj} (ha : alook H a = none) (ho : OR f o o') (hb : Old base w) :
    NF.le f (NF.put f a w.heap.size) ∧ HR (NF.put f a w.heap.size) base (ains H a o) (w.alloc o') := by
  have hn : f a = none := by
    cases hf : f a with
    | none => rfl
    | some b =>
      have := (h.dom _ _ hf).1
      rw [ha] at this
      cases this
  have hle : NF.le f (NF.put f a w.heap.size) := fun x y hx => by
    unfold NF.put
    rw [if_neg (fun e => by subst e; rw [hn] at hx; cases hx)]
    exact hx
  refine ⟨hle, fun x y ob hx hy => ?_, fun x y hx => ?_, fun x x' y hx hx' => ?_⟩
  · rw [alook_ains _ _ _ _ ha] at hy
    unfold NF.put at hx
    by_cases hxa : x = a
    · subst hxa
      rw [if_pos rfl] at hx hy
      obtain rfl := Option.some.inj hx
      obtain rfl := Option.some.inj hy
      have : (w.alloc o').heap[w.heap.size]? = some o' := heap_alloc_new w o'
      rw [this]
      exact ho.oh.mono hle
    · rw [if_neg hxa] at hx
      rw [if_neg (fun e => hxa e.symm)] at hy
      have hlt := (h.dom _ _ hx).2.2
      have : (w.alloc o').heap[y]? = w.heap[y]? := heap_alloc_old w o' hlt
      rw [this]
      exact (h.get _ _ _ hx hy).mono hle
  · unfold NF.put at hx
    rw [alook_ains _ _ _ _ ha]
    by_cases hxa : x = a
    · subst hxa
      rw [if_pos rfl] at hx
      obtain rfl := Option.some.inj hx
      exact ⟨by simp, fun h => Nat.lt_irrefl _ (hb _ h), by simp⟩
    · rw [if_neg hxa] at hx
      obtain ⟨d1, d2, d3⟩ := h.dom _ _ hx
      exact ⟨by rw [if_neg (fun e => hxa e.symm)]; exact d1, d2, by simp; omega⟩
  · unfold NF.put at hx hx'
    by_cases hxa : x = a
    · by_cases hxa' : x' = a
      · rw [hxa, hxa']
      · rw [if_pos hxa] at hx
        rw [if_neg hxa'] at hx'
        have := (h.dom _ _ hx').2.2
        have e := Option.some.inj hx
        omega
    · rw [if_neg hxa] at hx
      by_cases hxa' : x' = a
      · rw [if_pos hxa'] at hx'
        have := (h.dom _ _ hx).2.2
        have e := Option.some.inj hx'
        omega
      · rw [if_neg hxa'] at hx'
        exact h.inj _ _ _ hx hx'
theorem HR.setMap {f : NF} {base : PS} {H : List (Nat × Obj)} {w : World} (h : HR f base H w) {a b c : Nat} {o : Obj} {es es' : Array MapEntry} (h1 : f a = some b) (hl : alook H a = some o) (hr : EnR f es es') :
    HR f base (aset H a (.map es c)) { w with heap := w.heap.setIfInBounds b (.map es' c) } := by
  refine ⟨fun x y ob hx hy => ?_, fun x y hx => ?_, h.inj⟩
  · rw [alook_aset] at hy
    by_cases hxa : a = x
    · subst hxa
      rw [if_pos rfl, hl] at hy
      simp only [Option.map_some, Option.some.injEq] at hy
      subst hy
      obtain rfl : b = y := by rw [h1] at hx; exact Option.some.inj hx
      have hlt := (h.dom _ _ h1).2.2
      exact ⟨es', by simp [hlt], hr⟩
    · rw [if_neg hxa] at hy
      have hne : b ≠ y := fun e1 => hxa (h.inj _ _ _ (by rw [h1]) (by rw [hx, e1]))
      show OH f ob (w.heap.setIfInBounds b (.map es' c))[y]?
      rw [Array.getElem?_setIfInBounds_ne hne]
      exact h.get _ _ _ hx hy
  · obtain ⟨d1, d2, d3⟩ := h.dom _ _ hx
    refine ⟨?_, d2, by simpa using d3⟩
    rw [alook_aset]
    split
    · rw [hl]; rfl
    · exact d1

/-- What the run of s' does. -/
def Snd {α : Type} (P : Program) (RR : NF → α → α → Prop) (base : PS) (f : NF) (w : World) (s' : Go.Sem α) (a : α) (H' : AH) : Prop :=
  ∃ g a' w', s'.run P w = .ok a' w' ∧ NF.le f g ∧ RR g a a' ∧ HR g base H'.h w' ∧ Kept base w w'
theorem sim_run {α : Type} {P : Program} {RR : NF → α → α → Prop} {base : PS} : ∀ (s s' : Go.Sem α) (f : NF) (H : AH) (w : World) (a : α) (H' : AH), Sim P RR s s' f → HR f base H.h w → Old base w → Sem.arun P s H = some (a, H') → Snd P RR base f w s' a H' := by
  intro s
  induction s with
  | pure x =>
    intro s' f H w a H' hs hh hb hr
    cases s' <;> simp only [Sim] at hs
    simp only [Sem.arun, Option.some.injEq, Prod.mk.injEq] at hr
    obtain ⟨rfl, rfl⟩ := hr
    exact ⟨f, _, w, rfl, NF.le_refl f, hs, hh, Kept.refl _ _⟩
  | load m ad k ih =>
    intro s' f H w a H' hs hh hb hr
    cases s' <;> simp only [Sim] at hs
    obtain ⟨ha, hk⟩ := hs
    simp only [Sem.arun] at hr
    split at hr
    · rename_i cs e fr hl hsp
      split at hr
      · rename_i v hv
        obtain ⟨b, cs', rfl, h1, h2, h3⟩ := hh.load ha hl
        obtain ⟨v', h4, h5⟩ := h3.2 _ _ hv
        obtain ⟨g, a', w', r1, r2, r3, r4, r5⟩ := ih v _ f H w a H' (hk f (NF.le_refl f) v v' h5) hh hb hr
        refine ⟨g, a', w', ?_, r2, r3, r4, r5⟩
        rw [Go.Sem.run, cell_of_row w b _ cs' e (0, 0) h2, h4]
        exact r1
      · cases hr
    · cases hr
  | store m ad v k ih =>
    intro s' f H w a H' hs hh hb hr
    cases s' <;> simp only [Sim] at hs
    rename_i m' ad' v' k'
    obtain ⟨ha, hv, hk⟩ := hs
    have key : (∀ xs, v ≠ .agg xs) → (∀ xs, v ≠ .tuple xs) → (match alook H.h ad.block, ad.spot with
      | some (.cells cs e fr), none => if ad.off < cs.size then Sem.arun P k { H with h := aset H.h ad.block (.cells (cs.setIfInBounds ad.off v) e fr), st := H.st + 1 } else none
      | _, _ => none) = some (a, H') → Snd P RR base f w (.store m' ad' v' k') a H' := fun n1 n2 hr => by
      split at hr
      · rename_i cs e fr hl hsp
        split at hr
        · rename_i hlt
          obtain ⟨b, cs', rfl, h1, h2, h3⟩ := hh.load ha hl
          obtain ⟨p1, p2⟩ := hv.plain n1 n2
          have hb1 := (hh.dom _ _ h1).2.1
          obtain ⟨g, a', w', r1, r2, r3, r4, r5⟩ := ih _ f _ (w.setCell ⟨b, ad.off, none⟩ _) a H' (hk f (NF.le_refl f)) (hh.set h1 hl h2 h3 hlt hv) (fun x hx => by have := hb x hx; simpa [World.setCell] using this) hr
          refine ⟨g, a', w', ?_, r2, r3, r4, (Kept.setCell (Kept.refl base w) hb1 _).trans r5⟩
          have hc : ∃ u, w.cell? ⟨b, ad.off, none⟩ = some u := by
            rw [cell_of_row w b _ cs' e (0, 0) h2]
            exact ⟨_, Array.getElem?_eq_getElem (Nat.lt_of_lt_of_le hlt h3.1)⟩
          obtain ⟨u, hu⟩ := hc
          rw [run_store p1 p2 hu (frozen_of_row w b _ cs' e h2)]
          exact r1
        · cases hr
      · cases hr
    cases v <;> simp only [Sem.arun] at hr <;> first | (cases hr; done) | exact key (by simp) (by simp) hr
  | new o k ih =>
    intro s' f H w a H' hs hh hb hr
    cases s' <;> simp only [Sim] at hs
    rename_i o' k'
    obtain ⟨ho, hk⟩ := hs
    have key : OR f o o' → (match alook H.h H.c with
      | none => Sem.arun P (k H.c) { H with h := ains H.h H.c o, c := H.c + 1, st := H.st + 1 }
      | some _ => none) = some (a, H') → Snd P RR base f w (.new o' k') a H' := fun ho hr => by
      split at hr
      · rename_i hn
        obtain ⟨hle, hh2⟩ := hh.new hn ho hb
        obtain ⟨g, a', w', r1, r2, r3, r4, r5⟩ := ih H.c _ _ _ _ a H' (hk _ hle H.c w.heap.size (by simp [NF.put])) hh2 (fun x hx => by have := hb x hx; simp; omega) hr
        exact ⟨g, a', w', r1, NF.le_trans hle r2, r3, r4, (Kept.alloc (Kept.refl _ _) hb _).trans r5⟩
      · cases hr
    cases o <;> simp only [Sem.arun] at hr <;> first | (cases hr; done) | (rcases ho with ho | ho; exact key ho hr; exact absurd rfl (ho _ _ _ #[] 0).1) | (rcases ho with ho | ho; exact key ho hr; exact absurd rfl (ho #[] 0 (0, 0) _ _).2)
  | getObj r k ih =>
    intro s' f H w a H' hs hh hb hr
    cases s' <;> simp only [Sim] at hs
    obtain ⟨h1, hk⟩ := hs
    simp only [Sem.arun] at hr
    split at hr
    · rename_i es c hl
      obtain ⟨es', h2, h3⟩ := hh.get _ _ _ h1 hl
      obtain ⟨g, a', w', r1, r2, r3, r4, r5⟩ := ih _ _ f H w a H' (hk f (NF.le_refl f) es es' c h3) hh hb hr
      refine ⟨g, a', w', ?_, r2, r3, r4, r5⟩
      rw [Go.Sem.run, h2]
      exact r1
    · cases hr
  | setObj r o k ih =>
    intro s' f H w a H' hs hh hb hr
    cases s' <;> simp only [Sim] at hs
    obtain ⟨h1, ho, hk⟩ := hs
    simp only [Sem.arun] at hr
    split at hr
    · rename_i es0 c0 es c hl
      obtain ⟨es', rfl, h3⟩ := ho es c rfl
      obtain ⟨es0', h2, _⟩ := hh.get _ _ _ h1 hl
      have hb1 := (hh.dom _ _ h1).2.1
      obtain ⟨g, a', w', r1, r2, r3, r4, r5⟩ := ih _ f _ _ a H' (hk f (NF.le_refl f)) (hh.setMap (c := c) h1 hl h3) (fun x hx => by have := hb x hx; simpa using this) hr
      refine ⟨g, a', w', ?_, r2, r3, r4, (below_obj _ _ hb1).trans r5⟩
      rw [Go.Sem.run, h2]
      exact r1
    · cases hr
  | program k ih =>
    intro s' f H w a H' hs hh hb hr
    cases s' <;> simp only [Sim] at hs
    simp only [Sem.arun] at hr
    obtain ⟨g, a', w', r1, r2⟩ := ih P _ f H w a H' hs hh hb hr
    exact ⟨g, a', w', r1, r2⟩
  | mark m k ih =>
    intro s' f H w a H' hs hh hb hr
    cases s' <;> simp only [Sim] at hs
    simp only [Sem.arun] at hr
    obtain ⟨g, a', w', r1, r2⟩ := ih _ f H w a H' hs hh hb hr
    exact ⟨g, a', w', r1, r2⟩
  | _ => intro s' f H w a H' hs hh hb hr; simp [Sem.arun] at hr
end Go.Proofs.YtmodghiokoiipaaGreat

/-!
  The steps of operations over names: the small pieces.
-/
namespace Go.Proofs.YtmodghiokoiipaaGreat
open Go Go.RowKit
set_option linter.unusedVariables false
set_option linter.unusedSimpArgs false

section
variable {α β : Type} {P : Program}
theorem sim_bind {RR : NF → α → α → Prop} {RS : NF → β → β → Prop} : ∀ (s s' : Go.Sem α) (f : NF) (k k' : α → Go.Sem β), Sim P RR s s' f → (∀ g, NF.le f g → ∀ a a', RR g a a' → Sim P RS (k a) (k' a') g) → Sim P RS (s.bind k) (s'.bind k') f := by
  intro s
  induction s with
  | pure x =>
    intro s' f k k' hs hk
    cases s' <;> simp only [Sim] at hs
    exact hk f (NF.le_refl f) _ _ hs
  | load m ad c ih =>
    intro s' f k k' hs hk
    cases s' <;> simp only [Sim] at hs
    refine ⟨hs.1, fun g hg v v' hv => ?_⟩
    exact ih v _ g k k' (hs.2 g hg v v' hv) (fun h hh a a' ha => hk h (NF.le_trans hg hh) a a' ha)
  | store m ad v c ih =>
    intro s' f k k' hs hk
    cases s' <;> simp only [Sim] at hs
    refine ⟨hs.1, hs.2.1, fun g hg => ?_⟩
    exact ih _ g k k' (hs.2.2 g hg) (fun h hh a a' ha => hk h (NF.le_trans hg hh) a a' ha)
  | new o c ih =>
    intro s' f k k' hs hk
    cases s' <;> simp only [Sim] at hs
    refine ⟨hs.1, fun g hg r r' hr => ?_⟩
    exact ih r _ g k k' (hs.2 g hg r r' hr) (fun h hh a a' ha => hk h (NF.le_trans hg hh) a a' ha)
  | getObj r c ih =>
    intro s' f k k' hs hk
    cases s' <;> simp only [Sim] at hs
    refine ⟨hs.1, fun g hg es es' c he => ?_⟩
    exact ih _ _ g k k' (hs.2 g hg es es' c he) (fun h hh a a' ha => hk h (NF.le_trans hg hh) a a' ha)
  | setObj r o c ih =>
    intro s' f k k' hs hk
    cases s' <;> simp only [Sim] at hs
    refine ⟨hs.1, hs.2.1, fun g hg => ?_⟩
    exact ih _ g k k' (hs.2.2 g hg) (fun h hh a a' ha => hk h (NF.le_trans hg hh) a a' ha)
  | program c ih =>
    intro s' f k k' hs hk
    cases s' <;> simp only [Sim] at hs
    exact ih P _ f k k' hs hk
  | mark m c ih =>
    intro s' f k k' hs hk
    cases s' <;> simp only [Sim] at hs
    exact ih _ f k k' hs hk
  | _ => intro s' f k k' hs hk; trivial
/-- The same answer. -/
def RE : NF → α → α → Prop := fun _ a b => a = b
theorem sim_pure {RR : NF → α → α → Prop} {f : NF} {a a' : α} (h : RR f a a') : Sim P RR (pure a) (pure a') f := h
end

/-! Nothing but the program is asked. -/
inductive Calm (P : Program) {α : Type} : Go.Sem α → Prop
  | pure (a : α) : Calm P (.pure a)
  | program {k} (h : Calm P (k P)) : Calm P (.program k)
  | mark {m k} (h : Calm P k) : Calm P (.mark m k)
  | halt (h) : Calm P (.halt h)
  | choose (q k) : Calm P (.choose q k)
  | shape (r k) : Calm P (.shape r k)
  | frozen (r k) : Calm P (.frozen r k)
theorem Calm.bind {P : Program} {α β : Type} {s : Go.Sem α} {k : α → Go.Sem β} (h : Calm P s) (hk : ∀ a, Calm P (k a)) : Calm P (s.bind k) := by
  induction h with
  | pure a => exact hk a
  | program _ ih => exact .program ih
  | mark _ ih => exact .mark ih
  | halt h => exact .halt h
  | choose q k => exact .choose _ _
  | shape r k => exact .shape _ _
  | frozen r k => exact .frozen _ _
theorem Calm.bind' {P : Program} {α β : Type} {s : Go.Sem α} {k : α → Go.Sem β} (h : Calm P s) (hk : ∀ a, Calm P (k a)) : Calm P (s >>= k) := h.bind hk
theorem Calm.sim {P : Program} {α : Type} {s : Go.Sem α} (h : Calm P s) (f : NF) : Sim P RE s s f := by
  induction h with
  | pure a => exact rfl
  | program _ ih => exact ih
  | mark _ ih => exact ih
  | _ => trivial
theorem calm_program {P : Program} : Calm P Go.program := .program (.pure _)
theorem calm_underlying {P : Program} (t : TypeId) : Calm P (underlying t) := by
  refine calm_program.bind' fun p => ?_
  split
  · exact .pure _
  · exact .halt _
theorem calm_typeInfo {P : Program} (t : TypeId) : Calm P (typeInfo t) := by
  refine calm_program.bind' fun p => ?_
  split
  · exact .pure _
  · exact .halt _
theorem calm_sizeOf {P : Program} (t : TypeId) : Calm P (sizeOf t) := (calm_typeInfo t).bind' fun _ => .pure _
theorem calm_zeroValue {P : Program} (t : TypeId) : Calm P (zeroValue t) := by
  refine (calm_typeInfo t).bind' fun i => ?_
  split
  · exact .pure _
  · exact .halt _
theorem calm_isAgg {P : Program} (t : TypeId) : Calm P (isAgg t) := by
  refine (calm_underlying t).bind' fun d => ?_
  split <;> exact .pure _

/-! Values without names. -/
def closedN : Nat → Value → Bool
  | _, .bool _ | _, .int .. | _, .float .. | _, .string _ | _, .pointer none | _, .slice none 0 0 | _, .map none | _, .nilFunc | _, .nilIface => true
  | n + 1, .func _ xs ys => xs.all (closedN n) && ys.all (closedN n)
  | n + 1, .agg xs => xs.all (closedN n)
  | n + 1, .tuple xs => xs.all (closedN n)
  | _, _ => false
theorem closed_vr {f : NF} : ∀ {n : Nat} {v : Value}, closedN n v = true → VR f v v
  | 0, v, h => by
    unfold closedN at h
    split at h <;> first | (cases h; done) | (exfalso; omega) | constructor
  | n + 1, v, h => by
    unfold closedN at h
    split at h <;> first
      | (cases h; done)
      | (constructor; done)
      | skip
    · rename_i m g xs ys hm
      obtain rfl : m = n := by omega
      simp only [Bool.and_eq_true, Array.all_eq_true_iff_forall_mem] at h
      exact .fn rfl rfl (fun i v v' hv hv' => by rw [hv] at hv'; cases hv'; exact closed_vr (h.1 _ (Array.mem_of_getElem? hv))) (fun i v v' hv hv' => by rw [hv] at hv'; cases hv'; exact closed_vr (h.2 _ (Array.mem_of_getElem? hv)))
    · rename_i m xs hm
      obtain rfl : m = n := by omega
      simp only [Array.all_eq_true_iff_forall_mem] at h
      exact .agg rfl (fun i v v' hv hv' => by rw [hv] at hv'; cases hv'; exact closed_vr (h _ (Array.mem_of_getElem? hv)))
    · rename_i m xs hm
      obtain rfl : m = n := by omega
      simp only [Array.all_eq_true_iff_forall_mem] at h
      exact .tup rfl (fun i v v' hv hv' => by rw [hv] at hv'; cases hv'; exact closed_vr (h _ (Array.mem_of_getElem? hv)))
end Go.Proofs.YtmodghiokoiipaaGreat

/-!
  The steps of operations over names: memory.
-/
namespace Go.Proofs.YtmodghiokoiipaaGreat
open Go Go.RowKit
set_option linter.unusedVariables false
set_option linter.unusedSimpArgs false

def PwR (f : NF) (xs xs' : Array Value) : Prop := xs.size = xs'.size ∧ ∀ (i : Nat) (v v' : Value), xs[i]? = some v → xs'[i]? = some v' → VR f v v'
theorem PwR.mono {f g : NF} (hl : NF.le f g) {a a' : Array Value} (h : PwR f a a') : PwR g a a' := ⟨h.1, fun i v v' hv hv' => (h.2 i v v' hv hv').mono hl⟩
theorem PwR.nil (f : NF) : PwR f #[] #[] := ⟨rfl, fun i v v' hv => by simp at hv⟩
theorem PwR.push {f : NF} {a a' : Array Value} (h : PwR f a a') {v v' : Value} (hv : VR f v v') : PwR f (a.push v) (a'.push v') := by
  refine ⟨by simp [h.1], fun i u u' hu hu' => ?_⟩
  rw [Array.getElem?_push] at hu hu'
  rw [← h.1] at hu'
  split at hu
  · rename_i he
    rw [if_pos he] at hu'
    cases hu
    cases hu'
    exact hv
  · rename_i he
    rw [if_neg he] at hu'
    exact h.2 i u u' hu hu'
theorem PwR.row {f : NF} {a a' : Array Value} (h : PwR f a a') : RowR f a a' := ⟨Nat.le_of_eq h.1, fun i v hv => by
  have hi := (Array.getElem?_eq_some_iff.1 hv).1
  have hi' : i < a'.size := by rw [← h.1]; exact hi
  exact ⟨a'[i], Array.getElem?_eq_getElem hi', h.2 i v _ hv (Array.getElem?_eq_getElem hi')⟩⟩
theorem PwR.get {f : NF} {a a' : Array Value} (h : PwR f a a') {i : Nat} {v : Value} (hv : a[i]? = some v) : ∃ v', a'[i]? = some v' ∧ VR f v v' := h.row.2 i v hv
theorem PwR.getNone {f : NF} {a a' : Array Value} (h : PwR f a a') {i : Nat} (hv : a[i]? = none) : a'[i]? = none := by
  rw [Array.getElem?_eq_none_iff] at hv ⊢
  rw [← h.1]
  exact hv
theorem VR.cells {f : NF} {v v' : Value} (h : VR f v v') : PwR f v.cells v'.cells := by
  have one : ∀ {u u' : Value}, VR f u u' → PwR f #[u] #[u'] := fun hu => (PwR.nil f).push hu
  cases h with
  | agg h1 h3 => exact ⟨h1, h3⟩
  | bool b => exact one (.bool b)
  | int k n => exact one (.int k n)
  | float k b => exact one (.float k b)
  | string s => exact one (.string s)
  | nilP => exact one .nilP
  | ptr o h => exact one (.ptr o h)
  | nilS => exact one .nilS
  | sl o n h hn hc => exact one (.sl o n h hn hc)
  | sl0 o o' h => exact one (.sl0 o o' h)
  | nilM => exact one .nilM
  | mp h => exact one (.mp h)
  | nilF => exact one .nilF
  | nilI => exact one .nilI
  | fn h1 h2 h3 h4 => exact one (.fn h1 h2 h3 h4)
  | tup h1 h3 => exact one (.tup h1 h3)
theorem PwR.agg {f : NF} {a a' : Array Value} (h : PwR f a a') : VR f (.agg a) (.agg a') := .agg h.1 h.2
theorem AR.add {f : NF} {a a' : Addr} (h : AR f a a') (n : Nat) : AR f (a.add n) (a'.add n) := by
  obtain ⟨b, h1, h2, rfl⟩ := h
  unfold Addr.add
  split
  · exact ⟨b, h1, h2, rfl⟩
  · exact ⟨b, h1, rfl, rfl⟩
theorem AR.ptr {f : NF} {a a' : Addr} (h : AR f a a') : VR f (.pointer (some a)) (.pointer (some a')) := by
  obtain ⟨b, h1, h2, rfl⟩ := h
  obtain ⟨ab, ao, as⟩ := a
  dsimp only at h1 h2
  subst h2
  exact .ptr _ h1

section
variable {α β : Type} {P : Program}
theorem sim_bind' {RR : NF → α → α → Prop} {RS : NF → β → β → Prop} {s s' : Go.Sem α} {f : NF} {k k' : α → Go.Sem β} (h : Sim P RR s s' f) (hk : ∀ g, NF.le f g → ∀ a a', RR g a a' → Sim P RS (k a) (k' a') g) : Sim P RS (s >>= k) (s' >>= k') f := sim_bind s s' f k k' h hk
theorem sim_calm {RS : NF → β → β → Prop} {s : Go.Sem α} (h : Calm P s) {f : NF} {k k' : α → Go.Sem β} (hk : ∀ g, NF.le f g → ∀ a, Sim P RS (k a) (k' a) g) : Sim P RS (s >>= k) (s >>= k') f :=
  sim_bind' (h.sim f) fun g hg a a' ha => by
    cases ha
    exact hk g hg a
theorem sim_load {f : NF} {a a' : Addr} (h : AR f a a') : Sim P VR (load a) (load a') f := ⟨h, fun g hg v v' hv => hv⟩
theorem sim_loadCellsFrom : ∀ (n : Nat) (a a' : Addr) (i : Nat) (acc acc' : Array Value) (f : NF), AR f a a' → PwR f acc acc' → Sim P PwR (loadCellsFrom a i n acc) (loadCellsFrom a' i n acc') f
  | 0, a, a', i, acc, acc', f, ha, hc => hc
  | n + 1, a, a', i, acc, acc', f, ha, hc => by
    refine sim_bind' (sim_load (ha.add i)) fun g hg v v' hv => ?_
    exact sim_loadCellsFrom n a a' (i + 1) _ _ g (ha.mono hg) ((hc.mono hg).push hv)
theorem sim_loadVar {f : NF} {a a' : Addr} (t : TypeId) (h : AR f a a') : Sim P VR (loadVar t a) (loadVar t a') f := by
  unfold loadVar
  refine sim_calm (calm_isAgg t) fun g hg b => ?_
  split
  · refine sim_calm (calm_sizeOf t) fun g2 hg2 n => ?_
    refine sim_bind' (sim_loadCellsFrom n _ _ 0 _ _ _ ((h.mono hg).mono hg2) (PwR.nil _)) fun g3 _ cs cs' hc => ?_
    exact hc.agg
  · exact sim_load (h.mono hg)
def LR (f : NF) (xs xs' : List Value) : Prop := PwR f xs.toArray xs'.toArray
theorem sim_storeCells : ∀ (vs vs' : List Value) (a a' : Addr) (i : Nat) (f : NF), AR f a a' → LR f vs vs' → Sim P (fun _ _ _ => True) (storeCells a vs i) (storeCells a' vs' i) f
  | [], vs', a, a', i, f, ha, hl => by
    have : vs' = [] := by
      have := hl.1
      simp at this
      exact List.eq_nil_of_length_eq_zero this.symm
    subst this
    trivial
  | v :: vs, vs', a, a', i, f, ha, hl => by
    cases vs' with
    | nil =>
      have := hl.1
      simp at this
    | cons v' vs' =>
      have hv : VR f v v' := hl.2 0 v v' (by simp) (by simp)
      have hl' : LR f vs vs' := ⟨by have := hl.1; simp at this ⊢; exact this, fun i u u' hu hu' => hl.2 (i + 1) u u' (by simpa using hu) (by simpa using hu')⟩
      refine sim_bind' (RR := fun _ _ _ => True) ⟨ha.add i, hv, fun g hg => trivial⟩ fun g hg _ _ _ => ?_
      exact sim_storeCells vs vs' a a' (i + 1) g (ha.mono hg) (PwR.mono hg hl')
theorem sim_storeVar {f : NF} {a a' : Addr} {v v' : Value} (t : TypeId) (h : AR f a a') (hv : VR f v v') : Sim P (fun _ _ _ => True) (storeVar t a v) (storeVar t a' v') f := by
  unfold storeVar
  refine sim_calm (calm_sizeOf t) fun g hg n => ?_
  have hc := hv.cells
  rw [← hc.1]
  split
  · trivial
  · refine sim_storeCells _ _ _ _ 0 g (h.mono hg) ?_
    have := hc.mono hg
    unfold LR
    simpa using this
theorem sim_newRow {f : NF} (e : TypeId) {cs cs' : Array Value} (h : PwR f cs cs') : Sim P AR (newRow e cs) (newRow e cs') f := by
  unfold newRow
  refine sim_bind' (RR := fun g r r' => g r = some r') ⟨.inl ⟨rfl, cs', rfl, h.row⟩, fun g hg r r' hr => hr⟩ fun g hg r r' hr => ?_
  exact ⟨r', hr, rfl, rfl⟩
theorem sim_newVar {f : NF} (t : TypeId) {v v' : Value} (h : VR f v v') : Sim P AR (newVar t v) (newVar t v') f := sim_newRow t h.cells
/-- The zero value of a type is without names. -/
def tOk (P : Program) (t : TypeId) : Bool := match P.info? t with
  | some i => match i.zero with
    | some z => closedN 8 z
    | none => true
  | none => true
/-- Nothing more is asked of the program's types. -/
def PZ (P : Program) : Prop := True
theorem sim_zeroValue {f : NF} (t : TypeId) (ht : tOk P t = true) : Sim P VR (zeroValue t) (zeroValue t) f := by
  unfold zeroValue typeInfo
  show Sim P VR (Go.Sem.bind _ _) (Go.Sem.bind _ _) f
  cases hi : P.info? t with
  | none => simp [Go.program, Go.Sem.bind, Sim, hi, stuck, bind, pure]
  | some i =>
    cases hz2 : i.zero with
    | none => simp [Go.program, Go.Sem.bind, Sim, hi, hz2, stuck, unsupported, bind, pure]
    | some z =>
      unfold tOk at ht
      rw [hi] at ht
      dsimp only at ht
      rw [hz2] at ht
      simp [Go.program, Go.Sem.bind, Sim, hi, hz2, stuck, unsupported, bind, pure]
      exact closed_vr ht
theorem sim_alloc {f : NF} (t : TypeId) (ht : tOk P t = true) : Sim P VR (Instr.alloc t true (.tuple #[])) (Instr.alloc t true (.tuple #[])) f := by
  unfold Instr.alloc
  refine sim_bind' (sim_zeroValue t ht) fun g hg z z' hzz => ?_
  refine sim_bind' (sim_newVar t hzz) fun g2 hg2 a a' ha => ha.ptr
theorem sim_box {f : NF} (t : TypeId) {v v' : Value} (h : VR f v v') : Sim P VR (Instr.box t v) (Instr.box t v') f := by
  unfold Instr.box
  exact sim_bind' (sim_newVar t h) fun g2 hg2 a a' ha => ha.ptr
theorem sim_sureAddr {f : NF} {v v' : Value} (h : VR f v v') : Sim P AR (Instr.sureAddr v) (Instr.sureAddr v') f := by
  cases h <;> first
    | (exact ⟨_, by assumption, rfl, rfl⟩)
    | (simp [Instr.sureAddr, stuck, Sim])
theorem sim_loadAt {f : NF} (t : TypeId) {v v' : Value} (h : VR f v v') : Sim P VR (Instr.loadAt t v) (Instr.loadAt t v') f := by
  unfold Instr.loadAt
  exact sim_bind' (sim_sureAddr h) fun g hg a a' ha => sim_loadVar t ha
theorem sim_storeAt {f : NF} (t : TypeId) {v v' u u' : Value} (h : VR f v v') (hu : VR f u u') : Sim P (fun _ _ _ => True) (Instr.storeAt t v u) (Instr.storeAt t v' u') f := by
  unfold Instr.storeAt
  exact sim_bind' (sim_sureAddr h) fun g hg a a' ha => sim_storeVar t ha (hu.mono hg)
end
end Go.Proofs.YtmodghiokoiipaaGreat

/-!
  The steps of operations over names: by what their runs do.
-/
namespace Go.Proofs.YtmodghiokoiipaaGreat
open Go Go.RowKit
set_option linter.unusedVariables false
set_option linter.unusedSimpArgs false

section
variable {α β : Type} {P : Program} {base : PS}
theorem arun_bind : ∀ (s : Go.Sem α) (k : α → Go.Sem β) (H : AH), Sem.arun P (s.bind k) H = match Sem.arun P s H with
    | some (a, H1) => Sem.arun P (k a) H1
    | none => none := by
  intro s
  induction s with
  | pure a => intro k H; rfl
  | load m a c ih =>
    intro k H
    simp only [Go.Sem.bind, Sem.arun]
    split
    · split
      · exact ih _ k H
      · rfl
    · rfl
  | store m a v c ih =>
    intro k H
    cases v <;> simp only [Go.Sem.bind, Sem.arun] <;> first
      | rfl
      | (split
         · split
           · exact ih k _
           · rfl
         · rfl)
  | new o c ih =>
    intro k H
    cases o <;> simp only [Go.Sem.bind, Sem.arun] <;> first
      | rfl
      | (split
         · exact ih _ k _
         · rfl)
  | getObj r c ih =>
    intro k H
    simp only [Go.Sem.bind, Sem.arun]
    split
    · exact ih _ k H
    · rfl
  | setObj r o c ih =>
    intro k H
    simp only [Go.Sem.bind, Sem.arun]
    split
    · exact ih k _
    · rfl
  | program c ih => intro k H; exact ih P k H
  | mark m c ih => intro k H; exact ih k H
  | _ => intro k H; rfl
/-- Whatever the run over names of s says, s' does. -/
def SS (P : Program) (base : PS) (RR : NF → α → α → Prop) (s s' : Go.Sem α) (f : NF) : Prop :=
  ∀ g, NF.le f g → ∀ (H : AH) (w : World) (a : α) (H' : AH), HR g base H.h w → Old base w → Sem.arun P s H = some (a, H') → Snd P RR base g w s' a H'
theorem SS.mono {RR : NF → α → α → Prop} {s s' : Go.Sem α} {f g : NF} (h : SS P base RR s s' f) (hl : NF.le f g) : SS P base RR s s' g := fun k hk => h k (NF.le_trans hl hk)
theorem ss_bind {RR : NF → α → α → Prop} {RS : NF → β → β → Prop} {s s' : Go.Sem α} {f : NF} {k k' : α → Go.Sem β} (h : SS P base RR s s' f) (hk : ∀ g, NF.le f g → ∀ a a', RR g a a' → SS P base RS (k a) (k' a') g) : SS P base RS (s >>= k) (s' >>= k') f := by
  intro g hg H w b H' hh hb hr
  have e : (s >>= k) = s.bind k := rfl
  rw [e, arun_bind] at hr
  split at hr
  · rename_i a H1 ha
    obtain ⟨g1, a', w1, r1, r2, r3, r4, r5⟩ := h g hg H w a H1 hh hb ha
    obtain ⟨g2, b', w2, t1, t2, t3, t4, t5⟩ := hk g1 (NF.le_trans hg r2) a a' r3 g1 (NF.le_refl _) H1 w1 b H' r4 (hb.mono r5) hr
    refine ⟨g2, b', w2, ?_, NF.le_trans r2 t2, t3, t4, r5.trans t5⟩
    rw [Go.Sem.run_bind, r1]
    exact t1
  · cases hr
theorem ss_pure {RR : NF → α → α → Prop} {f : NF} (hm : ∀ f g a a', NF.le f g → RR f a a' → RR g a a') {a a' : α} (h : RR f a a') : SS P base RR (pure a) (pure a') f := by
  intro g hg H w b H' hh hb hr
  simp only [pure, Sem.arun, Option.some.injEq, Prod.mk.injEq] at hr
  obtain ⟨rfl, rfl⟩ := hr
  exact ⟨g, a', w, rfl, NF.le_refl g, hm _ _ _ _ hg h, hh, Kept.refl _ _⟩
theorem ss_dead {RR : NF → α → α → Prop} {f : NF} {s s' : Go.Sem α} (h : ∀ H, Sem.arun P s H = none) : SS P base RR s s' f := by
  intro g hg H w b H' hh hb hr
  rw [h] at hr
  cases hr
theorem ss_calm {RS : NF → β → β → Prop} {s : Go.Sem α} (h : Calm P s) {f : NF} {k k' : α → Go.Sem β} (hk : ∀ a, SS P base RS (k a) (k' a) f) : SS P base RS (s >>= k) (s >>= k') f := by
  refine ss_bind (RR := RE) (fun g hg H w a H' hh hb hr => sim_run s s g H w a H' (h.sim g) hh hb hr) fun g hg a a' ha => ?_
  cases ha
  exact (hk a).mono hg
end
end Go.Proofs.YtmodghiokoiipaaGreat

/-!
  The steps of operations over names: addresses, parts, slices.
-/
namespace Go.Proofs.YtmodghiokoiipaaGreat
open Go Go.RowKit
set_option linter.unusedVariables false
set_option linter.unusedSimpArgs false

theorem vr_mono {f g : NF} {a a' : Value} (hl : NF.le f g) (h : VR f a a') : VR g a a' := h.mono hl
section
variable {α β : Type} {P : Program} {base : PS}
theorem ss_of_sim {RR : NF → α → α → Prop} {s s' : Go.Sem α} {f : NF} (h : ∀ g, NF.le f g → Sim P RR s s' g) : SS P base RR s s' f :=
  fun g hg H w a H' hh hb hr => sim_run s s' g H w a H' (h g hg) hh hb hr
theorem ss_val {f : NF} {v v' : Value} (h : VR f v v') : SS P base VR (pure v) (pure v') f := ss_pure (fun _ _ _ _ hl h => h.mono hl) h
def AO (f : NF) : Option Addr → Option Addr → Prop
  | some a, some a' => AR f a a'
  | none, none => True
  | _, _ => False
theorem dead_stuck (why : String) : ∀ H, Sem.arun P (stuck why : Go.Sem α) H = none := fun H => rfl
theorem dead_unsupported (u : Unsupported) : ∀ H, Sem.arun P (unsupported u : Go.Sem α) H = none := fun H => rfl
theorem dead_bind {s : Go.Sem α} (h : ∀ H, Sem.arun P s H = none) (k : α → Go.Sem β) : ∀ H, Sem.arun P (s >>= k) H = none := fun H => by
  show Sem.arun P (s.bind k) H = none
  rw [arun_bind, h]
theorem dead_right {s : Go.Sem α} {k : α → Go.Sem β} (h : ∀ a H, Sem.arun P (k a) H = none) : ∀ H, Sem.arun P (s >>= k) H = none := fun H => by
  show Sem.arun P (s.bind k) H = none
  rw [arun_bind]
  split
  · exact h _ _
  · rfl
theorem dead_goPanic (v : Value) : ∀ H, Sem.arun P (goPanic v : Go.Sem α) H = none := fun H => rfl
theorem dead_runtimePanic (e : RuntimeError) : ∀ H, Sem.arun P (runtimePanic e : Go.Sem α) H = none := by
  refine dead_right fun p => ?_
  cases e <;> first
    | exact dead_goPanic _
    | exact dead_right fun a => dead_right fun b => dead_goPanic _
    | exact dead_right fun a => dead_goPanic _
theorem dead_boundsPanic (k : IntKind) (x y : Int) (c : BoundsCode) : ∀ H, Sem.arun P (boundsPanic k x y c : Go.Sem α) H = none := by
  unfold boundsPanic
  dsimp only
  split
  · exact dead_right fun a => dead_runtimePanic _
  · exact dead_right fun a => dead_runtimePanic _
theorem ss_asIntOf {f : NF} {v v' : Value} (h : VR f v v') : SS P base RE (asIntOf v) (asIntOf v') f := by
  cases h <;> first
    | exact ss_pure (fun _ _ _ _ _ h => h) rfl
    | exact ss_dead (fun H => rfl)
theorem ss_asInt {f : NF} {v v' : Value} (h : VR f v v') : SS P base RE (asInt v) (asInt v') f := by
  unfold asInt
  refine ss_bind (ss_asIntOf h) fun g hg a a' ha => ?_
  cases ha
  exact ss_pure (fun _ _ _ _ _ h => h) rfl
theorem ss_asBool {f : NF} {v v' : Value} (h : VR f v v') : SS P base RE (asBool v) (asBool v') f := by
  cases h <;> first
    | exact ss_pure (fun _ _ _ _ _ h => h) rfl
    | exact ss_dead (fun H => rfl)
theorem ss_sureAddr {f : NF} {v v' : Value} (h : VR f v v') : SS P base AR (Instr.sureAddr v) (Instr.sureAddr v') f := ss_of_sim fun g hg => sim_sureAddr (h.mono hg)
theorem ar_mono {f g : NF} {a a' : Addr} (hl : NF.le f g) (h : AR f a a') : AR g a a' := h.mono hl
theorem ss_fieldPlace {f : NF} {a a' : Addr} (h : AR f a a') (fd : Field) : SS P base AR (fieldPlace a fd) (fieldPlace a' fd) f := by
  unfold fieldPlace
  refine ss_calm (calm_sizeOf _) fun n => ?_
  split
  · refine ss_dead ?_
    unfold partAt
    refine dead_bind ?_ _
    obtain ⟨b, h1, h2, rfl⟩ := h
    unfold byteOf
    rw [h2]
    refine dead_right fun p => ?_
    refine dead_bind ?_ _
    unfold noView viewAt
    exact dead_bind (dead_bind (fun H => rfl) _) _
  · exact ss_pure (fun _ _ _ _ hl h => h.mono hl) (h.add _)
theorem ss_fieldAt {f : NF} (t : TypeId) {v v' : Value} (h : VR f v v') (i : Nat) : SS P base VR (Instr.fieldAt t v i) (Instr.fieldAt t v' i) f := by
  unfold Instr.fieldAt
  refine ss_calm (calm_underlying t) fun d => ?_
  split
  · split
    · refine ss_bind (ss_sureAddr h) fun g hg a a' ha => ?_
      refine ss_bind (ss_fieldPlace ha _) fun g2 hg2 b b' hb => ?_
      exact ss_val hb.ptr
    · exact ss_dead (dead_stuck _)
  · exact ss_dead (dead_stuck _)
theorem PwR.extract {f : NF} {a a' : Array Value} (h : PwR f a a') (i j : Nat) : PwR f (a.extract i j) (a'.extract i j) := by
  refine ⟨by simp [h.1], fun k v v' hv hv' => ?_⟩
  rw [Array.getElem?_extract] at hv hv'
  split at hv
  · split at hv'
    · exact h.2 _ _ _ hv hv'
    · cases hv'
  · cases hv
theorem ss_part {f : NF} (t : TypeId) {a a' : Array Value} (h : PwR f a a') (o : Nat) : SS P base VR (part t a o) (part t a' o) f := by
  unfold part
  refine ss_calm (calm_isAgg t) fun b => ?_
  split
  · refine ss_calm (calm_sizeOf t) fun n => ?_
    exact ss_val (h.extract _ _).agg
  · cases hv : a[o]? with
    | none => exact ss_dead (dead_stuck _)
    | some v =>
      obtain ⟨v', h1, h2⟩ := h.get hv
      rw [h1]
      exact ss_val h2
theorem ss_asAgg {f : NF} {v v' : Value} (h : VR f v v') : SS P base PwR (asAgg v) (asAgg v') f := by
  cases h <;> first
    | exact ss_pure (fun _ _ _ _ hl h => h.mono hl) ⟨by assumption, by assumption⟩
    | exact ss_dead (fun H => rfl)
theorem ss_field {f : NF} (t : TypeId) {v v' : Value} (h : VR f v v') (i : Nat) : SS P base VR (Instr.field t v i) (Instr.field t v' i) f := by
  unfold Instr.field
  refine ss_calm (calm_underlying t) fun d => ?_
  split
  · split
    · refine ss_bind (ss_asAgg h) fun g hg a a' ha => ?_
      exact ss_part _ ha _
    · exact ss_dead (dead_stuck _)
  · exact ss_dead (dead_stuck _)
theorem ss_extract {f : NF} {v v' : Value} (h : VR f v v') (i : Nat) : SS P base VR (Instr.extract v i) (Instr.extract v' i) f := by
  cases h <;> first
    | exact ss_dead (fun H => rfl)
    | skip
  rename_i xs xs' h1 h3
  unfold Instr.extract
  dsimp only
  cases hv : xs[i]? with
  | none => exact ss_dead (fun H => rfl)
  | some u =>
    obtain ⟨u', e1, e2⟩ := PwR.get ⟨h1, h3⟩ hv
    rw [e1]
    exact ss_val e2
theorem ss_indexEnd {f : NF} (t elem : TypeId) (p : IntKind × Int) (len : Nat) {b b' : Option Addr} (h : AO f b b') (tiny : Bool) : SS P base VR
    (match b with
      | some a => if 0 ≤ p.2 ∧ p.2 < len then do pure (.pointer (some (a.add (p.2.toNat * (← sizeOf elem))))) else if tiny = true then unsupported (.noEntry "op/indexAddr.an index out of range at an array of length 0 or 1 (ledger 616)") else boundsPanic p.1 p.2 len .index
      | none => boundsPanic p.1 p.2 0 .index)
    (match b' with
      | some a => if 0 ≤ p.2 ∧ p.2 < len then do pure (.pointer (some (a.add (p.2.toNat * (← sizeOf elem))))) else if tiny = true then unsupported (.noEntry "op/indexAddr.an index out of range at an array of length 0 or 1 (ledger 616)") else boundsPanic p.1 p.2 len .index
      | none => boundsPanic p.1 p.2 0 .index) f := by
  cases b with
  | none => exact ss_dead (dead_boundsPanic _ _ _ _)
  | some a =>
    cases b' with
    | none => exact absurd h id
    | some a' =>
      dsimp only
      split
      · refine ss_calm (calm_sizeOf _) fun n => ?_
        exact ss_val (AR.add h _).ptr
      · split
        · exact ss_dead (dead_unsupported _)
        · exact ss_dead (dead_boundsPanic _ _ _ _)
theorem ss_indexAt {f : NF} (t : TypeId) {v v' x x' : Value} (h : VR f v v') (hx : VR f x x') : SS P base VR (Instr.indexAt t v x) (Instr.indexAt t v' x') f := by
  unfold Instr.indexAt
  refine ss_bind (ss_asIntOf hx) fun g hg p p' hp => ?_
  cases hp
  refine ss_calm (calm_underlying t) fun d => ?_
  have h' := h.mono hg
  cases d <;> dsimp only <;> first
    | exact ss_dead (dead_bind (dead_stuck _) _)
    | (refine ss_bind (ss_sureAddr h') fun g2 hg2 a a' ha => ?_
       refine ss_calm (calm_underlying t) fun d => ?_
       exact ss_indexEnd t _ p _ (b := some a) (b' := some a') ha _)
    | skip
  cases h' with
  | sl0 o o' hf =>
    refine ss_dead fun H => ?_
    show Sem.arun P ((underlying t).bind _) H = none
    rw [arun_bind]
    split
    · dsimp only
      split
      · rename_i hh
        exfalso
        omega
      · split
        · exact dead_unsupported _ _
        · exact dead_boundsPanic _ _ _ _ _
    · rfl
  | nilS => exact ss_calm (calm_underlying t) fun d => ss_dead (dead_boundsPanic _ _ _ _)
  | sl o n hf hn hc =>
    refine ss_calm (calm_underlying t) fun d => ?_
    exact ss_indexEnd t _ p _ (b := some _) (b' := some _) ⟨_, hf, rfl, rfl⟩ _
  | _ => exact ss_dead (dead_bind (dead_stuck _) _)
end
end Go.Proofs.YtmodghiokoiipaaGreat

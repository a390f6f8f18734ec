/-
  TopSettle: texts joined (by joint.py).
-/
import Derived.Test.YtmodghiokoiipaaGreatJc
import Derived.Scope
import Derived.LoopN

/-!
  The executor: the temporaries, in a tree.
-/
namespace Go.Proofs.YtmodghiokoiipaaGreat
open Go Go.RowKit
set_option linter.unusedVariables false
set_option linter.unusedSimpArgs false

inductive T (α : Type) where
  | nil
  | leaf (v : α)
  | node (l r : T α)
section
variable {α : Type}
def T.val (d : α) : T α → α
  | .leaf v => v
  | _ => d
def T.lf : T α → T α
  | .node l _ => l
  | _ => .nil
def T.rt : T α → T α
  | .node _ r => r
  | _ => .nil
def T.get (z : α) : Nat → T α → Nat → α
  | 0, t, _ => t.val z
  | k + 1, t, d => match d % 2 with
    | 0 => T.get z k t.lf (d / 2)
    | _ => T.get z k t.rt (d / 2)
def T.set : Nat → T α → Nat → α → T α
  | 0, _, _, v => .leaf v
  | k + 1, t, d, v => match d % 2 with
    | 0 => .node (T.set k t.lf (d / 2) v) t.rt
    | _ => .node t.lf (T.set k t.rt (d / 2) v)
theorem T.get_set (z : α) : ∀ (k : Nat) (t : T α) (d e : Nat) (v : α), d < 2 ^ k → e < 2 ^ k → T.get z k (T.set k t d v) e = if e = d then v else T.get z k t e
  | 0, t, d, e, v, hd, he => by
    obtain rfl : d = 0 := by simpa using hd
    obtain rfl : e = 0 := by simpa using he
    rfl
  | k + 1, t, d, e, v, hd, he => by
    have hd2 : d / 2 < 2 ^ k := by rw [Nat.pow_succ] at hd; omega
    have he2 : e / 2 < 2 ^ k := by rw [Nat.pow_succ] at he; omega
    unfold T.set
    split
    · rename_i h0
      unfold T.get
      split
      · rename_i h1
        simp only [T.lf]
        rw [T.get_set z k _ _ _ _ hd2 he2]
        by_cases h : e / 2 = d / 2
        · have : e = d := by omega
          rw [if_pos h, if_pos this]
        · have : ¬ e = d := fun x => h (by rw [x])
          rw [if_neg h, if_neg this]
      · rename_i h1
        have : ¬ e = d := fun x => by subst x; exact h1 h0
        rw [if_neg this]
        rfl
    · rename_i h0
      unfold T.get
      split
      · rename_i h1
        have : ¬ e = d := fun x => by subst x; exact h0 h1
        rw [if_neg this]
        rfl
      · rename_i h1
        simp only [T.rt]
        rw [T.get_set z k _ _ _ _ hd2 he2]
        by_cases h : e / 2 = d / 2
        · have e0 : d % 2 ≠ 0 := h0
          have e1 : e % 2 ≠ 0 := h1
          have : e = d := by omega
          rw [if_pos h, if_pos this]
        · have : ¬ e = d := fun x => h (by rw [x])
          rw [if_neg h, if_neg this]
end
structure Rg where
  n : Nat
  k : Nat
  t : T Value
def Rg.get (R : Rg) (d : Nat) : Value := match Nat.ble (d + 1) R.n with
  | true => T.get undef R.k R.t d
  | false => undef
def Rg.set (R : Rg) (d : Nat) (v : Value) : Rg := ⟨R.n, R.k, T.set R.k R.t d v⟩
def Rg.put (R : Rg) (dst : Option Tmp) (v : Value) : Rg := match dst with
  | some d => match Nat.ble (d + 1) R.n with
    | true => R.set d v
    | false => R
  | none => R
theorem Rg.put_get (R : Rg) (hk : R.n ≤ 2 ^ R.k) (dst : Option Tmp) (v : Value) (e : Nat) : (R.put dst v).get e = if dst = some e ∧ e < R.n then v else R.get e := by
  cases dst with
  | none => simp [Rg.put]
  | some d =>
    unfold Rg.put
    dsimp only
    split
    · rename_i h
      have h := Nat.le_of_ble_eq_true h
      unfold Rg.set Rg.get
      dsimp only
      split
      · rename_i he
        have he := Nat.le_of_ble_eq_true he
        rw [T.get_set _ _ _ _ _ _ (by omega) (by omega)]
        by_cases hed : e = d
        · subst hed
          rw [if_pos rfl, if_pos ⟨rfl, he⟩]
        · rw [if_neg hed, if_neg (fun x => hed (Option.some.inj x.1).symm)]
      · rename_i he
        rw [if_neg]
        rintro ⟨_, h2⟩
        rw [Nat.ble_eq_true_of_le h2] at he
        cases he
    · rename_i h
      rw [if_neg]
      rintro ⟨h1, h2⟩
      cases h1
      rw [Nat.ble_eq_true_of_le h2] at h
      cases h
theorem Rg.put_n (R : Rg) (dst : Option Tmp) (v : Value) : (R.put dst v).n = R.n := by
  unfold Rg.put
  split
  · split <;> rfl
  · rfl
theorem Rg.put_k (R : Rg) (dst : Option Tmp) (v : Value) : (R.put dst v).k = R.k := by
  unfold Rg.put
  split
  · split <;> rfl
  · rfl
/-- The temporaries over names, and the real ones. -/
structure RgR (f : NF) (R : Rg) (tmps : Array Value) : Prop where
  n : R.n = tmps.size
  k : R.n ≤ 2 ^ R.k
  get : ∀ d, VR f (R.get d) (tmps.getD d undef)
theorem RgR.mono {f g : NF} (hl : NF.le f g) {R : Rg} {t : Array Value} (h : RgR f R t) : RgR g R t := ⟨h.n, h.k, fun d => (h.get d).mono hl⟩
theorem getD_put (a : Act) (dst : Option Tmp) (v : Value) (e : Nat) : (a.put dst v).tmps.getD e undef = if dst = some e ∧ e < a.tmps.size then v else a.tmps.getD e undef := by
  cases dst with
  | none => simp [Act.put]
  | some d =>
    simp only [Act.put, Array.getD_eq_getD_getElem?, Array.getElem?_setIfInBounds, Option.some.injEq]
    by_cases h : d = e
    · subst h
      by_cases h2 : d < a.tmps.size
      · simp [h2]
      · simp [h2]
    · simp [h]
theorem put_size (a : Act) (dst : Option Tmp) (v : Value) : (a.put dst v).tmps.size = a.tmps.size := by cases dst <;> simp [Act.put]
theorem RgR.put {f : NF} {R : Rg} {a : Act} (h : RgR f R a.tmps) (dst : Option Tmp) {v v' : Value} (hv : VR f v v') : RgR f (R.put dst v) (a.put dst v').tmps := by
  refine ⟨by rw [Rg.put_n, put_size]; exact h.n, by rw [Rg.put_n, Rg.put_k]; exact h.k, fun e => ?_⟩
  rw [Rg.put_get R h.k, getD_put, h.n]
  split
  · exact hv
  · exact h.get e
def Rg.ofList : List Value → Nat → Rg → Rg
  | [], _, R => R
  | v :: l, i, R => Rg.ofList l (i + 1) (R.put (some i) v)
theorem Rg.ofList_get : ∀ (l : List Value) (i : Nat) (R : Rg), R.n ≤ 2 ^ R.k → (Rg.ofList l i R).n = R.n ∧ (Rg.ofList l i R).k = R.k ∧ ∀ e, (Rg.ofList l i R).get e = if i ≤ e ∧ e < i + l.length ∧ e < R.n then l.getD (e - i) undef else R.get e
  | [], i, R, hk => ⟨rfl, rfl, fun e => by
    rw [if_neg]
    · rfl
    · simp only [List.length_nil]
      omega⟩
  | v :: l, i, R, hk => by
    obtain ⟨h1, h2, h3⟩ := Rg.ofList_get l (i + 1) (R.put (some i) v) (by rw [Rg.put_n, Rg.put_k]; exact hk)
    unfold Rg.ofList
    refine ⟨by rw [h1, Rg.put_n], by rw [h2, Rg.put_k], fun e => ?_⟩
    rw [h3, Rg.put_n, Rg.put_get R hk]
    simp only [List.length_cons, Option.some.injEq]
    by_cases c1 : i = e
    · subst c1
      by_cases c2 : i < R.n
      · rw [if_neg (by omega), if_pos ⟨rfl, c2⟩, if_pos (by omega)]
        simp
      · have c3 : ¬ (i + 1 ≤ i ∧ i < i + 1 + l.length ∧ i < R.n) := by omega
        have c4 : ¬ (i ≤ i ∧ i < i + (l.length + 1) ∧ i < R.n) := by omega
        have c5 : ¬ (True ∧ i < R.n) := by omega
        simp only [c3, c4, c2, and_false, if_false]
    · by_cases c2 : i + 1 ≤ e ∧ e < i + 1 + l.length ∧ e < R.n
      · rw [if_pos c2, if_pos (by omega)]
        obtain ⟨j, rfl⟩ : ∃ j, e = i + 1 + j := ⟨e - (i + 1), by omega⟩
        have e1 : i + 1 + j - (i + 1) = j := by omega
        have e2 : i + 1 + j - i = j + 1 := by omega
        rw [e1, e2]
        rfl
      · have c3 : ¬ (i ≤ e ∧ e < i + (l.length + 1) ∧ e < R.n) := by omega
        have c4 : ¬ (i = e ∧ e < R.n) := fun x => c1 x.1
        rw [if_neg c2, if_neg c3, if_neg c4]
theorem Rg.nil_get (n k e : Nat) : (Rg.mk n k .nil).get e = undef := by
  unfold Rg.get
  dsimp only
  have : ∀ k e, T.get undef k (.nil : T Value) e = undef := by
    intro k
    induction k with
    | zero => intro e; rfl
    | succ k ih =>
      intro e
      unfold T.get
      split <;> exact ih _
  split
  · exact this k e
  · rfl
/-- The temporaries as a call begins. -/
def Rg.new (n : Nat) (args : Array Value) : Rg := Rg.ofList args.toList 0 ⟨n, Nat.log2 n + 1, .nil⟩
theorem Rg.new_rel {f : NF} {n : Nat} {args args' : Array Value} (hn : args.size ≤ n) (h : PwR f args args') : RgR f (Rg.new n args) (args' ++ Array.replicate (n - args'.size) undef) := by
  have hk : (Rg.mk n (Nat.log2 n + 1) .nil).n ≤ 2 ^ (Rg.mk n (Nat.log2 n + 1) .nil).k := Nat.le_of_lt Nat.lt_log2_self
  obtain ⟨h1, h2, h3⟩ := Rg.ofList_get args.toList 0 ⟨n, Nat.log2 n + 1, .nil⟩ hk
  refine ⟨?_, ?_, fun d => ?_⟩
  · unfold Rg.new
    rw [h1]
    have := h.1
    simp
    omega
  · unfold Rg.new
    rw [h1, h2]
    exact hk
  · unfold Rg.new
    rw [h3, Rg.nil_get, Array.getD_eq_getD_getElem?, Array.getElem?_append]
    have hs := h.1
    simp only [Nat.zero_le, true_and, Nat.zero_add, Array.length_toList, Nat.sub_zero]
    by_cases c : d < args.size
    · rw [if_pos ⟨c, by omega⟩, if_pos (by omega)]
      rw [show args.toList.getD d undef = args.getD d undef from by rw [List.getD_eq_getElem?_getD, Array.getElem?_toList, Array.getD_eq_getD_getElem?]]
      rw [← Array.getD_eq_getD_getElem?]
      exact h.getD d
    · rw [if_neg (by omega), if_neg (by omega), Array.getElem?_replicate]
      split <;> exact vr_undef
end Go.Proofs.YtmodghiokoiipaaGreat

/-!
  The executor: regions in the order of the text; equality of values and of memories; how memory turns.
-/
namespace Go.Proofs.YtmodghiokoiipaaGreat
open Go Go.RowKit
set_option linter.unusedVariables false
set_option linter.unusedSimpArgs false

structure FS where
  r : Rg
  m : AH
section
variable {P : Program} {base : PS}
structure RS (f : NF) (base : PS) (S : FS) (a : Act) (w : World) : Prop where
  regs : RgR f S.r a.tmps
  mem : HR f base S.m.h w
  dn : a.defers = []
  hb : Old base w
def runL (P : Program) (cf : FuncId → Array Value → AH → Option (Value × AH)) (ap : AP) (ops : Array Oper) : List Oper → FS → Option FS
  | [], S => some S
  | o :: l, S => match svW P cf ap ops S.r.get S.m o with
    | some (v, m) => runL P cf ap ops l ⟨S.r.put o.dst v, m⟩
    | none => none
theorem runL_sound (hz : PZ P) {cf : FuncId → Array Value → AH → Option (Value × AH)} (hcf : CF P cf) {ap : AP} (hap : APS P ap) (ops : Array Oper) : ∀ (l : List Oper) (i : Nat) (S S' : FS) (f : NF) (a : Act) (w : World), ops.toList.drop i = l → RS f base S a w → runL P cf ap ops l S = some S' →
    ∀ (Q : Exit → Act → World → Prop), (∀ g a' w', NF.le f g → RS g base S' a' w' → Kept base w w' → Q .normal a' w') → wpOps P ops Q (List.range' i l.length) a w
  | [], i, S, S', f, a, w, hd, hs, hr, Q, hk => by
    cases hr
    exact hk f a w (NF.le_refl f) hs (Kept.refl _ _)
  | o :: l, i, S, S', f, a, w, hd, hs, hr, Q, hk => by
    have ho : ops[i]? = some o := by
      have := congrArg (fun x => x[0]?) hd
      simpa using this
    have hd2 : ops.toList.drop (i + 1) = l := by
      have := congrArg (List.drop 1) hd
      rw [List.drop_drop] at this
      simpa using this
    unfold runL at hr
    split at hr
    · rename_i v m hv
      rw [List.length_cons, List.range'_succ, wpOps_cons]
      refine svW_sound hz hcf hap ho hs.mem hs.hb (fun t _ => hs.regs.get t) hv fun g v' w' h1 h2 h3 h4 => ?_
      refine runL_sound hz hcf hap ops l (i + 1) _ S' g _ w' hd2 ⟨(hs.regs.mono h1).put o.dst h2, h3, by rw [put_defers]; exact hs.dn, hs.hb.mono h4⟩ hr Q fun g2 a2 w2 k1 k2 k3 => hk g2 a2 w2 (NF.le_trans h1 k1) k2 (h4.trans k3)
    · cases hr
theorem region_sound (hz : PZ P) {cf : FuncId → Array Value → AH → Option (Value × AH)} (hcf : CF P cf) {ap : AP} (hap : APS P ap) {id : Nat} {ops : Array Oper} {S S' : FS} {f : NF} {a : Act} {w : World} (hs : RS f base S a w) (hr : runL P cf ap ops ops.toList S = some S')
    {Q : Exit → Act → World → Prop} (hk : ∀ g a' w', NF.le f g → RS g base S' a' w' → Kept base w w' → Q .normal a' w') : (Code.region id ops false).wp P Q a w := by
  have := runL_sound (base := base) hz hcf hap ops ops.toList 0 S S' f a w (by simp) hs hr Q hk
  rw [Array.length_toList, ← List.range_eq_range'] at this
  exact wp_region this
end

/-! How memory turns. -/
def Turns (m m' : AH) : Prop := m.st ≤ m'.st ∧ (m'.st = m.st → m'.h = m.h)
theorem Turns.refl (m : AH) : Turns m m := ⟨Nat.le_refl _, fun _ => rfl⟩
theorem Turns.trans {a b c : AH} (h : Turns a b) (k : Turns b c) : Turns a c := ⟨Nat.le_trans h.1 k.1, fun e => by
  have h1 := h.1
  have h2 := k.1
  rw [k.2 (by omega), h.2 (by omega)]⟩
theorem Turns.up {m m' : AH} (h : m'.st = m.st + 1) : Turns m m' := ⟨by omega, fun e => by omega⟩
theorem arun_turns {α : Type} (P : Program) : ∀ (s : Go.Sem α) (m m' : AH) (a : α), Sem.arun P s m = some (a, m') → Turns m m' := by
  intro s
  induction s with
  | pure a => intro m m' b h; cases h; exact Turns.refl _
  | load md a c ih =>
    intro m m' b h
    simp only [Sem.arun] at h
    split at h
    · split at h
      · exact ih _ _ _ _ h
      · cases h
    · cases h
  | store md a v c ih =>
    intro m m' b h
    cases v <;> simp only [Sem.arun] at h <;> first
      | (cases h; done)
      | (split at h
         · split at h
           · exact (Turns.up rfl).trans (ih _ _ _ h)
           · cases h
         · cases h)
  | new o c ih =>
    intro m m' b h
    cases o <;> simp only [Sem.arun] at h <;> first
      | (cases h; done)
      | (split at h
         · exact (Turns.up rfl).trans (ih _ _ _ _ h)
         · cases h)
  | getObj r c ih =>
    intro m m' b h
    simp only [Sem.arun] at h
    split at h
    · exact ih _ _ _ _ h
    · cases h
  | setObj r o c ih =>
    intro m m' b h
    simp only [Sem.arun] at h
    split at h
    · exact (Turns.up rfl).trans (ih _ _ _ h)
    · cases h
  | program c ih => intro m m' b h; exact ih P _ _ _ h
  | mark mm c ih => intro m m' b h; exact ih _ _ _ h
  | _ => intro m m' b h; cases h
def CT (cf : FuncId → Array Value → AH → Option (Value × AH)) : Prop := ∀ f args m v m', cf f args m = some (v, m') → Turns m m'
theorem next_turns {cf : FuncId → Array Value → AH → Option (Value × AH)} (hc : CT cf) {P : Program} {s : Go.Sem Next} {m m' : AH} {v : Value} (h : nextOf cf (Sem.arun P s m) = some (v, m')) : Turns m m' := by
  cases hx : Sem.arun P s m with
  | none => rw [hx] at h; cases h
  | some p =>
    obtain ⟨n, m2⟩ := p
    rw [hx] at h
    have h1 := arun_turns P s m m2 n hx
    cases n <;> simp only [nextOf, Option.some.injEq, Prod.mk.injEq, reduceCtorEq] at h
    case value u => obtain ⟨rfl, rfl⟩ := h; exact h1
    case skip => obtain ⟨rfl, rfl⟩ := h; exact h1
    case enter fn args => exact h1.trans (hc _ _ _ _ _ h)
theorem closed_turns {P : Program} {ρ : Operand → Value} {m m' : AH} {o : Oper} {v : Value} (h : closedStep P ρ m o = some (v, m')) : Turns m m' := by
  unfold closedStep at h
  split at h
  · split at h
    · split at h
      · cases h; exact Turns.refl _
      · cases h
    · cases h
  · cases h
def AT (ap : AP) : Prop := ∀ ρ m o v m', ap ρ m o = some (v, m') → Turns m m'
theorem apStep_turns (P : Program) : AT (apStep P) := by
  intro ρ m o v m' h
  unfold apStep at h
  split at h <;> try (cases h; done)
  split at h <;> try (cases h; done)
  split at h <;> try (cases h; done)
  split at h <;> try (cases h; done)
  split at h <;> try (cases h; done)
  split at h <;> try (cases h; done)
  split at h <;> try (cases h; done)
  split at h
  · cases h; exact Turns.refl _
  · split at h <;> try (cases h; done)
    split at h <;> try (cases h; done)
    unfold appNew at h
    split at h <;> try (cases h; done)
    split at h <;> try (cases h; done)
    cases h
    exact Turns.up rfl
theorem sv_turns {P : Program} {cf : FuncId → Array Value → AH → Option (Value × AH)} (hc : CT cf) {ap : AP} (ha : AT ap) {ρ : Operand → Value} {m m' : AH} {o : Oper} {v : Value} (h : sv P cf ap ρ m o = some (v, m')) : Turns m m' := by
  unfold sv at h
  split at h <;> try (cases h; done)
  split at h
  · exact next_turns hc h
  · split at h
    · split at h
      · split at h
        · exact next_turns hc h
        · cases h
      · split at h
        · exact next_turns hc h
        · cases h
      · exact ha _ _ _ _ _ h
      · exact closed_turns h
    · split at h
      · exact next_turns hc h
      · exact closed_turns h
    · split at h
      · exact next_turns hc h
      · exact closed_turns h
    · split at h
      · exact next_turns hc h
      · exact closed_turns h
    · exact closed_turns h
theorem svW_turns {P : Program} {cf : FuncId → Array Value → AH → Option (Value × AH)} (hc : CT cf) {ap : AP} (ha : AT ap) {ops : Array Oper} {look : Nat → Value} {m m' : AH} {o : Oper} {v : Value} (h : svW P cf ap ops look m o = some (v, m')) : Turns m m' := by
  unfold svW at h
  split at h
  · exact sv_turns hc ha h
  · cases h; exact Turns.refl _

/-! Equality. -/
def eqLs (g : Value → Value → Bool) : List Value → List Value → Bool
  | [], [] => true
  | x :: xs, y :: ys => g x y && eqLs g xs ys
  | _, _ => false
theorem eqLs_sound {g : Value → Value → Bool} (hg : ∀ x y, g x y = true → x = y) : ∀ (l k : List Value), eqLs g l k = true → l = k
  | [], [], _ => rfl
  | x :: xs, y :: ys, h => by
    simp only [eqLs, Bool.and_eq_true] at h
    rw [hg x y h.1, eqLs_sound hg xs ys h.2]
  | [], _ :: _, h => by cases h
  | _ :: _, [], h => by cases h
def eqV : Nat → Value → Value → Bool
  | _, .bool a, .bool b => a == b
  | _, .int k n, .int k' n' => decide (k = k') && decide (n = n')
  | _, .string a, .string b => decide (a.data.toList = b.data.toList)
  | _, .pointer a, .pointer b => decide (a = b)
  | _, .slice a n c, .slice a' n' c' => decide (a = a') && (Nat.beq n n' && Nat.beq c c')
  | _, .map a, .map b => decide (a = b)
  | _, .nilFunc, .nilFunc => true
  | _, .nilIface, .nilIface => true
  | n + 1, .func f xs ys, .func f' xs' ys' => decide (f = f') && (eqLs (eqV n) xs.toList xs'.toList && eqLs (eqV n) ys.toList ys'.toList)
  | n + 1, .agg xs, .agg ys => eqLs (eqV n) xs.toList ys.toList
  | n + 1, .tuple xs, .tuple ys => eqLs (eqV n) xs.toList ys.toList
  | _, _, _ => false
theorem eqV_sound : ∀ (n : Nat) (a b : Value), eqV n a b = true → a = b := by
  intro n
  induction n with
  | zero =>
    intro a b h
    cases a <;> cases b <;> simp [eqV] at h <;> simp_all
    rename_i x y
    obtain ⟨⟨x⟩⟩ := x
    obtain ⟨⟨y⟩⟩ := y
    simp_all
  | succ n ih =>
    intro a b h
    cases a <;> cases b <;> simp only [eqV, Bool.and_eq_true, decide_eq_true_eq, Bool.false_eq_true, beq_iff_eq, Nat.beq_eq_true_eq] at h
    all_goals first
      | (cases h; done)
      | skip
    all_goals first
      | rfl
      | (subst h; rfl)
      | (obtain ⟨rfl, rfl⟩ := h; rfl)
      | (obtain ⟨rfl, rfl, rfl⟩ := h; rfl)
      | (rename_i x y
         obtain ⟨⟨x⟩⟩ := x
         obtain ⟨⟨y⟩⟩ := y
         simp_all; done)
      | (rename_i x y
         rw [Array.ext' (eqLs_sound ih _ _ h)]; done)
      | (obtain ⟨rfl, h1, h2⟩ := h
         rw [Array.ext' (eqLs_sound ih _ _ h1), Array.ext' (eqLs_sound ih _ _ h2)]; done)
      | (obtain ⟨rfl, h1, h2⟩ := h
         rw [Nat.eq_of_beq_eq_true h1, Nat.eq_of_beq_eq_true h2])
def eqEs : List MapEntry → List MapEntry → Bool
  | [], [] => true
  | ⟨k, v, b⟩ :: xs, ⟨k', v', b'⟩ :: ys => eqV 8 k k' && (eqV 8 v v' && (decide (b = b') && eqEs xs ys))
  | _, _ => false
theorem eqEs_sound : ∀ (l k : List MapEntry), eqEs l k = true → l = k
  | [], [], _ => rfl
  | ⟨k, v, b⟩ :: xs, ⟨k', v', b'⟩ :: ys, h => by
    simp only [eqEs, Bool.and_eq_true, decide_eq_true_eq] at h
    rw [eqV_sound _ _ _ h.1, eqV_sound _ _ _ h.2.1, h.2.2.1, eqEs_sound xs ys h.2.2.2]
  | [], _ :: _, h => by cases h
  | _ :: _, [], h => by cases h
def eqO : Obj → Obj → Bool
  | .cells a e f, .cells b e' f' => eqLs (eqV 8) a.toList b.toList && (decide (e = e') && decide (f = f'))
  | .map a c, .map b c' => eqEs a.toList b.toList && decide (c = c')
  | _, _ => false
theorem eqO_sound (a b : Obj) (h : eqO a b = true) : a = b := by
  cases a <;> cases b <;> simp only [eqO, Bool.and_eq_true, decide_eq_true_eq] at h
  all_goals first
    | (cases h; done)
    | skip
  · obtain ⟨h1, rfl, rfl⟩ := h
    rw [Array.ext' (eqLs_sound (eqV_sound 8) _ _ h1)]
  · obtain ⟨h1, rfl⟩ := h
    rw [Array.ext' (eqEs_sound _ _ h1)]
def eqH : List (Nat × Obj) → List (Nat × Obj) → Bool
  | [], [] => true
  | (k, o) :: xs, (k', o') :: ys => Nat.beq k k' && (eqO o o' && eqH xs ys)
  | _, _ => false
theorem eqH_sound : ∀ (l k : List (Nat × Obj)), eqH l k = true → l = k
  | [], [], _ => rfl
  | (k, o) :: xs, (k', o') :: ys, h => by
    simp only [eqH, Bool.and_eq_true, Nat.beq_eq_true_eq] at h
    rw [Nat.eq_of_beq_eq_true h.1, eqO_sound _ _ h.2.1, eqH_sound xs ys h.2.2]
  | [], _ :: _, h => by cases h
  | _ :: _, [], h => by cases h
end Go.Proofs.YtmodghiokoiipaaGreat

/-!
  The executor: code.
-/
namespace Go.Proofs.YtmodghiokoiipaaGreat
open Go Go.RowKit
set_option linter.unusedVariables false
set_option linter.unusedSimpArgs false

inductive Out where
  | norm
  | exit (id : Nat)
  | ret
def Out.ex : Out → Exit
  | .norm => .normal
  | .exit i => .exit i
  | .ret => .ret
section
variable {P : Program} {base : PS}
def loopN (body : FS → Option (Out × FS)) : Nat → FS → Option (Out × FS)
  | 0, _ => none
  | n + 1, S => match body S with
    | some (.norm, S1) => loopN body n S1
    | r => r
def exec (sr dr : Array Oper → FS → Option FS) (N : Nat) : Code → FS → Option (Out × FS)
  | .skip, S => some (.norm, S)
  | .label _, S => some (.norm, S)
  | .seq a b, S => match exec sr dr N a S with
    | some (.norm, S1) => exec sr dr N b S1
    | r => r
  | .cond c a b, S => match operandOk c with
    | true => match rhoOf S.r.get c with
      | .bool true => exec sr dr N a S
      | .bool false => exec sr dr N b S
      | _ => none
    | false => none
  | .block id c, S => match exec sr dr N c S with
    | some (.exit i, S1) => match Nat.beq i id with
      | true => some (.norm, S1)
      | false => some (.exit i, S1)
    | r => r
  | .loop c, S => loopN (fun S => exec sr dr N c S) N S
  | .scope c, S => exec sr dr N c S
  | .exit i, S => some (.exit i, S)
  | .ret, S => some (.ret, S)
  | .region _ ops true, S => match dr ops S with
    | some S1 => some (.norm, S1)
    | none => none
  | .region _ ops false, S => match sr ops S with
    | some S1 => some (.norm, S1)
    | none => none
  | _, _ => none
/-- What is asked of a region's run. -/
def RGS (P : Program) (d : Bool) (dr : Array Oper → FS → Option FS) : Prop := ∀ (base : PS) (ops : Array Oper) (id : Nat) (S S' : FS) (f : NF) (a : Act) (w : World), RS f base S a w → dr ops S = some S' →
  ∀ (Q : Exit → Act → World → Prop), (∀ g a' w', NF.le f g → RS g base S' a' w' → Kept base w w' → Q .normal a' w') → (Code.region id ops d).wp P Q a w
/-- What a run of code says. -/
def XS (P : Program) (base : PS) (c : Code) (x : FS → Option (Out × FS)) : Prop := ∀ (S S' : FS) (o : Out) (f : NF) (a : Act) (w : World), RS f base S a w → x S = some (o, S') →
  ∀ (Q : Exit → Act → World → Prop), (∀ g a' w', NF.le f g → RS g base S' a' w' → Kept base w w' → Q o.ex a' w') → c.wp P Q a w
theorem loopN_sound {c : Code} {x : FS → Option (Out × FS)} (h : XS P base c x) : ∀ (n : Nat) (S S' : FS) (o : Out) (f : NF) (a : Act) (w : World), RS f base S a w → loopN x n S = some (o, S') →
    ∀ (Q : Exit → Act → World → Prop), (∀ g a' w', NF.le f g → RS g base S' a' w' → Kept base w w' → Q o.ex a' w') → Code.rounds P c Q n a w
  | 0, S, S', o, f, a, w, hs, hr, Q, hk => by cases hr
  | n + 1, S, S', o, f, a, w, hs, hr, Q, hk => by
    unfold loopN at hr
    rw [rounds_succ]
    split at hr
    · rename_i S1 h1
      exact h S S1 .norm f a w hs h1 _ fun g a' w' h2 h3 h4 => loopN_sound h n S1 S' o g a' w' h3 hr Q fun g2 a2 w2 k1 k2 k3 => hk g2 a2 w2 (NF.le_trans h2 k1) k2 (h4.trans k3)
    · rename_i hn
      refine h S S' o f a w hs hr _ fun g a' w' h2 h3 h4 => ?_
      have := hk g a' w' h2 h3 h4
      cases o with
      | norm => exact (hn _ hr).elim
      | exit i => exact this
      | ret => exact this
theorem exec_sound {sr dr : Array Oper → FS → Option FS} (hsr : RGS P false sr) (hdr : RGS P true dr) (N : Nat) : ∀ (c : Code), XS P base c (exec sr dr N c) := by
  intro c
  induction c with
  | skip => intro S S' o f a w hs hr Q hk; cases hr; exact wp_skip (hk f a w (NF.le_refl f) hs (Kept.refl _ _))
  | label l => intro S S' o f a w hs hr Q hk; cases hr; exact wp_label (hk f a w (NF.le_refl f) hs (Kept.refl _ _))
  | seq x y ihx ihy =>
    intro S S' o f a w hs hr Q hk
    unfold exec at hr
    refine wp_seq ?_
    split at hr
    · rename_i S1 h1
      exact ihx S S1 .norm f a w hs h1 _ fun g a' w' h2 h3 h4 => ihy S1 S' o g a' w' h3 hr Q fun g2 a2 w2 k1 k2 k3 => hk g2 a2 w2 (NF.le_trans h2 k1) k2 (h4.trans k3)
    · rename_i hn
      refine ihx S S' o f a w hs hr _ fun g a' w' h2 h3 h4 => ?_
      have := hk g a' w' h2 h3 h4
      cases o with
      | norm => exact (hn _ hr).elim
      | exit i => exact this
      | ret => exact this
  | cond c x y ihx ihy =>
    intro S S' o f a w hs hr Q hk
    unfold exec at hr
    split at hr
    · rename_i ho
      have hv := rho_eval (f := f) (look := S.r.get) (a := a) ho fun t _ => hs.regs.get t
      split at hr
      · rename_i hc
        rw [hc] at hv
        generalize hx : a.eval c = u at hv
        cases hv
        exact wp_cond_true hx (ihx S S' o f a w hs hr Q hk)
      · rename_i hc
        rw [hc] at hv
        generalize hx : a.eval c = u at hv
        cases hv
        exact wp_cond_false hx (ihy S S' o f a w hs hr Q hk)
      · cases hr
    · cases hr
  | block id x ih =>
    intro S S' o f a w hs hr Q hk
    unfold exec at hr
    refine wp_block ?_
    split at hr
    · rename_i i S1 h1
      refine ih S S1 (.exit i) f a w hs h1 _ fun g a' w' h2 h3 h4 => ?_
      split at hr
      · rename_i hi
        cases hr
        have hi := Nat.eq_of_beq_eq_true hi
        show Exit.inBlock id Q (.exit i) a' w'
        unfold Exit.inBlock
        dsimp only
        rw [if_pos hi]
        exact hk g a' w' h2 h3 h4
      · rename_i hi
        cases hr
        have hi := Nat.ne_of_beq_eq_false hi
        show Exit.inBlock id Q (.exit i) a' w'
        unfold Exit.inBlock
        dsimp only
        rw [if_neg hi]
        exact hk g a' w' h2 h3 h4
    · rename_i hn
      refine ih S S' o f a w hs hr _ fun g a' w' h2 h3 h4 => ?_
      have := hk g a' w' h2 h3 h4
      cases o with
      | norm => exact this
      | exit i => exact (hn _ _ hr).elim
      | ret => exact this
  | loop x ih =>
    intro S S' o f a w hs hr Q hk
    unfold exec at hr
    exact wp_loop_rounds N (loopN_sound ih N S S' o f a w hs hr Q hk)
  | scope x ih =>
    intro S S' o f a w hs hr Q hk
    unfold exec at hr
    refine wp_scope_straight (ih S S' o f a w hs hr _ fun g a' w' h2 h3 h4 => ?_)
    have := hk g a' w' h2 h3 h4
    cases o <;> exact this
  | exit i => intro S S' o f a w hs hr Q hk; cases hr; exact wp_exit (hk f a w (NF.le_refl f) hs (Kept.refl _ _))
  | ret => intro S S' o f a w hs hr Q hk; cases hr; exact wp_ret (hk f a w (NF.le_refl f) hs (Kept.refl _ _))
  | region id ops d =>
    intro S S' o f a w hs hr Q hk
    cases d <;> unfold exec at hr
    · split at hr
      · rename_i S1 h1
        cases hr
        exact hsr base ops id S S' f a w hs h1 Q hk
      · cases hr
    · split at hr
      · rename_i S1 h1
        cases hr
        exact hdr base ops id S S' f a w hs h1 Q hk
      · cases hr
  | _ => intro S S' o f a w hs hr Q hk; cases hr
theorem runL_rgs (hz : PZ P) {cf : FuncId → Array Value → AH → Option (Value × AH)} (hcf : CF P cf) {ap : AP} (hap : APS P ap) : RGS P false (fun ops S => runL P cf ap ops ops.toList S) := by
  intro base ops id S S' f a w hs hr Q hk
  exact region_sound hz hcf hap hs hr hk
end
end Go.Proofs.YtmodghiokoiipaaGreat

/-!
  The executor: what stays behind a call.
-/
namespace Go.Proofs.YtmodghiokoiipaaGreat
open Go Go.RowKit
set_option linter.unusedVariables false
set_option linter.unusedSimpArgs false

def orL (g : Value → Nat) : List Value → Nat
  | [] => 0
  | x :: l => g x ||| orL g l
/-- The names in a value, as the digits of a number; a value that is too deep has the name 0. -/
def namesV : Nat → Value → Nat
  | _, .pointer (some a) => 2 ^ a.block
  | _, .slice (some a) _ _ => 2 ^ a.block
  | _, .map (some a) => 2 ^ a
  | n + 1, .func _ xs ys => orL (namesV n) xs.toList ||| orL (namesV n) ys.toList
  | n + 1, .agg xs => orL (namesV n) xs.toList
  | n + 1, .tuple xs => orL (namesV n) xs.toList
  | 0, .func .. => 1
  | 0, .agg _ => 1
  | 0, .tuple _ => 1
  | _, _ => 0
def orE : List MapEntry → Nat
  | [] => 0
  | x :: l => namesV 8 x.val ||| orE l
def namesO : Obj → Nat
  | .cells cs _ _ => orL (namesV 8) cs.toList
  | .map es _ => orE es.toList
  | _ => 1
def Sub (a K : Nat) : Prop := ∀ j, a.testBit j = true → K.testBit j = true
def subB (a K : Nat) : Bool := Nat.beq (a ||| K) K
theorem subB_sub {a K : Nat} (h : subB a K = true) : Sub a K := fun j hj => by
  have := Nat.eq_of_beq_eq_true h
  rw [← this, Nat.testBit_or, hj]
  rfl
theorem Sub.orL {g : Value → Nat} {K : Nat} : ∀ {l : List Value}, Sub (orL g l) K → ∀ x ∈ l, Sub (g x) K
  | y :: l, h, x, hx => by
    rcases List.mem_cons.1 hx with rfl | hx
    · exact fun j hj => h j (by unfold Proofs.YtmodghiokoiipaaGreat.orL; rw [Nat.testBit_or, hj]; rfl)
    · exact Sub.orL (l := l) (fun j hj => h j (by unfold Proofs.YtmodghiokoiipaaGreat.orL; rw [Nat.testBit_or, hj, Bool.or_true])) x hx
theorem Sub.orE {K : Nat} : ∀ {l : List MapEntry}, Sub (orE l) K → ∀ x ∈ l, Sub (namesV 8 x.val) K
  | y :: l, h, x, hx => by
    rcases List.mem_cons.1 hx with rfl | hx
    · exact fun j hj => h j (by unfold Proofs.YtmodghiokoiipaaGreat.orE; rw [Nat.testBit_or, hj]; rfl)
    · exact Sub.orE (l := l) (fun j hj => h j (by unfold Proofs.YtmodghiokoiipaaGreat.orE; rw [Nat.testBit_or, hj, Bool.or_true])) x hx
theorem Sub.or {a b K : Nat} (h : Sub (a ||| b) K) : Sub a K ∧ Sub b K :=
  ⟨fun j hj => h j (by rw [Nat.testBit_or, hj]; rfl), fun j hj => h j (by rw [Nat.testBit_or, hj, Bool.or_true])⟩
def NF.only (f : NF) (K : Nat) : NF := fun a => if K.testBit a then f a else none
theorem NF.only_some {f : NF} {K a b : Nat} (h : NF.only f K a = some b) : K.testBit a = true ∧ f a = some b := by
  unfold NF.only at h
  split at h
  · exact ⟨by assumption, h⟩
  · cases h
theorem NF.only_mk {f : NF} {K a b : Nat} (hk : K.testBit a = true) (h : f a = some b) : NF.only f K a = some b := by
  unfold NF.only
  rw [if_pos hk]
  exact h
theorem sub_pow {a K : Nat} (h : Sub (2 ^ a) K) : K.testBit a = true := h a Nat.testBit_two_pow_self
theorem sub_one {K : Nat} (h : Sub 1 K) : K.testBit 0 = true := h 0 rfl
theorem VR.only {K : Nat} (h0 : K.testBit 0 = false) : ∀ (n : Nat) {f : NF} {v v' : Value}, VR f v v' → Sub (namesV n v) K → VR (NF.only f K) v v' := by
  have no : ∀ {p : Prop}, Sub 1 K → p := fun h => by
    have := sub_one h
    rw [h0] at this
    cases this
  intro n
  induction n with
  | zero =>
    intro f v v' h hs
    cases h with
    | bool b => exact .bool b
    | int k n => exact .int k n
    | float k b => exact .float k b
    | string s => exact .string s
    | nilP => exact .nilP
    | ptr o h => exact .ptr o (NF.only_mk (sub_pow hs) h)
    | nilS => exact .nilS
    | sl o n h hn hc => exact .sl o n (NF.only_mk (sub_pow hs) h) hn hc
    | sl0 o o' h => exact .sl0 o o' (NF.only_mk (sub_pow hs) h)
    | nilM => exact .nilM
    | mp h => exact .mp (NF.only_mk (sub_pow hs) h)
    | nilF => exact .nilF
    | nilI => exact .nilI
    | fn h1 h2 h3 h4 => exact no hs
    | agg h1 h3 => exact no hs
    | tup h1 h3 => exact no hs
  | succ n ih =>
    intro f v v' h hs
    cases h with
    | bool b => exact .bool b
    | int k n => exact .int k n
    | float k b => exact .float k b
    | string s => exact .string s
    | nilP => exact .nilP
    | ptr o h => exact .ptr o (NF.only_mk (sub_pow hs) h)
    | nilS => exact .nilS
    | sl o n h hn hc => exact .sl o n (NF.only_mk (sub_pow hs) h) hn hc
    | sl0 o o' h => exact .sl0 o o' (NF.only_mk (sub_pow hs) h)
    | nilM => exact .nilM
    | mp h => exact .mp (NF.only_mk (sub_pow hs) h)
    | nilF => exact .nilF
    | nilI => exact .nilI
    | fn h1 h2 h3 h4 =>
      obtain ⟨s1, s2⟩ := Sub.or hs
      exact .fn h1 h2 (fun i u u' hu hu' => ih (h3 i u u' hu hu') (Sub.orL s1 u (Array.mem_toList_iff.2 (Array.mem_of_getElem? hu)))) (fun i u u' hu hu' => ih (h4 i u u' hu hu') (Sub.orL s2 u (Array.mem_toList_iff.2 (Array.mem_of_getElem? hu))))
    | agg h1 h3 => exact .agg h1 (fun i u u' hu hu' => ih (h3 i u u' hu hu') (Sub.orL hs u (Array.mem_toList_iff.2 (Array.mem_of_getElem? hu))))
    | tup h1 h3 => exact .tup h1 (fun i u u' hu hu' => ih (h3 i u u' hu hu') (Sub.orL hs u (Array.mem_toList_iff.2 (Array.mem_of_getElem? hu))))
theorem OH.only {K : Nat} (h0 : K.testBit 0 = false) {f : NF} {o : Obj} {x : Option Obj} (h : OH f o x) (hs : Sub (namesO o) K) : OH (NF.only f K) o x := by
  cases o <;> simp only [OH] at h ⊢
  · obtain ⟨cs', h1, h2, h3⟩ := h
    refine ⟨cs', h1, h2, fun i v hv => ?_⟩
    obtain ⟨v', k1, k2⟩ := h3 i v hv
    exact ⟨v', k1, k2.only h0 8 (Sub.orL hs v (Array.mem_toList_iff.2 (Array.mem_of_getElem? hv)))⟩
  · obtain ⟨es', h1, h2, h3⟩ := h
    refine ⟨es', h1, h2, fun i e e' he he' => ?_⟩
    obtain ⟨k1, k2, k3⟩ := h3 i e e' he he'
    exact ⟨k1, k2.only h0 8 (Sub.orE hs e (Array.mem_toList_iff.2 (Array.mem_of_getElem? he))), k3⟩
def keep (K : Nat) : List (Nat × Obj) → List (Nat × Obj)
  | [] => []
  | (k, o) :: l => match K.testBit k with
    | true => (k, o) :: keep K l
    | false => keep K l
theorem alook_keep (K : Nat) (a : Nat) : ∀ (l : List (Nat × Obj)), alook (keep K l) a = if K.testBit a then alook l a else none
  | [] => by simp [keep, alook]
  | (k, o) :: l => by
    unfold keep
    split
    · rename_i hk
      unfold alook
      rw [alook_keep K a l]
      by_cases h : k = a
      · subst h
        simp [hk]
      · simp [h]
    · rename_i hk
      rw [alook_keep K a l]
      by_cases h : k = a
      · subst h
        simp [hk]
      · simp [alook, h]
def insideH (K : Nat) : List (Nat × Obj) → Bool
  | [] => true
  | (_, o) :: l => subB (namesO o) K && insideH K l
theorem insideH_look {K : Nat} : ∀ {l : List (Nat × Obj)} {a : Nat} {o : Obj}, insideH K l = true → alook l a = some o → Sub (namesO o) K
  | (k, x) :: l, a, o, h, hl => by
    simp only [insideH, Bool.and_eq_true] at h
    unfold alook at hl
    split at hl
    · cases hl
      exact subB_sub h.1
    · exact insideH_look h.2 hl
theorem HR.only {K : Nat} (h0 : K.testBit 0 = false) {f : NF} {base : PS} {H : List (Nat × Obj)} {w : World} (h : HR f base H w) (hi : insideH K (keep K H) = true) : HR (NF.only f K) base (keep K H) w := by
  refine ⟨fun a b o ha hl => ?_, fun a b ha => ?_, fun a a' b ha ha' => h.inj a a' b (NF.only_some ha).2 (NF.only_some ha').2⟩
  · obtain ⟨k1, k2⟩ := NF.only_some ha
    have hs := insideH_look hi hl
    rw [alook_keep, if_pos k1] at hl
    exact (h.get a b o k2 hl).only h0 hs
  · obtain ⟨k1, k2⟩ := NF.only_some ha
    obtain ⟨d1, d2⟩ := h.dom a b k2
    rw [alook_keep, if_pos k1]
    exact ⟨d1, d2⟩
def keysM : List (Nat × Obj) → Nat
  | [] => 0
  | (k, _) :: l => 2 ^ k ||| keysM l
theorem keysM_look : ∀ {l : List (Nat × Obj)} {a : Nat}, (alook l a).isSome = true → (keysM l).testBit a = true
  | (k, o) :: l, a, h => by
    unfold alook at h
    unfold keysM
    rw [Nat.testBit_or]
    split at h
    · rename_i hk
      subst hk
      rw [Nat.testBit_two_pow_self]
      rfl
    · rw [keysM_look h, Bool.or_true]
def reachStep : List (Nat × Obj) → Nat → Nat
  | [], K => K
  | (k, o) :: l, K => match K.testBit k with
    | true => reachStep l (K ||| namesO o)
    | false => reachStep l K
def reachN (h : List (Nat × Obj)) : Nat → Nat → Nat
  | 0, K => K
  | n + 1, K => match reachStep h K with
    | K2 => match Nat.beq K2 K with
      | true => K
      | false => reachN h n K2
/-- What is left of memory behind a call: the blocks that were there, and those that the result reaches. -/
def gcWith (m0 : AH) (v : Value) (m : AH) (K : Nat) : Option (Value × AH) :=
  match (!K.testBit 0) && (subB (namesV 8 v) K && (subB (keysM m0.h) K && insideH K (keep K m.h))) with
  | true => match eqH (keep K m.h) m0.h with
    | true => some (v, ⟨m0.h, m.c, m0.st⟩)
    | false => some (v, ⟨keep K m.h, m.c, m0.st + 1⟩)
  | false => none
def gc (m0 : AH) (v : Value) (m : AH) : Option (Value × AH) := gcWith m0 v m (reachN m.h 40 (keysM m0.h ||| namesV 8 v))
theorem gc_turns {m0 m m' : AH} {v v' : Value} (h : gc m0 v m = some (v', m')) : Turns m0 m' := by
  unfold gc gcWith at h
  split at h
  · split at h
    · cases h; exact ⟨Nat.le_refl _, fun _ => rfl⟩
    · cases h; exact Turns.up rfl
  · cases h
theorem gc_sound {f g : NF} {base : PS} {m0 m m' : AH} {v v1 v' : Value} {w w0 : World} (h0 : HR f base m0.h w0) (hl : NF.le f g) (hv : VR g v v') (hm : HR g base m.h w) (h : gc m0 v m = some (v1, m')) :
    ∃ g', NF.le f g' ∧ VR g' v1 v' ∧ HR g' base m'.h w := by
  unfold gc at h
  generalize reachN m.h 40 (keysM m0.h ||| namesV 8 v) = K at h
  unfold gcWith at h
  split at h
  · rename_i hb
    simp only [Bool.and_eq_true, Bool.not_eq_true'] at hb
    obtain ⟨k0, k1, k2, k3⟩ := hb
    have hh := hm.only k0 k3
    have hv2 := hv.only k0 8 (subB_sub k1)
    have hle : NF.le f (NF.only g K) := fun a b ha => NF.only_mk (subB_sub k2 a (keysM_look (h0.dom a b ha).1)) (hl a b ha)
    split at h
    · rename_i he
      cases h
      have he := eqH_sound _ _ he
      rw [he] at hh
      exact ⟨_, hle, hv2, hh⟩
    · cases h
      exact ⟨_, hle, hv2, hh⟩
  · cases h
end Go.Proofs.YtmodghiokoiipaaGreat

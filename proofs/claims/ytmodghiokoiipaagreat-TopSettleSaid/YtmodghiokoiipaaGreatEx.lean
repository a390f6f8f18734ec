/-
  The executor: a drawn region: its table made, and its run.
-/
import Derived.Test.YtmodghiokoiipaaGreatEw
namespace Go.Proofs.YtmodghiokoiipaaGreat
open Go Go.RowKit
set_option linter.unusedVariables false
set_option linter.unusedSimpArgs false

/-- What an operation gave. -/
structure Fact where
  look : Nat → Value
  v : Value
  m : AH
structure Ent where
  K : Nat
  h : List (Nat × Obj)
  row : T (Option Fact)
/-- What is known as the table is made: the slots, the memory's counter, the operations that change memory, the others that have run. -/
structure XSt where
  F : Rg
  c : Nat
  M : Nat
  N : Nat
  ct : T Nat
structure RCx where
  k : Nat
  R : Rg
  an : T Nat
  wr : T Nat
def RCx.dd (X : RCx) (F : Rg) (M : Nat) (tab : TB) : DD := ⟨X.R, F, T.get 0 X.k X.an, T.get 0 X.R.k X.wr, M, tab⟩
def wrPut (k : Nat) (t : T Nat) (dst : Option Tmp) (i : Nat) : T Nat := match dst with
  | some d => T.set k t d (i + 1)
  | none => t
def prep (R : Rg) (k : Nat) : List Oper → Nat → RCx → RCx
  | [], _, X => X
  | o :: l, i, X => prep R k l (i + 1) ⟨k, R, T.set k X.an i (ancOf (T.get 0 k X.an) o.after.toList), wrPut R.k X.wr o.dst i⟩
def hasK : TB → Nat → Bool
  | [], _ => false
  | (J, _) :: l, K => Nat.beq J K || hasK l K
def todoPut (todo : TB) (K : Nat) (h : List (Nat × Obj)) (same : Bool) : TB := match same with
  | true => todo
  | false => match hasK todo K with
    | true => todo
    | false => todo ++ [(K, h)]
/-- The state behind a run of an operation. -/
def XSt.next (st : XSt) (k i : Nat) (dst : Option Tmp) (v : Value) (c0 : Nat) (m : AH) : XSt := match Nat.beq (T.get 0 k st.ct i) 0 with
  | false => st
  | true => match Nat.beq m.st 0 with
    | true => ⟨st.F.put dst v, m.c, st.M, st.N ||| 2 ^ i, T.set k st.ct i (c0 + 1)⟩
    | false => ⟨st.F.put dst v, m.c, st.M ||| 2 ^ i, st.N, T.set k st.ct i (c0 + 1)⟩
def XSt.cOf (st : XSt) (k i : Nat) : Nat := match T.get 0 k st.ct i with
  | 0 => st.c
  | c + 1 => c
section
variable (P : Program) (cf : CFn) (ap : AP) (ops : Array Oper) (X : RCx)
def passRow (K W : Nat) (h : List (Nat × Obj)) : List Oper → Nat → XSt → T (Option Fact) → TB → Option (T (Option Fact) × TB × XSt)
  | [], _, st, row, todo => some (row, todo, st)
  | o :: l, i, st, row, todo => match (!K.testBit i) && (subB (T.get 0 X.k X.an i) (st.N ||| K) && !W.testBit i) with
    | false => passRow K W h l (i + 1) st row todo
    | true => match svW P cf ap ops ((X.dd st.F 0 []).look i) ⟨h, st.cOf X.k i, 0⟩ o with
      | some (v, m) => passRow K W h l (i + 1) (st.next X.k i o.dst v (st.cOf X.k i) m) (T.set X.k row i (some ⟨(X.dd st.F 0 []).look i, v, m⟩)) (todoPut todo (K ||| 2 ^ i) m.h (Nat.beq m.st 0))
      | none => none
def passAll : Nat → TB → XSt → Option (List Ent × XSt)
  | _, [], st => some ([], st)
  | 0, _ :: _, _ => none
  | n + 1, (K, h) :: todo, st => match passRow P cf ap ops X K (orA (T.get 0 X.k X.an) K ops.size) h ops.toList 0 st .nil todo with
    | some (row, todo, st) => match passAll n todo st with
      | some (es, st) => some (⟨K, h, row⟩ :: es, st)
      | none => none
    | none => none
end
def tbOf : List Ent → TB
  | [] => []
  | e :: l => (e.K, e.h) :: tbOf l
def ckSee (D : DD) (i : Nat) (look : Nat → Value) : Operand → Bool
  | .tmp t => eqV 8 (look t) (D.look i t)
  | _ => true
def ckGd (D : DD) (ops : Array Oper) (i : Nat) (look : Nat → Value) (o : Oper) : Bool := match o.guard with
  | some (g, _) => match (ops[g]?).bind (·.dst) with
    | some d => eqV 8 (look d) (D.look i d)
    | none => true
  | none => true
def ckFact (D : DD) (ops : Array Oper) (K i : Nat) (o : Oper) (x : Fact) : Bool :=
  o.op.operands.all (ckSee D i x.look) && (ckGd D ops i x.look o && (D.ckV o.dst x.v && D.ckM K i x.m))
def ckEnt (D : DD) (ops : Array Oper) (k : Nat) (e : Ent) (W i : Nat) (o : Oper) : Bool := match D.fits e.K W i with
  | false => true
  | true => match T.get none k e.row i with
    | some x => ckFact D ops e.K i o x
    | none => false
def ckAll (D : DD) (ops : Array Oper) (k : Nat) : List Ent → Bool
  | [] => true
  | e :: l => allI (ckEnt D ops k e (orA D.an e.K ops.size)) ops.toList 0 && ckAll D ops k l
def upSt (st M : Nat) : Nat := match M with
  | 0 => st
  | _ => st + 1
def drEnd (D : DD) (ops : Array Oper) (k : Nat) (es : List Ent) (c st : Nat) : Option FS := match allI (D.row ops) ops.toList 0 && (ckAll D ops k es && Nat.ble (D.M + 1) (2 ^ ops.size)) with
  | true => match findT D.tab D.M with
    | some h => some ⟨D.F, ⟨h, c, upSt st D.M⟩⟩
    | none => none
  | false => none
def drMake (P : Program) (cf : CFn) (ap : AP) (ops : Array Oper) (S : FS) (X : RCx) : Option FS :=
  match passAll P cf ap ops X 200 [(0, S.m.h)] ⟨S.r, S.m.c, 0, 0, .nil⟩ with
  | some (es, st) => drEnd (X.dd st.F st.M (tbOf es)) ops X.k es st.c S.m.st
  | none => none
def drRun (P : Program) (cf : CFn) (ap : AP) (ops : Array Oper) (S : FS) : Option FS :=
  drMake P cf ap ops S (prep S.r (Nat.log2 ops.size + 1) ops.toList 0 ⟨Nat.log2 ops.size + 1, S.r, .nil, .nil⟩)

theorem prep_is {R : Rg} {k : Nat} : ∀ {l : List Oper} {i : Nat} {X : RCx}, X.k = k → X.R = R → (prep R k l i X).k = k ∧ (prep R k l i X).R = R
  | [], i, X, h1, h2 => ⟨h1, h2⟩
  | o :: l, i, X, h1, h2 => prep_is (l := l) rfl rfl
section
variable {P : Program} {cf : CFn} {ap : AP} {ops : Array Oper} {X : RCx}
def RowOk (P : Program) (cf : CFn) (ap : AP) (ops : Array Oper) (k : Nat) (h : List (Nat × Obj)) (row : T (Option Fact)) : Prop :=
  ∀ i o x, ops[i]? = some o → T.get none k row i = some x → ∃ c, svW P cf ap ops x.look ⟨h, c, 0⟩ o = some (x.v, x.m)
def FOk (R : Rg) (ops : Array Oper) (F : Rg) : Prop := F.n = R.n ∧ F.k = R.k ∧ ∀ d, (¬ ∃ o ∈ ops.toList, o.dst = some d) → F.get d = R.get d
theorem FOk.put {R F : Rg} (hR : R.n ≤ 2 ^ R.k) (h : FOk R ops F) {o : Oper} (ho : o ∈ ops.toList) (v : Value) : FOk R ops (F.put o.dst v) := by
  refine ⟨by rw [Rg.put_n]; exact h.1, by rw [Rg.put_k]; exact h.2.1, fun d hd => ?_⟩
  rw [Rg.put_get F (by rw [h.1, h.2.1]; exact hR), if_neg, h.2.2 d hd]
  rintro ⟨x, _⟩
  exact hd ⟨o, ho, x⟩
theorem FOk.next {R : Rg} {st : XSt} (hR : R.n ≤ 2 ^ R.k) (h : FOk R ops st.F) {o : Oper} (ho : o ∈ ops.toList) (k i : Nat) (v : Value) (c : Nat) (m : AH) : FOk R ops (st.next k i o.dst v c m).F := by
  unfold XSt.next
  split
  · exact h
  · split <;> exact h.put hR ho v
theorem tget_nil {α : Type} (z : α) : ∀ (k d : Nat), T.get z k .nil d = z
  | 0, d => rfl
  | k + 1, d => by
    unfold T.get
    split <;> exact tget_nil z k _
theorem passRow_ok {R : Rg} (hR : R.n ≤ 2 ^ R.k) (hk : ops.size ≤ 2 ^ X.k) {K W : Nat} {h : List (Nat × Obj)} : ∀ {l : List Oper} {i : Nat} {st st' : XSt} {row row' : T (Option Fact)} {todo todo' : TB},
    ops.toList.drop i = l → passRow P cf ap ops X K W h l i st row todo = some (row', todo', st') → RowOk P cf ap ops X.k h row → FOk R ops st.F → RowOk P cf ap ops X.k h row' ∧ FOk R ops st'.F
  | [], i, st, st', row, row', todo, todo', hd, hp, hr, hf => by
    cases hp
    exact ⟨hr, hf⟩
  | o :: l, i, st, st', row, row', todo, todo', hd, hp, hr, hf => by
    have ho : ops[i]? = some o := by
      have := congrArg (fun x => x[0]?) hd
      simpa using this
    have hlt : i < ops.size := (Array.getElem?_eq_some_iff.1 ho).1
    have hd2 : ops.toList.drop (i + 1) = l := by
      have := congrArg (List.drop 1) hd
      rw [List.drop_drop] at this
      simpa using this
    unfold passRow at hp
    split at hp
    · exact passRow_ok hR hk hd2 hp hr hf
    · split at hp
      · rename_i v m hv
        refine passRow_ok hR hk hd2 hp ?_ (hf.next hR (Array.mem_toList_iff.2 (Array.mem_of_getElem? ho)) _ _ _ _ _)
        intro j oj x hj hx
        have hjl : j < ops.size := (Array.getElem?_eq_some_iff.1 hj).1
        rw [T.get_set none X.k row i j _ (by omega) (by omega)] at hx
        by_cases hij : j = i
        · subst hij
          rw [if_pos rfl] at hx
          cases hx
          rw [ho] at hj
          cases hj
          exact ⟨_, hv⟩
        · rw [if_neg hij] at hx
          exact hr j oj x hj hx
      · cases hp
theorem passAll_ok {R : Rg} (hR : R.n ≤ 2 ^ R.k) (hk : ops.size ≤ 2 ^ X.k) : ∀ {n : Nat} {todo : TB} {st st' : XSt} {es : List Ent},
    passAll P cf ap ops X n todo st = some (es, st') → FOk R ops st.F → (∀ e ∈ es, RowOk P cf ap ops X.k e.h e.row) ∧ FOk R ops st'.F ∧ ∀ K h t, todo = (K, h) :: t → findT (tbOf es) K = some h
  | _, [], st, st', es, hp, hf => by
    have e : es = [] ∧ st' = st := by
      unfold passAll at hp
      cases hp
      exact ⟨rfl, rfl⟩
    obtain ⟨rfl, rfl⟩ := e
    exact ⟨(fun e he => by cases he), hf, fun K h t e => by cases e⟩
  | 0, _ :: _, st, st', es, hp, hf => by cases hp
  | n + 1, (K, h) :: todo, st, st', es, hp, hf => by
    unfold passAll at hp
    split at hp <;> try (cases hp; done)
    rename_i row todo2 st2 h1
    split at hp <;> try (cases hp; done)
    rename_i es2 st3 h2
    cases hp
    obtain ⟨a1, a2⟩ := passRow_ok hR hk (List.drop_zero) h1 (fun i o x _ hx => by rw [tget_nil] at hx; cases hx) hf
    obtain ⟨b1, b2, _⟩ := passAll_ok hR hk h2 a2
    refine ⟨fun e he => ?_, b2, fun K2 h2 t e => ?_⟩
    · rcases List.mem_cons.1 he with rfl | he
      · exact a1
      · exact b1 e he
    · cases e
      show findT ((K, h) :: tbOf es2) K = some h
      unfold findT
      have hself : ∀ n : Nat, Nat.beq n n = true := fun n => by
        induction n with
        | zero => rfl
        | succ n ih => exact ih
      rw [hself]
theorem tbOf_find {K : Nat} {h : List (Nat × Obj)} : ∀ {es : List Ent}, findT (tbOf es) K = some h → ∃ e ∈ es, e.K = K ∧ e.h = h
  | e :: es, hf => by
    unfold tbOf findT at hf
    split at hf
    · rename_i hk
      cases hf
      exact ⟨e, List.mem_cons_self, Nat.eq_of_beq_eq_true hk, rfl⟩
    · obtain ⟨x, h1, h2⟩ := tbOf_find hf
      exact ⟨x, List.mem_cons_of_mem _ h1, h2⟩
  | [], hf => by cases hf
theorem ckAll_mem {D : DD} {k : Nat} : ∀ {es : List Ent}, ckAll D ops k es = true → ∀ e ∈ es, allI (ckEnt D ops k e (orA D.an e.K ops.size)) ops.toList 0 = true
  | x :: es, h, e, he => by
    unfold ckAll at h
    rw [Bool.and_eq_true] at h
    rcases List.mem_cons.1 he with rfl | he
    · exact h.1
    · exact ckAll_mem h.2 e he
theorem drRun_rgs (hm : P.follows .mixedOrders = true) (hz : PZ P) (hcf : CF P cf) (hct : CT cf) (hap : APS P ap) (hat : AT ap) : RGS P true (drRun P cf ap) := by
  intro base ops id S S' f a w hs hr Q hk
  unfold drRun at hr
  obtain ⟨x1, x2⟩ := prep_is (R := S.r) (k := Nat.log2 ops.size + 1) (l := ops.toList) (i := 0) (X := ⟨Nat.log2 ops.size + 1, S.r, .nil, .nil⟩) rfl rfl
  generalize prep S.r (Nat.log2 ops.size + 1) ops.toList 0 ⟨Nat.log2 ops.size + 1, S.r, .nil, .nil⟩ = X at hr x1 x2
  have hsz : ops.size ≤ 2 ^ X.k := by rw [x1]; exact Nat.le_of_lt Nat.lt_log2_self
  unfold drMake at hr
  split at hr <;> try (cases hr; done)
  rename_i es st hp
  obtain ⟨a1, a2, a3⟩ := passAll_ok hs.regs.k hsz hp ⟨rfl, rfl, fun _ _ => rfl⟩
  generalize hD : X.dd st.F st.M (tbOf es) = D at hr
  unfold drEnd at hr
  split at hr <;> try (cases hr; done)
  rename_i hb
  simp only [Bool.and_eq_true] at hb
  split at hr <;> try (cases hr; done)
  rename_i h hf
  cases hr
  have d1 : D.R = S.r := by rw [← hD]; exact x2
  have d2 : D.F = st.F := by rw [← hD]; rfl
  have d3 : D.tab = tbOf es := by rw [← hD]; rfl
  refine DD.region hm hz hcf hct hap hat ⟨hb.1, fun K h2 hf2 i o ho hfit => ?_, by rw [d3]; exact a3 0 S.m.h [] rfl, by rw [d1, d2]; exact a2.2.2, by rw [d2, a2.1, a2.2.1]; exact hs.regs.k, by rw [d1, d2]; exact a2.1⟩ d1 (Nat.le_of_ble_eq_true hb.2.2) hf hs hk
  rw [d3] at hf2
  obtain ⟨e, e1, rfl, rfl⟩ := tbOf_find hf2
  have hck := allI_at (ckAll_mem hb.2.1 e e1) (j := i) (o := o) (by rw [Array.getElem?_toList]; exact ho)
  rw [Nat.zero_add] at hck
  unfold ckEnt at hck
  rw [hfit] at hck
  dsimp only at hck
  split at hck <;> try (cases hck; done)
  rename_i x hx
  obtain ⟨c, hc⟩ := a1 e e1 i o x ho hx
  unfold ckFact at hck
  simp only [Bool.and_eq_true] at hck
  refine ⟨x.look, c, x.v, x.m, hc, fun t ht => ?_, hck.2.2.1, hck.2.2.2⟩
  rcases ht with ht | ⟨g, b, hg, hd⟩
  · exact eqV_sound _ _ _ (Array.all_eq_true_iff_forall_mem.1 hck.1 _ ht)
  · have := hck.2.1
    unfold ckGd at this
    rw [hg] at this
    dsimp only at this
    rw [hd] at this
    exact eqV_sound _ _ _ this
end
end Go.Proofs.YtmodghiokoiipaaGreat

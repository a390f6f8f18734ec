/-
  The executor: calls.
-/
import Derived.Test.YtmodghiokoiipaaGreatJd
namespace Go.Proofs.YtmodghiokoiipaaGreat
open Go Go.RowKit
set_option linter.unusedVariables false
set_option linter.unusedSimpArgs false

abbrev CFn := FuncId → Array Value → AH → Option (Value × AH)
/-! Runs that only look. -/
inductive Look {α : Type} : Go.Sem α → Prop
  | pure (a : α) : Look (.pure a)
  | load {m a k} (h : ∀ v, Look (k v)) : Look (.load m a k)
  | program {k} (h : ∀ P, Look (k P)) : Look (.program k)
  | mark {m k} (h : Look k) : Look (.mark m k)
  | halt (h) : Look (.halt h)
theorem Look.bind {α β : Type} {s : Go.Sem α} {k : α → Go.Sem β} (h : Look s) (hk : ∀ a, Look (k a)) : Look (s.bind k) := by
  induction h with
  | pure a => exact hk a
  | load _ ih => exact .load ih
  | program _ ih => exact .program ih
  | mark _ ih => exact .mark ih
  | halt h => exact .halt h
theorem Look.bind' {α β : Type} {s : Go.Sem α} {k : α → Go.Sem β} (h : Look s) (hk : ∀ a, Look (k a)) : Look (s >>= k) := h.bind hk
theorem Look.same {α : Type} {P : Program} {s : Go.Sem α} (h : Look s) : ∀ {w w' : World} {a : α}, s.run P w = .ok a w' → w' = w := by
  induction h with
  | pure a => intro w w' b e; simp only [Go.Sem.run, Result.ok.injEq] at e; exact e.2.symm
  | load _ ih =>
    intro w w' b e
    simp only [Go.Sem.run] at e
    split at e
    · exact ih _ e
    · split at e
      · exact ih _ e
      · cases e
  | program _ ih => intro w w' b e; exact ih P e
  | mark _ ih => intro w w' b e; exact ih e
  | halt h => intro w w' b e; simp [Go.Sem.run] at e
theorem Look.asame {α : Type} {P : Program} {s : Go.Sem α} (h : Look s) : ∀ {w w' : AH} {a : α}, Sem.arun P s w = some (a, w') → w' = w := by
  induction h with
  | pure a => intro w w' b e; cases e; rfl
  | load _ ih =>
    intro w w' b e
    simp only [Sem.arun] at e
    split at e
    · split at e
      · exact ih _ e
      · cases e
    · cases e
  | program _ ih => intro w w' b e; exact ih P e
  | mark _ ih => intro w w' b e; exact ih e
  | halt h => intro w w' b e; cases e
theorem look_typeInfo (t : TypeId) : Look (typeInfo t) := .program fun p => by
  show Look (match p.info? t with | some i => pure i | none => stuck "no such type")
  split
  · exact .pure _
  · exact .halt _
theorem look_underlying (t : TypeId) : Look (underlying t) := .program fun p => by
  show Look (match p.underlying t with | some i => pure i | none => stuck "no such type")
  split
  · exact .pure _
  · exact .halt _
theorem look_isAgg (t : TypeId) : Look (isAgg t) := (look_underlying t).bind' fun d => by split <;> exact .pure _
theorem look_cells : ∀ (n : Nat) (a : Addr) (i : Nat) (acc : Array Value), Look (loadCellsFrom a i n acc)
  | 0, a, i, acc => .pure _
  | n + 1, a, i, acc => Look.bind' (.load fun v => .pure v) fun v => look_cells n a (i + 1) _
theorem look_loadVar (t : TypeId) (a : Addr) : Look (loadVar t a) := by
  unfold loadVar
  refine (look_isAgg t).bind' fun b => ?_
  split
  · exact ((look_typeInfo t).bind' fun _ => .pure _).bind' fun n => (look_cells n _ _ _).bind' fun _ => .pure _
  · exact .load fun v => .pure v
def resOf (look : Nat → Value) : ResultVar → Go.Sem Value
  | .tmp t => pure (look t)
  | .cell a t => do loadVar t (← asAddr (look a))
def resL (look : Nat → Value) : List ResultVar → Go.Sem (List Value)
  | [] => pure []
  | r :: l => do
    let v ← resOf look r
    let vs ← resL look l
    pure (v :: vs)
def resT : List Value → Value
  | [v] => v
  | vs => .tuple vs.toArray
def resV (P : Program) (l : List ResultVar) (look : Nat → Value) (m : AH) : Option Value := match Sem.arun P (resL look l) m with
  | some (vs, _) => some (resT vs)
  | none => none
theorem look_asAddr (v : Value) : Look (asAddr v) := by
  unfold asAddr
  split
  · exact .pure _
  · exact .program fun p => .halt _
  · exact .halt _
theorem look_resOf (look : Nat → Value) (r : ResultVar) : Look (resOf look r) := by
  cases r with
  | tmp t => exact .pure _
  | cell a t => exact (look_asAddr _).bind' fun a => look_loadVar t a
theorem look_resL (look : Nat → Value) : ∀ l, Look (resL look l)
  | [] => .pure _
  | r :: l => (look_resOf look r).bind' fun v => (look_resL look l).bind' fun vs => .pure _
theorem resL_mapM (look : Nat → Value) : ∀ l : List ResultVar, l.mapM (m := Go.Sem) (resOf look) = resL look l
  | [] => rfl
  | r :: l => by rw [List.mapM_cons, resL_mapM look l, resL]
theorem results_eq (fn : Func) (tmps : Array Value) : results fn tmps = (do
    let vs ← resL (fun t => tmps.getD t undef) fn.results.toList
    pure (resT vs)) := by
  rw [← resL_mapM]
  show (do
    let vs ← fn.results.mapM (m := Go.Sem) (resOf fun t => tmps.getD t undef)
    pure (if h : vs.size = 1 then vs[0] else Value.tuple vs)) = _
  rw [Array.mapM_eq_mapM_toList]
  simp only [map_eq_pure_bind, bind_assoc, pure_bind]
  congr 1
  funext vs
  congr 1
  rcases vs with _ | ⟨a, _ | ⟨b, l⟩⟩
  · rfl
  · rfl
  · simp [resT]
/-- Lists of values. -/
inductive LV (f : NF) : List Value → List Value → Prop
  | nil : LV f [] []
  | cons {v v' l l'} (h : VR f v v') (k : LV f l l') : LV f (v :: l) (v' :: l')
theorem LV.mono {f g : NF} (hl : NF.le f g) {l l' : List Value} (h : LV f l l') : LV g l l' := by
  induction h with
  | nil => exact .nil
  | cons h _ ih => exact .cons (h.mono hl) ih
theorem LV.same {f : NF} {l l' : List Value} (h : LV f l l') : l.length = l'.length ∧ ∀ (i : Nat) (v v' : Value), l[i]? = some v → l'[i]? = some v' → VR f v v' := by
  induction h with
  | nil => exact ⟨rfl, fun i v v' h => by simp at h⟩
  | cons h k ih =>
    refine ⟨by simp [ih.1], fun i v v' hv hv' => ?_⟩
    cases i with
    | zero =>
      simp only [List.getElem?_cons_zero, Option.some.injEq] at hv hv'
      subst hv; subst hv'; exact h
    | succ i =>
      rw [List.getElem?_cons_succ] at hv hv'
      exact ih.2 i v v' hv hv'
theorem LV.resT {f : NF} {l l' : List Value} (h : LV f l l') : VR f (resT l) (resT l') := by
  have tu : ∀ {l l' : List Value}, LV f l l' → VR f (.tuple l.toArray) (.tuple l'.toArray) := fun h => by
    obtain ⟨h1, h2⟩ := h.same
    exact .tup (by simpa using h1) fun i v v' hv hv' => h2 i v v' (by simpa using hv) (by simpa using hv')
  rcases h with _ | ⟨h, _ | ⟨h2, k⟩⟩
  · exact tu .nil
  · exact h
  · exact tu (.cons h (.cons h2 k))
section
variable {P : Program} {base : PS}
theorem ss_asAddr {f : NF} {v v' : Value} (h : VR f v v') : SS P base AR (asAddr v) (asAddr v') f := by
  cases h with
  | ptr o h => exact ss_pure (RR := AR) (fun _ _ _ _ hl h => AR.mono hl h) ⟨_, h, rfl, rfl⟩
  | _ => exact ss_dead fun H => rfl
theorem ss_resOf {f : NF} {look look' : Nat → Value} (h : ∀ d, VR f (look d) (look' d)) (r : ResultVar) : SS P base VR (resOf look r) (resOf look' r) f := by
  cases r with
  | tmp t => exact ss_val (h t)
  | cell a t => exact ss_bind (ss_asAddr (h a)) fun g hg a a' ha => ss_of_sim fun k hk => sim_loadVar t (ha.mono hk)
theorem ss_resL {look look' : Nat → Value} : ∀ (l : List ResultVar) {f : NF}, (∀ d, VR f (look d) (look' d)) → SS P base LV (resL look l) (resL look' l) f
  | [], f, h => ss_pure (RR := LV) (fun _ _ _ _ hl h => LV.mono hl h) .nil
  | r :: l, f, h => ss_bind (ss_resOf h r) fun g hg v v' hv => ss_bind (ss_resL l fun d => (h d).mono hg) fun k hk vs vs' hvs => ss_pure (RR := LV) (fun _ _ _ _ hl h => LV.mono hl h) (.cons (hv.mono hk) hvs)
theorem resV_sound {f : NF} {fn : Func} {look : Nat → Value} {tmps : Array Value} {m : AH} {v : Value} (hr : resV P fn.results.toList look m = some v) (hl : ∀ d, VR f (look d) (tmps.getD d undef)) {w : World} (hm : HR f base m.h w) (hb : Old base w) :
    ∃ v' g, NF.le f g ∧ (results fn tmps).run P w = .ok v' w ∧ VR g v v' ∧ HR g base m.h w := by
  unfold resV at hr
  split at hr <;> try (cases hr; done)
  rename_i vs m1 hrun
  cases hr
  obtain ⟨g, vs', w', r1, r2, r3, r4, r5⟩ := ss_resL (P := P) (base := base) (look' := fun t => tmps.getD t undef) fn.results.toList hl f (NF.le_refl f) m w vs m1 hm hb hrun
  have := (look_resL _ _).same r1
  subst this
  rw [(look_resL _ _).asame hrun] at r4
  refine ⟨resT vs', g, r2, ?_, r3.resT, r4⟩
  rw [results_eq, Sem.run_bind, r1]
  rfl
end
/-! A call sees of memory only what its arguments reach. -/
def dropK (K : Nat) : List (Nat × Obj) → List (Nat × Obj)
  | [] => []
  | (k, o) :: l => match K.testBit k with
    | true => dropK K l
    | false => (k, o) :: dropK K l
theorem alook_drop (K : Nat) (a : Nat) : ∀ (l : List (Nat × Obj)), alook (dropK K l) a = if K.testBit a then none else alook l a
  | [] => by simp [dropK, alook]
  | (k, o) :: l => by
    unfold dropK
    split
    · rename_i hk
      rw [alook_drop K a l]
      by_cases h : k = a
      · subst h
        simp [hk]
      · simp [alook, h]
    · rename_i hk
      unfold alook
      rw [alook_drop K a l]
      by_cases h : k = a
      · subst h
        simp [hk]
      · simp [h]
def mergeH : Nat → List (Nat × Obj) → List (Nat × Obj) → List (Nat × Obj)
  | _, [], b => b
  | _, a, [] => a
  | 0, a, b => a ++ b
  | n + 1, (k, o) :: a, (j, x) :: b => match Nat.ble (j + 1) k with
    | true => (k, o) :: mergeH n a ((j, x) :: b)
    | false => (j, x) :: mergeH n ((k, o) :: a) b
theorem alook_append (a b : List (Nat × Obj)) (x : Nat) : alook (a ++ b) x = match alook a x with | some o => some o | none => alook b x := by
  induction a with
  | nil => rfl
  | cons y a ih =>
    obtain ⟨k, o⟩ := y
    by_cases h : k = x
    · subst h
      simp [alook]
    · simp only [List.cons_append, alook, if_neg h]
      exact ih
theorem alook_merge (x : Nat) : ∀ (n : Nat) (a b : List (Nat × Obj)), (alook a x = none ∨ alook b x = none) → alook (mergeH n a b) x = match alook a x with | some o => some o | none => alook b x
  | _, [], b, _ => by unfold mergeH; rfl
  | n, (k, o) :: a, [], _ => by
    unfold mergeH
    cases alook ((k, o) :: a) x <;> rfl
  | 0, (k, o) :: a, (j, y) :: b, _ => by
    unfold mergeH
    exact alook_append _ _ _
  | n + 1, (k, o) :: a, (j, y) :: b, h => by
    unfold mergeH
    split
    · by_cases hk : k = x
      · simp only [alook, if_pos hk]
      · have h2 : alook a x = none ∨ alook ((j, y) :: b) x = none := by
          simp only [alook, if_neg hk] at h
          exact h
        have := alook_merge x n a ((j, y) :: b) h2
        simp only [alook, if_neg hk] at this ⊢
        exact this
    · by_cases hj : j = x
      · have h3 : alook ((k, o) :: a) x = none := by
          rcases h with h | h
          · exact h
          · simp only [alook, if_pos hj] at h
            cases h
        rw [h3]
        simp only [alook, if_pos hj]
      · have h2 : alook ((k, o) :: a) x = none ∨ alook b x = none := by
          rcases h with h | h
          · exact .inl h
          · simp only [alook, if_neg hj] at h
            exact .inr h
        have := alook_merge x n ((k, o) :: a) b h2
        have e : alook ((j, y) :: mergeH n ((k, o) :: a) b) x = alook (mergeH n ((k, o) :: a) b) x := by simp only [alook, if_neg hj]
        have e2 : alook ((j, y) :: b) x = alook b x := by simp only [alook, if_neg hj]
        rw [e, e2, this]
def backTo (K : Nat) (m : AH) : Option (Value × AH) → Option (Value × AH)
  | some (v, m1) => match Nat.beq m1.st 0 with
    | true => some (v, ⟨m.h, m1.c, m.st⟩)
    | false => match dropK K m.h with
      | d => match Nat.beq (keysM m1.h &&& keysM d) 0 with
        | true => some (v, ⟨mergeH 200 m1.h d, m1.c, m.st + 1⟩)
        | false => none
  | none => none
def callK (cf : CFn) (f : FuncId) (args : Array Value) (m : AH) (K : Nat) : Option (Value × AH) :=
  match keep K m.h with
  | h => match (!K.testBit 0) && (subB (orL (namesV 8) args.toList) K && insideH K h) with
    | true => backTo K m (cf f args ⟨h, m.c, 0⟩)
    | false => none
def callF (cf : CFn) : CFn := fun f args m => callK cf f args m (reachN m.h 40 (orL (namesV 8) args.toList))
theorem callF_turns (cf : CFn) : CT (callF cf) := by
  intro f args m v m' h
  unfold callF callK at h
  dsimp only at h
  split at h <;> try (cases h; done)
  unfold backTo at h
  split at h <;> try (cases h; done)
  split at h
  · cases h; exact ⟨Nat.le_refl _, fun _ => rfl⟩
  · dsimp only at h
    split at h <;> try (cases h; done)
    cases h
    exact Turns.up rfl
theorem pw_only {K : Nat} (h0 : K.testBit 0 = false) {f : NF} {a a' : Array Value} (h : PwR f a a') (hs : Sub (orL (namesV 8) a.toList) K) : PwR (NF.only f K) a a' :=
  ⟨h.1, fun i v v' hv hv' => (h.2 i v v' hv hv').only h0 8 (Sub.orL hs v (Array.mem_toList_iff.2 (Array.mem_of_getElem? hv)))⟩
theorem callK_frame {P : Program} {base : PS} {g : NF} {K : Nat} {f : FuncId} {args' : Array Value} {m m1 : AH} {h2 : List (Nat × Obj)} {c st : Nat} {v : Value} {w : World} (hm : HR g base m.h w)
    (c1 : ∀ a o, alook m1.h a = some o → alook h2 a = some o) (c2 : ∀ a o, K.testBit a = false → alook m.h a = some o → alook h2 a = some o) (c3 : ∀ a, K.testBit a = false → (alook m.h a).isSome = true → alook m1.h a = none)
    (hg : Gives P (fun b => base b ∨ ∃ a, g a = some b ∧ K.testBit a = false) (NF.only g K) f args' w v m1) : Gives P base g f args' w v ⟨h2, c, st⟩ := by
  refine Calls.mono hg ?_
  rintro e w' ⟨g', v', k1, rfl, k3, k4, k5⟩
  have sep : ∀ a b, g a = some b → K.testBit a = false → g' a = none := by
    intro a b ha hK
    cases hx : g' a with
    | none => rfl
    | some y =>
      have h1 := (k4.dom a y hx).1
      rw [c3 a hK (hm.dom a b ha).1] at h1
      cases h1
  have le1 : NF.le g' (fun a => match g' a with | some b => some b | none => g a) := fun a b h => by
    dsimp only
    rw [h]
  have le2 : NF.le g (fun a => match g' a with | some b => some b | none => g a) := fun a b h => by
    dsimp only
    cases hK : K.testBit a with
    | true => rw [k1 a b (NF.only_mk hK h)]
    | false => rw [sep a b h hK]; exact h
  have cas : ∀ a b, (match g' a with | some b => some b | none => g a) = some b → g' a = some b ∨ (g' a = none ∧ g a = some b ∧ K.testBit a = false) := by
    intro a b h
    cases hx : g' a with
    | some y =>
      rw [hx] at h
      exact .inl h
    | none =>
      rw [hx] at h
      refine .inr ⟨rfl, h, ?_⟩
      cases hK : K.testBit a with
      | false => rfl
      | true =>
        have h : g a = some b := h
        rw [k1 a b (NF.only_mk hK h)] at hx
        cases hx
  refine ⟨_, v', le2, rfl, k3.mono le1, ⟨fun a b o ha ho => ?_, fun a b ha => ?_, fun a a' b ha ha' => ?_⟩, ⟨k5.os, k5.tape, k5.output, k5.size, fun k hk => k5.block k (.inl hk)⟩⟩
  · rcases cas a b ha with hx | ⟨hx, hgx, hK⟩
    · obtain ⟨o', ho'⟩ := Option.isSome_iff_exists.1 (k4.dom a b hx).1
      have h3 := c1 a o' ho'
      have ho : alook h2 a = some o := ho
      rw [h3] at ho
      cases ho
      exact (k4.get a b _ hx ho').mono le1
    · obtain ⟨o', ho'⟩ := Option.isSome_iff_exists.1 (hm.dom a b hgx).1
      have h3 := c2 a o' hK ho'
      have ho : alook h2 a = some o := ho
      rw [h3] at ho
      cases ho
      rw [k5.block b (.inr ⟨a, hgx, hK⟩)]
      exact (hm.get a b _ hgx ho').mono le2
  · rcases cas a b ha with hx | ⟨hx, hgx, hK⟩
    · obtain ⟨d1, d2, d3⟩ := k4.dom a b hx
      obtain ⟨o', ho'⟩ := Option.isSome_iff_exists.1 d1
      exact ⟨by show (alook h2 a).isSome = true; rw [c1 a o' ho']; rfl, fun x => d2 (.inl x), d3⟩
    · obtain ⟨d1, d2, d3⟩ := hm.dom a b hgx
      obtain ⟨o', ho'⟩ := Option.isSome_iff_exists.1 d1
      exact ⟨by show (alook h2 a).isSome = true; rw [c2 a o' hK ho']; rfl, d2, Nat.lt_of_lt_of_le d3 k5.size⟩
  · rcases cas a b ha with hx | ⟨hx, hgx, hK⟩ <;> rcases cas a' b ha' with hy | ⟨hy, hgy, hL⟩
    · exact k4.inj a a' b hx hy
    · exact absurd (.inr ⟨a', hgy, hL⟩) (k4.dom a b hx).2.1
    · exact absurd (.inr ⟨a, hgx, hK⟩) (k4.dom a' b hy).2.1
    · exact hm.inj a a' b hgx hgy
theorem callF_sound {P : Program} {cf : CFn} (hcf : CF P cf) (hct : CT cf) : CF P (callF cf) := by
  intro base f args m v m' h g args' w hm hb ha
  unfold callF at h
  generalize reachN m.h 40 (orL (namesV 8) args.toList) = K at h
  unfold callK at h
  dsimp only at h
  split at h <;> try (cases h; done)
  rename_i hc
  simp only [Bool.and_eq_true, Bool.not_eq_true'] at hc
  obtain ⟨h0, hs, hi⟩ := hc
  unfold backTo at h
  split at h <;> try (cases h; done)
  rename_i v1 m1 hr
  have hh := hm.only h0 hi
  have hh2 : HR (NF.only g K) (fun b => base b ∨ ∃ a, g a = some b ∧ K.testBit a = false) (keep K m.h) w := ⟨hh.get, fun a b hab => by
    obtain ⟨d1, d2, d3⟩ := hh.dom a b hab
    refine ⟨d1, ?_, d3⟩
    rintro (x | ⟨a', x1, x2⟩)
    · exact d2 x
    · obtain ⟨y1, y2⟩ := NF.only_some hab
      rw [hm.inj a a' b y2 x1, x2] at y1
      exact absurd y1 Bool.false_ne_true, hh.inj⟩
  have ho2 : Old (fun b => base b ∨ ∃ a, g a = some b ∧ K.testBit a = false) w := by
    rintro b (x | ⟨a', x1, x2⟩)
    · exact hb b x
    · exact (hm.dom a' b x1).2.2
  have hg := hcf _ f args ⟨keep K m.h, m.c, 0⟩ v1 m1 hr (NF.only g K) args' w hh2 ho2 (pw_only h0 ha (subB_sub hs))
  split at h
  · rename_i hst
    cases h
    have e : m1.h = keep K m.h := (hct _ _ _ _ _ hr).2 (Nat.eq_of_beq_eq_true hst)
    refine callK_frame hm (fun a o ho => ?_) (fun a o _ ho => ho) (fun a hK _ => ?_) hg
    · rw [e, alook_keep] at ho
      split at ho
      · exact ho
      · cases ho
    · rw [e, alook_keep, if_neg (by rw [hK]; exact Bool.false_ne_true)]
  · dsimp only at h
    split at h <;> try (cases h; done)
    rename_i hd
    cases h
    have hd := Nat.eq_of_beq_eq_true hd
    have dis : ∀ a, alook m1.h a = none ∨ alook (dropK K m.h) a = none := by
      intro a
      cases h1 : alook m1.h a with
      | none => exact .inl rfl
      | some o1 =>
        cases h2 : alook (dropK K m.h) a with
        | none => exact .inr rfl
        | some o2 =>
          have t1 := keysM_look (l := m1.h) (a := a) (by rw [h1]; rfl)
          have t2 := keysM_look (l := dropK K m.h) (a := a) (by rw [h2]; rfl)
          have := congrArg (fun n => Nat.testBit n a) hd
          simp only [Nat.testBit_and, t1, t2, Nat.zero_testBit] at this
          cases this
    refine callK_frame hm (fun a o ho => ?_) (fun a o hK ho => ?_) (fun a hK hsome => ?_) hg
    · rw [alook_merge a _ _ _ (dis a), ho]
    · have h2 : alook (dropK K m.h) a = some o := by rw [alook_drop, if_neg (by rw [hK]; exact Bool.false_ne_true)]; exact ho
      rw [alook_merge a _ _ _ (dis a)]
      rcases dis a with h1 | h1
      · rw [h1]; exact h2
      · rw [h2] at h1; cases h1
    · obtain ⟨o, ho⟩ := Option.isSome_iff_exists.1 hsome
      rcases dis a with h1 | h1
      · exact h1
      · rw [alook_drop, if_neg (by rw [hK]; exact Bool.false_ne_true), ho] at h1
        cases h1
section
variable {P : Program} {base : PS}
def callBody (P : Program) (ap : AP) (dr : CFn → Array Oper → FS → Option FS) (N : Nat) (cf : CFn) (fn : Func) (args : Array Value) (m : AH) : Option (Value × AH) :=
  match fn.body with
  | some c => match Nat.ble args.size fn.ntmps with
    | true => match exec (fun ops S => runL P cf ap ops ops.toList S) (dr cf) N c ⟨Rg.new fn.ntmps args, m⟩ with
      | some (.norm, S) => match resV P fn.results.toList S.r.get S.m with
        | some v => gc m v S.m
        | none => none
      | some (.ret, S) => match resV P fn.results.toList S.r.get S.m with
        | some v => gc m v S.m
        | none => none
      | _ => none
    | false => none
  | none => none
def callN (P : Program) (ap : AP) (dr : CFn → Array Oper → FS → Option FS) (sp : FuncId) (sr : CFn → Array Value → AH → Option (Value × AH)) (N : Nat) : Nat → CFn
  | 0, _, _, _ => none
  | n + 1, f, args, m => match Nat.beq f sp with
    | true => match sr (callF (callN P ap dr sp sr N n)) args m with
      | some (v, m1) => gc m v m1
      | none => none
    | false => match P.funcs[f]? with
      | some fn => callBody P ap dr N (callF (callN P ap dr sp sr N n)) fn args m
      | none => none
theorem callBody_turns {ap : AP} {dr : CFn → Array Oper → FS → Option FS} {N : Nat} {cf : CFn} {fn : Func} {args : Array Value} {m m' : AH} {v : Value} (h : callBody P ap dr N cf fn args m = some (v, m')) : Turns m m' := by
  unfold callBody at h
  split at h <;> try (cases h; done)
  split at h <;> try (cases h; done)
  split at h <;> try (cases h; done)
  · split at h <;> try (cases h; done)
    exact gc_turns h
  · split at h <;> try (cases h; done)
    exact gc_turns h
theorem callN_turns {ap : AP} {dr : CFn → Array Oper → FS → Option FS} {sp : FuncId} {sr : CFn → Array Value → AH → Option (Value × AH)} {N : Nat} : ∀ n, CT (callN P ap dr sp sr N n)
  | 0 => fun f args m v m' h => by cases h
  | n + 1 => fun f args m v m' h => by
    unfold callN at h
    split at h
    · split at h <;> try (cases h; done)
      exact gc_turns h
    · split at h <;> try (cases h; done)
      exact callBody_turns h
theorem callBody_sound (hz : PZ P) {ap : AP} (hap : APS P ap) {dr : CFn → Array Oper → FS → Option FS} {cf : CFn} (hcf : CF P cf) (hdr : RGS P true (dr cf)) {N : Nat} {fid : FuncId} {fn : Func} (hf : P.funcs[fid]? = some fn)
    {args args' : Array Value} {m m' : AH} {v : Value} (h : callBody P ap dr N cf fn args m = some (v, m')) {g : NF} {w : World} (hm : HR g base m.h w) (hb : Old base w) (ha : PwR g args args') : Gives P base g fid args' w v m' := by
  unfold callBody at h
  split at h <;> try (cases h; done)
  rename_i c hc
  split at h <;> try (cases h; done)
  rename_i hn
  have hn := Nat.le_of_ble_eq_true hn
  refine calls_of_wp hf hc ?_
  have start : RS g base ⟨Rg.new fn.ntmps args, m⟩ { tmps := args' ++ Array.replicate (fn.ntmps - args'.size) undef, defers := [] } w := ⟨Rg.new_rel hn ha, hm, rfl, hb⟩
  have fin : ∀ (S : FS) (v1 : Value), resV P fn.results.toList S.r.get S.m = some v1 → gc m v1 S.m = some (v, m') → ∀ (g2 : NF) (a' : Act) (w' : World), NF.le g g2 → RS g2 base S a' w' → Kept base w w' →
      a'.defers = [] ∧ ∃ u, (results fn a'.tmps).run P w' = .ok u w' ∧ (fun e w' => ∃ g' v', NF.le g g' ∧ e = Ending.returned v' ∧ VR g' v v' ∧ HR g' base m'.h w' ∧ Kept base w w') (.returned u) w' := by
    intro S v1 h1 h2 g2 a' w' hl hs hbe
    obtain ⟨u, g3, r0, r1, r2, r3⟩ := resV_sound (base := base) h1 (fun d => hs.regs.get d) hs.mem hs.hb
    obtain ⟨g', k1, k2, k3⟩ := gc_sound hm (NF.le_trans hl r0) r2 r3 h2
    exact ⟨hs.dn, u, r1, g', u, k1, rfl, k2, k3, hbe⟩
  split at h <;> try (cases h; done)
  · rename_i S hx
    split at h <;> try (cases h; done)
    rename_i v1 hv
    exact exec_sound (runL_rgs hz hcf hap) hdr N c _ S .norm g _ w start hx _ fun g2 a' w' k1 k2 k3 => fin S v1 hv h g2 a' w' k1 k2 k3
  · rename_i S hx
    split at h <;> try (cases h; done)
    rename_i v1 hv
    exact exec_sound (runL_rgs hz hcf hap) hdr N c _ S .ret g _ w start hx _ fun g2 a' w' k1 k2 k3 => fin S v1 hv h g2 a' w' k1 k2 k3
/-- What is asked of the function that has a run of its own. -/
def SPS (P : Program) (sp : FuncId) (sr : CFn → Array Value → AH → Option (Value × AH)) : Prop := ∀ cf, CF P cf → ∀ base args m v m', sr cf args m = some (v, m') → ∀ g args' w, HR g base m.h w → Old base w → PwR g args args' → Gives P base g sp args' w v m'
theorem callN_sound (hz : PZ P) {ap : AP} (hap : APS P ap) {dr : CFn → Array Oper → FS → Option FS} (hdr : ∀ cf, CF P cf → CT cf → RGS P true (dr cf)) {sp : FuncId} {sr : CFn → Array Value → AH → Option (Value × AH)} (hsp : SPS P sp sr) {N : Nat} : ∀ n, CF P (callN P ap dr sp sr N n)
  | 0 => fun base f args m v m' h => by cases h
  | n + 1 => fun base f args m v m' h g args' w hm hb ha => by
    have ih := callF_sound (callN_sound hz hap hdr hsp (N := N) n) (callN_turns n)
    unfold callN at h
    split at h
    · rename_i hf
      have hf := Nat.eq_of_beq_eq_true hf
      subst hf
      split at h <;> try (cases h; done)
      rename_i v1 m1 h1
      refine (hsp _ ih base args m v1 m1 h1 g args' w hm hb ha).mono ?_
      rintro e w' ⟨g', v', k1, rfl, k3, k4, k5⟩
      obtain ⟨g2, j1, j2, j3⟩ := gc_sound hm k1 k3 k4 h
      exact ⟨g2, v', j1, rfl, j2, j3, k5⟩
    · split at h <;> try (cases h; done)
      rename_i fn hfn
      exact callBody_sound hz hap ih (hdr _ ih (callF_turns _)) hfn h hm hb ha
end
end Go.Proofs.YtmodghiokoiipaaGreat

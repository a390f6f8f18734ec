/-
  TopSettle: texts joined (by joint.py).
-/
import Derived.Test.YtmodghiokoiipaaGreatJb
import Derived.Orders
import Derived.Laws.AppendOwn

/-!
  The steps of operations over names: one operation.
-/
namespace Go.Proofs.YtmodghiokoiipaaGreat
open Go Go.RowKit
set_option linter.unusedVariables false
set_option linter.unusedSimpArgs false

/-- What comes next. -/
def NX (f : NF) : Next → Next → Prop
  | .value v, .value v' => VR f v v'
  | .skip, .skip => True
  | .enter g xs, .enter g' xs' => g = g' ∧ PwR f xs xs'
  | _, _ => False
theorem NX.mono {f g : NF} (hl : NF.le f g) {a a' : Next} (h : NX f a a') : NX g a a' := by
  cases a <;> cases a' <;> first | exact h | exact VR.mono hl h | exact ⟨h.1, PwR.mono hl h.2⟩
section
variable {α β : Type} {P : Program} {base : PS}
theorem ss_nx {f : NF} {s s' : Go.Sem Value} (h : SS P base VR s s' f) : SS P base NX (do pure (.value (← s))) (do pure (.value (← s'))) f :=
  ss_bind h fun g hg a a' ha => ss_pure (RR := NX) (fun _ _ _ _ hl h => NX.mono hl h) ha
theorem ss_nu {f : NF} {s s' : Go.Sem Unit} (h : SS P base (fun _ _ _ => True) s s' f) : SS P base NX (do s; pure .skip) (do s'; pure .skip) f :=
  ss_bind h fun g hg a a' ha => ss_pure (RR := NX) (fun _ _ _ _ hl h => NX.mono hl h) trivial
/-! A run that asks nothing of memory. -/
def prun (P : Program) : Go.Sem α → Option α
  | .pure a => some a
  | .program k => prun P (k P)
  | .mark _ k => prun P k
  | _ => none
theorem prun_run : ∀ {s : Go.Sem α} {a : α}, prun P s = some a → ∀ w, s.run P w = .ok a w
  | .pure a, b, h, w => by cases h; rfl
  | .program k, b, h, w => prun_run (s := k P) h w
  | .mark _ k, b, h, w => prun_run (s := k) h w
  | .load .., _, h, _ => by cases h
  | .store .., _, h, _ => by cases h
  | .new .., _, h, _ => by cases h
  | .shape .., _, h, _ => by cases h
  | .freeze .., _, h, _ => by cases h
  | .frozen .., _, h, _ => by cases h
  | .getObj .., _, h, _ => by cases h
  | .setObj .., _, h, _ => by cases h
  | .choose .., _, h, _ => by cases h
  | .sys .., _, h, _ => by cases h
  | .halt .., _, h, _ => by cases h
/-- Operands over names, and the real ones. -/
def RhoR (f : NF) (ρ ρ' : Operand → Value) (o : Oper) : Prop := ∀ x ∈ o.op.operands, VR f (ρ x) (ρ' x)
theorem pl_map {f : NF} {ρ ρ' : Operand → Value} : ∀ (l : List (Nat × Operand)), (∀ x ∈ l.map (·.2), VR f (ρ x) (ρ' x)) → PL f (l.map fun (i, x) => (i, ρ x)) (l.map fun (i, x) => (i, ρ' x))
  | [], _ => .nil
  | (i, x) :: l, h => .cons (h x (by simp)) (pl_map l fun y hy => h y (by simp at hy ⊢; exact .inr hy))
theorem pw_map {f : NF} {ρ ρ' : Operand → Value} (l : Array Operand) (h : ∀ x ∈ l, VR f (ρ x) (ρ' x)) : PwR f (l.map ρ) (l.map ρ') := by
  refine ⟨by simp, fun i v v' hv hv' => ?_⟩
  simp only [Array.getElem?_map, Option.map_eq_some_iff] at hv hv'
  obtain ⟨x, hx, rfl⟩ := hv
  obtain ⟨x', hx', rfl⟩ := hv'
  rw [hx] at hx'
  cases hx'
  exact h x (Array.mem_of_getElem? hx)
theorem ov_map {f : NF} {ρ ρ' : Operand → Value} (o : Option Operand) (h : ∀ x ∈ o.toArray, VR f (ρ x) (ρ' x)) : OV f (o.map ρ) (o.map ρ') := by
  cases o with
  | none => trivial
  | some x => exact h x (by simp)
/-- The kinds of operations that are carried over as they stand. -/
def opOk (P : Program) (ρ : Operand → Value) : Op → Bool
  | .alloc e => tOk P e
  | .build t _ => tOk P t
  | .move _ | .assign _ | .pick .. | .box .. | .load .. | .store .. | .makeFunc .. | .fieldAddr .. | .field .. | .indexAddr .. | .extract .. => true
  | .buildSlice t _ _ | .makeSlice t _ _ => match P.underlying t with
    | some (.slice e) => tOk P e
    | _ => false
  | .slice t _ _ _ _ => match P.underlying t with
    | some (.slice _) => true
    | _ => false
  | .makeMap _ none => true
  | .lookup t _ k _ => match P.underlying t with
    | some (.map _ et) => closedN 6 (ρ k) && tOk P et
    | _ => false
  | .mapUpdate _ _ k _ | .insert _ _ k _ => closedN 6 (ρ k)
  | _ => false
theorem ss_op (hz : PZ P) {f : NF} {ρ ρ' : Operand → Value} {o : Oper} (h : RhoR f ρ ρ' o) (hk : opOk P ρ o.op = true) : SS P base NX (execOp ρ o) (execOp ρ' o) f := by
  obtain ⟨dst, op, type, pos, after, guard⟩ := o
  unfold RhoR at h
  dsimp only at h hk
  unfold execOp
  dsimp only
  cases op <;> simp only [opOk, Bool.false_eq_true] at hk <;> simp only [Op.operands] at h <;> dsimp only
  case move x => exact ss_pure (RR := NX) (fun _ _ _ _ hl h => NX.mono hl h) (h x (by simp))
  case assign x => exact ss_pure (RR := NX) (fun _ _ _ _ hl h => NX.mono hl h) (h x (by simp))
  case pick c a b =>
    refine ss_bind (ss_asBool (h c (by simp))) fun g hg t t' ht => ?_
    cases ht
    refine ss_pure (RR := NX) (fun _ _ _ _ hl h => NX.mono hl h) ?_
    show VR _ _ _
    split
    · exact (h a (by simp)).mono hg
    · exact (h b (by simp)).mono hg
  case alloc e => exact ss_nx (ss_of_sim fun g hg => sim_alloc e hk)
  case box e x => exact ss_nx (ss_of_sim fun g hg => sim_box e ((h x (by simp)).mono hg))
  case build t ps =>
    refine ss_nx (ss_build t hk ?_)
    have := pl_map (f := f) (ρ := ρ) (ρ' := ρ') ps.toList (fun x hx => h x (by simpa using hx))
    simpa using this
  case buildSlice t n ps =>
    split at hk
    · rename_i e hd
      refine ss_nx (ss_buildSlice hk hd n ?_)
      have := pl_map (f := f) (ρ := ρ) (ρ' := ρ') ps.toList (fun x hx => h x (by simpa using hx))
      simpa using this
    · cases hk
  case load t a => exact ss_nx (ss_of_sim fun g hg => sim_loadAt t ((h a (by simp)).mono hg))
  case store t a x => exact ss_nu (ss_of_sim fun g hg => sim_storeAt t ((h a (by simp)).mono hg) ((h x (by simp)).mono hg))
  case makeFunc fn xs ys => exact ss_nx (ss_makeFunc fn (pw_map xs fun x hx => h x (by simp [hx])) (pw_map ys fun x hx => h x (by simp [hx])))
  case makeMap t r =>
    cases r with
    | none => exact ss_nx (ss_makeMap t)
    | some x => cases hk
  case makeSlice t a b =>
    split at hk
    · rename_i e hd
      exact ss_nx (ss_makeSlice hk hd (h a (by simp)) (h b (by simp)))
    · cases hk
  case slice t x lo hi mx =>
    split at hk
    · rename_i e hd
      exact ss_nx (ss_sliceAt hd (h x (by simp)) (ov_map lo fun y hy => h y (by simp at hy ⊢; simp [hy])) (ov_map hi fun y hy => h y (by simp at hy ⊢; simp [hy])) (ov_map mx fun y hy => h y (by simp at hy ⊢; simp [hy])))
    · cases hk
  case fieldAddr t x i => exact ss_nx (ss_fieldAt t (h x (by simp)) i)
  case field t x i => exact ss_nx (ss_field t (h x (by simp)) i)
  case indexAddr t x i => exact ss_nx (ss_indexAt t (h x (by simp)) (h i (by simp)))
  case extract x i => exact ss_nx (ss_extract (h x (by simp)) i)
  case lookup t x k b =>
    split at hk
    · rename_i kt et hd
      rw [Bool.and_eq_true] at hk
      rw [closed_eq hk.1 (h k (by simp))]
      exact ss_nx (ss_lookup hd hk.2 (h x (by simp)) b)
    · cases hk
  case mapUpdate t m k x =>
    rw [closed_eq hk (h k (by simp))]
    exact ss_nu (ss_mapUpdate t (h m (by simp)) (h x (by simp)))
  case insert t m k x =>
    rw [closed_eq hk (h k (by simp))]
    exact ss_nu (ss_mapUpdate t (h m (by simp)) (h x (by simp)))
end
end Go.Proofs.YtmodghiokoiipaaGreat

/-!
  The executor: operations and calls.
-/
namespace Go.Proofs.YtmodghiokoiipaaGreat
open Go Go.RowKit
set_option linter.unusedVariables false
set_option linter.unusedSimpArgs false

def rhoOf (look : Nat → Value) : Operand → Value
  | .tmp t => look t
  | .const v => v
  | .global g => .pointer (some ⟨g, 0, none⟩)
  | .func f => .func (.func f) #[] #[]
def operandOk : Operand → Bool
  | .tmp _ => true
  | .const v => closedN 6 v
  | .func _ => true
  | .global _ => false
theorem PwR.getD {f : NF} {a a' : Array Value} (h : PwR f a a') (i : Nat) : VR f (a.getD i undef) (a'.getD i undef) := by
  rw [Array.getD_eq_getD_getElem?, Array.getD_eq_getD_getElem?]
  cases hv : a[i]? with
  | none =>
    rw [h.getNone hv]
    exact .tup rfl (PwR.nil f).2
  | some v =>
    obtain ⟨v', h1, h2⟩ := h.get hv
    rw [h1]
    exact h2
theorem rho_eval {f : NF} {look : Nat → Value} {a : Act} {x : Operand} (hx : operandOk x = true) (hl : ∀ t, x = .tmp t → VR f (look t) (a.tmps.getD t undef)) : VR f (rhoOf look x) (a.eval x) := by
  cases x with
  | tmp t => exact hl t rfl
  | const v => exact closed_vr hx
  | func g => exact .fn rfl rfl (PwR.nil f).2 (PwR.nil f).2
  | global g => cases hx
theorem rho_all {f : NF} {look : Nat → Value} {a : Act} {o : Oper} (hx : o.op.operands.all operandOk = true) (hl : ∀ t, Operand.tmp t ∈ o.op.operands → VR f (look t) (a.tmps.getD t undef)) : RhoR f (rhoOf look) a.eval o := fun x hm =>
  rho_eval (Array.all_eq_true_iff_forall_mem.1 hx x hm) fun t ht => hl t (ht ▸ hm)
theorem put_defers (a : Act) (dst : Option Tmp) (v : Value) : (a.put dst v).defers = a.defers := by cases dst <;> rfl
theorem vr_undef {f : NF} : VR f undef undef := .tup rfl (PwR.nil f).2

section
variable {P : Program} {base : PS}
/-- What a call gives. -/
def Gives (P : Program) (base : PS) (g : NF) (f : FuncId) (args' : Array Value) (w : World) (v : Value) (m' : AH) : Prop :=
  Calls P f args' w fun e w' => ∃ g' v', NF.le g g' ∧ e = .returned v' ∧ VR g' v v' ∧ HR g' base m'.h w' ∧ Kept base w w'
def CF (P : Program) (cf : FuncId → Array Value → AH → Option (Value × AH)) : Prop :=
  ∀ base f args m v m', cf f args m = some (v, m') → ∀ g args' w, HR g base m.h w → Old base w → PwR g args args' → Gives P base g f args' w v m'
/-- The next step of an operation over names: its value and the memory behind it. -/
def nextOf (cf : FuncId → Array Value → AH → Option (Value × AH)) : Option (Next × AH) → Option (Value × AH)
  | some (.value v, m) => some (v, m)
  | some (.skip, m) => some (undef, m)
  | some (.enter f args, m) => cf f args m
  | _ => none
/-- The operation gives v, and the memory m'. -/
def WS (P : Program) (base : PS) (f : NF) (o : Oper) (a : Act) (w : World) (v : Value) (m' : AH) : Prop :=
  ∀ (K : Act → World → Prop) (Q : Exit → Act → World → Prop), (∀ g v' w', NF.le f g → VR g v v' → HR g base m'.h w' → Kept base w w' → K (a.put o.dst v') w') → o.wp P a w K Q
theorem next_sound {cf : FuncId → Array Value → AH → Option (Value × AH)} (hcf : CF P cf) {o : Oper} {f : NF} {ρ : Operand → Value} {m : AH} {a : Act} {w : World} (hm : HR f base m.h w) (hb : Old base w)
    (hss : SS P base NX (execOp ρ o) (execOp a.eval o) f) {v : Value} {m' : AH} (hr : nextOf cf (Sem.arun P (execOp ρ o) m) = some (v, m')) : WS P base f o a w v m' := by
  intro K Q fin
  cases hx : Sem.arun P (execOp ρ o) m with
  | none => rw [hx] at hr; cases hr
  | some p =>
    obtain ⟨n, m2⟩ := p
    rw [hx] at hr
    obtain ⟨g, n', w', r1, r2, r3, r4, r5⟩ := hss f (NF.le_refl f) m w n m2 hm hb hx
    unfold Oper.wp
    rw [r1]
    cases n <;> simp only [nextOf, Option.some.injEq, Prod.mk.injEq, reduceCtorEq] at hr
    case value u =>
      obtain ⟨rfl, rfl⟩ := hr
      cases n' <;> first | exact absurd r3 id | skip
      exact fin g _ w' r2 r3 r4 r5
    case skip =>
      obtain ⟨rfl, rfl⟩ := hr
      cases n' <;> first | exact absurd r3 id | skip
      exact fin g _ w' r2 vr_undef r4 r5
    case enter fn args =>
      cases n' <;> first | exact absurd r3 id | skip
      rename_i fn' args'
      obtain ⟨rfl, hp⟩ := r3
      refine (hcf base fn args m2 v m' hr g args' w' r4 (hb.mono r5) hp).mono ?_
      rintro e w2 ⟨g2, v', h1, rfl, h3, h4, h5⟩
      exact fin g2 v' w2 (NF.le_trans r2 h1) h3 h4 (r5.trans h5)
end
end Go.Proofs.YtmodghiokoiipaaGreat

/-!
  The executor: one step.
-/
namespace Go.Proofs.YtmodghiokoiipaaGreat
open Go Go.RowKit
set_option linter.unusedVariables false
set_option linter.unusedSimpArgs false

theorem PwR.append {f : NF} {a a' b b' : Array Value} (h : PwR f a a') (h2 : PwR f b b') : PwR f (a ++ b) (a' ++ b') := by
  refine ⟨by simp [h.1, h2.1], fun i v v' hv hv' => ?_⟩
  rw [Array.getElem?_append] at hv hv'
  rw [← h.1] at hv'
  split at hv
  · rename_i hi
    rw [if_pos hi] at hv'
    exact h.2 i v v' hv hv'
  · rename_i hi
    rw [if_neg hi] at hv'
    exact h2.2 _ v v' hv hv'
section
variable {α β : Type} {P : Program} {base : PS}
theorem ss_program {RS : NF → β → β → Prop} {f : NF} {k k' : Program → Go.Sem β} (hk : SS P base RS (k P) (k' P) f) : SS P base RS (program >>= k) (program >>= k') f := by
  intro g hg H w b H' hh hb hr
  exact hk g hg H w b H' hh hb hr
theorem ss_callFunc {f : NF} {fid : FuncId} {fn : Func} (hf : P.funcs[fid]? = some fn) (hb : fn.body.isNone = false) (hn : (fn.name == "runtime.NumGoroutine") = false) {xs xs' : Array Value} (h : PwR f xs xs') : SS P base NX (callFunc fid xs) (callFunc fid xs') f := by
  unfold callFunc
  refine ss_program ?_
  rw [hf]
  dsimp only
  rw [hn, hb]
  exact ss_pure (RR := NX) (fun _ _ _ _ hl h => NX.mono hl h) ⟨rfl, h⟩
def callOk (P : Program) (v : Value) : Bool := match v with
  | .func (.func fid) _ _ => match P.funcs[fid]? with
    | some fn => !fn.body.isNone && !(fn.name == "runtime.NumGoroutine")
    | none => false
  | _ => false
theorem ss_callV {f : NF} {ρ ρ' : Operand → Value} {o : Oper} {c : Call} {fv : Operand} (ho : o.op = .call c) (hc : c.callee = .value fv) (h : RhoR f ρ ρ' o) (hk : callOk P (ρ fv) = true) : SS P base NX (execOp ρ o) (execOp ρ' o) f := by
  unfold RhoR at h
  rw [ho] at h
  simp only [Op.operands, Call.operands, hc] at h
  have hfv := h fv (by simp)
  have hargs := pw_map (f := f) (ρ := ρ) (ρ' := ρ') c.args (fun x hx => h x (by simp [hx]))
  unfold execOp
  rw [ho]
  dsimp only
  unfold resolve
  rw [hc]
  dsimp only
  generalize ρ fv = v at *
  generalize ρ' fv = v' at *
  cases hfv <;> try (cases hk; done)
  rename_i g xs xs' ys ys' h1 h2 h3 h4
  cases g <;> try (cases hk; done)
  rename_i fid
  unfold callOk at hk
  dsimp only at hk
  split at hk
  · rename_i fn hf
    simp only [Bool.and_eq_true, Bool.not_eq_true'] at hk
    exact ss_callFunc hf hk.1 hk.2 ((PwR.append ⟨h1, h3⟩ hargs).append ⟨h2, h4⟩)
  · cases hk
theorem ss_callLen {f : NF} {ρ ρ' : Operand → Value} {o : Oper} {c : Call} {x : Operand} (ho : o.op = .call c) (hc : c.callee = .builtin .len) (ha : c.args = #[x]) (h : RhoR f ρ ρ' o) : SS P base NX (execOp ρ o) (execOp ρ' o) f := by
  unfold RhoR at h
  rw [ho] at h
  simp only [Op.operands, Call.operands, hc, ha] at h
  unfold execOp
  rw [ho]
  dsimp only
  unfold resolve
  rw [hc, ha]
  simp only [List.map_toArray, List.map_cons, List.map_nil]
  exact ss_nx (ss_len _ _ (h x (by simp)))
/-! Is it nil? -/
def nilV : Value → Bool
  | .pointer none | .slice none 0 0 | .map none | .nilFunc => true
  | _ => false
def someV : Value → Bool
  | .pointer (some _) | .slice (some _) _ _ | .map (some _) | .func .. => true
  | _ => false
theorem ss_eqNil {f : NF} (t : TypeId) {v v' u : Value} (h : VR f v v') (h1 : someV v = true) (h2 : nilV u = true) : SS P base RE (Op.equal t v u) (Op.equal t v' u) f := by
  unfold Op.equal Op.maxDepth
  show SS P base RE (Op.equalIn (9999 + 1) t v u) (Op.equalIn (9999 + 1) t v' u) f
  unfold Op.equalIn
  refine ss_calm (calm_underlying t) fun d => ?_
  have pu : ∀ b : Bool, SS P base RE (pure b) (pure b) f := fun b => ss_pure (fun _ _ _ _ _ h => h) rfl
  unfold nilV at h2
  split at h2 <;> try (cases h2; done)
  all_goals
    cases h <;> (try (cases h1; done)) <;> cases d <;> dsimp only <;> first
      | exact pu _
      | exact ss_dead (dead_stuck _)
      | exact ss_dead (dead_unsupported _)
theorem ss_binNil {f : NF} {ρ ρ' : Operand → Value} {o : Oper} {b : BinOp} {t t2 : TypeId} {x y : Operand} (ho : o.op = .binOp b t x y t2) (hb : b = .eql ∨ b = .neq) (h : RhoR f ρ ρ' o) (h1 : someV (ρ x) = true) (h2 : nilV (ρ y) = true) : SS P base NX (execOp ρ o) (execOp ρ' o) f := by
  unfold RhoR at h
  rw [ho] at h
  simp only [Op.operands] at h
  have hx := h x (by simp)
  have hy := h y (by simp)
  unfold execOp
  rw [ho]
  dsimp only
  generalize ρ x = v at *
  generalize ρ' x = v' at *
  have e : ρ' y = ρ y := by
    generalize ρ y = u at *
    generalize ρ' y = u' at *
    cases hy <;> first | rfl | (cases h2; done)
  rw [e]
  generalize ρ y = u at *
  have hq := ss_eqNil (P := P) (base := base) t hx h1 h2
  refine ss_nx ?_
  rcases hb with rfl | rfl
  · have key : SS P base VR (do pure (.bool (← Op.equal t v u))) (do pure (.bool (← Op.equal t v' u))) f := ss_bind hq fun g hg a a' ha => by
      cases ha
      exact ss_val (.bool _)
    unfold nilV at h2
    split at h2 <;> try (cases h2; done)
    all_goals
      cases hx <;> first | (cases h1; done) | exact key
  · have key : SS P base VR (do pure (.bool (!(← Op.equal t v u)))) (do pure (.bool (!(← Op.equal t v' u)))) f := ss_bind hq fun g hg a a' ha => by
      cases ha
      exact ss_val (.bool _)
    unfold nilV at h2
    split at h2 <;> try (cases h2; done)
    all_goals
      cases hx <;> first | (cases h1; done) | exact key
end
end Go.Proofs.YtmodghiokoiipaaGreat

/-!
  The executor: the value of an operation.
-/
namespace Go.Proofs.YtmodghiokoiipaaGreat
open Go Go.RowKit
set_option linter.unusedVariables false
set_option linter.unusedSimpArgs false

section
variable {P : Program} {base : PS}
theorem ss_nilCheck {f : NF} {ρ ρ' : Operand → Value} {o : Oper} {x : Operand} (ho : o.op = .nilCheck x) (h : RhoR f ρ ρ' o) (h1 : someV (ρ x) = true) (h2 : ∀ g xs ys, ρ x ≠ .func g xs ys) : SS P base NX (execOp ρ o) (execOp ρ' o) f := by
  unfold RhoR at h
  rw [ho] at h
  simp only [Op.operands] at h
  have hx := h x (by simp)
  unfold execOp
  rw [ho]
  dsimp only
  generalize ρ x = v at *
  generalize ρ' x = v' at *
  cases hx <;> first
    | (cases h1; done)
    | exact absurd rfl (h2 _ _ _)
    | (refine ss_pure (RR := NX) (fun _ _ _ _ hl h => NX.mono hl h) ?_; constructor <;> assumption)
def isPtr : Value → Bool
  | .pointer (some _) => true
  | _ => false
def isSelect : Op → Bool
  | .select .. => true
  | _ => false
def closedStep (P : Program) (ρ : Operand → Value) (m : AH) (o : Oper) : Option (Value × AH) :=
  if o.op.operands.all (fun x => closedN 6 (ρ x)) && !isSelect o.op then
    match prun P (execOp ρ o) with
    | some (.value v) => if closedN 6 v then some (v, m) else none
    | _ => none
  else none
def goStep (P : Program) (cf : FuncId → Array Value → AH → Option (Value × AH)) (ρ : Operand → Value) (m : AH) (o : Oper) : Option (Value × AH) := nextOf cf (Sem.arun P (execOp ρ o) m)
abbrev AP := (Operand → Value) → AH → Oper → Option (Value × AH)
def sv (P : Program) (cf : FuncId → Array Value → AH → Option (Value × AH)) (ap : AP) (ρ : Operand → Value) (m : AH) (o : Oper) : Option (Value × AH) :=
  if o.op.operands.all operandOk then
    if opOk P ρ o.op then goStep P cf ρ m o
    else match o.op with
      | .call c => match c.callee with
        | .value fv => if callOk P (ρ fv) then goStep P cf ρ m o else none
        | .builtin .len => if c.args.size = 1 then goStep P cf ρ m o else none
        | .builtin .append => ap ρ m o
        | _ => closedStep P ρ m o
      | .binOp .eql _ x y _ => if someV (ρ x) && nilV (ρ y) then goStep P cf ρ m o else closedStep P ρ m o
      | .binOp .neq _ x y _ => if someV (ρ x) && nilV (ρ y) then goStep P cf ρ m o else closedStep P ρ m o
      | .nilCheck x => if isPtr (ρ x) then goStep P cf ρ m o else closedStep P ρ m o
      | _ => closedStep P ρ m o
  else none
/-- What is asked of the append. -/
def APS (P : Program) (ap : AP) : Prop := ∀ (base : PS) (ρ : Operand → Value) (m m' : AH) (v : Value) (o : Oper) (f : NF) (a : Act) (w : World), ap ρ m o = some (v, m') → HR f base m.h w → Old base w → RhoR f ρ a.eval o → WS P base f o a w v m'
theorem closedStep_sound {o : Oper} {f : NF} {ρ : Operand → Value} {m m' : AH} {v : Value} {a : Act} {w : World} (hm : HR f base m.h w) (hrho : RhoR f ρ a.eval o) (hr : closedStep P ρ m o = some (v, m')) : WS P base f o a w v m' := by
  intro K Q hk
  unfold closedStep at hr
  split at hr
  · rename_i hc
    simp only [Bool.and_eq_true, Bool.not_eq_true', Array.all_eq_true_iff_forall_mem] at hc
    split at hr
    · rename_i v hp
      split at hr
      · rename_i hv
        cases hr
        have e : execOp a.eval o = execOp ρ o := execOp_congr o (fun cs b e => by rw [e] at hc; cases hc.2) fun x hx => closed_eq (hc.1 x hx) (hrho x hx)
        unfold Oper.wp
        rw [e, prun_run hp w]
        exact hk f _ w (NF.le_refl f) (closed_vr hv) hm (Kept.refl _ _)
      · cases hr
    · cases hr
  · cases hr
theorem sv_sound (hz : PZ P) {cf : FuncId → Array Value → AH → Option (Value × AH)} (hcf : CF P cf) {ap : AP} (hap : APS P ap) {o : Oper} {f : NF} {ρ : Operand → Value} {m m' : AH} {v : Value} {a : Act} {w : World}
    (hm : HR f base m.h w) (hb : Old base w) (hrho : o.op.operands.all operandOk = true → RhoR f ρ a.eval o) (hr : sv P cf ap ρ m o = some (v, m')) : WS P base f o a w v m' := by
  unfold sv at hr
  split at hr
  · rename_i ho
    have hrho := hrho ho
    split at hr
    · rename_i hok
      exact next_sound hcf hm hb (ss_op hz hrho hok) hr
    · split at hr
      · rename_i c hop
        split at hr
        · rename_i fv hc
          split at hr
          · rename_i hcall
            exact next_sound hcf hm hb (ss_callV hop hc hrho hcall) hr
          · cases hr
        · rename_i hc
          split at hr
          · rename_i ha
            obtain ⟨x, hx⟩ := Array.size_eq_one_iff.1 ha
            exact next_sound hcf hm hb (ss_callLen hop hc hx hrho) hr
          · cases hr
        · exact hap base ρ m m' v o f a w hr hm hb hrho
        · exact closedStep_sound hm hrho hr
      · rename_i t x y t2 hop
        split at hr
        · rename_i h12
          simp only [Bool.and_eq_true] at h12
          exact next_sound hcf hm hb (ss_binNil hop (.inl rfl) hrho h12.1 h12.2) hr
        · exact closedStep_sound hm hrho hr
      · rename_i t x y t2 hop
        split at hr
        · rename_i h12
          simp only [Bool.and_eq_true] at h12
          exact next_sound hcf hm hb (ss_binNil hop (.inr rfl) hrho h12.1 h12.2) hr
        · exact closedStep_sound hm hrho hr
      · rename_i x hop
        split at hr
        · rename_i h1
          exact next_sound hcf hm hb (ss_nilCheck hop hrho (by unfold isPtr at h1; split at h1 <;> first | (rename_i hp; rw [hp]; rfl) | cases h1) (fun g xs ys e => by rw [e] at h1; cases h1)) hr
        · exact closedStep_sound hm hrho hr
      · exact closedStep_sound hm hrho hr
  · cases hr
/-! The guard. -/
def ydL (ops : Array Oper) (look : Nat → Value) (j : Nat) : Option Bool := match (ops[j]?).bind (·.dst) with
  | some d => match look d with
    | .bool b => some b
    | _ => none
  | none => none
theorem yielded_rel {f : NF} {look : Nat → Value} {tmps : Array Value} (ops : Array Oper) (j : Nat) (hl : ∀ d, (ops[j]?).bind (·.dst) = some d → VR f (look d) (tmps.getD d undef)) : yielded ops tmps j = ydL ops look j := by
  unfold yielded ydL
  cases hd : (ops[j]?).bind (·.dst) with
  | none => rfl
  | some d =>
    have h := hl d hd
    simp only [Option.bind_some]
    rw [Array.getD_eq_getD_getElem?] at h
    cases hv : tmps[d]? with
    | none =>
      rw [hv] at h
      simp only [Option.getD_none] at h
      generalize look d = x at *
      generalize hu : undef = u at *
      unfold undef at hu
      subst hu
      cases h
      rfl
    | some v =>
      rw [hv] at h
      simp only [Option.getD_some] at h
      generalize look d = x at *
      cases h <;> rfl
theorem wanted_rel {f : NF} {look : Nat → Value} {tmps : Array Value} (ops : Array Oper) (o : Oper) (hl : ∀ g b, o.guard = some (g, b) → ∀ d, (ops[g]?).bind (·.dst) = some d → VR f (look d) (tmps.getD d undef)) : Region.wanted o (yielded ops tmps) = Region.wanted o (ydL ops look) := by
  unfold Region.wanted
  split
  · rfl
  · rename_i j b hg
    rw [yielded_rel ops j (hl j b hg)]
/-- The value of an operation of a region, wanted or not. -/
def svW (P : Program) (cf : FuncId → Array Value → AH → Option (Value × AH)) (ap : AP) (ops : Array Oper) (look : Nat → Value) (m : AH) (o : Oper) : Option (Value × AH) :=
  if Region.wanted o (ydL ops look) then sv P cf ap (rhoOf look) m o else some (undef, m)
/-- The temporaries that an operation looks at. -/
def Sees (ops : Array Oper) (o : Oper) (t : Nat) : Prop := Operand.tmp t ∈ o.op.operands ∨ ∃ g b, o.guard = some (g, b) ∧ (ops[g]?).bind (·.dst) = some t
theorem svW_sound (hz : PZ P) {cf : FuncId → Array Value → AH → Option (Value × AH)} (hcf : CF P cf) {ap : AP} (hap : APS P ap) {ops : Array Oper} {o : Oper} {i : Nat} {f : NF} {look : Nat → Value} {m m' : AH} {v : Value} {a : Act} {w : World}
    (ho : ops[i]? = some o) (hm : HR f base m.h w) (hb : Old base w) (hl : ∀ t, Sees ops o t → VR f (look t) (a.tmps.getD t undef)) (hr : svW P cf ap ops look m o = some (v, m'))
    {K : Act → World → Prop} {Q : Exit → Act → World → Prop} (hk : ∀ g v' w', NF.le f g → VR g v v' → HR g base m'.h w' → Kept base w w' → K (a.put o.dst v') w') : wpOp P ops Q i K a w := by
  unfold wpOp
  rw [ho]
  dsimp only
  rw [wanted_rel ops o fun g b hg d hd => hl d (.inr ⟨g, b, hg, hd⟩)]
  unfold svW at hr
  split at hr
  · rename_i hw
    rw [if_pos hw]
    exact .inl (sv_sound hz hcf hap hm hb (fun hx => rho_all hx fun t ht => hl t (.inl ht)) hr K Q hk)
  · rename_i hw
    rw [if_neg hw]
    cases hr
    exact hk f undef w (NF.le_refl f) vr_undef hm (Kept.refl _ _)
end
end Go.Proofs.YtmodghiokoiipaaGreat

/-!
  The executor: append to the nil slice, and append of nothing.
-/
namespace Go.Proofs.YtmodghiokoiipaaGreat
open Go Go.RowKit
set_option linter.unusedVariables false
set_option linter.unusedSimpArgs false

section
variable {P : Program} {base : PS}
theorem HR.drew {f : NF} {H : List (Nat × Obj)} {w : World} (h : HR f base H w) : HR f base H w.drew := ⟨h.get, h.dom, h.inj⟩
def appNew (m : AH) (e : TypeId) (i : TypeInfo) (a : Addr) (n : Nat) : Option (Value × AH) :=
  match alook m.h a.block with
  | some (.cells cs _ _) =>
    if a.spot = none ∧ a.off + n * i.size ≤ cs.size ∧ n ≤ 1000000 ∧ n * i.bytes ≤ 281474976710656 ∧ i.zero.isSome = true ∧ alook m.h m.c = none then
      some (.slice (some ⟨m.c, 0, none⟩) n n, { m with h := ains m.h m.c (.cells (cs.extract a.off (a.off + n * i.size)) e (0, 0)), c := m.c + 1, st := m.st + 1 })
    else none
  | _ => none
def apStep (P : Program) (ρ : Operand → Value) (mm : AH) (o : Oper) : Option (Value × AH) :=
  match o.op with
  | .call c => match c.callee with
    | .builtin .append =>
      if c.args.size = 2 ∧ c.argTypes.size = 2 ∧ c.argTypes.getD 0 0 = c.argTypes.getD 1 0 then
        match P.underlying (c.argTypes.getD 0 0) with
        | some (.slice e) => match P.info? e with
          | some i => match ρ (c.args.getD 1 (.func 0)) with
            | .slice x m cx => match ρ (c.args.getD 0 (.func 0)) with
              | .slice s n cp =>
                if m = 0 then some (Value.slice s n cp, mm)
                else if s = none ∧ n = 0 ∧ cp = 0 then match x with
                  | some a => appNew mm e i a m
                  | none => none
                else none
              | _ => none
            | _ => none
          | none => none
        | _ => none
      else none
    | _ => none
  | _ => none
theorem apStep_sound : APS P (apStep P) := by
  intro base ρ mm m' v o f a w hr hm hb hrho K Q hk
  unfold apStep at hr
  split at hr <;> try (cases hr; done)
  rename_i c hop
  split at hr <;> try (cases hr; done)
  rename_i hc
  split at hr <;> try (cases hr; done)
  rename_i hsz
  obtain ⟨hs1, hs2, hs3⟩ := hsz
  split at hr <;> try (cases hr; done)
  rename_i e ht
  split at hr <;> try (cases hr; done)
  rename_i i hi
  obtain ⟨callee, args, argTypes⟩ := c
  dsimp only at hc hs1 hs2 hs3 ht hr
  subst hc
  obtain ⟨sx, xx, rfl⟩ : ∃ sx xx, args = #[sx, xx] := by
    obtain ⟨l⟩ := args
    match l, hs1 with
    | [p, q], _ => exact ⟨p, q, rfl⟩
  obtain ⟨t, rfl⟩ : ∃ t, argTypes = #[t, t] := by
    obtain ⟨l⟩ := argTypes
    match l, hs2, hs3 with
    | [p, q], _, hs3 =>
      obtain rfl : p = q := hs3
      exact ⟨p, rfl⟩
  change P.underlying t = _ at ht
  unfold RhoR at hrho
  rw [hop] at hrho
  simp only [Op.operands, Call.operands] at hrho
  have hS := hrho sx (by simp)
  have hX := hrho xx (by simp)
  change (match ρ xx with
    | .slice x m cx => match ρ sx with
      | .slice s n cp =>
        if m = 0 then some (Value.slice s n cp, mm)
        else if s = none ∧ n = 0 ∧ cp = 0 then match x with
          | some a => appNew mm e i a m
          | none => none
        else none
      | _ => none
    | _ => none) = some (v, m') at hr
  split at hr <;> try (cases hr; done)
  rename_i x m cx hx
  split at hr <;> try (cases hr; done)
  rename_i s n cp hsv
  rw [hx] at hX
  rw [hsv] at hS
  unfold Oper.wp execOp
  simp only [hop, resolve, invoke, builtin, Sem.run_bind, Sem.run_pure, Result.andThen_ok, List.map_toArray, List.map_cons, List.map_nil]
  split at hr
  · rename_i hm0
    subst hm0
    cases hr
    have fin : ∀ v', VR f (.slice s n cp) v' → K (a.put o.dst v') w := fun v' hv => hk f _ w (NF.le_refl f) hv hm (Kept.refl _ _)
    generalize a.eval sx = sv at *
    generalize a.eval xx = xv at *
    have goal : ∃ b n' c' y cy, sv = .slice b n' c' ∧ n' ≤ c' ∧ xv = .slice y 0 cy := by
      cases hS <;> cases hX <;> exact ⟨_, _, _, _, _, rfl, by omega, rfl⟩
    obtain ⟨b, n', c', y, cy, rfl, hle, rfl⟩ := goal
    have hrun : (Builtin.append_ #[t, t] o.type #[.slice b n' c', .slice y 0 cy]).run P w = .ok (.slice b n' c') w := by
      cases b <;> cases y <;> simp [Builtin.append_, run_underlying ht, sizeOf, typeInfo, hi, Builtin.lenOf, Builtin.firstCells, loadCells, loadCellsFrom, hle, storeCells]
    rw [hrun]
    exact fin _ hS
  · rename_i hm0
    split at hr <;> try (cases hr; done)
    rename_i hnil
    obtain ⟨rfl, rfl, rfl⟩ := hnil
    split at hr <;> try (cases hr; done)
    rename_i ad
    unfold appNew at hr
    split at hr <;> try (cases hr; done)
    rename_i cs e0 fr0 hl
    split at hr <;> try (cases hr; done)
    rename_i hall
    obtain ⟨q1, q2, q3, q4, q5, q6⟩ := hall
    obtain ⟨z, hz⟩ := Option.isSome_iff_exists.1 q5
    cases hr
    generalize a.eval sx = sw at *
    generalize a.eval xx = xv at *
    cases hS
    cases hX with
    | sl0 o o' h => exact absurd rfl hm0
    | sl off n h hn hcc =>
      rename_i A b c'
      obtain ⟨cs', h4, h5⟩ := hm.get _ _ _ h hl
      have hsz : off + m * i.size ≤ cs'.size := Nat.le_trans q2 h5.1
      have hrun := run_append_nil (P := P) w t o.type e i z ht hi hz ⟨b, off, none⟩ m c' (cs'.extract off (off + m * i.size)).toList (by
          rw [Array.length_toList, Array.size_extract]
          omega) (fun j v hj => by
          rw [Addr.add_lit, cell_of_row w b _ cs' _ _ h4]
          rw [Array.getElem?_toList, Array.getElem?_extract] at hj
          split at hj
          · exact hj
          · cases hj) (by omega) (by omega) q4
      rw [hrun]
      obtain ⟨hle, hh⟩ := hm.drew.new (a := mm.c) (o := .cells (cs.extract off (off + m * i.size)) e (0, 0)) (o' := .cells ((cs'.extract off (off + m * i.size)).toList.toArray ++ Builtin.zeroCells z.cells (grownCap w m 0 e - m)) e (0, 0)) q6
        ⟨rfl, _, rfl, by
          simp only [Array.toArray_toList]
          refine ⟨by simp only [Array.size_append, Array.size_extract]; omega, fun j v hj => ?_⟩
          rw [Array.getElem?_extract] at hj
          split at hj
          · rename_i hlt
            have hlt' : j < (cs'.extract off (off + m * i.size)).size := by rw [Array.size_extract]; omega
            obtain ⟨v', g1, g2⟩ := h5.2 _ _ hj
            refine ⟨v', ?_, g2⟩
            rw [Array.getElem?_append_left hlt', Array.getElem?_extract, if_pos (by omega)]
            exact g1
          · cases hj⟩ hb
      have hge := grownCap_ge w m 0 e
      refine hk _ _ _ hle (.sl 0 m (by simp [NF.put]) (Nat.le_refl _) hge) hh ((Kept.drew (Kept.refl base w)).alloc hb _)
end
end Go.Proofs.YtmodghiokoiipaaGreat

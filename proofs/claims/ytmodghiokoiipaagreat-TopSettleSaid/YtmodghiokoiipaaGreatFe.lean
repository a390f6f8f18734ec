/-
  The executor: calls that are known.
-/
import Derived.Test.YtmodghiokoiipaaGreatFd
namespace Go.Proofs.YtmodghiokoiipaaGreat
open Go Go.RowKit
set_option linter.unusedVariables false
set_option linter.unusedSimpArgs false

/-- A call and what it gives; o: the memory behind it, if it has changed. -/
structure E where
  f : Nat
  args : Array Value
  h : List (Nat × Obj)
  c : Nat
  v : Value
  o : Option (List (Nat × Obj))
  d : Nat
def E.post (e : E) : List (Nat × Obj) := match e.o with
  | some h => h
  | none => e.h
def stOf (st : Nat) : Option (List (Nat × Obj)) → Nat
  | some _ => st + 1
  | none => st
def E.hits (e : E) (f : Nat) (args : Array Value) (m : AH) : Bool := Nat.beq e.f f && (Nat.beq e.c m.c && (eqLs (eqV 8) e.args.toList args.toList && eqH e.h m.h))
def lookE : List E → CFn
  | [], _, _, _ => none
  | e :: l, f, args, m => match e.hits f args m with
    | true => some (e.v, ⟨e.post, e.d, stOf m.st e.o⟩)
    | false => lookE l f args m
def ckRes (e : E) : Option (Value × AH) → Bool
  | some (v, m) => eqV 8 v e.v && (Nat.beq m.c e.d && (match e.o with
    | some h => eqH m.h h
    | none => Nat.beq m.st 0))
  | none => false
section
variable (P : Program)
def E.Ok (e : E) : Prop := ∀ base g args' w, HR g base e.h w → Old base w → PwR g e.args args' → Gives P base g e.f args' w e.v ⟨e.post, e.d, 0⟩
def drP : CFn → Array Oper → FS → Option FS := fun cf => drRun P cf (apStep P)
def ckE (N : Nat) (l : List E) (e : E) : Bool := match P.funcs[e.f]? with
  | some fn => ckRes e (callBody P (apStep P) (drP P) N (callF (lookE l)) fn e.args ⟨e.h, e.c, 0⟩)
  | none => false
def ckS (X : SR) (gf N : Nat) (l : List E) (e : E) : Bool := ckRes e (srF P (callF (lookE l)) (apStep P) X gf N e.args ⟨e.h, e.c, 0⟩)
end
section
variable {P : Program}
theorem lookE_cf : ∀ {l : List E}, (∀ e ∈ l, e.Ok P) → CF P (lookE l)
  | [], h => fun base f args m v m' hl => by cases hl
  | e :: l, h => fun base f args m v m' hl g args' w hm hb ha => by
    unfold lookE at hl
    split at hl
    · rename_i hh
      cases hl
      unfold E.hits at hh
      simp only [Bool.and_eq_true] at hh
      obtain ⟨h1, h2, h3, h4⟩ := hh
      have h1 := Nat.eq_of_beq_eq_true h1
      have h3 : e.args = args := Array.ext' (eqLs_sound (eqV_sound 8) _ _ h3)
      have h4 := eqH_sound _ _ h4
      subst h1 h3
      exact h e List.mem_cons_self base g args' w (by rw [h4]; exact hm) hb ha
    · exact lookE_cf (fun x hx => h x (List.mem_cons_of_mem _ hx)) base f args m v m' hl g args' w hm hb ha
theorem lookE_turns : ∀ {l : List E}, CT (lookE l)
  | [], f, args, m, v, m', hl => by cases hl
  | e :: l, f, args, m, v, m', hl => by
    unfold lookE at hl
    split at hl
    · rename_i hh
      cases hl
      unfold E.hits at hh
      simp only [Bool.and_eq_true] at hh
      have h4 := eqH_sound _ _ hh.2.2.2
      cases ho : e.o with
      | none => exact ⟨Nat.le_refl _, fun _ => by show e.post = m.h; unfold E.post; rw [ho, ← h4]⟩
      | some h => exact Turns.up rfl
    · exact lookE_turns (l := l) f args m v m' hl
theorem ck_ok {e : E} {r : Option (Value × AH)} (h : ckRes e r = true) (ht : ∀ v m, r = some (v, m) → Turns ⟨e.h, e.c, 0⟩ m) : ∃ m, r = some (e.v, m) ∧ m.h = e.post := by
  unfold ckRes at h
  split at h
  · rename_i v m
    simp only [Bool.and_eq_true] at h
    obtain ⟨h1, h2, h3⟩ := h
    refine ⟨m, by rw [eqV_sound _ _ _ h1], ?_⟩
    unfold E.post
    split at h3
    · exact eqH_sound _ _ h3
    · exact (ht v m rfl).2 (Nat.eq_of_beq_eq_true h3)
  · cases h
theorem E.ok_of (hm : P.follows .mixedOrders = true) (hz : PZ P) {N : Nat} {l : List E} (hl : ∀ x ∈ l, x.Ok P) {e : E} (h : ckE P N l e = true) : e.Ok P := by
  intro base g args' w hh hb ha
  unfold ckE at h
  split at h <;> try (cases h; done)
  rename_i fn hf
  obtain ⟨m, h1, h2⟩ := ck_ok h fun v m hr => callBody_turns hr
  have hcf := callF_sound (lookE_cf hl) lookE_turns
  have := callBody_sound hz apStep_sound hcf (drRun_rgs hm hz hcf (callF_turns _) apStep_sound (apStep_turns P)) hf h1 hh hb ha
  unfold Gives at this ⊢
  rw [h2] at this
  exact this
theorem E.ok_sp (hz : PZ P) {X : SR} (hX : X.Ok) (h5 : okX (fun _ => false) (fun _ => false) X.o5 X.o5.toList = true) {gf N : Nat} {fo fi : Func} {l : List E} (hl : ∀ x ∈ l, x.Ok P) {e : E} (hfo : P.funcs[e.f]? = some fo) (hbo : fo.body = some (codeO X)) (hno : fo.ntmps = 17) (hro : fo.results = #[.cell 4 204])
    (hf : P.funcs[gf]? = some fi) (hb : fi.body = some (codeI X)) (hnt : fi.ntmps = 23) (hres : fi.results = #[]) (heg : ∀ args w, (callFunc gf args).run P w = .ok (.enter gf args) w) (h : ckS P X gf N l e = true) : e.Ok P := by
  intro base g args' w hh hold ha
  unfold ckS at h
  obtain ⟨m, h1, h2⟩ := ck_ok h fun v m hr => srF_turns hr
  have hcf := callF_sound (lookE_cf hl) lookE_turns
  have := srF_sound hz hcf apStep_sound hX h5 hfo hbo hno hro hf hb hnt hres heg h1 hh hold ha
  unfold Gives at this ⊢
  rw [h2] at this
  exact this
end
theorem callFunc_run {P : Program} {f : FuncId} {fn : Func} (hf : P.funcs[f]? = some fn) (hb : fn.body.isNone = false) (hn : (fn.name == "runtime.NumGoroutine") = false) (args : Array Value) (w : World) : (callFunc f args).run P w = .ok (.enter f args) w := by
  unfold callFunc
  simp only [Sem.run_bind, run_program, Result.andThen_ok, hf, hn, hb]
  rfl
/-! The parts of the code. -/
def sA : Code → Code
  | .seq a _ => a
  | _ => .skip
def sB : Code → Code
  | .seq _ b => b
  | _ => .skip
def sI : Code → Code
  | .block _ c => c
  | .loop c => c
  | _ => .skip
def sF : Code → Code
  | .rangeFunc _ _ a _ => a
  | _ => .skip
def sG : Code → Code
  | .rangeFunc _ _ _ b => b
  | _ => .skip
def sO : Code → Array Oper
  | .region _ ops _ => ops
  | _ => #[]
def sR (i : Code) : Code := sI (sI (sB i))
def xOf (o i : Code) : SR := ⟨sO (sA o), sO (sA (sB o)), sO (sA (sA (sB (sB o)))), sO (sF (sI (sB (sA (sB (sB o)))))), sO (sI (sG (sI (sB (sA (sB (sB o))))))), sO (sA (sB (sB (sB o)))),
  sO (sA i), sO (sA (sR i)), sO (sA (sI (sA (sB (sB (sR i)))))), sO (sA (sB (sI (sA (sB (sB (sR i))))))), sO (sB (sB (sB (sR i)))),
  ((sO (sA (sB (sI (sA (sB (sB (sR i))))))))[5]?).getD default, ((sO (sA (sB (sI (sA (sB (sB (sR i))))))))[7]?).getD default⟩
end Go.Proofs.YtmodghiokoiipaaGreat

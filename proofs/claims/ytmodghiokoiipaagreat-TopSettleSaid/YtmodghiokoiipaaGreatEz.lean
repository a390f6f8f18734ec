/-
  The executor: the function with a range over a function.
-/
import Derived.Test.YtmodghiokoiipaaGreatEy
namespace Go.Proofs.YtmodghiokoiipaaGreat
open Go Go.RowKit
set_option linter.unusedVariables false
set_option linter.unusedSimpArgs false

/-! Straight lines that do not look at certain slots. -/
section
variable {P : Program} {base : PS} {n : Nat}
structure RSX (ds : List Deferred) (X Y : Nat → Bool) (yv : Value) (f : NF) (base : PS) (S : FS) (a : Act) (w : World) : Prop where
  n : S.r.n = a.tmps.size
  k : S.r.n ≤ 2 ^ S.r.k
  get : ∀ d, X d = false → VR f (S.r.get d) (a.tmps.getD d undef)
  fx : ∀ d, Y d = true → a.tmps.getD d undef = yv
  mem : HR f base S.m.h w
  dn : a.defers = ds
  hb : Old base w
def seeX (X : Nat → Bool) (ops : Array Oper) (o : Oper) : Bool :=
  o.op.operands.all (fun x => match x with | .tmp t => !X t | _ => true) && (match o.guard with
    | some (g, _) => match (ops[g]?).bind (·.dst) with
      | some d => !X d
      | none => true
    | none => true)
def dstX (Y : Nat → Bool) (o : Oper) : Bool := match o.dst with
  | some d => !Y d
  | none => true
def okX (X Y : Nat → Bool) (ops : Array Oper) : List Oper → Bool
  | [] => true
  | o :: l => (!isDefer o.op) && (seeX X ops o && (dstX Y o && okX X Y ops l))
theorem seeX_sees {X : Nat → Bool} {ops : Array Oper} {o : Oper} (h : seeX X ops o = true) {t : Nat} (ht : Sees ops o t) : X t = false := by
  unfold seeX at h
  rw [Bool.and_eq_true] at h
  rcases ht with ht | ⟨g, b, hg, hd⟩
  · have := Array.all_eq_true_iff_forall_mem.1 h.1 _ ht
    simpa using this
  · have := h.2
    rw [hg] at this
    dsimp only at this
    rw [hd] at this
    simpa using this
theorem RSX.put {ds : List Deferred} {X Y : Nat → Bool} {yv : Value} {f : NF} {S : FS} {a : Act} {w w' : World} {g : NF} {m : AH} (h : RSX ds X Y yv f base S a w) (hl : NF.le f g) {o : Oper} (hd : dstX Y o = true) {v v' : Value} (hv : VR g v v') (hm : HR g base m.h w') (hb : Old base w') :
    RSX ds X Y yv g base ⟨S.r.put o.dst v, m⟩ (a.put o.dst v') w' := by
  refine ⟨by dsimp only; rw [Rg.put_n, put_size]; exact h.n, by dsimp only; rw [Rg.put_n, Rg.put_k]; exact h.k, fun d hx => ?_, fun d hy => ?_, hm, by rw [put_defers]; exact h.dn, hb⟩
  · dsimp only
    rw [Rg.put_get _ h.k, getD_put, h.n]
    split
    · exact hv
    · exact (h.get d hx).mono hl
  · rw [getD_put, if_neg, h.fx d hy]
    rintro ⟨x, _⟩
    unfold dstX at hd
    rw [x] at hd
    dsimp only at hd
    rw [hy] at hd
    cases hd
theorem runX_in {ds : List Deferred} {X Y : Nat → Bool} {yv : Value} {F : Fence} (hF : Wd F) (hz : PZ P) {cf : CFn} (hcf : CF P cf) {ap : AP} (hap : APS P ap) (ops : Array Oper) (r : List Oper) : ∀ (l : List Oper) (i : Nat) (S S' : FS) (f : NF) (a : Act) (w : World), ops.toList.drop i = l ++ r → okX X Y ops l = true → RSX ds X Y yv f base S a w → runL P cf ap ops l S = some S' →
    ∀ (Q : Exit → Act → World → Prop), (∀ g a' w', NF.le f g → RSX ds X Y yv g base S' a' w' → Kept base w w' → wpOpsIn F n P ops Q (List.range' (i + l.length) r.length) a' w') → wpOpsIn F n P ops Q (List.range' i (l ++ r).length) a w
  | [], i, S, S', f, a, w, hd, hnd, hs, hr, Q, hk => by
    cases hr
    simpa using hk f a w (NF.le_refl f) hs (Kept.refl _ _)
  | o :: l, i, S, S', f, a, w, hd, hnd, hs, hr, Q, hk => by
    have ho : ops[i]? = some o := by
      have := congrArg (fun x => x[0]?) hd
      simpa using this
    have hd2 : ops.toList.drop (i + 1) = l ++ r := by
      have := congrArg (List.drop 1) hd
      rw [List.drop_drop] at this
      simpa using this
    simp only [okX, Bool.and_eq_true, Bool.not_eq_true'] at hnd
    obtain ⟨n1, n2, n3, n4⟩ := hnd
    unfold runL at hr
    split at hr
    · rename_i v m hv
      have next : ∀ g v' w', NF.le f g → VR g v v' → HR g base m.h w' → Kept base w w' → wpOpsIn F n P ops Q (List.range' (i + 1) (l ++ r).length) (a.put o.dst v') w' := by
        intro g v' w' h1 h2 h3 h4
        refine runX_in hF hz hcf hap ops r l (i + 1) _ S' g _ w' hd2 n4 (hs.put h1 n3 h2 h3 (hs.hb.mono h4)) hr Q fun g2 a2 w2 k1 k2 k3 => ?_
        have := hk g2 a2 w2 (NF.le_trans h1 k1) k2 (h4.trans k3)
        rw [List.length_cons, ← Nat.add_assoc, Nat.add_right_comm] at this
        exact this
      have key := svW_sound hz hcf hap ho hs.mem hs.hb (fun t ht => hs.get t (seeX_sees n2 ht)) hv (K := fun a w => wpOpsIn F n P ops Q (List.range' (i + 1) (l ++ r).length) a w) (Q := fun _ _ _ => False) next
      rw [List.cons_append, List.length_cons, List.range'_succ]
      unfold wpOpsIn
      unfold wpOp at key
      rw [ho] at key ⊢
      dsimp only at key ⊢
      split at key
      · rename_i hw
        rw [if_pos hw]
        rcases key with key | ⟨_, _, _, x⟩
        · exact op_in hF n1 key
        · exact x.elim
      · rename_i hw
        rw [if_neg hw]
        exact ⟨fun f _ => hF.fn f, key⟩
    · cases hr
theorem regionX {ds : List Deferred} {X Y : Nat → Bool} {yv : Value} (hz : PZ P) {cf : CFn} (hcf : CF P cf) {ap : AP} (hap : APS P ap) {id : Nat} {ops : Array Oper} (hnd : okX X Y ops ops.toList = true) {S S' : FS} {f : NF} {a : Act} {w : World} (hs : RSX ds X Y yv f base S a w) (hr : runL P cf ap ops ops.toList S = some S')
    {Q : Exit → Act → World → Prop} (hk : ∀ g a' w', NF.le f g → RSX ds X Y yv g base S' a' w' → Kept base w w' → Q .normal a' w') : (Code.region id ops false).wp P Q a w := by
  have := runX_in (base := base) (n := 0) Wd.wide hz hcf hap ops [] ops.toList 0 S S' f a w (by simp) hnd hs hr Q fun g a' w' h1 h2 h3 => hk g a' w' h1 h2 h3
  rw [List.append_nil, Array.length_toList, ← List.range_eq_range'] at this
  exact wpIn_wide.1 (wpIn_region this)
end
theorem runL_n {P : Program} {cf : CFn} {ap : AP} {ops : Array Oper} : ∀ {l : List Oper} {S S' : FS}, runL P cf ap ops l S = some S' → S'.r.n = S.r.n
  | [], S, S', h => by cases h; rfl
  | o :: l, S, S', h => by
    unfold runL at h
    split at h
    · rw [runL_n h, Rg.put_n]
    · cases h
/-! The run over names. -/
structure SR where
  o0 : Array Oper
  o1 : Array Oper
  o2 : Array Oper
  o3 : Array Oper
  o4 : Array Oper
  o5 : Array Oper
  i0 : Array Oper
  i1 : Array Oper
  i2 : Array Oper
  i3 : Array Oper
  i4 : Array Oper
  om : Oper
  oy : Oper
def codeO (X : SR) : Code := .seq (.region 0 X.o0 false) (.seq (.region 1 X.o1 false) (.seq (.seq (.region 2 X.o2 false) (.block 0 (.rangeFunc (.tmp 10) #[11] (.region 3 X.o3 false) (.block 1 (.region 4 X.o4 false))))) (.seq (.region 5 X.o5 false) .ret)))
def codeR (X : SR) : Code := .seq (.region 1 X.i1 false) (.seq (.cond (.tmp 9) .skip (.exit 0)) (.seq (.block 1 (.seq (.region 2 X.i2 false) (.seq (.region 3 X.i3 false) (.cond (.tmp 21) .ret .skip)))) (.region 4 X.i4 false)))
def codeI (X : SR) : Code := .seq (.region 0 X.i0 false) (.block 0 (.loop (codeR X)))
def X0 (d : Nat) : Bool := Nat.beq d 0 || Nat.beq d 17
def Y0 (d : Nat) : Bool := Nat.beq d 0
section
variable (P : Program) (cf : CFn) (ap : AP) (X : SR) (Rb : Rg)
def bodyRun (v : Value) (m : AH) : Option AH := match runL P cf ap X.o3 X.o3.toList ⟨Rb.put (some 11) v, m⟩ with
  | some B1 => match runL P cf ap X.o4 X.o4.toList B1 with
    | some B2 => some B2.m
    | none => none
  | none => none
def itTail (S : FS) : Option FS := match runL P cf ap X.i3 (X.i3.toList.drop 8) S with
  | some S5 => match S5.r.get 21 with
    | .bool false => runL P cf ap X.i4 X.i4.toList S5
    | _ => none
  | none => none
def itMid (S : FS) : Option FS := match runL P cf ap X.i3 (X.i3.toList.take 5) S with
  | some S3 => match ydL X.i3 S3.r.get 4 with
    | some true => match runL P cf ap X.i3 ((X.i3.toList.drop 6).take 1) S3 with
      | some S4 => match ydL X.i3 S4.r.get 4 with
        | some true => match bodyRun P cf ap X Rb (S4.r.get 18) S4.m with
          | some m => itTail P cf ap X ⟨S4.r.put (some 19) (.bool true), m⟩
          | none => none
        | _ => none
      | none => none
    | _ => none
  | none => none
def itRun : Nat → FS → Option FS
  | 0, _ => none
  | n + 1, S => match runL P cf ap X.i1 X.i1.toList S with
    | some S1 => match S1.r.get 9 with
      | .bool false => some S1
      | .bool true => match runL P cf ap X.i2 X.i2.toList S1 with
        | some S2 => match itMid P cf ap X Rb S2 with
          | some S3 => itRun n S3
          | none => none
        | none => none
      | _ => none
    | none => none
end
end Go.Proofs.YtmodghiokoiipaaGreat

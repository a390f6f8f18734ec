/-
  TopSettle: texts joined (by joint.py).
-/
import Derived.Test.YtmodghiokoiipaaGreatEz

/-!
  The executor: one round of the range over a function.
-/
namespace Go.Proofs.YtmodghiokoiipaaGreat
open Go Go.RowKit
set_option linter.unusedVariables false
set_option linter.unusedSimpArgs false

section
variable {P : Program} {base : PS} {n : Nat}
theorem HR.putObj {f : NF} {H : List (Nat × Obj)} {w : World} (h : HR f base H w) {l : Nat} (hl : base l) (o : Obj) : HR f base H (w.putObj l o) := by
  refine ⟨fun a b ob ha ho => ?_, fun a b ha => ?_, h.inj⟩
  · obtain ⟨_, d2, _⟩ := h.dom a b ha
    rw [World.putObj_heap_other (fun e => d2 (by rw [e]; exact hl))]
    exact h.get a b ob ha ho
  · obtain ⟨d1, d2, d3⟩ := h.dom a b ha
    exact ⟨d1, d2, by simpa [World.putObj] using d3⟩
theorem Old.putObj {w : World} (h : Old base w) (l : Nat) (o : Obj) : Old base (w.putObj l o) := fun b hb => by simpa [World.putObj] using h b hb
theorem Kept.putObj {a w : World} (h : Kept base a w) {l : Nat} (hl : ¬ base l) (o : Obj) : Kept base a (w.putObj l o) :=
  h.trans ⟨rfl, rfl, rfl, by simp [World.putObj], fun k hk => World.putObj_heap_other (fun e => hl (e ▸ hk))⟩
/-- The blocks of base, and two more. -/
def B1 (base : PS) (l D : Nat) : PS := fun b => base b ∨ b = l ∨ b = D
theorem Kept.of1 {l D : Nat} {a w : World} (h : Kept (B1 base l D) a w) : Kept base a w := ⟨h.os, h.tape, h.output, h.size, fun k hk => h.block k (.inl hk)⟩
/-- The loop's record and the block of the deferred calls. -/
structure Side (l D : Nat) (rec : Loop) (W : World) : Prop where
  hl : W.heap[l]? = some (.loop rec)
  hD : W.heap[D]? = some (.deferred (some []))
theorem Side.kept {l D : Nat} {rec : Loop} {W W' : World} (h : Side l D rec W) (k : Kept (B1 base l D) W W') : Side l D rec W' :=
  ⟨by rw [k.block l (.inr (.inl rfl))]; exact h.hl, by rw [k.block D (.inr (.inr rfl))]; exact h.hD⟩
/-- The record of the loop, in a state. -/
def recOf (X : SR) (fn : FuncId) (tmps : Array Value) (D : Nat) (st : LoopState) : Loop := { state := st, pending := none, fn := fn, tmps := tmps, params := #[11], assign := .region 3 X.o3 false, body := .block 1 (.region 4 X.o4 false), defers := D }
theorem round_ok (hz : PZ P) {cf : CFn} (hcf : CF P cf) {ap : AP} (hap : APS P ap) {X : SR} (h3 : noDefer X.o3.toList = true) (h4 : noDefer X.o4.toList = true) {l D fn : Nat} (hlD : l ≠ D) (hnl : ¬ base l) {tm : Array Value} {g : NF} {Rb : Rg} (hR : RgR g Rb tm)
    {v v' : Value} (hv : VR g v v') {m m' : AH} {W : World} (hm : HR g (B1 base l D) m.h W) (ho : Old (B1 base l D) W) (hS : Side l D (recOf X fn tm D .ready) W) (hr : bodyRun P cf ap X Rb v m = some m') :
    RoundIn Fence.wide n P l fn ((Act.mk tm []).put (some 11) v').tmps (.region 3 X.o3 false) (.block 1 (.region 4 X.o4 false)) W fun e W' => e = .returned (.bool true) ∧ ∃ g', NF.le g g' ∧ HR g' (B1 base l D) m'.h W' ∧ Old (B1 base l D) W' ∧ Kept base W W' ∧ Side l D (recOf X fn tm D .ready) W' := by
  unfold bodyRun at hr
  split at hr <;> try (cases hr; done)
  rename_i S1 e1
  split at hr <;> try (cases hr; done)
  rename_i S2 e2
  cases hr
  have st : RS g (B1 base l D) ⟨Rb.put (some 11) v, m⟩ { tmps := ((Act.mk tm []).put (some 11) v').tmps, defers := [] } W := ⟨RgR.put (a := Act.mk tm []) hR (some 11) hv, hm, rfl, ho⟩
  refine roundIn_of_wpIn trivial (region_in (Wd.round l) hz hcf hap h3 st e1 fun g1 a1 w1 k1 k2 k3 => ?_)
  have s1 := hS.kept k3
  refine ⟨_, run_beginRound s1.hl rfl, wpIn_block ?_⟩
  have lt1 : l < w1.heap.size := (Array.getElem?_eq_some_iff.1 s1.hl).1
  have st2 : RS g1 (B1 base l D) S1 a1 (w1.putObj l (.loop { recOf X fn tm D .ready with state := .busy })) := ⟨k2.regs, k2.mem.putObj (.inr (.inl rfl)) _, k2.dn, k2.hb.putObj _ _⟩
  refine region_in (Wd.round l) hz hcf hap h4 st2 e2 fun g2 a2 w2 q1 q2 q3 => ?_
  have hl2 : w2.heap[l]? = some (.loop { recOf X fn tm D .ready with state := .busy }) := by
    rw [q3.block l (.inr (.inl rfl))]
    exact World.putObj_heap_same lt1
  have hD2 : w2.heap[D]? = some (.deferred (some [])) := by
    rw [q3.block D (.inr (.inr rfl)), World.putObj_heap_other (fun e => hlD e.symm)]
    exact s1.hD
  have lt2 : l < w2.heap.size := (Array.getElem?_eq_some_iff.1 hl2).1
  refine ⟨_, _, run_endRound none hl2, rfl, g2, NF.le_trans k1 q1, q2.mem.putObj (.inr (.inl rfl)) _, q2.hb.putObj _ _, ?_, ⟨World.putObj_heap_same lt2, by rw [World.putObj_heap_other (fun e => hlD e.symm)]; exact hD2⟩⟩
  exact (((k3.of1).putObj hnl _).trans q3.of1).putObj hnl _
end
end Go.Proofs.YtmodghiokoiipaaGreat

/-!
  The executor: the iterator of the range over a function.
-/
namespace Go.Proofs.YtmodghiokoiipaaGreat
open Go Go.RowKit
set_option linter.unusedVariables false
set_option linter.unusedSimpArgs false

/-- What is asked of the code. -/
structure SR.Ok (X : SR) : Prop where
  h3 : noDefer X.o3.toList = true
  h4 : noDefer X.o4.toList = true
  k0 : okX X0 Y0 X.i0 X.i0.toList = true
  k1 : okX X0 Y0 X.i1 X.i1.toList = true
  k2 : okX X0 Y0 X.i2 X.i2.toList = true
  k4 : okX X0 Y0 X.i4 X.i4.toList = true
  k3a : okX X0 Y0 X.i3 (X.i3.toList.take 5) = true
  k3b : okX X0 X0 X.i3 ((X.i3.toList.drop 6).take 1) = true
  k3c : okX X0 Y0 X.i3 (X.i3.toList.drop 8) = true
  sz : X.i3.size = 10
  e5 : X.i3[5]? = some X.om
  e7 : X.i3[7]? = some X.oy
  m1 : X.om.op = .move (.tmp 0)
  m2 : X.om.dst = some 17
  m3 : X.om.guard = some (4, true)
  y1 : X.oy.op = .call { callee := .value (.tmp 17), args := #[.tmp 18], argTypes := #[105] }
  y2 : X.oy.dst = some 19
  y3 : X.oy.guard = some (4, true)
  d4 : (X.i3[4]?).bind (·.dst) = some 16
section
variable {P : Program} {base : PS}
theorem RSX.sub {ds : List Deferred} {X Y Y' : Nat → Bool} {yv : Value} {f : NF} {S : FS} {a : Act} {w : World} (h : RSX ds X Y yv f base S a w) (hy : ∀ d, Y' d = true → Y d = true) : RSX ds X Y' yv f base S a w := ⟨h.n, h.k, h.get, fun d hd => h.fx d (hy d hd), h.mem, h.dn, h.hb⟩
theorem wanted4 {X : SR} (hX : X.Ok) {Y : Nat → Bool} {yv : Value} {f : NF} {S : FS} {a : Act} {w : World} (h : RSX [] X0 Y yv f base S a w) (hw : ydL X.i3 S.r.get 4 = some true) {o : Oper} (ho : o.guard = some (4, true)) : Region.wanted o (yielded X.i3 a.tmps) = true := by
  have := yielded_rel (f := f) (look := S.r.get) (tmps := a.tmps) X.i3 4 (fun d hd => by
    rw [hX.d4] at hd
    cases hd
    exact h.get 16 rfl)
  unfold Region.wanted
  rw [ho]
  dsimp only
  rw [this, hw]
  rfl
theorem yield_run {X : SR} (hX : X.Ok) {l D fn : Nat} {tm : Array Value} {a : Act} {W : World} (h17 : a.tmps.getD 17 undef = .func (.yield l) #[] #[]) (hS : Side l D (recOf X fn tm D .ready) W) :
    (execOp a.eval X.oy).run P W = .ok (.round l fn ((Act.mk tm []).put (some 11) (a.tmps.getD 18 undef)).tmps (.region 3 X.o3 false) (.block 1 (.region 4 X.o4 false))) W := by
  have hy := run_yield (P := P) (args := #[a.tmps.getD 18 undef]) hS.hl rfl
  have e17 : a.eval (.tmp 17) = .func (.yield l) #[] #[] := h17
  have e18 : a.eval (.tmp 18) = a.tmps.getD 18 undef := rfl
  generalize a.tmps.getD 18 undef = u at hy e18 ⊢
  unfold execOp
  rw [hX.y1]
  simp only [resolve, e17, List.map_toArray, List.map_cons, List.map_nil, e18]
  simp [invoke, go_sem]
  rw [hy]
  simp [recOf]
theorem r3_ok (hz : PZ P) {cf : CFn} (hcf : CF P cf) {ap : AP} (hap : APS P ap) {X : SR} (hX : X.Ok) {l D fn : Nat} (hlD : l ≠ D) (hnl : ¬ base l) {tm : Array Value} {g0 g : NF} (hg : NF.le g0 g) {Rb : Rg} (hR : RgR g0 Rb tm)
    {S S' : FS} {a : Act} {W : World} (hs : RSX [] X0 Y0 (.func (.yield l) #[] #[]) g (B1 base l D) S a W) (hS : Side l D (recOf X fn tm D .ready) W) (hn : S.r.n = 23) (hr : itMid P cf ap X Rb S = some S') {Q : Exit → Act → World → Prop}
    (hk : ∀ g' a' W' S5, NF.le g g' → RSX [] X0 Y0 (.func (.yield l) #[] #[]) g' (B1 base l D) S5 a' W' → Side l D (recOf X fn tm D .ready) W' → Kept base W W' → S5.r.get 21 = .bool false → runL P cf ap X.i4 X.i4.toList S5 = some S' → Q .normal a' W') :
    (Code.region 3 X.i3 false).wp P Q a W := by
  refine wpIn_wide (n := 0).1 (wpIn_region ?_)
  unfold itMid at hr
  split at hr <;> try (cases hr; done)
  rename_i S3 e3
  split at hr <;> try (cases hr; done)
  rename_i hyd
  split at hr <;> try (cases hr; done)
  rename_i S4 e4
  split at hr <;> try (cases hr; done)
  rename_i hyd2
  split at hr <;> try (cases hr; done)
  rename_i m e5
  unfold itTail at hr
  split at hr <;> try (cases hr; done)
  rename_i S5 e6
  split at hr <;> try (cases hr; done)
  rename_i h21
  have len : X.i3.toList.length = 10 := by rw [Array.length_toList]; exact hX.sz
  have go : wpOpsIn Fence.wide 0 P X.i3 Q (List.range' 0 (X.i3.toList.take 5 ++ X.i3.toList.drop 5).length) a W := by
    refine runX_in Wd.wide hz hcf hap X.i3 _ _ 0 S S3 g a W (by simp) hX.k3a hs e3 Q fun g3 a3 w3 a1 a2 a3' => ?_
    rw [show 0 + (X.i3.toList.take 5).length = 5 by simp [len], show (X.i3.toList.drop 5).length = 5 by simp [len]]
    show wpOpsIn _ _ _ _ _ (5 :: List.range' 6 4) _ _
    have s3 := hS.kept a3'
    unfold wpOpsIn
    rw [hX.e5]
    dsimp only
    rw [if_pos (wanted4 hX a2 hyd hX.m3)]
    refine op_in Wd.wide (by rw [hX.m1]; rfl) ?_
    unfold Oper.wp execOp
    rw [hX.m1]
    show wpOpsIn _ _ _ _ _ (List.range' 6 4) (a3.put X.om.dst (a3.eval (.tmp 0))) w3
    rw [show a3.eval (.tmp 0) = .func (.yield l) #[] #[] from a2.fx 0 rfl, hX.m2]
    have n3 : S3.r.n = 23 := by rw [runL_n e3, hn]
    have t3 : RSX [] X0 X0 (.func (.yield l) #[] #[]) g3 (B1 base l D) S3 (a3.put (some 17) (.func (.yield l) #[] #[])) w3 := by
      refine ⟨by rw [put_size]; exact a2.n, a2.k, fun d hd => ?_, fun d hd => ?_, a2.mem, by rw [put_defers]; exact a2.dn, a2.hb⟩
      · rw [getD_put, if_neg]
        · exact a2.get d hd
        · rintro ⟨x, _⟩
          cases x
          cases hd
      · rw [getD_put]
        by_cases h17 : d = 17
        · subst h17
          rw [if_pos ⟨rfl, by rw [← a2.n, n3]; omega⟩]
        · rw [if_neg (fun x => h17 (Option.some.inj x.1).symm)]
          refine a2.fx d ?_
          unfold X0 at hd
          unfold Y0
          rw [Bool.or_eq_true] at hd
          rcases hd with hd | hd
          · exact hd
          · exact absurd (Nat.eq_of_beq_eq_true hd) h17
    have go2 : wpOpsIn Fence.wide 0 P X.i3 Q (List.range' 6 ((X.i3.toList.drop 6).take 1 ++ X.i3.toList.drop 7).length) (a3.put (some 17) (.func (.yield l) #[] #[])) w3 := by
      refine runX_in Wd.wide hz hcf hap X.i3 _ _ 6 S3 S4 g3 _ w3 ?_ hX.k3b t3 e4 Q fun g4 a4 w4 b1 b2 b3 => ?_
      · rw [show X.i3.toList.drop 7 = (X.i3.toList.drop 6).drop 1 by rw [List.drop_drop], List.take_append_drop]
      rw [show 6 + ((X.i3.toList.drop 6).take 1).length = 7 by simp [len], show (X.i3.toList.drop 7).length = 3 by simp [len]]
      show wpOpsIn _ _ _ _ _ (7 :: List.range' 8 2) _ _
      have s4 := s3.kept b3
      unfold wpOpsIn
      rw [hX.e7]
      dsimp only
      rw [if_pos (wanted4 hX b2 hyd2 hX.y3)]
      unfold Oper.wpIn
      refine ⟨fun f _ => trivial, ?_⟩
      rw [Oper.semAt_plain _ _ _ (fun c e => by rw [hX.y1] at e; cases e), yield_run hX (b2.fx 17 rfl) s4, Oper.uponIn_round]
      refine ⟨(fun x => by cases x), ?_⟩
      refine RoundIn.mono (round_ok hz hcf hap hX.h3 hX.h4 hlD hnl (hR.mono (NF.le_trans hg (NF.le_trans a1 b1))) (b2.get 18 rfl) b2.mem b2.hb s4 e5) ?_
      rintro e W5 ⟨rfl, g5, c1, c2, c3, c4, c5⟩
      show wpOpsIn _ _ _ _ _ (List.range' 8 2) (a4.put X.oy.dst (.bool true)) W5
      rw [hX.y2]
      have t5 : RSX [] X0 Y0 (.func (.yield l) #[] #[]) g5 (B1 base l D) ⟨S4.r.put (some 19) (.bool true), m⟩ (a4.put (some 19) (.bool true)) W5 := by
        have := (b2.sub (Y' := Y0) (fun d hd => by unfold Y0 at hd; unfold X0; rw [hd]; rfl)).put c1 (o := X.oy) (by unfold dstX; rw [hX.y2]; rfl) (.bool true) c2 c3
        rw [hX.y2] at this
        exact this
      have go3 : wpOpsIn Fence.wide 0 P X.i3 Q (List.range' 8 (X.i3.toList.drop 8 ++ []).length) (a4.put (some 19) (.bool true)) W5 := by
        refine runX_in Wd.wide hz hcf hap X.i3 _ _ 8 _ S5 g5 _ W5 (by simp) hX.k3c t5 e6 Q fun g6 a6 w6 d1 d2 d3 => ?_
        exact hk g6 a6 w6 S5 (NF.le_trans a1 (NF.le_trans b1 (NF.le_trans c1 d1))) d2 (c5.kept d3) (((a3'.of1.trans b3.of1).trans c4).trans d3.of1) h21 hr
      rw [show (X.i3.toList.drop 8 ++ ([] : List Oper)).length = 2 by simp [len]] at go3
      exact go3
    rw [show ((X.i3.toList.drop 6).take 1 ++ X.i3.toList.drop 7).length = 4 by simp [len]] at go2
    exact go2
  rw [List.take_append_drop, len, ← hX.sz, ← List.range_eq_range'] at go
  exact go
end
end Go.Proofs.YtmodghiokoiipaaGreat

/-!
  The executor: the function with a range over a function.
-/
namespace Go.Proofs.YtmodghiokoiipaaGreat
open Go Go.RowKit
set_option linter.unusedVariables false
set_option linter.unusedSimpArgs false

theorem itMid_n {P : Program} {cf : CFn} {ap : AP} {X : SR} {Rb : Rg} {S S' : FS} (h : itMid P cf ap X Rb S = some S') : S'.r.n = S.r.n := by
  unfold itMid at h
  split at h <;> try (cases h; done)
  rename_i S3 e3
  split at h <;> try (cases h; done)
  split at h <;> try (cases h; done)
  rename_i S4 e4
  split at h <;> try (cases h; done)
  split at h <;> try (cases h; done)
  unfold itTail at h
  split at h <;> try (cases h; done)
  rename_i S5 e5
  split at h <;> try (cases h; done)
  rw [runL_n h, runL_n e5]
  dsimp only
  rw [Rg.put_n, runL_n e4, runL_n e3]
section
variable {P : Program} {base : PS}
theorem it_rounds (hz : PZ P) {cf : CFn} (hcf : CF P cf) {ap : AP} (hap : APS P ap) {X : SR} (hX : X.Ok) {l D fn : Nat} (hlD : l ≠ D) (hnl : ¬ base l) {tm : Array Value} {g0 : NF} {Rb : Rg} (hR : RgR g0 Rb tm) : ∀ (n : Nat) (S S' : FS) (g : NF) (a : Act) (W : World), NF.le g0 g →
    RSX [] X0 Y0 (.func (.yield l) #[] #[]) g (B1 base l D) S a W → Side l D (recOf X fn tm D .ready) W → S.r.n = 23 → itRun P cf ap X Rb n S = some S' → ∀ (Q : Exit → Act → World → Prop),
    (∀ g' a' W', NF.le g g' → RSX [] X0 Y0 (.func (.yield l) #[] #[]) g' (B1 base l D) S' a' W' → Side l D (recOf X fn tm D .ready) W' → Kept base W W' → Q (.exit 0) a' W') → Code.rounds P (codeR X) Q n a W
  | 0, S, S', g, a, W, hg, hs, hS, hn, hr, Q, hk => by cases hr
  | n + 1, S, S', g, a, W, hg, hs, hS, hn, hr, Q, hk => by
    rw [rounds_succ]
    unfold itRun at hr
    split at hr <;> try (cases hr; done)
    rename_i S1 e1
    unfold codeR
    refine wp_seq (regionX hz hcf hap hX.k1 hs e1 fun g1 a1 w1 b1 b2 b3 => ?_)
    have s1 := hS.kept b3
    have hv := b2.get 9 rfl
    show (Code.seq _ _).wp P _ a1 w1
    refine wp_seq ?_
    split at hr <;> try (cases hr; done)
    · rename_i h9
      cases hr
      rw [h9] at hv
      generalize hx : a1.tmps.getD 9 undef = u at hv
      cases hv
      exact wp_cond_false hx (wp_exit (hk g1 a1 w1 b1 b2 s1 b3.of1))
    · rename_i h9
      rw [h9] at hv
      generalize hx : a1.tmps.getD 9 undef = u at hv
      cases hv
      refine wp_cond_true hx (wp_skip ?_)
      split at hr <;> try (cases hr; done)
      rename_i S2 e2
      split at hr <;> try (cases hr; done)
      rename_i S3 e3
      show (Code.seq _ _).wp P _ a1 w1
      refine wp_seq (wp_block (wp_seq (regionX hz hcf hap hX.k2 b2 e2 fun g2 a2 w2 c1 c2 c3 => ?_)))
      have s2 := s1.kept c3
      show (Code.seq _ _).wp P _ a2 w2
      refine wp_seq (r3_ok hz hcf hap hX hlD hnl (NF.le_trans hg (NF.le_trans b1 c1)) hR c2 s2 (by rw [runL_n e2, runL_n e1, hn]) e3 fun g3 a3 w3 S5 d1 d2 d3 d4 d5 d6 => ?_)
      have hv3 := d2.get 21 rfl
      rw [d5] at hv3
      generalize hx3 : a3.tmps.getD 21 undef = u3 at hv3
      cases hv3
      show (Code.cond _ _ _).wp P _ a3 w3
      refine wp_cond_false hx3 (wp_skip ?_)
      show (Code.region 4 X.i4 false).wp P _ a3 w3
      refine regionX hz hcf hap hX.k4 d2 d6 fun g4 a4 w4 p1 p2 p3 => ?_
      have n3 : S3.r.n = 23 := by rw [itMid_n e3, runL_n e2, runL_n e1, hn]
      refine it_rounds hz hcf hap hX hlD hnl hR n S3 S' g4 a4 w4 (NF.le_trans hg (NF.le_trans b1 (NF.le_trans c1 (NF.le_trans d1 p1)))) p2 (d3.kept p3) n3 hr Q fun g5 a5 w5 q1 q2 q3 q4 => ?_
      exact hk g5 a5 w5 (NF.le_trans b1 (NF.le_trans c1 (NF.le_trans d1 (NF.le_trans p1 q1)))) q2 q3 ((((b3.of1.trans c3.of1).trans d4).trans p3.of1).trans q4)
theorem getD_first (x y : Value) (A B : Array Value) (d : Nat) (hd : d ≠ 0) : ((#[x] ++ A) ++ B).getD d undef = ((#[y] ++ A) ++ B).getD d undef := by
  rw [Array.getD_eq_getD_getElem?, Array.getD_eq_getD_getElem?]
  simp only [Array.getElem?_append, Array.size_append, List.size_toArray, List.length_cons, List.length_nil]
  have h0 : ¬ d < 0 + 1 := by omega
  simp only [if_neg h0]
theorem it_ok (hz : PZ P) {cf : CFn} (hcf : CF P cf) {ap : AP} (hap : APS P ap) {X : SR} (hX : X.Ok) {gf : FuncId} {fi : Func} (hf : P.funcs[gf]? = some fi) (hb : fi.body = some (codeI X)) (hnt : fi.ntmps = 23) (hres : fi.results = #[])
    {l D fn : Nat} (hlD : l ≠ D) (hnl : ¬ base l) {tm : Array Value} {g0 g : NF} {Rb : Rg} (hR : RgR g0 Rb tm) (hg : NF.le g0 g) {N : Nat} {m : AH} {ys ys' : Array Value} (hy : PwR g ys ys') (hys : ys.size + 1 ≤ 23) {T1 T2 : FS} (e1 : runL P cf ap X.i0 X.i0.toList ⟨Rg.new 23 (#[undef] ++ ys), m⟩ = some T1) (e2 : itRun P cf ap X Rb N T1 = some T2)
    {W : World} (hm : HR g (B1 base l D) m.h W) (ho : Old (B1 base l D) W) (hS : Side l D (recOf X fn tm D .ready) W) :
    CallsIn Fence.wide 0 P gf (#[Value.func (.yield l) #[] #[]] ++ ys') W fun e W' => (∃ v, e = .returned v) ∧ ∃ g', NF.le g g' ∧ HR g' (B1 base l D) T2.m.h W' ∧ Old (B1 base l D) W' ∧ Kept base W W' ∧ Side l D (recOf X fn tm D .ready) W' := by
  refine callsIn_of_wp hf hb trivial (wpIn_wide.2 ?_)
  rw [hnt]
  have hy1 : PwR g (#[undef] ++ ys) (#[undef] ++ ys') := by
    refine ⟨by simp [hy.1], fun i v v' hv hv' => ?_⟩
    rw [Array.getElem?_append] at hv hv'
    simp only [List.size_toArray, List.length_cons, List.length_nil] at hv hv'
    by_cases hi : i < 0 + 1
    · rw [if_pos hi] at hv hv'
      obtain rfl : i = 0 := by omega
      cases hv
      cases hv'
      exact vr_undef
    · rw [if_neg hi] at hv hv'
      exact hy.2 _ v v' hv hv'
  have r0 := Rg.new_rel (f := g) (n := 23) (by simp; omega) hy1
  have st : RSX [] X0 Y0 (.func (.yield l) #[] #[]) g (B1 base l D) ⟨Rg.new 23 (#[undef] ++ ys), m⟩ { tmps := (#[Value.func (.yield l) #[] #[]] ++ ys') ++ Array.replicate (23 - (#[Value.func (.yield l) #[] #[]] ++ ys').size) undef, defers := [] } W := by
    have hsz : (#[Value.func (.yield l) #[] #[]] ++ ys').size = (#[undef] ++ ys').size := by simp
    refine ⟨?_, r0.k, fun d hd => ?_, fun d hd => ?_, hm, rfl, ho⟩
    · rw [hsz]
      have := r0.n
      rw [this]
      simp
    · have d0 : d ≠ 0 := by
        rintro rfl
        cases hd
      have := r0.get d
      rw [hsz]
      dsimp only
      rw [getD_first _ undef ys' _ d d0]
      exact this
    · obtain rfl := Nat.eq_of_beq_eq_true hd
      rw [Array.getD_eq_getD_getElem?, Array.getElem?_append, if_pos (by simp; omega), Array.getElem?_append, if_pos (by simp)]
      rfl
  unfold codeI
  refine wp_seq (regionX hz hcf hap hX.k0 st e1 fun g1 a1 w1 b1 b2 b3 => ?_)
  show (Code.block 0 _).wp P _ a1 w1
  refine wp_block (wp_loop_rounds N (it_rounds hz hcf hap hX hlD hnl hR N T1 T2 g1 a1 w1 (NF.le_trans hg b1) b2 (hS.kept b3) (by rw [runL_n e1]; exact (Rg.ofList_get _ _ _ (Nat.le_of_lt Nat.lt_log2_self)).1) e2 _ fun g2 a2 w2 c1 c2 c3 c4 => ?_))
  show Exit.inBlock 0 _ (.exit 0) a2 w2
  unfold Exit.inBlock
  dsimp only
  rw [if_pos rfl]
  exact ⟨c2.dn, .tuple #[], results_none hres _ P w2, ⟨_, rfl⟩, g2, NF.le_trans b1 c1, c2.mem, c2.hb, b3.of1.trans c4, c3⟩
end
end Go.Proofs.YtmodghiokoiipaaGreat

/-
  The executor: the function with a range over a function: its contract.
-/
import Derived.Test.YtmodghiokoiipaaGreatJg
namespace Go.Proofs.YtmodghiokoiipaaGreat
open Go Go.RowKit
set_option linter.unusedVariables false
set_option linter.unusedSimpArgs false

section
variable (P : Program) (cf : CFn) (ap : AP) (X : SR) (gf N : Nat)
def srA (args : Array Value) (m : AH) : Option FS := match Nat.ble args.size 17 with
  | true => match runL P cf ap X.o0 X.o0.toList ⟨Rg.new 17 args, m⟩ with
    | some S1 => match runL P cf ap X.o1 X.o1.toList S1 with
      | some S2 => runL P cf ap X.o2 X.o2.toList S2
      | none => none
    | none => none
  | false => none
def srI (R : Rg) (m : AH) : Value → Option FS
  | .func (.func g) xs ys => match Nat.beq g gf && (Nat.beq xs.size 0 && Nat.ble (ys.size + 1) 23) with
    | true => match runL P cf ap X.i0 X.i0.toList ⟨Rg.new 23 (#[undef] ++ ys), m⟩ with
      | some T1 => itRun P cf ap X R N T1
      | none => none
    | false => none
  | _ => none
def srB (S : FS) : Option FS := match srI P cf ap X gf N S.r S.m (S.r.get 10) with
  | some T2 => runL P cf ap X.o5 X.o5.toList ⟨S.r, T2.m⟩
  | none => none
def srF (args : Array Value) (m : AH) : Option (Value × AH) := match srA P cf ap X args m with
  | some S => match srB P cf ap X gf N S with
    | some S5 => match resV P [.cell 4 204] S5.r.get S5.m with
      | some v => gc m v S5.m
      | none => none
    | none => none
  | none => none
end
theorem srF_turns {P : Program} {cf : CFn} {ap : AP} {X : SR} {gf N : Nat} {args : Array Value} {m m' : AH} {v : Value} (h : srF P cf ap X gf N args m = some (v, m')) : Turns m m' := by
  unfold srF at h
  split at h <;> try (cases h; done)
  split at h <;> try (cases h; done)
  split at h <;> try (cases h; done)
  exact gc_turns h
section
variable {P : Program} {base : PS}
theorem HR.alloc_un {f : NF} {H : List (Nat × Obj)} {w : World} (h : HR f base H w) (o : Obj) : HR f base H (w.alloc o) := by
  refine ⟨fun a b ob ha ho => ?_, fun a b ha => ?_, h.inj⟩
  · rw [Below.heap_alloc w o b (h.dom a b ha).2.2]
    exact h.get a b ob ha ho
  · obtain ⟨d1, d2, d3⟩ := h.dom a b ha
    exact ⟨d1, d2, by simp; omega⟩
theorem HR.of1 {f : NF} {H : List (Nat × Obj)} {l D : Nat} {w : World} (h : HR f (B1 base l D) H w) : HR f base H w :=
  ⟨h.get, fun a b ha => ⟨(h.dom a b ha).1, fun x => (h.dom a b ha).2.1 (.inl x), (h.dom a b ha).2.2⟩, h.inj⟩
theorem srF_sound (hz : PZ P) {cf : CFn} (hcf : CF P cf) {ap : AP} (hap : APS P ap) {X : SR} (hX : X.Ok) (h5 : okX (fun _ => false) (fun _ => false) X.o5 X.o5.toList = true) {sp gf N : Nat} {fo fi : Func} (hfo : P.funcs[sp]? = some fo) (hbo : fo.body = some (codeO X)) (hno : fo.ntmps = 17) (hro : fo.results = #[.cell 4 204])
    (hf : P.funcs[gf]? = some fi) (hb : fi.body = some (codeI X)) (hnt : fi.ntmps = 23) (hres : fi.results = #[]) (heg : ∀ args w, (callFunc gf args).run P w = .ok (.enter gf args) w)
    {args args' : Array Value} {m m' : AH} {v : Value} (h : srF P cf ap X gf N args m = some (v, m')) {g : NF} {w : World} (hm : HR g base m.h w) (hold : Old base w) (ha : PwR g args args') : Gives P base g sp args' w v m' := by
  unfold srF at h
  split at h <;> try (cases h; done)
  rename_i S3 hA
  split at h <;> try (cases h; done)
  rename_i S5 hB
  split at h <;> try (cases h; done)
  rename_i v1 hV
  unfold srA at hA
  split at hA <;> try (cases hA; done)
  rename_i hsz
  split at hA <;> try (cases hA; done)
  rename_i S1 e1
  split at hA <;> try (cases hA; done)
  rename_i S2 e2
  unfold srB at hB
  split at hB <;> try (cases hB; done)
  rename_i T2 hI
  refine callsIn_wide (n := 0).1 (callsIn_of_wp_marks hfo hbo trivial ?_)
  rw [hno]
  have start : RS g base ⟨Rg.new 17 args, m⟩ { tmps := args' ++ Array.replicate (17 - args'.size) undef, defers := [] } w := ⟨Rg.new_rel (Nat.le_of_ble_eq_true hsz) ha, hm, rfl, hold⟩
  unfold codeO
  refine wpIn_wide.2 (wp_seq (region_sound hz hcf hap start e1 fun g1 a1 w1 b1 b2 b3 => ?_))
  show (Code.seq _ _).wp P _ a1 w1
  refine wp_seq (region_sound hz hcf hap b2 e2 fun g2 a2 w2 c1 c2 c3 => ?_)
  show (Code.seq _ _).wp P _ a2 w2
  refine wp_seq (wp_seq (region_sound hz hcf hap c2 hA fun g3 a3 w3 d1 d2 d3 => ?_))
  show (Code.block 0 _).wp P _ a3 w3
  refine wp_block (wpIn_wide (n := 0).1 (wpIn_rangeFunc ?_))
  intro fn _
  have hv10 := d2.regs.get 10
  unfold srI at hI
  split at hI <;> try (cases hI; done)
  rename_i gg xs ys h10
  split at hI <;> try (cases hI; done)
  rename_i hc
  simp only [Bool.and_eq_true] at hc
  obtain ⟨c1', c2', c3'⟩ := hc
  obtain rfl := Nat.eq_of_beq_eq_true c1'
  split at hI <;> try (cases hI; done)
  rename_i T1 i1
  rw [h10] at hv10
  generalize hx : a3.tmps.getD 10 undef = u at hv10
  cases hv10
  rename_i xs' ys' y1 y2 y3 y4
  have hxs : xs' = #[] := Array.eq_empty_of_size_eq_zero (by rw [← y1]; exact Nat.eq_of_beq_eq_true c2')
  subst hxs
  have hev : a3.eval (.tmp 10) = .func (.func gg) #[] ys' := hx
  have nl : ¬ base (w3.heap.size + 1) := fun x => by have := d2.hb _ x; omega
  have nD : ¬ base w3.heap.size := fun x => by have := d2.hb _ x; omega
  have hW1 : ((w3.alloc (.deferred (some []))).alloc (.loop (recOf X fn a3.tmps w3.heap.size .ready))).heap[w3.heap.size + 1]? = some (.loop (recOf X fn a3.tmps w3.heap.size .ready)) := by
    have := World.alloc_heap_new (w3.alloc (.deferred (some []))) (.loop (recOf X fn a3.tmps w3.heap.size .ready))
    rwa [World.size_alloc] at this
  have hK1 : ((w3.alloc (.deferred (some []))).alloc (.loop (recOf X fn a3.tmps w3.heap.size .ready))).heap[w3.heap.size]? = some (.deferred (some [])) :=
    (Below.heap_alloc _ _ _ (by simp)).trans (World.alloc_heap_new w3 _)
  have m1 : HR g3 (B1 base (w3.heap.size + 1) w3.heap.size) S3.m.h ((w3.alloc (.deferred (some []))).alloc (.loop (recOf X fn a3.tmps w3.heap.size .ready))) := by
    have q := (d2.mem.alloc_un (.deferred (some []))).alloc_un (.loop (recOf X fn a3.tmps w3.heap.size .ready))
    refine ⟨q.get, fun a b ha => ?_, q.inj⟩
    obtain ⟨t1, t2, t3⟩ := q.dom a b ha
    have t4 := (d2.mem.dom a b ha).2.2
    refine ⟨t1, ?_, t3⟩
    rintro (x | x | x)
    · exact t2 x
    · omega
    · omega
  have o1 : Old (B1 base (w3.heap.size + 1) w3.heap.size) ((w3.alloc (.deferred (some []))).alloc (.loop (recOf X fn a3.tmps w3.heap.size .ready))) := by
    rintro b (x | x | x)
    · have := d2.hb b x
      simp
      omega
    · simp
      omega
    · simp
      omega
  have kp1 : Kept base w3 ((w3.alloc (.deferred (some []))).alloc (.loop (recOf X fn a3.tmps w3.heap.size .ready))) :=
    ((Kept.refl base w3).alloc d2.hb _).alloc (d2.hb.mono ((Kept.refl base w3).alloc d2.hb _)) _
  refine ⟨w3.heap.size + 1, [{ target := .collected w3.heap.size, args := #[] }], (w3.alloc (.deferred (some []))).alloc (.loop (recOf X fn a3.tmps w3.heap.size .ready)), { target := .fn (.func gg) ys', args := #[.func (.yield (w3.heap.size + 1)) #[] #[]] }, (w3.alloc (.deferred (some []))).alloc (.loop (recOf X fn a3.tmps w3.heap.size .ready)), gg, #[.func (.yield (w3.heap.size + 1)) #[] #[]] ++ ys', (w3.alloc (.deferred (some []))).alloc (.loop (recOf X fn a3.tmps w3.heap.size .ready)),
    run_enterLoop_outer _ _ _ _ _, ?_, fun _ _ => trivial, ?_, (fun x => by cases x), ?_⟩
  · simp only [resolve, hev]
    simp [go_sem]
  · simp [invoke, go_sem, heg]
  refine (it_ok hz hcf hap hX hf hb hnt hres (by omega) nl d2.regs (NF.le_refl _) (ys' := ys') ⟨y3, y4⟩ (Nat.le_of_ble_eq_true c3') i1 hI m1 o1 ⟨hW1, hK1⟩).mono ?_
  rintro e W2 ⟨⟨u, rfl⟩, g4, f1, f2, f3, f4, f5⟩
  have lt2 : w3.heap.size + 1 < W2.heap.size := (Array.getElem?_eq_some_iff.1 f5.hl).1
  refine ⟨none, _, run_endLoop f5.hl (by simp [recOf]), ?_⟩
  show Exit.inBlock 0 _ .normal _ _
  show (Code.seq _ _).wp P _ _ _
  have st5 : RSX [{ target := .collected w3.heap.size, args := #[] }] (fun _ => false) (fun _ => false) undef g4 (B1 base (w3.heap.size + 1) w3.heap.size) ⟨S3.r, T2.m⟩ { a3 with defers := [{ target := .collected w3.heap.size, args := #[] }] ++ a3.defers } (W2.putObj (w3.heap.size + 1) (.loop { recOf X fn a3.tmps w3.heap.size .ready with state := .exhausted })) :=
    ⟨d2.regs.n, d2.regs.k, fun d _ => (d2.regs.get d).mono f1, (fun d hd => by cases hd), f2.putObj (.inr (.inl rfl)) _, (by dsimp only; rw [d2.dn]; rfl), f3.putObj _ _⟩
  refine wp_seq (regionX hz hcf hap h5 st5 hB fun g5 a5 w5 p1 p2 p3 => wp_ret ?_)
  have hD5 : w5.heap[w3.heap.size]? = some (.deferred (some [])) := by
    rw [p3.block _ (.inr (.inr rfl)), World.putObj_heap_other (by omega)]
    exact f5.hD
  show LeavesInM Fence.wide 0 P fo a5.tmps _ a5.defers .returning w5
  rw [p2.dn]
  refine ⟨by simp, .inl ⟨_, _, rfl, run_takeDeferred hD5, ?_⟩⟩
  have m6 : HR g5 (B1 base (w3.heap.size + 1) w3.heap.size) S5.m.h (w5.putObj w3.heap.size (.deferred none)) := p2.mem.putObj (.inr (.inr rfl)) _
  obtain ⟨u5, g6, r0, r1, r2, r3⟩ := resV_sound (base := B1 base (w3.heap.size + 1) w3.heap.size) (fn := fo) (tmps := a5.tmps) (by rw [hro]; exact hV) (fun d => p2.get d rfl) m6 (p2.hb.putObj _ _)
  obtain ⟨g7, k1, k2, k3⟩ := gc_sound hm (NF.le_trans b1 (NF.le_trans c1 (NF.le_trans d1 (NF.le_trans f1 (NF.le_trans p1 r0))))) r2 r3.of1 h
  refine ⟨u5, r1, g7, u5, k1, rfl, k2, k3, ?_⟩
  exact ((((((b3.trans c3).trans d3).trans kp1).trans f4).putObj nl _).trans p3.of1).putObj nD _
end
end Go.Proofs.YtmodghiokoiipaaGreat

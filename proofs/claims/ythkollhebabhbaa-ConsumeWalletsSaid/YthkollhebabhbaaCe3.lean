/-
  The chapter's example: alive answers true.
-/
import Derived.Test.YthkollhebabhbaaCe2
namespace Go.Proofs.Ythkollhebabhbaa
open Go.RowKit
set_option linter.unusedSimpArgs false
set_option linter.unusedVariables false

def exS : St := ⟨[], [⟨1, 600, -100, 0, 0⟩], []⟩
def exA : St := ⟨[], [⟨1, -100, -100, 0, 0⟩], []⟩
theorem ex_pay : exS.pay 1 1000 true = (exA, 700, 300) := by kernel_rfl
theorem ex_none : exS.pay 2 1000 true = (exS, 0, 1000) := by kernel_rfl
theorem ex_undo : exA.undo 1 [] 700 = (exS, 0) := by kernel_rfl
theorem exS_ok : StOk exS := ⟨by decide, by decide, by decide, fun x h => (by cases h), fun x h => (by obtain rfl := List.mem_singleton.1 h; exact ⟨by decide, by decide⟩), fun x h => (by cases h)⟩
theorem exA_ok : StOk exA := ⟨by decide, by decide, by decide, fun x h => (by cases h), fun x h => (by obtain rfl := List.mem_singleton.1 h; exact ⟨by decide, by decide⟩), fun x h => (by cases h)⟩

theorem OwnSt.formN {w : World} {B : Nat} {vb vw vc : Value} {s : St} (h : OwnSt w B vb vw vc s) {n1 n2 n3 : Nat} (h1 : s.bs.length = n1) (h2 : s.ws.length = n2) (h3 : s.cs.length = n3) :
    ∃ Ab Aw Ac cb cw cc, vb = .slice Ab n1 cb ∧ vw = .slice Aw n2 cw ∧ vc = .slice Ac n3 cc ∧ StIn w Ab Aw Ac cw cc s := by
  subst h1 h2 h3
  exact h.form
theorem exS_in (w : World) : StIn ((w.alloc (Obj.cells #[.int .i64 1, .int .i64 600, .int .i64 (-100), .int .i64 0, .int .i64 0] 37)).alloc (Obj.cells #[.slice none 0 0, .slice (some ⟨w.heap.size, 0, none⟩) 1 1, .slice none 0 0] 26)) none (some ⟨w.heap.size, 0, none⟩) none 1 0 exS where
  b := fun j x h => by simp [exS] at h
  s := fun j x h => by
    match j, h with
    | 0, h =>
      obtain rfl := Option.some.inj h
      refine ⟨_, _, rfl, by simp; omega, fun i v hv => ?_⟩
      have hi : i < 5 := (List.getElem?_eq_some_iff.1 hv).1
      rw [← hv]
      match i, hi with
      | 0, _ | 1, _ | 2, _ | 3, _ | 4, _ => simp [go_sem, W5.cells]
    | j + 1, h => simp [exS] at h
  c := fun j x h => by simp [exS] at h
  wn := fun h => by cases h
  cn := fun _ => rfl

set_option maxRecDepth 100000 in
set_option maxHeartbeats 2000000 in
theorem alive_any (w : World) : Calls Try.prog 9 #[] w fun e w' => e = .returned (.bool true) ∧ Below w.heap.size w w' := by
  go_enter Try.func9, Try.ntmps9
  go_wp2_with fail
  refine (pay_any exS none (some ⟨w.heap.size, 0, none⟩) none 0 1 0 1 1000 true _ exS_ok (exS_in w) ⟨by decide, by decide⟩ ⟨by decide, by decide⟩).mono ?_
  rw [ex_pay]
  rintro e w1 ⟨vb, vw, vc, rfl, os1, hb1⟩
  obtain ⟨Ab, Aw, Ac, cb, cw, cc, rfl, rfl, rfl, hin⟩ := os1.formN (n1 := 0) (n2 := 1) (n3 := 0) rfl rfl rfl
  obtain ⟨b, o, rfl, hb, x0, x1, x2, x3, x4⟩ := fives_cells (j := 0) hin.s rfl
  simp only [Nat.zero_mul, Nat.add_zero] at x0 x1 x2 x3 x4
  obtain ⟨hcc, hff⟩ := bcell hb1
  have hsz1 := hb1.size
  simp at hsz1
  have hz1 : w.heap.size < w1.heap.size := by omega
  have hz2 : w.heap.size + 1 < w1.heap.size := by omega
  have HIN := Lib.hid hin
  have HS := Lib.hid ((exS_in w).below hb1)
  have HBW := Lib.hid ((((Below.refl w.heap.size w).alloc (Nat.le_refl _) _).alloc (by simp) _).trans (hb1.mono (by simp; omega)))
  clear os1 hin hb1
  go_wp2_with fail
  refine (pay_any exS none (some ⟨w.heap.size, 0, none⟩) none 0 1 0 2 1000 true _ exS_ok (HS.out.alloc _) ⟨by decide, by decide⟩ ⟨by decide, by decide⟩).mono ?_
  rw [ex_none]
  rintro e w2 ⟨vb2, vw2, vc2, rfl, os2, hb2⟩
  obtain ⟨Ab2, Aw2, Ac2, cb2, cw2, cc2, rfl, rfl, rfl, -⟩ := os2.formN (n1 := 0) (n2 := 1) (n3 := 0) rfl rfl rfl
  obtain ⟨s2, rfl⟩ := ext_of_below hb2
  clear os2 hb2
  go_wp2_with fail
  refine (undo_any exA Ab (some ⟨b, o, none⟩) Ac none cb cw cc 0 1 700 _ exA_ok (((HIN.out.alloc _).ext _).alloc _) ⟨by decide, by decide⟩ [] (by decide) (fun j x h => by simp at h) (fun t h => by cases h)).mono ?_
  rw [ex_undo]
  rintro e w3 ⟨vb3, vw3, vc3, rfl, os3, hb3⟩
  obtain ⟨Ab3, Aw3, Ac3, cb3, cw3, cc3, rfl, rfl, rfl, hin3⟩ := os3.formN (n1 := 0) (n2 := 1) (n3 := 0) rfl rfl rfl
  obtain ⟨s3, rfl⟩ := ext_of_below hb3
  have HIN3 := Lib.hid hin3
  clear os3 hb3 hin3
  have HS4 := Lib.hid (fun o1 o2 o3 => ((((HS.out.alloc o1).ext s2).alloc o2).ext s3).alloc o3)
  go_wp2_with (go_at_call 12; (refine (samest_any exS Ab3 Aw3 Ac3 none (some ⟨w.heap.size, 0, none⟩) none cb3 cw3 cc3 0 1 0 _ (HIN3.out.alloc _).b (HS4.out _ _ _).b (HIN3.out.alloc _).s (HS4.out _ _ _).s (HIN3.out.alloc _).c (HS4.out _ _ _).c (by decide) (by decide) (by decide) (fun x h => by cases h)).mono ?_); rintro e w1 ⟨rfl, hb⟩; obtain ⟨s, rfl⟩ := ext_of_below hb; clear hb)
  go_ret
  refine ⟨rfl, ?_⟩
  repeat' (first | with_reducible exact HBW.out | with_reducible exact Below.refl _ _ | with_reducible refine below_ext ?_ ?_ _ | with_reducible refine Below.alloc ?_ ?_ _ | with_reducible refine Below.setCell ?_ ?_ _ | with_reducible refine Below.drew ?_ | (simp; omega) | (simp; done) | (simp [go_sem]; omega) | (simp [go_sem]; done) | omega)
end Go.Proofs.Ythkollhebabhbaa

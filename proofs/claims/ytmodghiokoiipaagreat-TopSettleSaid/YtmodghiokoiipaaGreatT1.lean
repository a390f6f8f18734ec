/-
  Agreements, steps and usages as they lie in memory; the small walks of settling.
-/
import Derived.Test.YtmodghiokoiipaaGreatKit
import Derived.Test.YtmodghiokoiipaaGreatRows
import Derived.BigQuiet
namespace Go.Proofs.YtmodghiokoiipaaGreat
open Go.RowKit
set_option linter.unusedSimpArgs false
set_option linter.unusedVariables false

/-- A truth is handed back of which p holds. -/
def RB (e : Ending) (p : Bool → Prop) : Prop := ∃ b, e = .returned (.bool b) ∧ p b
theorem rb_mk {b : Bool} {p : Bool → Prop} (h : p b) : RB (.returned (.bool b)) p := ⟨b, rfl, h⟩
/-- A number is handed back of which p holds. -/
def RI (e : Ending) (p : Int → Prop) : Prop := ∃ n, e = .returned (.int .i64 n) ∧ p n
theorem ri_mk {n : Int} {p : Int → Prop} (h : p n) : RI (.returned (.int .i64 n)) p := ⟨n, rfl, h⟩
/-- Records of n cells each lie from A on. -/
def Recs {α : Type} (n : Nat) (cells : α → List Value) (w : World) (A : Option Addr) (xs : List α) : Prop := ∀ (j : Nat) (x : α), xs[j]? = some x → ∃ b o, A = some ⟨b, o, none⟩ ∧ b < w.heap.size ∧ ∀ i v, (cells x)[i]? = some v → w.cell? ⟨b, o + j * n + i, none⟩ = some v
section
variable {α : Type} {n : Nat} {cells : α → List Value}
theorem Recs.below {w w' : World} {A : Option Addr} {xs : List α} (h : Recs n cells w A xs) (hb : Below w.heap.size w w') : Recs n cells w' A xs := fun j x hx => by
  obtain ⟨b, o, hA, hlt, hc⟩ := h j x hx
  exact ⟨b, o, hA, Nat.lt_of_lt_of_le hlt hb.size, fun i v hv => (hb.cell (p := ⟨b, o + j * n + i, none⟩) hlt).trans (hc i v hv)⟩
theorem Recs.ext {w : World} {A : Option Addr} {xs : List α} (h : Recs n cells w A xs) (s : More) : Recs n cells (Go.Proofs.YtmodghiokoiipaaGreat.ext w s) A xs := h.below (below_ext (Below.refl _ _) (Nat.le_refl _) s)
theorem Recs.alloc {w : World} {A : Option Addr} {xs : List α} (h : Recs n cells w A xs) (o : Obj) : Recs n cells (w.alloc o) A xs := h.below ((Below.refl _ _).alloc (Nat.le_refl _) o)
theorem Recs.nil {w : World} {A : Option Addr} : Recs n cells w A [] := fun j x hx => by simp at hx
theorem Recs.take {w : World} {A : Option Addr} {xs : List α} (h : Recs n cells w A xs) (k : Nat) : Recs n cells w A (xs.take k) := fun j x hx => by
  refine h j x ?_
  rw [List.getElem?_take] at hx
  split at hx
  · exact hx
  · cases hx
end
/-- A step of a ladder. -/
structure St where
  u : Int
  q : Int
  p : Int
def St.cells (x : St) : List Value := [.int .i64 x.u, .int .i64 x.q, .int .i64 x.p]
abbrev Sts := Recs 3 St.cells
theorem sts_cells {w : World} {A : Option Addr} {xs : List St} (h : Sts w A xs) {j : Nat} {x : St} (hx : xs[j]? = some x) : ∃ b o, A = some ⟨b, o, none⟩ ∧ b < w.heap.size ∧
    w.cell? ⟨b, o + j * 3, none⟩ = some (.int .i64 x.u) ∧ w.cell? ⟨b, o + j * 3 + 1, none⟩ = some (.int .i64 x.q) ∧ w.cell? ⟨b, o + j * 3 + 2, none⟩ = some (.int .i64 x.p) := by
  obtain ⟨b, o, hA, hlt, hc⟩ := h j x hx
  exact ⟨b, o, hA, hlt, hc 0 _ rfl, hc 1 _ rfl, hc 2 _ rfl⟩
/-- An agreement: its steps lie from A on, with capacity c. -/
structure Ag where
  p : Int
  k : Int
  ib : Bool
  f : Int
  t : Int
  A : Option Addr
  c : Nat
  st : List St
  cap : Int
def Ag.cells (x : Ag) : List Value := [.int .i64 x.p, .int .i64 x.k, .bool x.ib, .int .i64 x.f, .int .i64 x.t, .slice x.A x.st.length x.c, .int .i64 x.cap]
abbrev Ags := Recs 7 Ag.cells
/-- The steps of all agreements lie where they say. -/
def AgS (w : World) (xs : List Ag) : Prop := ∀ x ∈ xs, Sts w x.A x.st
theorem AgS.below {w w' : World} {xs : List Ag} (h : AgS w xs) (hb : Below w.heap.size w w') : AgS w' xs := fun x hx => (h x hx).below hb
theorem ags_cells {w : World} {A : Option Addr} {xs : List Ag} (h : Ags w A xs) {j : Nat} {x : Ag} (hx : xs[j]? = some x) : ∃ b o, A = some ⟨b, o, none⟩ ∧ b < w.heap.size ∧
    w.cell? ⟨b, o + j * 7, none⟩ = some (.int .i64 x.p) ∧ w.cell? ⟨b, o + j * 7 + 1, none⟩ = some (.int .i64 x.k) ∧ w.cell? ⟨b, o + j * 7 + 2, none⟩ = some (.bool x.ib) ∧ w.cell? ⟨b, o + j * 7 + 3, none⟩ = some (.int .i64 x.f) ∧
    w.cell? ⟨b, o + j * 7 + 4, none⟩ = some (.int .i64 x.t) ∧ w.cell? ⟨b, o + j * 7 + 5, none⟩ = some (.slice x.A x.st.length x.c) ∧ w.cell? ⟨b, o + j * 7 + 6, none⟩ = some (.int .i64 x.cap) := by
  obtain ⟨b, o, hA, hlt, hc⟩ := h j x hx
  exact ⟨b, o, hA, hlt, hc 0 _ rfl, hc 1 _ rfl, hc 2 _ rfl, hc 3 _ rfl, hc 4 _ rfl, hc 5 _ rfl, hc 6 _ rfl⟩
/-- A usage. -/
structure Ug where
  id : Int
  k : Int
  ac : Int
  su : Int
  a : ByteArray
  b : ByteArray
  s : Int
  n : Int
  tr : Int
  ib : Bool
  so : Int
  se : Int
def Ug.cells (x : Ug) : List Value := [.int .i64 x.id, .int .i64 x.k, .int .i64 x.ac, .int .i64 x.su, .string x.a, .string x.b, .int .i64 x.s, .int .i64 x.n, .int .i64 x.tr, .bool x.ib, .int .i64 x.so, .int .i64 x.se]
abbrev Ugs := Recs 12 Ug.cells
theorem ugs_cells {w : World} {A : Option Addr} {xs : List Ug} (h : Ugs w A xs) {j : Nat} {x : Ug} (hx : xs[j]? = some x) : ∃ b o, A = some ⟨b, o, none⟩ ∧ b < w.heap.size ∧
    w.cell? ⟨b, o + j * 12, none⟩ = some (.int .i64 x.id) ∧ w.cell? ⟨b, o + j * 12 + 1, none⟩ = some (.int .i64 x.k) ∧ w.cell? ⟨b, o + j * 12 + 2, none⟩ = some (.int .i64 x.ac) ∧ w.cell? ⟨b, o + j * 12 + 3, none⟩ = some (.int .i64 x.su) ∧
    w.cell? ⟨b, o + j * 12 + 4, none⟩ = some (.string x.a) ∧ w.cell? ⟨b, o + j * 12 + 5, none⟩ = some (.string x.b) ∧ w.cell? ⟨b, o + j * 12 + 6, none⟩ = some (.int .i64 x.s) ∧ w.cell? ⟨b, o + j * 12 + 7, none⟩ = some (.int .i64 x.n) ∧
    w.cell? ⟨b, o + j * 12 + 8, none⟩ = some (.int .i64 x.tr) ∧ w.cell? ⟨b, o + j * 12 + 9, none⟩ = some (.bool x.ib) ∧ w.cell? ⟨b, o + j * 12 + 10, none⟩ = some (.int .i64 x.so) ∧ w.cell? ⟨b, o + j * 12 + 11, none⟩ = some (.int .i64 x.se) := by
  obtain ⟨b, o, hA, hlt, hc⟩ := h j x hx
  exact ⟨b, o, hA, hlt, hc 0 _ rfl, hc 1 _ rfl, hc 2 _ rfl, hc 3 _ rfl, hc 4 _ rfl, hc 5 _ rfl, hc 6 _ rfl, hc 7 _ rfl, hc 8 _ rfl, hc 9 _ rfl, hc 10 _ rfl, hc 11 _ rfl⟩

def validB (p q : Int) : Bool := decide (0 ≤ p ∧ p < q ∧ q ≤ 12622780800)
def contB (p q t : Int) : Bool := validB p q && decide (p ≤ t ∧ t < q)
theorem validp_any (p q : Int) (w : World) :
    Calls Tryz.prog 13 #[.agg #[.int .i64 p, .int .i64 q]] w fun e w' => e = .returned (.bool (validB p q)) ∧ Below w.heap.size w w' := by
  unfold validB
  go_enter Tryz.func13, Tryz.ntmps13
  go_wp2
  all_goals
    go_ret
    refine ⟨?_, ?_⟩
    · refine congrArg (fun x => Ending.returned (Value.bool x)) ?_
      rw [Bool.eq_iff_iff]
      simp only [Bool.and_eq_true, decide_eq_true_eq, Bool.false_eq_true, true_iff, false_iff]
      omega
    · repeat' (first | exact Below.refl _ _ | refine below_ext ?_ ?_ _ | refine Below.alloc ?_ ?_ _ | refine Below.setCell ?_ ?_ _ | refine Below.drew ?_ | (rw [size_ext]; refine Nat.le_add_right_of_le ?_) | go_size | (rw [World.size_alloc]; refine Nat.le_add_right_of_le ?_))
theorem validr_any (p q : Int) (w : World) :
    Calls Tryz.prog 20 #[.agg #[.int .i64 p, .int .i64 q]] w fun e w' => e = .returned (.bool (validB p q)) ∧ Below w.heap.size w w' := by
  unfold validB
  go_enter Tryz.func20, Tryz.ntmps20
  go_wp2
  all_goals
    go_ret
    refine ⟨?_, ?_⟩
    · refine congrArg (fun x => Ending.returned (Value.bool x)) ?_
      rw [Bool.eq_iff_iff]
      simp only [Bool.and_eq_true, decide_eq_true_eq, Bool.false_eq_true, true_iff, false_iff]
      omega
    · repeat' (first | exact Below.refl _ _ | refine below_ext ?_ ?_ _ | refine Below.alloc ?_ ?_ _ | refine Below.setCell ?_ ?_ _ | refine Below.drew ?_ | (rw [size_ext]; refine Nat.le_add_right_of_le ?_) | go_size | (rw [World.size_alloc]; refine Nat.le_add_right_of_le ?_))
theorem contp_any (p q t : Int) (w : World) :
    Calls Tryz.prog 34 #[.agg #[.int .i64 p, .int .i64 q], .int .i64 t] w fun e w' => e = .returned (.bool (contB p q t)) ∧ Below w.heap.size w w' := by
  unfold contB
  cases hv : validB p q
  all_goals
    go_enter Tryz.func34, Tryz.ntmps34
    go_wp2_with (first
      | (go_at_call 13; (with_reducible refine (validp_any _ _ _).mono ?_); rw [hv]; rintro e w1 ⟨rfl, hb⟩; obtain ⟨s, rfl⟩ := ext_of_below hb; clear hb))
    all_goals
      go_ret
      refine ⟨?_, ?_⟩
      · refine congrArg (fun x => Ending.returned (Value.bool x)) ?_
        rw [Bool.eq_iff_iff]
        simp only [Bool.and_eq_true, decide_eq_true_eq, Bool.false_eq_true, true_iff, false_iff, false_and, true_and]
        try omega
      · repeat' (first | exact Below.refl _ _ | refine below_ext ?_ ?_ _ | refine Below.alloc ?_ ?_ _ | refine Below.setCell ?_ ?_ _ | refine Below.drew ?_ | (rw [size_ext]; refine Nat.le_add_right_of_le ?_) | go_size | (rw [World.size_alloc]; refine Nat.le_add_right_of_le ?_))
theorem contr_any (p q t : Int) (w : World) :
    Calls Tryz.prog 76 #[.agg #[.int .i64 p, .int .i64 q], .int .i64 t] w fun e w' => e = .returned (.bool (contB p q t)) ∧ Below w.heap.size w w' := by
  unfold contB
  cases hv : validB p q
  all_goals
    go_enter Tryz.func76, Tryz.ntmps76
    go_wp2_with (first
      | (go_at_call 20; (with_reducible refine (validr_any _ _ _).mono ?_); rw [hv]; rintro e w1 ⟨rfl, hb⟩; obtain ⟨s, rfl⟩ := ext_of_below hb; clear hb))
    all_goals
      go_ret
      refine ⟨?_, ?_⟩
      · refine congrArg (fun x => Ending.returned (Value.bool x)) ?_
        rw [Bool.eq_iff_iff]
        simp only [Bool.and_eq_true, decide_eq_true_eq, Bool.false_eq_true, true_iff, false_iff, false_and, true_and]
        try omega
      · repeat' (first | exact Below.refl _ _ | refine below_ext ?_ ?_ _ | refine Below.alloc ?_ ?_ _ | refine Below.setCell ?_ ?_ _ | refine Below.drew ?_ | (rw [size_ext]; refine Nat.le_add_right_of_le ?_) | go_size | (rw [World.size_alloc]; refine Nat.le_add_right_of_le ?_))
set_option maxHeartbeats 2000000 in
theorem avalid_any (x : Int) (w : World) :
    Calls Tryz.prog 19 #[.int .i64 x] w fun e w' => e = .returned (.bool (decide (-1125899906842624 ≤ x ∧ x ≤ 1125899906842624))) ∧ Below w.heap.size w w' := by
  go_enter Tryz.func19, Tryz.ntmps19
  go_wp2
  all_goals
    go_ret
    refine ⟨?_, ?_⟩
    · refine congrArg (fun x => Ending.returned (Value.bool x)) ?_
      rw [Bool.eq_iff_iff]
      simp only [Bool.and_eq_true, decide_eq_true_eq, Bool.false_eq_true, true_iff, false_iff]
      omega
    · repeat' (first | exact Below.refl _ _ | refine below_ext ?_ ?_ _ | refine Below.alloc ?_ ?_ _ | refine Below.setCell ?_ ?_ _ | refine Below.drew ?_ | (rw [size_ext]; refine Nat.le_add_right_of_le ?_) | go_size | (rw [World.size_alloc]; refine Nat.le_add_right_of_le ?_))
theorem rank_any (x : Bool) (w : World) :
    Calls Tryz.prog 33 #[.bool x] w fun e w' => e = .returned (.int .i64 (if x then 1 else 0)) ∧ Below w.heap.size w w' := by
  cases x
  all_goals
    go_enter Tryz.func33, Tryz.ntmps33
    go_wp2
    go_ret
    refine ⟨rfl, ?_⟩
    repeat' (first | exact Below.refl _ _ | refine below_ext ?_ ?_ _ | refine Below.alloc ?_ ?_ _ | refine Below.setCell ?_ ?_ _ | refine Below.drew ?_ | (rw [size_ext]; refine Nat.le_add_right_of_le ?_) | go_size | (rw [World.size_alloc]; refine Nat.le_add_right_of_le ?_))
def un (n : Int) : Int := if 0 ≤ n ∧ n ≤ 1099511627776 then n else 0
set_option maxHeartbeats 2000000 in
set_option maxRecDepth 100000 in
theorem sunits_any (x : Ug) (w : World) :
    Calls Tryz.prog 35 #[.agg #[.int .i64 x.id, .int .i64 x.k, .int .i64 x.ac, .int .i64 x.su, .string x.a, .string x.b, .int .i64 x.s, .int .i64 x.n, .int .i64 x.tr, .bool x.ib, .int .i64 x.so, .int .i64 x.se]] w fun e w' => e = .returned (.int .i64 (un x.n)) ∧ Below w.heap.size w w' := by
  unfold un
  by_cases h1 : x.n < 0
  · rw [if_neg (by omega)]
    go_enter Tryz.func35, Tryz.ntmps35
    go_wp2
    go_ret
    refine ⟨rfl, ?_⟩
    repeat' (first | exact Below.refl _ _ | refine below_ext ?_ ?_ _ | refine Below.alloc ?_ ?_ _ | refine Below.setCell ?_ ?_ _ | refine Below.drew ?_ | (rw [size_ext]; refine Nat.le_add_right_of_le ?_) | go_size | (rw [World.size_alloc]; refine Nat.le_add_right_of_le ?_))
  · by_cases h2 : 1099511627776 < x.n
    · rw [if_neg (by omega)]
      go_enter Tryz.func35, Tryz.ntmps35
      go_wp2
      go_ret
      refine ⟨rfl, ?_⟩
      repeat' (first | exact Below.refl _ _ | refine below_ext ?_ ?_ _ | refine Below.alloc ?_ ?_ _ | refine Below.setCell ?_ ?_ _ | refine Below.drew ?_ | (rw [size_ext]; refine Nat.le_add_right_of_le ?_) | go_size | (rw [World.size_alloc]; refine Nat.le_add_right_of_le ?_))
    · rw [if_pos (by omega)]
      go_enter Tryz.func35, Tryz.ntmps35
      go_wp2
      go_ret
      refine ⟨rfl, ?_⟩
      repeat' (first | exact Below.refl _ _ | refine below_ext ?_ ?_ _ | refine Below.alloc ?_ ?_ _ | refine Below.setCell ?_ ?_ _ | refine Below.drew ?_ | (rw [size_ext]; refine Nat.le_add_right_of_le ?_) | go_size | (rw [World.size_alloc]; refine Nat.le_add_right_of_le ?_))
theorem nan_any (x : Int) (w : World) :
    Calls Tryz.prog 47 #[.int .i64 x] w fun e w' => e = .returned (.bool false) ∧ Below w.heap.size w w' := by
  go_enter Tryz.func47, Tryz.ntmps47
  go_wp2
  go_ret
  refine ⟨?_, ?_⟩
  · simp
  · repeat' (first | exact Below.refl _ _ | refine below_ext ?_ ?_ _ | refine Below.alloc ?_ ?_ _ | refine Below.setCell ?_ ?_ _ | refine Below.drew ?_ | (rw [size_ext]; refine Nat.le_add_right_of_le ?_) | go_size | (rw [World.size_alloc]; refine Nat.le_add_right_of_le ?_))
end Go.Proofs.YtmodghiokoiipaaGreat

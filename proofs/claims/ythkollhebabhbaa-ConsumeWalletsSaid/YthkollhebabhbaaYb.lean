/-
  ConsumeWallets: texts joined (by joinw.py).
-/
import Derived.Test.YthkollhebabhbaaYa
import Derived.Test.YthkollhebabhbaaCe3
import Derived.BigQuiet
import Derived.Deep.RegionHeld3
import Derived.Deep.DeepCutAuto

/-!
  What the reference's Book holds; the searches in it.
-/
namespace Go.Proofs.Ythkollhebabhbaa
open Go.RowKit
set_option linter.unusedSimpArgs false
set_option linter.unusedVariables false

/-- Rows of n cells each. -/
def Rws {α : Type} (f : α → List Value) (n : Nat) (w : World) (A : Option Addr) (xs : List α) : Prop := ∀ (j : Nat) (x : α), xs[j]? = some x → ∃ b o, A = some ⟨b, o, none⟩ ∧ b < w.heap.size ∧ ∀ i v, (f x)[i]? = some v → w.cell? ⟨b, o + j * n + i, none⟩ = some v
theorem Rws.below {α : Type} {f : α → List Value} {n : Nat} {w w' : World} {A : Option Addr} {xs : List α} (h : Rws f n w A xs) (hb : Below w.heap.size w w') : Rws f n w' A xs := fun j x hx => by
  obtain ⟨b, o, hA, hlt, hc⟩ := h j x hx
  exact ⟨b, o, hA, Nat.lt_of_lt_of_le hlt hb.size, fun i v hv => (hb.cell (p := ⟨b, o + j * n + i, none⟩) hlt).trans (hc i v hv)⟩
theorem Rws.alloc {α : Type} {f : α → List Value} {n : Nat} {w : World} {A : Option Addr} {xs : List α} (h : Rws f n w A xs) (o : Obj) : Rws f n (w.alloc o) A xs := h.below ((Below.refl _ _).alloc (Nat.le_refl _) o)

/-- An account of the book. -/
structure Ac where
  id : Int
  since : Int
  anchor : Int
  pre : Bool
  closed : Bool
def Ac.cells (x : Ac) : List Value := [.int .i64 x.id, .int .i64 x.since, .int .i64 x.anchor, .bool x.pre, .bool x.closed, .slice none 0 0]
/-- A subscription of the book. -/
structure Sb where
  id : Int
  acc : Int
  since : Int
  plan : ByteArray
  na : Option Addr
  nn : Nat
  nc : Nat
  pa : Option Addr
  pn : Nat
  pc : Nat
  su : Bool
  fa : Bool
def Sb.cells (x : Sb) : List Value := [.int .i64 x.id, .int .i64 x.acc, .int .i64 x.since, .string x.plan, .slice x.na x.nn x.nc, .slice x.pa x.pn x.pc, .bool x.su, .bool x.fa]
def ntc (i : Int) : List Value := [.int .i64 i]
/-- A list of strings, whatever they are. -/
def StrS (w : World) (A : Option Addr) (n c : Nat) : Prop := (∃ zs : List ByteArray, zs.length = n ∧ StrsAt w A zs) ∧ (A = none → c = 0) ∧ n ≤ c
theorem StrS.below {w w' : World} {A : Option Addr} {n c : Nat} (h : StrS w A n c) (hb : Below w.heap.size w w') : StrS w' A n c := by
  obtain ⟨⟨zs, h1, h2⟩, h3⟩ := h
  exact ⟨⟨zs, h1, h2.below hb⟩, h3⟩
structure Sb.Ok (w : World) (B : Nat) (x : Sb) : Prop where
  ns : StrS w x.na x.nn x.nc
  ps : StrS w x.pa x.pn x.pc
  nb : x.nn ≤ B
  pb : x.pn ≤ B
theorem Sb.Ok.below {w w' : World} {B : Nat} {x : Sb} (h : x.Ok w B) (hb : Below w.heap.size w w') : x.Ok w' B := ⟨h.ns.below hb, h.ps.below hb, h.nb, h.pb⟩
structure Bo where
  al : List Ac
  sl : List Sb
  el : List Int
structure BoIn (w : World) (B : Nat) (A1 A2 A3 : Option Addr) (c1 c2 c3 : Nat) (m : Bo) : Prop where
  a : Rws Ac.cells 6 w A1 m.al
  s : Rws Sb.cells 8 w A2 m.sl
  e : Rws ntc 1 w A3 m.el
  ok : ∀ x ∈ m.sl, x.Ok w B
  n1 : A1 = none → c1 = 0
  n2 : A2 = none → c2 = 0
  n3 : A3 = none → c3 = 0
  b1 : m.al.length ≤ B
  b2 : m.sl.length ≤ B
  b3 : m.el.length ≤ B
theorem BoIn.below {w w' : World} {B : Nat} {A1 A2 A3 : Option Addr} {c1 c2 c3 : Nat} {m : Bo} (h : BoIn w B A1 A2 A3 c1 c2 c3 m) (hb : Below w.heap.size w w') : BoIn w' B A1 A2 A3 c1 c2 c3 m :=
  ⟨h.a.below hb, h.s.below hb, h.e.below hb, fun x hx => (h.ok x hx).below hb, h.n1, h.n2, h.n3, h.b1, h.b2, h.b3⟩

theorem ac_cells {w : World} {A : Option Addr} {xs : List Ac} (h : Rws Ac.cells 6 w A xs) {j : Nat} {x : Ac} (hx : xs[j]? = some x) : ∃ b o, A = some ⟨b, o, none⟩ ∧ b < w.heap.size ∧
    w.cell? ⟨b, o + j * 6, none⟩ = some (.int .i64 x.id) ∧ w.cell? ⟨b, o + j * 6 + 1, none⟩ = some (.int .i64 x.since) ∧ w.cell? ⟨b, o + j * 6 + 2, none⟩ = some (.int .i64 x.anchor) ∧ w.cell? ⟨b, o + j * 6 + 3, none⟩ = some (.bool x.pre) ∧ w.cell? ⟨b, o + j * 6 + 4, none⟩ = some (.bool x.closed) ∧ w.cell? ⟨b, o + j * 6 + 5, none⟩ = some (.slice none 0 0) := by
  obtain ⟨b, o, hA, hlt, hc⟩ := h j x hx
  exact ⟨b, o, hA, hlt, hc 0 _ rfl, hc 1 _ rfl, hc 2 _ rfl, hc 3 _ rfl, hc 4 _ rfl, hc 5 _ rfl⟩
theorem sb_cells {w : World} {A : Option Addr} {xs : List Sb} (h : Rws Sb.cells 8 w A xs) {j : Nat} {x : Sb} (hx : xs[j]? = some x) : ∃ b o, A = some ⟨b, o, none⟩ ∧ b < w.heap.size ∧
    w.cell? ⟨b, o + j * 8, none⟩ = some (.int .i64 x.id) ∧ w.cell? ⟨b, o + j * 8 + 1, none⟩ = some (.int .i64 x.acc) ∧ w.cell? ⟨b, o + j * 8 + 2, none⟩ = some (.int .i64 x.since) ∧ w.cell? ⟨b, o + j * 8 + 3, none⟩ = some (.string x.plan) ∧ w.cell? ⟨b, o + j * 8 + 4, none⟩ = some (.slice x.na x.nn x.nc) ∧ w.cell? ⟨b, o + j * 8 + 5, none⟩ = some (.slice x.pa x.pn x.pc) ∧ w.cell? ⟨b, o + j * 8 + 6, none⟩ = some (.bool x.su) ∧ w.cell? ⟨b, o + j * 8 + 7, none⟩ = some (.bool x.fa) := by
  obtain ⟨b, o, hA, hlt, hc⟩ := h j x hx
  exact ⟨b, o, hA, hlt, hc 0 _ rfl, hc 1 _ rfl, hc 2 _ rfl, hc 3 _ rfl, hc 4 _ rfl, hc 5 _ rfl, hc 6 _ rfl, hc 7 _ rfl⟩
theorem nt_cells {w : World} {A : Option Addr} {xs : List Int} (h : Rws ntc 1 w A xs) {j : Nat} {x : Int} (hx : xs[j]? = some x) : ∃ b o, A = some ⟨b, o, none⟩ ∧ b < w.heap.size ∧ w.cell? ⟨b, o + j, none⟩ = some (.int .i64 x) := by
  obtain ⟨b, o, hA, hlt, hc⟩ := h j x hx
  refine ⟨b, o, hA, hlt, ?_⟩
  have := hc 0 _ rfl
  simpa using this

/-- A position, or a number below 0 if there is none. -/
def IxR (n : Int) (ids : List Int) (w : World) (e : Ending) (w' : World) : Prop := (∃ i : Int, e = .returned (.int .i64 i) ∧ ((i < 0 ∧ ¬ n ∈ ids) ∨ (n ∈ ids ∧ ∃ k : Nat, i = (k : Int) ∧ k < ids.length))) ∧ Below w.heap.size w w'
def BoV (A1 A2 A3 : Option Addr) (c1 c2 c3 : Nat) (m : Bo) : Value := .agg #[.slice A1 m.al.length c1, .slice A2 m.sl.length c2, .slice A3 m.el.length c3]

theorem ix_yes {n : Int} {ids : List Int} {k : Nat} {w w' : World} (h : ids[k]? = some n) (hb : Below w.heap.size w w') : IxR n ids w (.returned (.int .i64 (k : Int))) w' :=
  ⟨⟨_, rfl, .inr ⟨List.mem_of_getElem? h, k, rfl, (List.getElem?_eq_some_iff.1 h).1⟩⟩, hb⟩
theorem ix_no {n : Int} {ids : List Int} {w w' : World} (h : ∀ (j : Nat) (i : Int), ids[j]? = some i → i ≠ n) (hb : Below w.heap.size w w') : IxR n ids w (.returned (.int .i64 (-1))) w' :=
  ⟨⟨_, rfl, .inl ⟨by decide, fun hm => by
    obtain ⟨j, hj⟩ := List.getElem?_of_mem hm
    exact h j n hj rfl⟩⟩, hb⟩
theorem ids_at {α : Type} {f : α → Int} {xs : List α} {j : Nat} {i : Int} (h : (xs.map f)[j]? = some i) : ∃ x, xs[j]? = some x ∧ f x = i := by
  rw [List.getElem?_map] at h
  cases hx : xs[j]? with
  | none => rw [hx] at h; cases h
  | some x =>
    rw [hx] at h
    exact ⟨x, rfl, Option.some.inj h⟩
set_option maxHeartbeats 1000000 in
theorem account_any (m : Bo) (A1 A2 A3 : Option Addr) (c1 c2 c3 B : Nat) (n : Int) (w : World) (h : BoIn w B A1 A2 A3 c1 c2 c3 m) (hB : B ≤ 1000) :
    Calls Try.prog 76 #[.agg #[.slice A1 m.al.length c1, .slice A2 m.sl.length c2, .slice A3 m.el.length c3], .int .i64 n] w (IxR n (m.al.map Ac.id) w) := by
  have hl := h.b1
  have HA := Lib.hid (h.a.alloc (.cells #[.slice A1 m.al.length c1, .slice A2 m.sl.length c2, .slice A3 m.el.length c3] 104))
  clear h
  go_enter Try.func76, Try.ntmps76
  go_wp2
  go_loop [5] (fun i => ∃ k : Nat, k ≤ m.al.length ∧ i = .int .i64 k ∧ Hid (∀ (j : Nat) (x : Ac), j < k → m.al[j]? = some x → x.id ≠ n)) (fun i => m.al.length - (intOf i).toNat)
  case atStart => exact ⟨0, Nat.zero_le _, rfl, fun j x hj _ => absurd hj (by omega)⟩
  case round =>
    obtain ⟨k, hk, rfl, hall⟩ := hrel
    by_cases hlt : k < m.al.length
    · obtain ⟨x, hx⟩ : ∃ s, m.al[k]? = some s := ⟨_, List.getElem?_eq_getElem hlt⟩
      obtain ⟨b, o, rfl, hb, x0, -⟩ := ac_cells HA.out hx
      have HX := Lib.hid hx
      clear hx
      by_cases he : x.id = n
      · go_wp2
        go_ret
        exact ix_yes (by rw [List.getElem?_map, HX.out]; exact congrArg some he) (by repeat' (first | exact Below.refl _ _ | refine below_ext ?_ ?_ _ | refine Below.alloc ?_ ?_ _ | refine Below.setCell ?_ ?_ _ | refine Below.drew ?_ | (rw [size_ext]; refine Nat.le_add_right_of_le ?_) | go_size | (rw [World.size_alloc]; refine Nat.le_add_right_of_le ?_)))
      · go_wp2
        go_round
        case rel => exact ⟨k + 1, by omega, by go_num, fun j y hj hy => by
                      rcases Nat.lt_succ_iff_lt_or_eq.1 hj with h | h
                      · exact hall.out j y h hy
                      · subst h
                        rw [HX.out] at hy
                        obtain rfl := Option.some.inj hy
                        exact he⟩
        case measure => simp [intOf]; omega
    · go_wp2
      go_ret
      refine ix_no (fun j i hj => ?_) (by repeat' (first | exact Below.refl _ _ | refine below_ext ?_ ?_ _ | refine Below.alloc ?_ ?_ _ | refine Below.setCell ?_ ?_ _ | refine Below.drew ?_ | (rw [size_ext]; refine Nat.le_add_right_of_le ?_) | go_size | (rw [World.size_alloc]; refine Nat.le_add_right_of_le ?_)))
      obtain ⟨x, hx, rfl⟩ := ids_at hj
      exact hall.out j x (by have := (List.getElem?_eq_some_iff.1 hx).1; omega) hx
end Go.Proofs.Ythkollhebabhbaa

/-!
  More searches in the reference's Book.
-/
namespace Go.Proofs.Ythkollhebabhbaa
open Go.RowKit
set_option linter.unusedSimpArgs false
set_option linter.unusedVariables false

set_option maxHeartbeats 1000000 in
theorem sub_any (m : Bo) (A1 A2 A3 : Option Addr) (c1 c2 c3 B : Nat) (n : Int) (w : World) (h : BoIn w B A1 A2 A3 c1 c2 c3 m) (hB : B ≤ 1000) :
    Calls Try.prog 77 #[.agg #[.slice A1 m.al.length c1, .slice A2 m.sl.length c2, .slice A3 m.el.length c3], .int .i64 n] w (IxR n (m.sl.map Sb.id) w) := by
  have hl := h.b2
  have HA := Lib.hid (h.s.alloc (.cells #[.slice A1 m.al.length c1, .slice A2 m.sl.length c2, .slice A3 m.el.length c3] 104))
  clear h
  go_enter Try.func77, Try.ntmps77
  go_wp2
  go_loop [5] (fun i => ∃ k : Nat, k ≤ m.sl.length ∧ i = .int .i64 k ∧ Hid (∀ (j : Nat) (x : Sb), j < k → m.sl[j]? = some x → x.id ≠ n)) (fun i => m.sl.length - (intOf i).toNat)
  case atStart => exact ⟨0, Nat.zero_le _, rfl, fun j x hj _ => absurd hj (by omega)⟩
  case round =>
    obtain ⟨k, hk, rfl, hall⟩ := hrel
    by_cases hlt : k < m.sl.length
    · obtain ⟨x, hx⟩ : ∃ s, m.sl[k]? = some s := ⟨_, List.getElem?_eq_getElem hlt⟩
      obtain ⟨b, o, rfl, hb, x0, -⟩ := sb_cells HA.out hx
      have HX := Lib.hid hx
      clear hx
      by_cases he : x.id = n
      · go_wp2
        go_ret
        exact ix_yes (by rw [List.getElem?_map, HX.out]; exact congrArg some he) (by repeat' (first | exact Below.refl _ _ | refine below_ext ?_ ?_ _ | refine Below.alloc ?_ ?_ _ | refine Below.setCell ?_ ?_ _ | refine Below.drew ?_ | (rw [size_ext]; refine Nat.le_add_right_of_le ?_) | go_size | (rw [World.size_alloc]; refine Nat.le_add_right_of_le ?_)))
      · go_wp2
        go_round
        case rel => exact ⟨k + 1, by omega, by go_num, fun j y hj hy => by
                      rcases Nat.lt_succ_iff_lt_or_eq.1 hj with h | h
                      · exact hall.out j y h hy
                      · subst h
                        rw [HX.out] at hy
                        obtain rfl := Option.some.inj hy
                        exact he⟩
        case measure => simp [intOf]; omega
    · go_wp2
      go_ret
      refine ix_no (fun j i hj => ?_) (by repeat' (first | exact Below.refl _ _ | refine below_ext ?_ ?_ _ | refine Below.alloc ?_ ?_ _ | refine Below.setCell ?_ ?_ _ | refine Below.drew ?_ | (rw [size_ext]; refine Nat.le_add_right_of_le ?_) | go_size | (rw [World.size_alloc]; refine Nat.le_add_right_of_le ?_)))
      obtain ⟨x, hx, rfl⟩ := ids_at hj
      exact hall.out j x (by have := (List.getElem?_eq_some_iff.1 hx).1; omega) hx

set_option maxHeartbeats 1000000 in
theorem ended_any (m : Bo) (A1 A2 A3 : Option Addr) (c1 c2 c3 B : Nat) (n : Int) (w : World) (h : BoIn w B A1 A2 A3 c1 c2 c3 m) (hB : B ≤ 1000) :
    Calls Try.prog 89 #[.agg #[.slice A1 m.al.length c1, .slice A2 m.sl.length c2, .slice A3 m.el.length c3], .int .i64 n] w fun e w' => e = .returned (.bool (decide (n ∈ m.el))) ∧ Below w.heap.size w w' := by
  have hl := h.b3
  have HA := Lib.hid (h.e.alloc (.cells #[.slice A1 m.al.length c1, .slice A2 m.sl.length c2, .slice A3 m.el.length c3] 104))
  clear h
  have E0 : ∃ b, b = decide (n ∈ m.el) := ⟨_, rfl⟩
  obtain ⟨r, hr⟩ := E0
  have HR := Lib.hid hr
  rw [← hr]
  clear hr
  go_enter Try.func89, Try.ntmps89
  go_wp2
  go_loop [5] (fun i => ∃ k : Nat, k ≤ m.el.length ∧ i = .int .i64 k ∧ Hid (∀ (j : Nat) (x : Int), j < k → m.el[j]? = some x → x ≠ n)) (fun i => m.el.length - (intOf i).toNat)
  case atStart => exact ⟨0, Nat.zero_le _, rfl, fun j x hj _ => absurd hj (by omega)⟩
  case round =>
    obtain ⟨k, hk, rfl, hall⟩ := hrel
    by_cases hlt : k < m.el.length
    · obtain ⟨x, hx⟩ : ∃ s, m.el[k]? = some s := ⟨_, List.getElem?_eq_getElem hlt⟩
      obtain ⟨b, o, rfl, hb, x0⟩ := nt_cells HA.out hx
      have HX := Lib.hid hx
      clear hx
      by_cases he : x = n
      · have HT : Hid (r = true) := by
          unfold Hid
          rw [HR.out, decide_eq_true_eq, ← he]
          exact List.mem_of_getElem? HX.out
        go_wp2
        go_ret
        exact ⟨ret_bool HT.out.symm, by repeat' (first | exact Below.refl _ _ | refine below_ext ?_ ?_ _ | refine Below.alloc ?_ ?_ _ | refine Below.setCell ?_ ?_ _ | refine Below.drew ?_ | (rw [size_ext]; refine Nat.le_add_right_of_le ?_) | go_size | (rw [World.size_alloc]; refine Nat.le_add_right_of_le ?_))⟩
      · go_wp2
        go_round
        case rel => exact ⟨k + 1, by omega, by go_num, fun j y hj hy => by
                      rcases Nat.lt_succ_iff_lt_or_eq.1 hj with h | h
                      · exact hall.out j y h hy
                      · subst h
                        rw [HX.out] at hy
                        obtain rfl := Option.some.inj hy
                        exact he⟩
        case measure => simp [intOf]; omega
    · have HT : Hid (r = false) := by
        unfold Hid
        rw [HR.out, decide_eq_false_iff_not]
        intro hm
        obtain ⟨j, hj⟩ := List.getElem?_of_mem hm
        exact hall.out j n (by have := (List.getElem?_eq_some_iff.1 hj).1; omega) hj rfl
      go_wp2
      go_ret
      exact ⟨ret_bool HT.out.symm, by repeat' (first | exact Below.refl _ _ | refine below_ext ?_ ?_ _ | refine Below.alloc ?_ ?_ _ | refine Below.setCell ?_ ?_ _ | refine Below.drew ?_ | (rw [size_ext]; refine Nat.le_add_right_of_le ?_) | go_size | (rw [World.size_alloc]; refine Nat.le_add_right_of_le ?_))⟩

set_option maxHeartbeats 1000000 in
theorem vhas_any (A : Option Addr) (n c : Nat) (s : ByteArray) (w : World) (h : StrS w A n c) (hn : n ≤ 1000) :
    Calls Try.prog 91 #[.slice A n c, .string s] w (SomeB w) := by
  obtain ⟨⟨zs, rfl, hz⟩, -⟩ := h
  have HZ := Lib.hid hz
  clear hz
  go_enter Try.func91, Try.ntmps91
  go_wp2
  go_loop [5] (fun i => ∃ k : Nat, k ≤ zs.length ∧ i = .int .i64 k) (fun i => zs.length - (intOf i).toNat)
  case atStart => exact ⟨0, Nat.zero_le _, rfl⟩
  case round =>
    obtain ⟨k, hk, rfl⟩ := hrel
    by_cases hlt : k < zs.length
    · obtain ⟨x, hx⟩ : ∃ s, zs[k]? = some s := ⟨_, List.getElem?_eq_getElem hlt⟩
      obtain ⟨b, o, rfl, hb, x0⟩ := HZ.out k x hx
      clear hx
      go_wp2
      all_goals first
        | (go_ret; exact ⟨⟨_, rfl⟩, by repeat' (first | exact Below.refl _ _ | refine below_ext ?_ ?_ _ | refine Below.alloc ?_ ?_ _ | refine Below.setCell ?_ ?_ _ | refine Below.drew ?_ | (rw [size_ext]; refine Nat.le_add_right_of_le ?_) | go_size | (rw [World.size_alloc]; refine Nat.le_add_right_of_le ?_))⟩)
        | (go_round
           case rel => exact ⟨k + 1, by omega, by go_num⟩
           case measure => simp [intOf]; omega)
    · go_wp2
      go_ret
      exact ⟨⟨_, rfl⟩, by repeat' (first | exact Below.refl _ _ | refine below_ext ?_ ?_ _ | refine Below.alloc ?_ ?_ _ | refine Below.setCell ?_ ?_ _ | refine Below.drew ?_ | (rw [size_ext]; refine Nat.le_add_right_of_le ?_) | go_size | (rw [World.size_alloc]; refine Nat.le_add_right_of_le ?_))⟩

set_option maxHeartbeats 1000000 in
theorem taken_any (m : Bo) (A1 A2 A3 : Option Addr) (c1 c2 c3 B : Nat) (s : ByteArray) (w : World) (h : BoIn w B A1 A2 A3 c1 c2 c3 m) (hB : B ≤ 1000) :
    Calls Try.prog 90 #[.agg #[.slice A1 m.al.length c1, .slice A2 m.sl.length c2, .slice A3 m.el.length c3], .string s] w (SomeB w) := by
  have hl := h.b2
  have H := Lib.hid h
  clear h
  go_enter Try.func90, Try.ntmps90
  go_wp2
  go_loopw [5] (fun i wr => ∃ k : Nat, k ≤ m.sl.length ∧ i = .int .i64 k ∧ Below (w.heap.size + 1) (w.alloc (.cells #[.slice A1 m.al.length c1, .slice A2 m.sl.length c2, .slice A3 m.el.length c3] 104)) wr) (fun i _ => m.sl.length - (intOf i).toNat)
  case atStart => exact ⟨0, Nat.zero_le _, rfl, Below.refl _ _⟩
  case round =>
    obtain ⟨k, hk, rfl, hbw⟩ := hrel
    have hsz := hbw.size
    rw [World.size_alloc] at hsz
    have plt : w.heap.size < wr.heap.size := by omega
    have p1 : wr.cell? ⟨w.heap.size, 1, none⟩ = some (.slice A2 m.sl.length c2) := (hbw.cell (p := ⟨w.heap.size, 1, none⟩) (Nat.lt_succ_self _)).trans (by simp [go_sem])
    have HB := Lib.hid (show Below w.heap.size w wr from ((Below.refl w.heap.size w).alloc (Nat.le_refl _) _).trans (hbw.mono (Nat.le_succ _)))
    have HBW := Lib.hid hbw
    clear hbw
    by_cases hlt : k < m.sl.length
    · obtain ⟨x, hx⟩ : ∃ s, m.sl[k]? = some s := ⟨_, List.getElem?_eq_getElem hlt⟩
      have hok := (H.out.below HB.out).ok x (List.mem_of_getElem? hx)
      obtain ⟨b, o, rfl, hb, -, -, -, -, x4, -⟩ := sb_cells (H.out.below HB.out).s hx
      have HK := Lib.hid hok.ns
      have hnb := hok.nb
      clear hx hok
      go_wp2_with (go_at_call 91; (with_reducible refine (vhas_any _ _ _ _ _ HK.out (by omega)).mono ?_); rintro e w1 ⟨⟨b, rfl⟩, hb⟩; obtain ⟨s, rfl⟩ := ext_of_below hb; clear hb)
      all_goals first
        | (go_ret; exact ⟨⟨_, rfl⟩, below_ext HB.out HB.out.size _⟩)
        | (go_roundw
           case rel => exact ⟨k + 1, by omega, by go_num, below_ext HBW.out (by omega) _⟩
           case measure => simp [intOf]; omega)
    · go_wp2
      go_ret
      exact ⟨⟨_, rfl⟩, HB.out⟩
end Go.Proofs.Ythkollhebabhbaa

/-!
  The error of an event behind others.
-/
namespace Go.Proofs.Ythkollhebabhbaa
open Go.RowKit
set_option linter.unusedSimpArgs false
set_option linter.unusedVariables false

theorem BoIn.ext {w : World} {B : Nat} {A1 A2 A3 : Option Addr} {c1 c2 c3 : Nat} {m : Bo} (h : BoIn w B A1 A2 A3 c1 c2 c3 m) (s : More) : BoIn (ext w s) B A1 A2 A3 c1 c2 c3 m := h.below (below_ext (Below.refl _ _) (Nat.le_refl _) s)

set_option maxRecDepth 100000 in
set_option maxHeartbeats 2000000 in
theorem busy_any (m : Bo) (A1 A2 A3 : Option Addr) (c1 c2 c3 B : Nat) (n : Int) (w : World) (h : BoIn w B A1 A2 A3 c1 c2 c3 m) (hB : B ≤ 1000) :
    Calls Try.prog 88 #[.agg #[.slice A1 m.al.length c1, .slice A2 m.sl.length c2, .slice A3 m.el.length c3], .int .i64 n] w (SomeB w) := by
  have hl := h.b2
  have H := Lib.hid h
  clear h
  go_enter Try.func88, Try.ntmps88
  go_wp2
  go_loopw [5] (fun i wr => ∃ k : Nat, k ≤ m.sl.length ∧ i = .int .i64 k ∧ Below (w.heap.size + 1) (w.alloc (.cells #[.slice A1 m.al.length c1, .slice A2 m.sl.length c2, .slice A3 m.el.length c3] 104)) wr) (fun i _ => m.sl.length - (intOf i).toNat)
  case atStart => exact ⟨0, Nat.zero_le _, rfl, Below.refl _ _⟩
  case round =>
    obtain ⟨k, hk, rfl, hbw⟩ := hrel
    have hsz := hbw.size
    rw [World.size_alloc] at hsz
    have plt : w.heap.size < wr.heap.size := by omega
    have p0 : wr.cell? ⟨w.heap.size, 0, none⟩ = some (.slice A1 m.al.length c1) := (hbw.cell (p := ⟨w.heap.size, 0, none⟩) (Nat.lt_succ_self _)).trans (by simp [go_sem])
    have p1 : wr.cell? ⟨w.heap.size, 1, none⟩ = some (.slice A2 m.sl.length c2) := (hbw.cell (p := ⟨w.heap.size, 1, none⟩) (Nat.lt_succ_self _)).trans (by simp [go_sem])
    have p2 : wr.cell? ⟨w.heap.size, 2, none⟩ = some (.slice A3 m.el.length c3) := (hbw.cell (p := ⟨w.heap.size, 2, none⟩) (Nat.lt_succ_self _)).trans (by simp [go_sem])
    have HB := Lib.hid (show Below w.heap.size w wr from ((Below.refl w.heap.size w).alloc (Nat.le_refl _) _).trans (hbw.mono (Nat.le_succ _)))
    have HBW := Lib.hid hbw
    clear hbw
    by_cases hlt : k < m.sl.length
    · obtain ⟨x, hx⟩ : ∃ s, m.sl[k]? = some s := ⟨_, List.getElem?_eq_getElem hlt⟩
      obtain ⟨b, o, hA, hb, x0, x1, -⟩ := sb_cells (H.out.below HB.out).s hx
      have HE := Lib.hid (fun s => ended_any m A1 A2 A3 c1 c2 c3 B x.id (ext wr s) ((H.out.below HB.out).ext s) hB)
      subst hA
      clear hx
      by_cases he : x.acc = n
      · rcases Bool.eq_false_or_eq_true (decide (x.id ∈ m.el)) with hd | hd
        all_goals
          rw [hd] at HE
          go_upto_region 4 with fail
          refine wp_region_more (by kernel_rfl) (by kernel_rfl) ?_
          repeat (first | go_big_quiet_skip | quiet_step (first
            | (go_at_call 89; first | with_reducible exact more_call2 (HE.out _) | with_reducible exact more_call (HE.out _))))
          refine wpQuiet_nil ?_
          rintro _ ⟨s4, rfl⟩
          go_wp2
          all_goals first
            | (go_ret; exact ⟨⟨_, rfl⟩, below_ext HB.out HB.out.size _⟩)
            | (go_roundw
               case rel => exact ⟨k + 1, by omega, by go_num, below_ext HBW.out (by omega) _⟩
               case measure => simp [intOf]; omega)
      · go_upto_region 4 with fail
        refine wp_region_more (by kernel_rfl) (by kernel_rfl) ?_
        repeat (first | go_big_quiet_skip | quiet_step (fail))
        refine wpQuiet_nil ?_
        rintro _ ⟨s4, rfl⟩
        go_wp2
        go_roundw
        case rel => exact ⟨k + 1, by omega, by go_num, below_ext HBW.out (by omega) _⟩
        case measure => simp [intOf]; omega
    · go_wp2
      go_ret
      exact ⟨⟨_, rfl⟩, HB.out⟩

/-- The error of an event about an account. -/
def AccR (kind acc : Int) (ids : List Int) (w : World) (e : Ending) (w' : World) : Prop := (∃ n : Int, e = .returned (.int .i64 n) ∧ (n = 0 → kind ≠ 1 → acc ∈ ids)) ∧ Below w.heap.size w w'
def SubR (sub : Int) (ids : List Int) (w : World) (e : Ending) (w' : World) : Prop := (∃ n : Int, e = .returned (.int .i64 n) ∧ (n = 0 → sub ∈ ids)) ∧ Below w.heap.size w w'

set_option maxRecDepth 100000 in
set_option maxHeartbeats 4000000 in
theorem ofacc_any (m : Bo) (A1 A2 A3 : Option Addr) (c1 c2 c3 B : Nat) (a k c s : Int) (nu na : ByteArray) (v : Int) (w : World) (h : BoIn w B A1 A2 A3 c1 c2 c3 m) (hB : B ≤ 1000) :
    Calls Try.prog 74 #[.agg #[.slice A1 m.al.length c1, .slice A2 m.sl.length c2, .slice A3 m.el.length c3], .agg #[.int .i64 a, .int .i64 k, .int .i64 c, .int .i64 s, .string nu, .string na, .int .i64 v]] w (AccR k c (m.al.map Ac.id) w) := by
  have hl := h.b1
  have H := Lib.hid h
  clear h
  go_enter Try.func74, Try.ntmps74
  go_upto_region 2 with (go_at_call 76; (with_reducible refine (account_any m A1 A2 A3 c1 c2 c3 B c _ (H.out.below ?_) hB).mono ?_); (· repeat' (first | exact Below.refl _ _ | refine below_ext ?_ ?_ _ | refine Below.alloc ?_ ?_ _ | refine Below.setCell ?_ ?_ _ | refine Below.drew ?_ | (rw [size_ext]; refine Nat.le_add_right_of_le ?_) | go_size | (rw [World.size_alloc]; refine Nat.le_add_right_of_le ?_))); rintro e w1 ⟨⟨i, rfl, hi⟩, hb⟩; obtain ⟨s1, rfl⟩ := ext_of_below hb; clear hb)
  rcases hi with ⟨h0, hn⟩ | ⟨hm, j, rfl, hj⟩
  · go_wp2
    all_goals
      try go_ret
    all_goals
      refine ⟨⟨_, rfl, fun h1 h2 => ?_⟩, by repeat' (first | exact Below.refl _ _ | refine below_ext ?_ ?_ _ | refine Below.alloc ?_ ?_ _ | refine Below.setCell ?_ ?_ _ | refine Below.drew ?_ | (rw [size_ext]; refine Nat.le_add_right_of_le ?_) | go_size | (rw [World.size_alloc]; refine Nat.le_add_right_of_le ?_))⟩
      first
      | exact absurd h1 (by decide)
      | exact absurd (beq_iff_eq.1 (by assumption)) h2
  · obtain ⟨x, hx⟩ : ∃ s, m.al[j]? = some s := ⟨_, List.getElem?_eq_getElem (by simpa using hj)⟩
    obtain ⟨b, o, hA, hb, x0, x1, x2, x3, x4, x5⟩ := ac_cells H.out.a hx
    have HM := Lib.hid hm
    have hjl : j < m.al.length := (List.getElem?_eq_some_iff.1 hx).1
    have HSB := Lib.hid (fun W hW => sub_any m A1 A2 A3 c1 c2 c3 B s W (H.out.below hW) hB)
    have HBU := Lib.hid (fun W hW => busy_any m A1 A2 A3 c1 c2 c3 B c W (H.out.below hW) hB)
    subst hA
    clear hx hm hj
    go_wp2_with (first
      | (go_at_call 77; (refine (HSB.out _ ?_).mono ?_); (· repeat' (first | exact Below.refl _ _ | refine below_ext ?_ ?_ _ | refine Below.alloc ?_ ?_ _ | refine Below.setCell ?_ ?_ _ | refine Below.drew ?_ | (rw [size_ext]; refine Nat.le_add_right_of_le ?_) | go_size | (rw [World.size_alloc]; refine Nat.le_add_right_of_le ?_))); rintro e w1 ⟨⟨i, rfl, -⟩, hb⟩; obtain ⟨s2, rfl⟩ := ext_of_below hb; clear hb)
      | (go_at_call 88; (refine (HBU.out _ ?_).mono ?_); (· repeat' (first | exact Below.refl _ _ | refine below_ext ?_ ?_ _ | refine Below.alloc ?_ ?_ _ | refine Below.setCell ?_ ?_ _ | refine Below.drew ?_ | (rw [size_ext]; refine Nat.le_add_right_of_le ?_) | go_size | (rw [World.size_alloc]; refine Nat.le_add_right_of_le ?_))); rintro e w1 ⟨⟨b, rfl⟩, hb⟩; obtain ⟨s3, rfl⟩ := ext_of_below hb; clear hb))
    all_goals
      try go_ret
    all_goals
      exact ⟨⟨_, rfl, fun _ _ => HM.out⟩, by repeat' (first | exact Below.refl _ _ | refine below_ext ?_ ?_ _ | refine Below.alloc ?_ ?_ _ | refine Below.setCell ?_ ?_ _ | refine Below.drew ?_ | (rw [size_ext]; refine Nat.le_add_right_of_le ?_) | go_size | (rw [World.size_alloc]; refine Nat.le_add_right_of_le ?_))⟩
end Go.Proofs.Ythkollhebabhbaa

/-!
  The error of an event about a subscription; Fault.
-/
namespace Go.Proofs.Ythkollhebabhbaa
open Go.RowKit
set_option linter.unusedSimpArgs false
set_option linter.unusedVariables false

theorem StrS.ext {w : World} {A : Option Addr} {n c : Nat} (h : StrS w A n c) (s : More) : StrS (Go.Proofs.Ythkollhebabhbaa.ext w s) A n c := h.below (below_ext (Below.refl _ _) (Nat.le_refl _) s)

set_option maxRecDepth 100000 in
set_option maxHeartbeats 8000000 in
theorem ofsub_any (m : Bo) (A1 A2 A3 : Option Addr) (c1 c2 c3 B : Nat) (a k c s : Int) (nu na : ByteArray) (v : Int) (w : World) (h : BoIn w B A1 A2 A3 c1 c2 c3 m) (hB : B ≤ 1000) :
    Calls Try.prog 75 #[.agg #[.slice A1 m.al.length c1, .slice A2 m.sl.length c2, .slice A3 m.el.length c3], .agg #[.int .i64 a, .int .i64 k, .int .i64 c, .int .i64 s, .string nu, .string na, .int .i64 v]] w (SubR s (m.sl.map Sb.id) w) := by
  have hl := h.b2
  have H := Lib.hid h
  clear h
  go_enter Try.func75, Try.ntmps75
  go_upto_region 2 with (go_at_call 77; (with_reducible refine (sub_any m A1 A2 A3 c1 c2 c3 B s _ (H.out.below ?_) hB).mono ?_); (· repeat' (first | exact Below.refl _ _ | refine below_ext ?_ ?_ _ | refine Below.alloc ?_ ?_ _ | refine Below.setCell ?_ ?_ _ | refine Below.drew ?_ | (rw [size_ext]; refine Nat.le_add_right_of_le ?_) | go_size | (rw [World.size_alloc]; refine Nat.le_add_right_of_le ?_))); rintro e w1 ⟨⟨i, rfl, hi⟩, hb⟩; obtain ⟨s1, rfl⟩ := ext_of_below hb; clear hb)
  rcases hi with ⟨h0, hn⟩ | ⟨hm, j, rfl, hj⟩
  · go_wp2
    all_goals
      try go_ret
    all_goals
      exact ⟨⟨_, rfl, fun h1 => absurd h1 (by decide)⟩, by repeat' (first | exact Below.refl _ _ | refine below_ext ?_ ?_ _ | refine Below.alloc ?_ ?_ _ | refine Below.setCell ?_ ?_ _ | refine Below.drew ?_ | (rw [size_ext]; refine Nat.le_add_right_of_le ?_) | go_size | (rw [World.size_alloc]; refine Nat.le_add_right_of_le ?_))⟩
  · obtain ⟨x, hx⟩ : ∃ s, m.sl[j]? = some s := ⟨_, List.getElem?_eq_getElem (by simpa using hj)⟩
    obtain ⟨b, o, hA, hb, x0, x1, x2, x3, x4, x5, x6, x7⟩ := sb_cells H.out.s hx
    have hok := H.out.ok x (List.mem_of_getElem? hx)
    have HNS := Lib.hid (fun W hW => hok.ns.below (w' := W) hW)
    have HPS := Lib.hid (fun W hW => hok.ps.below (w' := W) hW)
    have hnb := hok.nb
    have hpb := hok.pb
    have HM := Lib.hid hm
    have hjl : j < m.sl.length := (List.getElem?_eq_some_iff.1 hx).1
    have HEN := Lib.hid (fun W hW => ended_any m A1 A2 A3 c1 c2 c3 B s W (H.out.below hW) hB)
    have HTK := Lib.hid (fun W hW => taken_any m A1 A2 A3 c1 c2 c3 B nu W (H.out.below hW) hB)
    subst hA
    clear hx hm hj hok
    generalize decide (s ∈ m.el) = bd at *
    go_wp2_with (first
      | (go_at_call 89; (refine (HEN.out _ ?_).mono ?_); (· repeat' (first | exact Below.refl _ _ | refine below_ext ?_ ?_ _ | refine Below.alloc ?_ ?_ _ | refine Below.setCell ?_ ?_ _ | refine Below.drew ?_ | (rw [size_ext]; refine Nat.le_add_right_of_le ?_) | go_size | (rw [World.size_alloc]; refine Nat.le_add_right_of_le ?_))); rintro e w1 ⟨rfl, hb⟩; obtain ⟨s2, rfl⟩ := ext_of_below hb; clear hb)
      | (go_at_call 90; (refine (HTK.out _ ?_).mono ?_); (· repeat' (first | exact Below.refl _ _ | refine below_ext ?_ ?_ _ | refine Below.alloc ?_ ?_ _ | refine Below.setCell ?_ ?_ _ | refine Below.drew ?_ | (rw [size_ext]; refine Nat.le_add_right_of_le ?_) | go_size | (rw [World.size_alloc]; refine Nat.le_add_right_of_le ?_))); rintro e w1 ⟨⟨b, rfl⟩, hb⟩; obtain ⟨s3, rfl⟩ := ext_of_below hb; clear hb)
      | (go_at_call 91; (with_reducible refine (vhas_any _ _ _ _ _ (HNS.out _ ?_) (by omega)).mono ?_); (· repeat' (first | exact Below.refl _ _ | refine below_ext ?_ ?_ _ | refine Below.alloc ?_ ?_ _ | refine Below.setCell ?_ ?_ _ | refine Below.drew ?_ | (rw [size_ext]; refine Nat.le_add_right_of_le ?_) | go_size | (rw [World.size_alloc]; refine Nat.le_add_right_of_le ?_))); rintro e w1 ⟨⟨b, rfl⟩, hb⟩; obtain ⟨s3, rfl⟩ := ext_of_below hb; clear hb)
      | (go_at_call 91; (with_reducible refine (vhas_any _ _ _ _ _ (HPS.out _ ?_) (by omega)).mono ?_); (· repeat' (first | exact Below.refl _ _ | refine below_ext ?_ ?_ _ | refine Below.alloc ?_ ?_ _ | refine Below.setCell ?_ ?_ _ | refine Below.drew ?_ | (rw [size_ext]; refine Nat.le_add_right_of_le ?_) | go_size | (rw [World.size_alloc]; refine Nat.le_add_right_of_le ?_))); rintro e w1 ⟨⟨b, rfl⟩, hb⟩; obtain ⟨s3, rfl⟩ := ext_of_below hb; clear hb))
    all_goals
      try go_ret
    all_goals
      exact ⟨⟨_, rfl, fun _ => HM.out⟩, by repeat' (first | exact Below.refl _ _ | refine below_ext ?_ ?_ _ | refine Below.alloc ?_ ?_ _ | refine Below.setCell ?_ ?_ _ | refine Below.drew ?_ | (rw [size_ext]; refine Nat.le_add_right_of_le ?_) | go_size | (rw [World.size_alloc]; refine Nat.le_add_right_of_le ?_))⟩

theorem index_uses (u0 u1 u2 u3 u4 : Bool) (W : World) : (Instr.index 114 (.agg #[.bool u0, .bool u1, .bool u2, .bool u3, .bool u4]) (.int .i64 0)).run Try.prog W = .ok (.bool u0) W := by kernel_rfl

/-- What no error says. -/
def FaultR (at_ kind acc sub last : Int) (m : Bo) (w : World) (e : Ending) (w' : World) : Prop := (∃ n : Int, e = .returned (.int .i64 n) ∧ (n = 0 → last ≤ at_ ∧ 1 ≤ kind ∧ kind ≤ 15 ∧ ((usL kind).1 = true → kind ≠ 1 → acc ∈ m.al.map Ac.id) ∧ ((usL kind).1 = false → sub ∈ m.sl.map Sb.id))) ∧ Below w.heap.size w w'

set_option maxRecDepth 100000 in
set_option maxHeartbeats 4000000 in
theorem fault_any (m : Bo) (A1 A2 A3 : Option Addr) (c1 c2 c3 B : Nat) (a k c s : Int) (nu na : ByteArray) (v last : Int) (w : World) (h : BoIn w B A1 A2 A3 c1 c2 c3 m) (hB : B ≤ 1000) (hnu : nu.size ≤ maxLen) :
    Calls Try.prog 62 #[.agg #[.slice A1 m.al.length c1, .slice A2 m.sl.length c2, .slice A3 m.el.length c3], .agg #[.int .i64 a, .int .i64 k, .int .i64 c, .int .i64 s, .string nu, .string na, .int .i64 v], .int .i64 last] w (FaultR a k c s last m w) := by
  have HF := Lib.hid (fun W => form_any a k c s nu na v last W hnu)
  have HU := Lib.hid (fun W => uses_any k W)
  have HA := Lib.hid (fun W hW => ofacc_any m A1 A2 A3 c1 c2 c3 B a k c s nu na v W (h.below hW) hB)
  have HS := Lib.hid (fun W hW => ofsub_any m A1 A2 A3 c1 c2 c3 B a k c s nu na v W (h.below hW) hB)
  clear h
  rcases hu : usL k with ⟨u0, u1, u2, u3, u4⟩
  have HU2 : Hid (∀ W, Calls Try.prog 73 #[.int .i64 k] W fun e w' => e = .returned (.agg #[.bool u0, .bool u1, .bool u2, .bool u3, .bool u4]) ∧ Below W.heap.size W w') := by
    intro W
    have := HU.out W
    unfold UsR at this
    rw [hu] at this
    exact this
  have HUK := Lib.hid hu
  clear hu HU
  have hix := fun b W => index_uses b u1 u2 u3 u4 W
  go_enter Try.func62, Try.ntmps62
  go_upto_region 2 with (go_at_call 72; (refine (HF.out _).mono ?_); rintro e w1 ⟨⟨i, rfl, hi⟩, hb⟩; obtain ⟨s1, rfl⟩ := ext_of_below hb; clear hb)
  by_cases hi0 : i = 0
  · subst hi0
    obtain ⟨g1, g2, g3⟩ := hi rfl
    have G1 := Lib.hid g1
    cases u0
    · go_wp2_with (first
        | (go_at_call 73; (refine (HU2.out _).mono ?_); rintro e w1 ⟨rfl, hb⟩; obtain ⟨s, rfl⟩ := ext_of_below hb; clear hb)
        | (go_at_call 75; (refine (HS.out _ ?_).mono ?_); (· repeat' (first | exact Below.refl _ _ | refine below_ext ?_ ?_ _ | refine Below.alloc ?_ ?_ _ | refine Below.setCell ?_ ?_ _ | refine Below.drew ?_ | (rw [size_ext]; refine Nat.le_add_right_of_le ?_) | go_size | (rw [World.size_alloc]; refine Nat.le_add_right_of_le ?_))); rintro e w1 ⟨⟨i2, rfl, hi2⟩, hb⟩; have HI2 := Lib.hid hi2; obtain ⟨s3, rfl⟩ := ext_of_below hb; clear hb hi2))
      go_ret
      exact ⟨⟨_, rfl, fun h0 => ⟨G1.out, g2, g3, fun hf => (by rw [HUK.out] at hf; cases hf), fun _ => HI2.out h0⟩⟩, by repeat' (first | exact Below.refl _ _ | refine below_ext ?_ ?_ _ | refine Below.alloc ?_ ?_ _ | refine Below.setCell ?_ ?_ _ | refine Below.drew ?_ | (rw [size_ext]; refine Nat.le_add_right_of_le ?_) | go_size | (rw [World.size_alloc]; refine Nat.le_add_right_of_le ?_))⟩
    · go_wp2_with (first
        | (go_at_call 73; (refine (HU2.out _).mono ?_); rintro e w1 ⟨rfl, hb⟩; obtain ⟨s, rfl⟩ := ext_of_below hb; clear hb)
        | (go_at_call 74; (refine (HA.out _ ?_).mono ?_); (· repeat' (first | exact Below.refl _ _ | refine below_ext ?_ ?_ _ | refine Below.alloc ?_ ?_ _ | refine Below.setCell ?_ ?_ _ | refine Below.drew ?_ | (rw [size_ext]; refine Nat.le_add_right_of_le ?_) | go_size | (rw [World.size_alloc]; refine Nat.le_add_right_of_le ?_))); rintro e w1 ⟨⟨i2, rfl, hi2⟩, hb⟩; have HI2 := Lib.hid hi2; obtain ⟨s3, rfl⟩ := ext_of_below hb; clear hb hi2))
      go_ret
      exact ⟨⟨_, rfl, fun h0 => ⟨G1.out, g2, g3, fun _ => HI2.out h0, fun hf => (by rw [HUK.out] at hf; cases hf)⟩⟩, by repeat' (first | exact Below.refl _ _ | refine below_ext ?_ ?_ _ | refine Below.alloc ?_ ?_ _ | refine Below.setCell ?_ ?_ _ | refine Below.drew ?_ | (rw [size_ext]; refine Nat.le_add_right_of_le ?_) | go_size | (rw [World.size_alloc]; refine Nat.le_add_right_of_le ?_))⟩
  · clear hi
    have HI0 := Lib.hid hi0
    go_wp2
    go_ret
    exact ⟨⟨_, rfl, fun h0 => absurd h0 HI0.out⟩, by repeat' (first | exact Below.refl _ _ | refine below_ext ?_ ?_ _ | refine Below.alloc ?_ ?_ _ | refine Below.setCell ?_ ?_ _ | refine Below.drew ?_ | (rw [size_ext]; refine Nat.le_add_right_of_le ?_) | go_size | (rw [World.size_alloc]; refine Nat.le_add_right_of_le ?_))⟩
end Go.Proofs.Ythkollhebabhbaa

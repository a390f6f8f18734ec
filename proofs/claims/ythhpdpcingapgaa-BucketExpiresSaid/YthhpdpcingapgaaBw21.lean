/-
  The walks of Expire, the program's and the reference's.
-/
import Derived.Test.YthhpdpcingapgaaBw13
import Derived.Test.YthhpdpcingapgaaBw12
import Derived.Test.YthhpdpcingapgaaBx
import Derived.Test.YthhpdpcingapgaaBw17
import Derived.Maps.AppendAt
namespace Go.Proofs.Ythhpdpcingapgaa
open Go.RowKit
set_option linter.unusedSimpArgs false
set_option linter.unusedVariables false

/-- Buckets of which the row lies from block B1 on, and the zones from B2 on. -/
def OwnBks2 (w : World) (B1 B2 : Nat) (v : Value) (xs : List Bk) : Prop := ∃ Z : List (Option Addr × Nat), Z.length = xs.length ∧ w.ownsRow B1 26 12 v xs.length (Bk.rows xs Z) ∧
  ∀ (j : Nat) (x : Bk) (z : Option Addr × Nat), xs[j]? = some x → Z[j]? = some z → w.ownsRow B2 9 1 (.slice z.1 x.zones.length z.2) x.zones.length (x.zones.map Value.string)
theorem OwnBks2.one {w : World} {B B1 B2 : Nat} {v : Value} {xs : List Bk} (h : OwnBks2 w B1 B2 v xs) (h1 : B ≤ B1) (h2 : B ≤ B2) : OwnBks w B v xs := by
  obtain ⟨Z, a, b, c⟩ := h
  exact ⟨Z, a, own_mono b h1, fun j x z hx hz => own_mono (c j x z hx hz) h2⟩
theorem OwnBks2.nil (w : World) (B1 B2 : Nat) : OwnBks2 w B1 B2 (.slice none 0 0) [] := ⟨[], rfl, World.ownsRow_nil _ _ _ _, fun j x z h => by simp at h⟩
theorem OwnBks2.below {w w' : World} {B1 B2 : Nat} {v : Value} {xs : List Bk} (h : OwnBks2 w B1 B2 v xs) (hb : Below w.heap.size w w') : OwnBks2 w' B1 B2 v xs := by
  obtain ⟨Z, h1, h2, h3⟩ := h
  exact ⟨Z, h1, own_below h2 hb, fun j x z hx hz => own_below (h3 j x z hx hz) hb⟩
/-- Two lists of buckets, of the call's own, that share no row. -/
def Apart (v1 v2 : Value) : Prop := v1.ownBlock = none ∨ v1.ownBlock ≠ v2.ownBlock
theorem Apart.symm {v1 v2 : Value} (h : Apart v1 v2) : Apart v2 v1 := by
  unfold Apart at *
  rcases h with h | h
  · cases h2 : v2.ownBlock
    · exact .inl rfl
    · right
      rw [h]
      exact fun h => by cases h
  · exact .inr fun e => h e.symm
structure Two (w : World) (B1 B2 : Nat) (v1 v2 : Value) (xs ys : List Bk) : Prop where
  one : OwnBks2 w B1 B2 v1 xs
  two : OwnBks2 w B1 B2 v2 ys
  apart : Apart v1 v2
theorem Two.symm {w : World} {B1 B2 : Nat} {v1 v2 : Value} {xs ys : List Bk} (h : Two w B1 B2 v1 v2 xs ys) : Two w B1 B2 v2 v1 ys xs := ⟨h.two, h.one, h.apart.symm⟩
theorem Two.below {w w' : World} {B1 B2 : Nat} {v1 v2 : Value} {xs ys : List Bk} (h : Two w B1 B2 v1 v2 xs ys) (hb : Below w.heap.size w w') : Two w' B1 B2 v1 v2 xs ys := ⟨h.one.below hb, h.two.below hb, h.apart⟩
theorem two_snoc {W W2 : World} {B1 B2 : Nat} {v1 v1' v2 : Value} {xs ys : List Bk} {x : Bk} {Z : List (Option Addr × Nat)} {A1 : Option Addr} {c1 : Nat} (hZ : Z.length = xs.length) (hrow : W.ownsRow B1 26 12 v1 xs.length (Bk.rows xs Z))
    (hz : ∀ (j : Nat) (x : Bk) (z : Option Addr × Nat), xs[j]? = some x → Z[j]? = some z → W.ownsRow B2 9 1 (.slice z.1 x.zones.length z.2) x.zones.length (x.zones.map Value.string))
    (h2 : OwnBks2 W B1 B2 v2 ys) (hd : Apart v1 v2) (hx : W.ownsRow B2 9 1 (.slice A1 x.zones.length c1) x.zones.length (x.zones.map Value.string))
    (hnew : W2.ownsRow B1 26 12 v1' (xs.length + 1) (Bk.rows xs Z ++ x.cells A1 c1)) (hg : W.grownBy W2 v1.ownBlock) (hat : v1'.ownBlock = v1.ownBlock ∨ v1'.ownBlock = some W.heap.size) : Two W2 B1 B2 v1' v2 (xs ++ [x]) ys := by
  obtain ⟨Z2, k1, k2, k3⟩ := h2
  refine ⟨⟨Z ++ [(A1, c1)], by simp [hZ], by rw [Bk.rows_snoc xs Z x (A1, c1) hZ]; simpa using hnew, fun j y z hy hz' => ?_⟩, ⟨Z2, k1, k2.kept hg hd.symm, fun j y z hy hz' => (k3 j y z hy hz').kept hg (own_ne (k3 j y z hy hz') hrow (by decide))⟩, ?_⟩
  · rcases Nat.lt_or_ge j xs.length with hj | hj
    · rw [List.getElem?_append_left hj] at hy
      rw [List.getElem?_append_left (by omega)] at hz'
      have := hz j y z hy hz'
      exact this.kept hg (own_ne this hrow (by decide))
    · have hj' : j = xs.length := by
        have := (List.getElem?_eq_some_iff.1 hy).1
        simp at this
        omega
      subst hj'
      rw [List.getElem?_append_right (Nat.le_refl _)] at hy
      rw [List.getElem?_append_right (by omega)] at hz'
      simp only [Nat.sub_self, List.getElem?_cons_zero, Option.some.injEq, hZ] at hy hz'
      subst hy hz'
      exact hx.kept hg (own_ne hx hrow (by decide))
  · rcases hat with h | h
    · unfold Apart
      rw [h]
      exact hd
    · right
      rw [h]
      intro e
      have := (k2.lt _ e.symm).2
      omega

theorem own_at {w : World} {B n c : Nat} {A : Option Addr} {xs : List Bk} (h : OwnBks w B (.slice A n c) xs) {k : Nat} {x : Bk} (hx : xs[k]? = some x) : ∃ g za zc, A = some ⟨g, 0, none⟩ ∧ g < w.heap.size ∧
    (∀ i v, (x.cells za zc)[i]? = some v → w.cell? ⟨g, k * 12 + i, none⟩ = some v) ∧ w.ownsRow B 9 1 (.slice za x.zones.length zc) x.zones.length (x.zones.map Value.string) := by
  obtain ⟨Z, h1, h2, h3⟩ := h
  have hk : k < xs.length := (List.getElem?_eq_some_iff.1 hx).1
  obtain ⟨z, hz⟩ : ∃ z, Z[k]? = some z := ⟨_, List.getElem?_eq_getElem (by omega)⟩
  rcases h2.2 with ⟨_, h5⟩ | ⟨g, cap, cur, h4, _, hh, _⟩
  · omega
  · simp only [Value.slice.injEq] at h4
    obtain ⟨rfl, rfl, rfl⟩ := h4
    refine ⟨g, z.1, z.2, rfl, ?_, fun i u hu => ?_, h3 k x z hx hz⟩
    · rcases Nat.lt_or_ge g w.heap.size with hlt | hge
      · exact hlt
      · rw [Array.getElem?_eq_none hge] at hh
        cases hh
    · have hi : i < 12 := by
        have := (List.getElem?_eq_some_iff.1 hu).1
        rwa [Bk.len_cells] at this
      rw [h2.cellAt (k * 12 + i) (by omega), Bk.rows_at xs Z k i x z hx hz hi, hu]

set_option maxHeartbeats 1000000 in
theorem exp1_any (x : Bk) (A : Option Addr) (c : Nat) (t : Int) (b : Nat) (w : World) (hb : b < w.heap.size) (hp : w.cell? ⟨b, 0, none⟩ = some (.int .i64 t)) :
    Calls Try.prog 46 #[.agg #[.int .i64 x.acc, .int .i64 x.sub, .string x.prod, .int .i64 x.idx, .int .i64 x.kind, .slice A x.zones.length c, .int .i64 x.frm, .int .i64 x.til, .int .i64 x.units, .int .i64 x.left, .int .i64 x.prio, .bool x.shared], .pointer (some ⟨b, 0, none⟩)] w fun e w' => e = .returned (.bool (decide (t < x.til))) ∧ Below w.heap.size w w' := by
  go_enter Try.func46, Try.ntmps46
  go_wp2_with fail
  go_ret
  refine ⟨rfl, ?_⟩
  repeat' (first | exact Below.refl _ _ | refine below_ext ?_ ?_ _ | refine Below.alloc ?_ ?_ _ | refine Below.setCell ?_ ?_ _ | refine Below.drew ?_ | (rw [size_ext]; refine Nat.le_add_right_of_le ?_) | go_size | (rw [World.size_alloc]; refine Nat.le_add_right_of_le ?_))
def Live (t : Int) (x : Bk) : Bool := decide (t < x.til)
def ExpPost (B : Nat) (xs : List Bk) (t : Int) (w : World) (e : Ending) (w' : World) : Prop := ∃ v1 v2, e = .returned (.tuple #[v1, v2]) ∧ OwnBks w' B v1 (xs.filter (Live t)) ∧ OwnBks w' B v2 (xs.filter fun x => !Live t x) ∧ Below w.heap.size w w'

theorem filter_take {p : Bk → Bool} {xs : List Bk} {k : Nat} {x : Bk} (hx : xs[k]? = some x) : (xs.take (k + 1)).filter p = (xs.take k).filter p ++ if p x = true then [x] else [] := by
  obtain ⟨h1, h2⟩ := List.getElem?_eq_some_iff.1 hx
  rw [List.take_succ_eq_append_getElem h1, h2, List.filter_append]
  simp [List.filter_cons]

set_option maxHeartbeats 2000000 in
theorem divide_any (xs : List Bk) (A : Option Addr) (c : Nat) (t : Int) (b B : Nat) (w : World) (hn : xs.length ≤ 1000) (hb : b < w.heap.size) (hp : w.cell? ⟨b, 0, none⟩ = some (.int .i64 t)) (hB : B ≤ w.heap.size) (hown : OwnBks w B (.slice A xs.length c) xs) :
    Calls Try.prog 45 #[.slice A xs.length c, .func (.func 46) #[] #[.pointer (some ⟨b, 0, none⟩)]] w (ExpPost B xs t w) := by
  obtain ⟨i0, hi0, hz0, hz1, hz2⟩ := info_parts info_bk
  have HOW := Lib.hid hown
  have HP := Lib.hid hp
  clear hown hp
  unfold ExpPost
  go_enter Try.func45, Try.ntmps45
  go_wp2_with fail
  go_loopw [6, 7, 12] (fun v1 v2 i wr => ∃ k : Nat, k ≤ xs.length ∧ i = .int .i64 (k : Int) ∧ Two wr w.heap.size B v1 v2 ((xs.take k).filter (Live t)) ((xs.take k).filter fun x => !Live t x) ∧ Below w.heap.size w wr) (fun _ _ i _ => xs.length - (intOf i).toNat)
  case atStart => exact ⟨0, Nat.zero_le _, rfl, ⟨OwnBks2.nil _ _ _, OwnBks2.nil _ _ _, .inl rfl⟩, Below.refl _ _⟩
  case round =>
    obtain ⟨k, hk, rfl, htw, hbw⟩ := hrel
    have hsz := hbw.size
    have HB := Lib.hid hbw
    by_cases hlt : k < xs.length
    · obtain ⟨x, hx⟩ : ∃ s, xs[k]? = some s := ⟨_, List.getElem?_eq_getElem hlt⟩
      obtain ⟨g, za, zc, rfl, hg, hc, hzr⟩ := own_at (HOW.out.below hbw) hx
      have x0 : wr.cell? ⟨g, k * 12, none⟩ = some (.int .i64 x.acc) := hc 0 _ rfl
      have x1 := hc 1 _ rfl
      have x2 := hc 2 _ rfl
      have x3 := hc 3 _ rfl
      have x4 := hc 4 _ rfl
      have x5 := hc 5 _ rfl
      have x6 := hc 6 _ rfl
      have x7 := hc 7 _ rfl
      have x8 := hc 8 _ rfl
      have x9 := hc 9 _ rfl
      have x10 := hc 10 _ rfl
      have x11 := hc 11 _ rfl
      have HX := Lib.hid hx
      have HZR := Lib.hid hzr
      have hpw : wr.cell? ⟨b, 0, none⟩ = some (.int .i64 t) := (hbw.cell (p := ⟨b, 0, none⟩) hb).trans HP.out
      have hl1 : ((xs.take k).filter (Live t)).length ≤ 1000 := Nat.le_trans (List.length_filter_le _ _) (by rw [List.length_take]; omega)
      have hl2 : ((xs.take k).filter fun x => !Live t x).length ≤ 1000 := Nat.le_trans (List.length_filter_le _ _) (by rw [List.length_take]; omega)
      have HPW := Lib.hid hpw
      clear hbw hx hc hzr hpw
      have hbr : b < wr.heap.size := by omega
      generalize ea : (xs.take k).filter (Live t) = ya at *
      generalize eb : ((xs.take k).filter fun x => !Live t x) = yb at *
      have EA := Lib.hid ea
      have EB := Lib.hid eb
      have HTW := Lib.hid htw
      clear ea eb htw
      cases hl : Live t x
      · have HL := Lib.hid hl
        have hd : decide (t < x.til) = false := hl
        have HD := Lib.hid hd
        clear hl hd
        obtain ⟨Z, hZ1, hZ2, hZ3⟩ := HTW.out.two
        have HZ1 := Lib.hid hZ1
        have HZ2 := Lib.hid hZ2
        have HZ3 := Lib.hid hZ3
        clear hZ1 hZ2 hZ3
        go_wp2_with (first
          | (go_at_call 46; (refine (exp1_any x za zc t b _ (by simp; omega) ((((Below.refl wr.heap.size wr).alloc (Nat.le_refl _) _).cell (p := ⟨b, 0, none⟩) hbr).trans HPW.out)).mono ?_); rw [HD.out]; rintro e w1 ⟨rfl, hb⟩; obtain ⟨s, rfl⟩ := ext_of_below hb; clear hb)
          | (at_builtin; refine wpList_append_own_at _ rfl _ _ _ rfl w.heap.size 26 i0 _ 12 120 Try.underlying35 hi0 hz0 hz1 hz2 rfl (by omega) _ yb.length (Bk.rows yb Z) rfl (own_below HZ2.out (((below_ext ((Below.refl _ _).alloc (Nat.le_refl _) _) (by simp) s)).alloc (by simp [go_sem]; omega) _)) ⟨wr.heap.size + 1 + s.n, 0, none⟩ 1 1 (x.cells za zc) rfl rfl (cells_new _ (by simp [go_sem])) (bk_one x za zc) (by simp only [maxLen]; omega) (by omega) (by simp [go_sem]; omega) ?_; intro v6 w6 hown6 hg6 hnil6 hat6; clear hnil6; have HO6 := Lib.hid hown6; have HG6 := Lib.hid hg6; have HA6 := Lib.hid hat6; clear hown6 hg6 hat6))
        go_roundw
        case rel =>
          refine ⟨k + 1, by omega, by go_num, ?_, ?_⟩
          · rw [filter_take HX.out, filter_take HX.out, EA.out, EB.out]
            simp only [HL.out, if_true, if_false, Bool.not_true, Bool.not_false, Bool.false_eq_true, List.append_nil]
            exact (two_snoc HZ1.out (own_below HZ2.out (((below_ext ((Below.refl _ _).alloc (Nat.le_refl _) _) (by simp) s)).alloc (by simp [go_sem]; omega) _)) (fun j y z hy hz => own_below (HZ3.out j y z hy hz) (((below_ext ((Below.refl _ _).alloc (Nat.le_refl _) _) (by simp) s)).alloc (by simp [go_sem]; omega) _)) ((HTW.out.one).below (((below_ext ((Below.refl _ _).alloc (Nat.le_refl _) _) (by simp) s)).alloc (by simp [go_sem]; omega) _)) (HTW.out.apart.symm) (own_below HZR.out (((below_ext ((Below.refl _ _).alloc (Nat.le_refl _) _) (by simp) s)).alloc (by simp [go_sem]; omega) _)) HO6.out HG6.out (by have := HA6.out; first | exact this | (simp only [go_sem] at this ⊢; exact this))).symm
          · exact (HB.out.trans ((((below_ext ((Below.refl _ _).alloc (Nat.le_refl _) _) (by simp) s)).alloc (by simp [go_sem]; omega) _).mono HB.out.size)).grown HG6.out (by simp [go_sem]; omega) (fun i hi => (HZ2.out.lt i hi).1)
        case measure => simp [intOf]; omega
      · have HL := Lib.hid hl
        have hd : decide (t < x.til) = true := hl
        have HD := Lib.hid hd
        clear hl hd
        obtain ⟨Z, hZ1, hZ2, hZ3⟩ := HTW.out.one
        have HZ1 := Lib.hid hZ1
        have HZ2 := Lib.hid hZ2
        have HZ3 := Lib.hid hZ3
        clear hZ1 hZ2 hZ3
        go_wp2_with (first
          | (go_at_call 46; (refine (exp1_any x za zc t b _ (by simp; omega) ((((Below.refl wr.heap.size wr).alloc (Nat.le_refl _) _).cell (p := ⟨b, 0, none⟩) hbr).trans HPW.out)).mono ?_); rw [HD.out]; rintro e w1 ⟨rfl, hb⟩; obtain ⟨s, rfl⟩ := ext_of_below hb; clear hb)
          | (at_builtin; refine wpList_append_own_at _ rfl _ _ _ rfl w.heap.size 26 i0 _ 12 120 Try.underlying35 hi0 hz0 hz1 hz2 rfl (by omega) _ ya.length (Bk.rows ya Z) rfl (own_below HZ2.out (((below_ext ((Below.refl _ _).alloc (Nat.le_refl _) _) (by simp) s)).alloc (by simp [go_sem]; omega) _)) ⟨wr.heap.size + 1 + s.n, 0, none⟩ 1 1 (x.cells za zc) rfl rfl (cells_new _ (by simp [go_sem])) (bk_one x za zc) (by simp only [maxLen]; omega) (by omega) (by simp [go_sem]; omega) ?_; intro v6 w6 hown6 hg6 hnil6 hat6; clear hnil6; have HO6 := Lib.hid hown6; have HG6 := Lib.hid hg6; have HA6 := Lib.hid hat6; clear hown6 hg6 hat6))
        go_roundw
        case rel =>
          refine ⟨k + 1, by omega, by go_num, ?_, ?_⟩
          · rw [filter_take HX.out, filter_take HX.out, EA.out, EB.out]
            simp only [HL.out, if_true, if_false, Bool.not_true, Bool.not_false, Bool.false_eq_true, List.append_nil]
            exact two_snoc HZ1.out (own_below HZ2.out (((below_ext ((Below.refl _ _).alloc (Nat.le_refl _) _) (by simp) s)).alloc (by simp [go_sem]; omega) _)) (fun j y z hy hz => own_below (HZ3.out j y z hy hz) (((below_ext ((Below.refl _ _).alloc (Nat.le_refl _) _) (by simp) s)).alloc (by simp [go_sem]; omega) _)) ((HTW.out.two).below (((below_ext ((Below.refl _ _).alloc (Nat.le_refl _) _) (by simp) s)).alloc (by simp [go_sem]; omega) _)) (HTW.out.apart) (own_below HZR.out (((below_ext ((Below.refl _ _).alloc (Nat.le_refl _) _) (by simp) s)).alloc (by simp [go_sem]; omega) _)) HO6.out HG6.out (by have := HA6.out; first | exact this | (simp only [go_sem] at this ⊢; exact this))
          · exact (HB.out.trans ((((below_ext ((Below.refl _ _).alloc (Nat.le_refl _) _) (by simp) s)).alloc (by simp [go_sem]; omega) _).mono HB.out.size)).grown HG6.out (by simp [go_sem]; omega) (fun i hi => (HZ2.out.lt i hi).1)
        case measure => simp [intOf]; omega
    · have hkn : k = xs.length := by omega
      rw [hkn, List.take_length] at htw
      have HTW := Lib.hid htw
      clear hkn htw
      go_wp2_with fail
      go_ret2
      exact ⟨_, _, rfl, HTW.out.one.one hB (Nat.le_refl _), HTW.out.two.one hB (Nat.le_refl _), hbw⟩

set_option maxHeartbeats 2000000 in
theorem expire_any (xs : List Bk) (A : Option Addr) (c : Nat) (t : Int) (w : World) (hn : xs.length ≤ 1000) (hzn : ∀ x ∈ xs, x.zones.length ≤ 100) (hxs : Bks w A xs) :
    Calls Try.prog 24 #[.slice A xs.length c, .int .i64 t] w (ExpPost w.heap.size xs t w) := by
  have Hx := Lib.hid hxs
  have Hzn := Lib.hid hzn
  clear hxs hzn
  unfold ExpPost
  have hmf : ∀ (fn : Fn) (first cap : Array Value) (w : World), (Instr.makeFunc fn first cap).run Try.prog w = .ok (.func fn first cap) w := fun _ _ _ _ => rfl
  go_enter Try.func24, Try.ntmps24
  go_wp2_with fail
  refine (clones_any xs A c _ hn Hzn.out (Hx.out.alloc _)).mono ?_
  rintro e w1 ⟨v1, rfl, own1, hb1⟩
  obtain ⟨A1, c1, rfl, _, _⟩ := own1.form
  have hs1 := hb1.size
  have hc1 := (hb1.cell (p := ⟨w.heap.size, 0, none⟩) (by simp)).trans (show (w.alloc (Obj.cells #[.int .i64 t] 3)).cell? ⟨w.heap.size, 0, none⟩ = some (.int .i64 t) by simp [go_sem])
  simp at hs1
  have HO1 := Lib.hid own1
  have HB1 := Lib.hid hb1
  have HC1 := Lib.hid hc1
  clear own1 hb1 hc1
  go_wp2_with fail
  refine (divide_any xs A1 c1 t w.heap.size (w.heap.size + 1) w1 hn (by omega) HC1.out (by omega) (by have := HO1.out; simp at this; exact this)).mono ?_
  rintro e w2 ⟨v1, v2, rfl, o1, o2, hb2⟩
  have HQ1 := Lib.hid o1
  have HQ2 := Lib.hid o2
  have HB2 := Lib.hid hb2
  clear o1 o2 hb2
  go_wp2_with fail
  go_ret2
  exact ⟨_, _, rfl, HQ1.out.mono (by omega), HQ2.out.mono (by omega), (((Below.refl _ _).alloc (Nat.le_refl _) _).trans (HB1.out.mono (by simp))).trans (HB2.out.mono (by omega))⟩

set_option maxHeartbeats 2000000 in
theorem rexpire_any (xs : List Bk) (A : Option Addr) (c : Nat) (t : Int) (w : World) (hn : xs.length ≤ 1000) (hzn : ∀ x ∈ xs, x.zones.length ≤ 100) (hxs : Bks w A xs) :
    Calls Try.prog 25 #[.slice A xs.length c, .int .i64 t] w (ExpPost w.heap.size xs t w) := by
  obtain ⟨i0, hi0, hz0, hz1, hz2⟩ := info_parts info_bk
  have Hx := Lib.hid hxs
  have Hzn := Lib.hid hzn
  clear hxs hzn
  unfold ExpPost
  go_enter Try.func25, Try.ntmps25
  go_wp2_with fail
  go_loopw [6, 7, 8] (fun v1 v2 i wr => ∃ k : Nat, k ≤ xs.length ∧ i = .int .i64 (k : Int) ∧ Two wr w.heap.size w.heap.size v1 v2 ((xs.take k).filter (Live t)) ((xs.take k).filter fun x => !Live t x) ∧ Below w.heap.size w wr) (fun _ _ i _ => xs.length - (intOf i).toNat)
  case atStart => exact ⟨0, Nat.zero_le _, rfl, ⟨OwnBks2.nil _ _ _, OwnBks2.nil _ _ _, .inl rfl⟩, Below.refl _ _⟩
  case round =>
    obtain ⟨k, hk, rfl, htw, hbw⟩ := hrel
    have hsz := hbw.size
    have HB := Lib.hid hbw
    by_cases hlt : k < xs.length
    · obtain ⟨x, hx⟩ : ∃ s, xs[k]? = some s := ⟨_, List.getElem?_eq_getElem hlt⟩
      obtain ⟨b, o, za, zc, rfl, hb, x0, x1, x2, x3, x4, x5, x6, x7, x8, x9, x10, x11, hzs, hzc⟩ := bk_cells (Hx.out.below hbw) hx
      have hx100 := Hzn.out x (List.mem_of_getElem? hx)
      have HX := Lib.hid hx
      have HS := Lib.hid hzs
      have HC := Lib.hid hzc
      have hl1 : ((xs.take k).filter (Live t)).length ≤ 1000 := Nat.le_trans (List.length_filter_le _ _) (by rw [List.length_take]; omega)
      have hl2 : ((xs.take k).filter fun x => !Live t x).length ≤ 1000 := Nat.le_trans (List.length_filter_le _ _) (by rw [List.length_take]; omega)
      clear hbw hx hzs hzc
      have hkb : (k : Int) < (xs.length : Int) := by omega
      generalize ea : (xs.take k).filter (Live t) = ya at *
      generalize eb : ((xs.take k).filter fun x => !Live t x) = yb at *
      have EA := Lib.hid ea
      have EB := Lib.hid eb
      have HTW := Lib.hid htw
      clear ea eb htw
      cases hl : Live t x
      · have HL := Lib.hid hl
        have hd : ¬ t < x.til := of_decide_eq_false hl
        clear hl
        obtain ⟨Z, hZ1, hZ2, hZ3⟩ := HTW.out.two
        have HZ1 := Lib.hid hZ1
        have HZ2 := Lib.hid hZ2
        have HZ3 := Lib.hid hZ3
        clear hZ1 hZ2 hZ3
        go_wp2_with (first
          | (go_at_call 44; refine (copy_any x za zc _ hx100 HS.out HC.out).mono ?_; rintro e w1 ⟨A1, k1, rfl, hown1, hb1⟩; obtain ⟨s, rfl⟩ := ext_of_below hb1; have HO := Lib.hid hown1; clear hown1 hb1)
          | (at_builtin; refine wpList_append_own_at _ rfl _ _ _ rfl w.heap.size 26 i0 _ 12 120 Try.underlying35 hi0 hz0 hz1 hz2 rfl (by omega) _ yb.length (Bk.rows yb Z) rfl (own_below HZ2.out (((below_ext (Below.refl _ _) (Nat.le_refl _) s)).alloc (by simp [go_sem]; try omega) _)) ⟨wr.heap.size + s.n, 0, none⟩ 1 1 (x.cells A1 k1) rfl rfl (cells_new _ (by simp [go_sem])) (bk_one x A1 k1) (by simp only [maxLen]; omega) (by omega) (by simp [go_sem]; omega) ?_; intro v6 w6 hown6 hg6 hnil6 hat6; clear hnil6; have HO6 := Lib.hid hown6; have HG6 := Lib.hid hg6; have HA6 := Lib.hid hat6; clear hown6 hg6 hat6))
        go_roundw
        case rel =>
          refine ⟨k + 1, by omega, by go_num, ?_, ?_⟩
          · rw [filter_take HX.out, filter_take HX.out, EA.out, EB.out]
            simp only [HL.out, if_true, if_false, Bool.not_true, Bool.not_false, Bool.false_eq_true, List.append_nil]
            exact (two_snoc HZ1.out (own_below HZ2.out (((below_ext (Below.refl _ _) (Nat.le_refl _) s)).alloc (by simp [go_sem]; try omega) _)) (fun j y z hy hz => own_below (HZ3.out j y z hy hz) (((below_ext (Below.refl _ _) (Nat.le_refl _) s)).alloc (by simp [go_sem]; try omega) _)) ((HTW.out.one).below (((below_ext (Below.refl _ _) (Nat.le_refl _) s)).alloc (by simp [go_sem]; try omega) _)) (HTW.out.apart.symm) ((own_mono HO.out (by omega)).alloc _) HO6.out HG6.out (by have := HA6.out; first | exact this | (simp only [go_sem] at this ⊢; exact this))).symm
          · exact (HB.out.trans ((((below_ext (Below.refl _ _) (Nat.le_refl _) s)).alloc (by simp [go_sem]; try omega) _).mono HB.out.size)).grown HG6.out (by simp [go_sem]; omega) (fun i hi => (HZ2.out.lt i hi).1)
        case measure => simp [intOf]; omega
      · have HL := Lib.hid hl
        have hd : t < x.til := of_decide_eq_true hl
        clear hl
        obtain ⟨Z, hZ1, hZ2, hZ3⟩ := HTW.out.one
        have HZ1 := Lib.hid hZ1
        have HZ2 := Lib.hid hZ2
        have HZ3 := Lib.hid hZ3
        clear hZ1 hZ2 hZ3
        go_wp2_with (first
          | (go_at_call 44; refine (copy_any x za zc _ hx100 HS.out HC.out).mono ?_; rintro e w1 ⟨A1, k1, rfl, hown1, hb1⟩; obtain ⟨s, rfl⟩ := ext_of_below hb1; have HO := Lib.hid hown1; clear hown1 hb1)
          | (at_builtin; refine wpList_append_own_at _ rfl _ _ _ rfl w.heap.size 26 i0 _ 12 120 Try.underlying35 hi0 hz0 hz1 hz2 rfl (by omega) _ ya.length (Bk.rows ya Z) rfl (own_below HZ2.out (((below_ext (Below.refl _ _) (Nat.le_refl _) s)).alloc (by simp [go_sem]; try omega) _)) ⟨wr.heap.size + s.n, 0, none⟩ 1 1 (x.cells A1 k1) rfl rfl (cells_new _ (by simp [go_sem])) (bk_one x A1 k1) (by simp only [maxLen]; omega) (by omega) (by simp [go_sem]; omega) ?_; intro v6 w6 hown6 hg6 hnil6 hat6; clear hnil6; have HO6 := Lib.hid hown6; have HG6 := Lib.hid hg6; have HA6 := Lib.hid hat6; clear hown6 hg6 hat6))
        go_roundw
        case rel =>
          refine ⟨k + 1, by omega, by go_num, ?_, ?_⟩
          · rw [filter_take HX.out, filter_take HX.out, EA.out, EB.out]
            simp only [HL.out, if_true, if_false, Bool.not_true, Bool.not_false, Bool.false_eq_true, List.append_nil]
            exact two_snoc HZ1.out (own_below HZ2.out (((below_ext (Below.refl _ _) (Nat.le_refl _) s)).alloc (by simp [go_sem]; try omega) _)) (fun j y z hy hz => own_below (HZ3.out j y z hy hz) (((below_ext (Below.refl _ _) (Nat.le_refl _) s)).alloc (by simp [go_sem]; try omega) _)) ((HTW.out.two).below (((below_ext (Below.refl _ _) (Nat.le_refl _) s)).alloc (by simp [go_sem]; try omega) _)) (HTW.out.apart) ((own_mono HO.out (by omega)).alloc _) HO6.out HG6.out (by have := HA6.out; first | exact this | (simp only [go_sem] at this ⊢; exact this))
          · exact (HB.out.trans ((((below_ext (Below.refl _ _) (Nat.le_refl _) s)).alloc (by simp [go_sem]; try omega) _).mono HB.out.size)).grown HG6.out (by simp [go_sem]; omega) (fun i hi => (HZ2.out.lt i hi).1)
        case measure => simp [intOf]; omega
    · have hkn : k = xs.length := by omega
      rw [hkn, List.take_length] at htw
      have HTW := Lib.hid htw
      clear hkn htw
      go_wp2_with fail
      go_ret2
      exact ⟨_, _, rfl, HTW.out.one.one (Nat.le_refl _) (Nat.le_refl _), HTW.out.two.one (Nat.le_refl _) (Nat.le_refl _), hbw⟩

end Go.Proofs.Ythhpdpcingapgaa

/-
  The walk of Take.
-/
import Derived.Test.YthkollhebabhbaaBw9
import Derived.Test.YthkollhebabhbaaBt
namespace Go.Proofs.Ythkollhebabhbaa
open Go.RowKit
set_option linter.unusedSimpArgs false

theorem OwnInts.ints {w : World} {B c : Nat} {A : Option Addr} {l : List Nat} (h : OwnInts w B (.slice A l.length c) l) : Ints w A l := by
  obtain ⟨A', c', hv, hi, _⟩ := h.form
  simp only [Value.slice.injEq, true_and] at hv
  rw [hv.1]
  exact hi
theorem OwnBks.some_ {w : World} {B n c : Nat} {A : Option Addr} {xs : List Bk} (h : OwnBks w B (.slice A n c) xs) (hn : 0 < xs.length) : ∃ g, A = some ⟨g, 0, none⟩ ∧ B ≤ g ∧ g < w.heap.size := by
  obtain ⟨Z, h1, h2, h3⟩ := h
  rcases h2.2 with ⟨h4, h5⟩ | ⟨g, cap, cur, h4, hg, hh, _⟩
  · omega
  · simp only [Value.slice.injEq] at h4
    refine ⟨g, h4.1, hg, ?_⟩
    rcases Nat.lt_or_ge g w.heap.size with hlt | hge
    · exact hlt
    · rw [Array.getElem?_eq_none hge] at hh
      cases hh
/-- What a store into the buckets' row needs. -/
theorem OwnBks.left_at {w : World} {B n c g : Nat} {xs : List Bk} (h : OwnBks w B (.slice (some ⟨g, 0, none⟩) n c) xs) {p : Nat} {x : Bk} (hx : xs[p]? = some x) :
    w.cell? ⟨g, p * 12 + 9, none⟩ = some (.int .i64 x.left) ∧ w.frozen? ⟨g, p * 12 + 9, none⟩ = false := by
  obtain ⟨Z, h1, h2, h3⟩ := h
  have hp : p < xs.length := (List.getElem?_eq_some_iff.1 hx).1
  have hn : n = xs.length := by
    rcases h2.2 with ⟨h4, _⟩ | ⟨_, _, _, h4, _⟩
    · cases h4
    · simp only [Value.slice.injEq] at h4
      exact h4.2.1
  subst hn
  obtain ⟨z, hz⟩ : ∃ z, Z[p]? = some z := ⟨_, List.getElem?_eq_getElem (by omega)⟩
  exact ⟨by rw [h2.cellAt (p * 12 + 9) (by omega), Bk.rows_at xs Z p 9 x z hx hz (by omega)]; rfl, h2.frozenAt _⟩

def TakePost (xs : List Bk) (use : Bk → Bool) (n : Int) (w : World) (e : Ending) (w' : World) : Prop := ∃ v1 v2, e = .returned (.tuple #[v1, v2, .int .i64 (take xs use n).2.2]) ∧ OwnBks w' w.heap.size v1 (take xs use n).1 ∧ OwnTks w' w.heap.size v2 (take xs use n).2.1 ∧ Below w.heap.size w w'

theorem own_grown {w w' : World} {B B' size size' n n' : Nat} {e e' : TypeId} {v v' : Value} {xs xs' : List Value} (h : w.ownsRow B e size v n xs) (h2 : w.ownsRow B' e' size' v' n' xs') (hne : e ≠ e') (hg : w.grownBy w' v'.ownBlock) : w'.ownsRow B e size v n xs :=
  h.kept hg (own_ne h h2 hne)
theorem OwnBks.grown_ {w w' : World} {B B' : Nat} {v v' : Value} {xs : List Bk} {e' : TypeId} {size' n' : Nat} {xs' : List Value} (h : OwnBks w B v xs) (h2 : w.ownsRow B' e' size' v' n' xs') (h26 : 91 ≠ e') (h9 : 9 ≠ e') (hg : w.grownBy w' v'.ownBlock) : OwnBks w' B v xs := by
  obtain ⟨Z, h1, h3, h4⟩ := h
  exact ⟨Z, h1, h3.kept hg (own_ne h3 h2 h26), fun j x z hx hz => (h4 j x z hx hz).kept hg (own_ne (h4 j x z hx hz) h2 h9)⟩
theorem OwnBks.other {w w' : World} {B B' g n c : Nat} {xs : List Bk} {e' : TypeId} {size' n' : Nat} {v' : Value} {xs' : List Value} (h : OwnBks w B (.slice (some ⟨g, 0, none⟩) n c) xs) (h2 : w.ownsRow B' e' size' v' n' xs') (hne : e' ≠ 91) (hg : w.grownBy w' (some g)) : w'.ownsRow B' e' size' v' n' xs' := by
  obtain ⟨Z, h1, h3, h4⟩ := h
  exact h2.kept hg (by have := own_ne h2 h3 hne; simpa [Value.ownBlock] using this)

theorem take_end {xs : List Bk} {use : Bk → Bool} {n k : Int} {outs : List Bk} {ts : List Tk} {v1 v2 : Value} {w wr : World} (E : take xs use n = (outs, ts, k)) (h1 : OwnBks wr w.heap.size v1 outs) (h2 : OwnTks wr w.heap.size v2 ts) (hb : Below w.heap.size w wr) :
    ∃ a b, Ending.returned (.tuple #[v1, v2, .int .i64 k]) = .returned (.tuple #[a, b, .int .i64 (take xs use n).2.2]) ∧ OwnBks wr w.heap.size a (take xs use n).1 ∧ OwnTks wr w.heap.size b (take xs use n).2.1 ∧ Below w.heap.size w wr :=
  ⟨v1, v2, by rw [E], by rw [E]; exact h1, by rw [E]; exact h2, hb⟩

set_option maxHeartbeats 4000000 in
theorem take_pos (xs : List Bk) (A : Option Addr) (c : Nat) (account sub kind : Int) (zone : ByteArray) (family : Bool) (t n : Int) (w : World) (hxl : xs.length ≤ 1000) (hzn : ∀ x ∈ xs, x.zones.length ≤ 100) (hxs : Bks w A xs)
    (hn : n ≤ 9223372036854775807) (hleft : ∀ x ∈ xs, x.left ≤ 9223372036854775807) (hpos : 0 ≤ n) :
    Calls Try.prog 48 #[.slice A xs.length c, .int .i64 account, .int .i64 sub, .int .i64 kind, .string zone, .bool family, .int .i64 t, .int .i64 n] w (TakePost xs (fun x => x.usable account sub kind zone family t) n w) := by
  obtain ⟨i0, hi0, hz0, hz1, hz2⟩ := info_parts info_tk
  have Hx := Lib.hid hxs
  have Hzn := Lib.hid hzn
  have Hlf := Lib.hid hleft
  clear hxs hzn hleft
  unfold TakePost
  generalize hu : (fun x : Bk => x.usable account sub kind zone family t) = use
  have Hu := Lib.hid hu
  clear hu
  go_enter Try.func48, Try.ntmps48
  go_wp2_with fail
  refine (clones_any xs A c w hxl Hzn.out Hx.out).mono ?_
  rintro e w1 ⟨v1, rfl, own1, hb1⟩
  obtain ⟨A1, c1, rfl, _, _⟩ := own1.form
  go_wp2_with fail
  refine (places_any xs A c hxl xs.length 0 xs.length (Nat.le_refl _) (by omega) w1 _ _ (Hx.out.below hb1) rfl (by simp)).mono ?_
  rintro e w2 ⟨v2, rfl, own2, hb2⟩
  obtain ⟨A2, c2, rfl, _, _⟩ := own2.form
  have hO1 := own1.below hb2
  have hO2 : OwnInts w2 w.heap.size (.slice A2 (srt (posr xs) 0 xs.length).length c2) (srt (posr xs) 0 xs.length) := by
    unfold OwnInts at own2 ⊢
    exact own_mono own2 hb1.size
  have hB2 : Below w.heap.size w w2 := hb1.trans (hb2.mono hb1.size)
  have HO1 := Lib.hid hO1
  have hll : (srt (posr xs) 0 xs.length).length = xs.length := srt_length _ _
  have hl1 := Nat.le_of_eq hll
  have hl2 := Nat.le_of_eq hll.symm
  have hmem := Lib.hid (fun p (hp : p ∈ srt (posr xs) 0 xs.length) => srt_mem.1 hp)
  have hnd : (srt (posr xs) 0 xs.length).Nodup := (srt_perm (r := posr xs) 0 xs.length).nodup_iff.2 List.nodup_range'
  have Hnd := Lib.hid hnd
  have HT : Hid (take xs use n = tk xs use (srt (posr xs) 0 xs.length) xs [] n) := by
    unfold Hid take
    rw [show max n 0 = n by omega]
  clear own1 own2 hb1 hb2 hO1 hll hnd
  generalize srt (posr xs) 0 xs.length = l at *
  have HO2 := Lib.hid hO2
  have HB2 := Lib.hid hB2
  clear hO2 hB2
  go_wp2_with fail
  go_loopw [7, 20, 34] (fun m vt i wr => ∃ (j : Nat) (outs : List Bk) (ts : List Tk) (k : Int), j ≤ l.length ∧ i = .int .i64 (j : Int) ∧ m = .int .i64 k ∧ 0 ≤ k ∧ k ≤ 9223372036854775807 ∧ OwnBks wr w.heap.size (.slice A1 xs.length c1) outs ∧ OwnTks wr w.heap.size vt ts ∧ ts.length ≤ j ∧ outs.length = xs.length ∧
    tk xs use (l.drop j) outs ts k = tk xs use l xs [] n ∧ (∀ p ∈ l.drop j, outs[p]? = xs[p]?) ∧ Below w.heap.size w wr ∧ OwnInts wr w.heap.size (.slice A2 l.length c2) l) (fun _ _ i _ => l.length - (intOf i).toNat)
  case atStart => exact ⟨0, xs, [], n, Nat.zero_le _, rfl, rfl, by omega, by omega, HO1.out, OwnTks.nil _ _, Nat.le_refl _, rfl, rfl, fun _ _ => rfl, HB2.out, HO2.out⟩
  case round =>
    obtain ⟨j, outs, ts, k, hj, rfl, rfl, hk0, hk1, hob, hot, htl, hol, htk, hag, hbw, hoi⟩ := hrel
    have HOB := Lib.hid hob
    have HOT := Lib.hid hot
    have HTK := Lib.hid htk
    have HAG := Lib.hid hag
    have HB := Lib.hid hbw
    have HOI := Lib.hid hoi
    have HOL := Lib.hid hol
    have hsz := hbw.size
    have HX := Lib.hid (Hx.out.below hbw)
    clear hob hot htk hag hbw hoi hol
    by_cases hlt : j < l.length
    · obtain ⟨p, hp⟩ : ∃ p, l[j]? = some p := ⟨_, List.getElem?_eq_getElem hlt⟩
      have hpm := hmem.out p (List.mem_of_getElem? hp)
      obtain ⟨g2, o2, rfl, hg2, hc2⟩ := HOI.out.ints j p hp
      have HP := Lib.hid hp
      clear hp
      by_cases hkz : k = 0
      · subst hkz
        have E : Hid (take xs use n = (outs, ts, 0)) := by
          unfold Hid
          rw [HT.out, ← HTK.out, tk_zero]
        go_wp2_with fail
        go_ret3
        exact take_end E.out HOB.out HOT.out HB.out
      · have hkb : (k == 0) = false := beq_eq_false_iff_ne.2 hkz
        have HKZ := Lib.hid hkz
        clear hkz
        obtain ⟨x, hx⟩ : ∃ b, xs[p]? = some b := ⟨_, List.getElem?_eq_getElem (by omega)⟩
        obtain ⟨b, o, za, zc, rfl, hb, x0, x1, x2, x3, x4, x5, x6, x7, x8, x9, x10, x11, hzs, hzc⟩ := bk_cells HX.out hx
        have hxm := Hzn.out x (List.mem_of_getElem? hx)
        have hxl := Hlf.out x (List.mem_of_getElem? hx)
        have HXX := Lib.hid hx
        have HZS := Lib.hid hzs
        clear hzs hzc hx
        have hpb : (p : Int) < (xs.length : Int) := by omega
        cases hus : x.usable account sub kind zone family t
        · have hun : use x = false := by rw [← Hu.out]; exact hus
          have HUN := Lib.hid hun
          clear hun
          go_wp2_with (go_at_call 67; refine (usable_any x za zc _ _ _ _ _ _ _ hxm HZS.out).mono ?_; rintro e w1 ⟨rfl, hb⟩; obtain ⟨s, rfl⟩ := ext_of_below hb; clear hb)
          go_roundw
          case rel =>
            refine ⟨j + 1, outs, ts, k, by omega, by go_num, rfl, hk0, hk1, HOB.out.below (below_ext (Below.refl _ _) (Nat.le_refl _) s), own_below HOT.out (below_ext (Below.refl _ _) (Nat.le_refl _) s), by omega, HOL.out, ?_, fun q hq => HAG.out q ?_, below_ext HB.out HB.out.size s, own_below HOI.out (below_ext (Below.refl _ _) (Nat.le_refl _) s)⟩
            · rw [← tk_skip HP.out HXX.out HUN.out]
              exact HTK.out
            · rw [drop_at HP.out]
              exact List.mem_cons_of_mem _ hq
          case measure => simp [intOf]; omega
        · have hun : use x = true := by rw [← Hu.out]; exact hus
          have hxpos : 0 < x.left := by
            simp only [Bk.usable, Bool.and_eq_true, decide_eq_true_eq] at hus
            exact hus.1.1.1.1
          have HUN := Lib.hid hun
          clear hun
          have hop : outs[p]? = some x := by rw [HAG.out p (by rw [drop_at HP.out]; exact List.mem_cons_self ..)]; exact HXX.out
          obtain ⟨g, rfl, hgw, hgl⟩ := HOB.out.some_ (by rw [HOL.out]; omega)
          obtain ⟨hcl, hfz⟩ := HOB.out.left_at hop
          have HOP := Lib.hid hop
          clear hop
          have hbw' : b < w.heap.size := by
            obtain ⟨b', o', _, _, hA, hb', _⟩ := Hx.out p x HXX.out
            simp only [Option.some.injEq, Addr.mk.injEq, and_true] at hA
            rw [hA.1]
            exact hb'
          have hne1 : ¬ b = g := by omega
          have hne2 : ¬ g = b := by omega
          rcases Int.lt_or_le x.left k with hkx | hkx
          · have hmin : min k x.left = x.left := by omega
            have HMIN := Lib.hid hmin
            obtain ⟨hob2, hgr2⟩ := HOB.out.stored HOP.out (0 : Int)
            have HOB2 := Lib.hid hob2
            have HOT2 := Lib.hid (HOB.out.other HOT.out (by decide) hgr2)
            have HOI2 := Lib.hid (HOB.out.other HOI.out (by decide) hgr2)
            have HB2' := Lib.hid (HB.out.setCell (p := ⟨g, p * 12 + 9, none⟩) hgw (.int .i64 (0 : Int)))
            clear hmin hob2 hgr2
            go_wp2_with (first
              | (go_at_call 67; refine (usable_any x za zc _ _ _ _ _ _ _ hxm HZS.out).mono ?_; rintro e w5 ⟨rfl, hb5⟩; obtain ⟨sU, rfl⟩ := ext_of_below hb5; clear hb5)
              | (go_at_call 59; refine (of_any x za zc _).mono ?_; rintro e w5 ⟨rfl, hb5⟩; obtain ⟨sO, rfl⟩ := ext_of_below hb5; clear hb5)
              | (at_builtin; refine wpList_append_own _ rfl _ _ _ rfl w.heap.size 86 i0 _ 5 48 Try.underlying41 hi0 hz0 hz1 hz2 rfl (by omega) _ ts.length (ts.flatMap Tk.cells) rfl (((own_below HOT2.out (below_ext (Below.refl _ _) (Nat.le_refl _) (sU.cat sO))).alloc _).alloc _) ⟨wr.heap.size + (sU.cat sO).n + 1, 0, none⟩ 1 1 (Tk.cells ⟨x.sub, x.prod, x.idx, x.frm, x.left⟩) rfl rfl (cells_new _ (by simp [go_sem])) (tk_one _) (by simp only [maxLen]; omega) (by omega) (by simp [go_sem]; omega) ?_; intro v6 w6 hown6 hg6 hnil6; clear hnil6; have HO6 := Lib.hid hown6; have HG6 := Lib.hid hg6; clear hown6 hg6))
            go_roundw
            case rel =>
              refine ⟨j + 1, outs.set p (x.withLeft (0 : Int)), ts ++ [⟨x.sub, x.prod, x.idx, x.frm, x.left⟩], (k - x.left), by omega, by go_num, by go_num, by omega, by omega, ?_, ?_, by simp; omega, by rw [List.length_set]; exact HOL.out, ?_, fun q hq => ?_, ?_, ?_⟩
              · exact OwnBks.grown_ ((((HOB2.out.below (below_ext (Below.refl _ _) (Nat.le_refl _) (sU.cat sO))).below ((Below.refl _ _).alloc (Nat.le_refl _) _)).below ((Below.refl _ _).alloc (Nat.le_refl _) _))) (((own_below HOT2.out (below_ext (Below.refl _ _) (Nat.le_refl _) (sU.cat sO))).alloc _).alloc _) (by decide) (by decide) HG6.out
              · unfold OwnTks
                rw [List.length_append, List.flatMap_append]
                simpa using HO6.out
              · have h1 := tk_take (ts := ts) (out := outs) HP.out HXX.out HKZ.out HUN.out
                rw [HMIN.out, Int.sub_self] at h1
                exact h1.symm.trans HTK.out
              · have hqp : p ≠ q := by
                  have h1 := Hnd.out.sublist (List.drop_sublist j l)
                  rw [drop_at HP.out] at h1
                  intro e1
                  subst e1
                  exact (List.nodup_cons.1 h1).1 hq
                rw [List.getElem?_set_ne hqp]
                exact HAG.out q (by rw [drop_at HP.out]; exact List.mem_cons_of_mem _ hq)
              · exact (Below.alloc (Below.alloc (below_ext HB2'.out HB2'.out.size (sU.cat sO)) (by simp [go_sem]; omega) _) (by simp [go_sem]; omega) _).grown HG6.out (by simp [go_sem]; omega) (fun i hi => (HOT.out.lt i hi).1)
              · exact own_grown (((own_below HOI2.out (below_ext (Below.refl _ _) (Nat.le_refl _) (sU.cat sO))).alloc _).alloc _) (((own_below HOT2.out (below_ext (Below.refl _ _) (Nat.le_refl _) (sU.cat sO))).alloc _).alloc _) (by decide) HG6.out
            case measure => simp [intOf]; omega
          · have hmin : min k x.left = k := by omega
            have HMIN := Lib.hid hmin
            obtain ⟨hob2, hgr2⟩ := HOB.out.stored HOP.out (x.left - k)
            have HOB2 := Lib.hid hob2
            have HOT2 := Lib.hid (HOB.out.other HOT.out (by decide) hgr2)
            have HOI2 := Lib.hid (HOB.out.other HOI.out (by decide) hgr2)
            have HB2' := Lib.hid (HB.out.setCell (p := ⟨g, p * 12 + 9, none⟩) hgw (.int .i64 (x.left - k)))
            clear hmin hob2 hgr2
            go_wp2_with (first
              | (go_at_call 67; refine (usable_any x za zc _ _ _ _ _ _ _ hxm HZS.out).mono ?_; rintro e w5 ⟨rfl, hb5⟩; obtain ⟨sU, rfl⟩ := ext_of_below hb5; clear hb5)
              | (go_at_call 59; refine (of_any x za zc _).mono ?_; rintro e w5 ⟨rfl, hb5⟩; obtain ⟨sO, rfl⟩ := ext_of_below hb5; clear hb5)
              | (at_builtin; refine wpList_append_own _ rfl _ _ _ rfl w.heap.size 86 i0 _ 5 48 Try.underlying41 hi0 hz0 hz1 hz2 rfl (by omega) _ ts.length (ts.flatMap Tk.cells) rfl (((own_below HOT2.out (below_ext (Below.refl _ _) (Nat.le_refl _) (sU.cat sO))).alloc _).alloc _) ⟨wr.heap.size + (sU.cat sO).n + 1, 0, none⟩ 1 1 (Tk.cells ⟨x.sub, x.prod, x.idx, x.frm, k⟩) rfl rfl (cells_new _ (by simp [go_sem])) (tk_one _) (by simp only [maxLen]; omega) (by omega) (by simp [go_sem]; omega) ?_; intro v6 w6 hown6 hg6 hnil6; clear hnil6; have HO6 := Lib.hid hown6; have HG6 := Lib.hid hg6; clear hown6 hg6))
            go_roundw
            case rel =>
              refine ⟨j + 1, outs.set p (x.withLeft (x.left - k)), ts ++ [⟨x.sub, x.prod, x.idx, x.frm, k⟩], (0 : Int), by omega, by go_num, by go_num, by omega, by omega, ?_, ?_, by simp; omega, by rw [List.length_set]; exact HOL.out, ?_, fun q hq => ?_, ?_, ?_⟩
              · exact OwnBks.grown_ ((((HOB2.out.below (below_ext (Below.refl _ _) (Nat.le_refl _) (sU.cat sO))).below ((Below.refl _ _).alloc (Nat.le_refl _) _)).below ((Below.refl _ _).alloc (Nat.le_refl _) _))) (((own_below HOT2.out (below_ext (Below.refl _ _) (Nat.le_refl _) (sU.cat sO))).alloc _).alloc _) (by decide) (by decide) HG6.out
              · unfold OwnTks
                rw [List.length_append, List.flatMap_append]
                simpa using HO6.out
              · have h1 := tk_take (ts := ts) (out := outs) HP.out HXX.out HKZ.out HUN.out
                rw [HMIN.out, Int.sub_self] at h1
                exact h1.symm.trans HTK.out
              · have hqp : p ≠ q := by
                  have h1 := Hnd.out.sublist (List.drop_sublist j l)
                  rw [drop_at HP.out] at h1
                  intro e1
                  subst e1
                  exact (List.nodup_cons.1 h1).1 hq
                rw [List.getElem?_set_ne hqp]
                exact HAG.out q (by rw [drop_at HP.out]; exact List.mem_cons_of_mem _ hq)
              · exact (Below.alloc (Below.alloc (below_ext HB2'.out HB2'.out.size (sU.cat sO)) (by simp [go_sem]; omega) _) (by simp [go_sem]; omega) _).grown HG6.out (by simp [go_sem]; omega) (fun i hi => (HOT.out.lt i hi).1)
              · exact own_grown (((own_below HOI2.out (below_ext (Below.refl _ _) (Nat.le_refl _) (sU.cat sO))).alloc _).alloc _) (((own_below HOT2.out (below_ext (Below.refl _ _) (Nat.le_refl _) (sU.cat sO))).alloc _).alloc _) (by decide) HG6.out
            case measure => simp [intOf]; omega
    · have hje : j = l.length := by omega
      have E : Hid (take xs use n = (outs, ts, k)) := by
        unfold Hid
        have := HTK.out
        rw [hje, List.drop_length] at this
        rw [HT.out, ← this]
        rfl
      clear hje
      go_wp2_with fail
      go_ret3
      exact take_end E.out HOB.out HOT.out HB.out

set_option maxHeartbeats 4000000 in
theorem take_neg (xs : List Bk) (A : Option Addr) (c : Nat) (account sub kind : Int) (zone : ByteArray) (family : Bool) (t n : Int) (w : World) (hxl : xs.length ≤ 1000) (hzn : ∀ x ∈ xs, x.zones.length ≤ 100) (hxs : Bks w A xs)
    (_hn : n ≤ 9223372036854775807) (hleft : ∀ x ∈ xs, x.left ≤ 9223372036854775807) (hpos : n < 0) :
    Calls Try.prog 48 #[.slice A xs.length c, .int .i64 account, .int .i64 sub, .int .i64 kind, .string zone, .bool family, .int .i64 t, .int .i64 n] w (TakePost xs (fun x => x.usable account sub kind zone family t) n w) := by
  obtain ⟨i0, hi0, hz0, hz1, hz2⟩ := info_parts info_tk
  have Hx := Lib.hid hxs
  have Hzn := Lib.hid hzn
  have Hlf := Lib.hid hleft
  clear hxs hzn hleft
  unfold TakePost
  generalize hu : (fun x : Bk => x.usable account sub kind zone family t) = use
  have Hu := Lib.hid hu
  clear hu
  go_enter Try.func48, Try.ntmps48
  go_wp2_with fail
  refine (clones_any xs A c w hxl Hzn.out Hx.out).mono ?_
  rintro e w1 ⟨v1, rfl, own1, hb1⟩
  obtain ⟨A1, c1, rfl, _, _⟩ := own1.form
  go_wp2_with fail
  refine (places_any xs A c hxl xs.length 0 xs.length (Nat.le_refl _) (by omega) w1 _ _ (Hx.out.below hb1) rfl (by simp)).mono ?_
  rintro e w2 ⟨v2, rfl, own2, hb2⟩
  obtain ⟨A2, c2, rfl, _, _⟩ := own2.form
  have hO1 := own1.below hb2
  have hO2 : OwnInts w2 w.heap.size (.slice A2 (srt (posr xs) 0 xs.length).length c2) (srt (posr xs) 0 xs.length) := by
    unfold OwnInts at own2 ⊢
    exact own_mono own2 hb1.size
  have hB2 : Below w.heap.size w w2 := hb1.trans (hb2.mono hb1.size)
  have HO1 := Lib.hid hO1
  have hll : (srt (posr xs) 0 xs.length).length = xs.length := srt_length _ _
  have hl1 := Nat.le_of_eq hll
  have hl2 := Nat.le_of_eq hll.symm
  have hmem := Lib.hid (fun p (hp : p ∈ srt (posr xs) 0 xs.length) => srt_mem.1 hp)
  have hnd : (srt (posr xs) 0 xs.length).Nodup := (srt_perm (r := posr xs) 0 xs.length).nodup_iff.2 List.nodup_range'
  have Hnd := Lib.hid hnd
  have HT : Hid (take xs use n = tk xs use (srt (posr xs) 0 xs.length) xs [] (0 : Int)) := by
    unfold Hid take
    rw [show max n 0 = (0 : Int) by omega]
  clear own1 own2 hb1 hb2 hO1 hll hnd
  generalize srt (posr xs) 0 xs.length = l at *
  have HO2 := Lib.hid hO2
  have HB2 := Lib.hid hB2
  clear hO2 hB2
  go_wp2_with fail
  go_loopw [7, 20, 34] (fun m vt i wr => ∃ (j : Nat) (outs : List Bk) (ts : List Tk) (k : Int), j ≤ l.length ∧ i = .int .i64 (j : Int) ∧ m = .int .i64 k ∧ 0 ≤ k ∧ k ≤ 9223372036854775807 ∧ OwnBks wr w.heap.size (.slice A1 xs.length c1) outs ∧ OwnTks wr w.heap.size vt ts ∧ ts.length ≤ j ∧ outs.length = xs.length ∧
    tk xs use (l.drop j) outs ts k = tk xs use l xs [] (0 : Int) ∧ (∀ p ∈ l.drop j, outs[p]? = xs[p]?) ∧ Below w.heap.size w wr ∧ OwnInts wr w.heap.size (.slice A2 l.length c2) l) (fun _ _ i _ => l.length - (intOf i).toNat)
  case atStart => exact ⟨0, xs, [], (0 : Int), Nat.zero_le _, rfl, rfl, by omega, by omega, HO1.out, OwnTks.nil _ _, Nat.le_refl _, rfl, rfl, fun _ _ => rfl, HB2.out, HO2.out⟩
  case round =>
    obtain ⟨j, outs, ts, k, hj, rfl, rfl, hk0, hk1, hob, hot, htl, hol, htk, hag, hbw, hoi⟩ := hrel
    have HOB := Lib.hid hob
    have HOT := Lib.hid hot
    have HTK := Lib.hid htk
    have HAG := Lib.hid hag
    have HB := Lib.hid hbw
    have HOI := Lib.hid hoi
    have HOL := Lib.hid hol
    have hsz := hbw.size
    have HX := Lib.hid (Hx.out.below hbw)
    clear hob hot htk hag hbw hoi hol
    by_cases hlt : j < l.length
    · obtain ⟨p, hp⟩ : ∃ p, l[j]? = some p := ⟨_, List.getElem?_eq_getElem hlt⟩
      have hpm := hmem.out p (List.mem_of_getElem? hp)
      obtain ⟨g2, o2, rfl, hg2, hc2⟩ := HOI.out.ints j p hp
      have HP := Lib.hid hp
      clear hp
      by_cases hkz : k = 0
      · subst hkz
        have E : Hid (take xs use n = (outs, ts, 0)) := by
          unfold Hid
          rw [HT.out, ← HTK.out, tk_zero]
        go_wp2_with fail
        go_ret3
        exact take_end E.out HOB.out HOT.out HB.out
      · have hkb : (k == 0) = false := beq_eq_false_iff_ne.2 hkz
        have HKZ := Lib.hid hkz
        clear hkz
        obtain ⟨x, hx⟩ : ∃ b, xs[p]? = some b := ⟨_, List.getElem?_eq_getElem (by omega)⟩
        obtain ⟨b, o, za, zc, rfl, hb, x0, x1, x2, x3, x4, x5, x6, x7, x8, x9, x10, x11, hzs, hzc⟩ := bk_cells HX.out hx
        have hxm := Hzn.out x (List.mem_of_getElem? hx)
        have hxl := Hlf.out x (List.mem_of_getElem? hx)
        have HXX := Lib.hid hx
        have HZS := Lib.hid hzs
        clear hzs hzc hx
        have hpb : (p : Int) < (xs.length : Int) := by omega
        cases hus : x.usable account sub kind zone family t
        · have hun : use x = false := by rw [← Hu.out]; exact hus
          have HUN := Lib.hid hun
          clear hun
          go_wp2_with (go_at_call 67; refine (usable_any x za zc _ _ _ _ _ _ _ hxm HZS.out).mono ?_; rintro e w1 ⟨rfl, hb⟩; obtain ⟨s, rfl⟩ := ext_of_below hb; clear hb)
          go_roundw
          case rel =>
            refine ⟨j + 1, outs, ts, k, by omega, by go_num, rfl, hk0, hk1, HOB.out.below (below_ext (Below.refl _ _) (Nat.le_refl _) s), own_below HOT.out (below_ext (Below.refl _ _) (Nat.le_refl _) s), by omega, HOL.out, ?_, fun q hq => HAG.out q ?_, below_ext HB.out HB.out.size s, own_below HOI.out (below_ext (Below.refl _ _) (Nat.le_refl _) s)⟩
            · rw [← tk_skip HP.out HXX.out HUN.out]
              exact HTK.out
            · rw [drop_at HP.out]
              exact List.mem_cons_of_mem _ hq
          case measure => simp [intOf]; omega
        · have hun : use x = true := by rw [← Hu.out]; exact hus
          have hxpos : 0 < x.left := by
            simp only [Bk.usable, Bool.and_eq_true, decide_eq_true_eq] at hus
            exact hus.1.1.1.1
          have HUN := Lib.hid hun
          clear hun
          have hop : outs[p]? = some x := by rw [HAG.out p (by rw [drop_at HP.out]; exact List.mem_cons_self ..)]; exact HXX.out
          obtain ⟨g, rfl, hgw, hgl⟩ := HOB.out.some_ (by rw [HOL.out]; omega)
          obtain ⟨hcl, hfz⟩ := HOB.out.left_at hop
          have HOP := Lib.hid hop
          clear hop
          have hbw' : b < w.heap.size := by
            obtain ⟨b', o', _, _, hA, hb', _⟩ := Hx.out p x HXX.out
            simp only [Option.some.injEq, Addr.mk.injEq, and_true] at hA
            rw [hA.1]
            exact hb'
          have hne1 : ¬ b = g := by omega
          have hne2 : ¬ g = b := by omega
          rcases Int.lt_or_le x.left k with hkx | hkx
          · have hmin : min k x.left = x.left := by omega
            have HMIN := Lib.hid hmin
            obtain ⟨hob2, hgr2⟩ := HOB.out.stored HOP.out (0 : Int)
            have HOB2 := Lib.hid hob2
            have HOT2 := Lib.hid (HOB.out.other HOT.out (by decide) hgr2)
            have HOI2 := Lib.hid (HOB.out.other HOI.out (by decide) hgr2)
            have HB2' := Lib.hid (HB.out.setCell (p := ⟨g, p * 12 + 9, none⟩) hgw (.int .i64 (0 : Int)))
            clear hmin hob2 hgr2
            go_wp2_with (first
              | (go_at_call 67; refine (usable_any x za zc _ _ _ _ _ _ _ hxm HZS.out).mono ?_; rintro e w5 ⟨rfl, hb5⟩; obtain ⟨sU, rfl⟩ := ext_of_below hb5; clear hb5)
              | (go_at_call 59; refine (of_any x za zc _).mono ?_; rintro e w5 ⟨rfl, hb5⟩; obtain ⟨sO, rfl⟩ := ext_of_below hb5; clear hb5)
              | (at_builtin; refine wpList_append_own _ rfl _ _ _ rfl w.heap.size 86 i0 _ 5 48 Try.underlying41 hi0 hz0 hz1 hz2 rfl (by omega) _ ts.length (ts.flatMap Tk.cells) rfl (((own_below HOT2.out (below_ext (Below.refl _ _) (Nat.le_refl _) (sU.cat sO))).alloc _).alloc _) ⟨wr.heap.size + (sU.cat sO).n + 1, 0, none⟩ 1 1 (Tk.cells ⟨x.sub, x.prod, x.idx, x.frm, x.left⟩) rfl rfl (cells_new _ (by simp [go_sem])) (tk_one _) (by simp only [maxLen]; omega) (by omega) (by simp [go_sem]; omega) ?_; intro v6 w6 hown6 hg6 hnil6; clear hnil6; have HO6 := Lib.hid hown6; have HG6 := Lib.hid hg6; clear hown6 hg6))
            go_roundw
            case rel =>
              refine ⟨j + 1, outs.set p (x.withLeft (0 : Int)), ts ++ [⟨x.sub, x.prod, x.idx, x.frm, x.left⟩], (k - x.left), by omega, by go_num, by go_num, by omega, by omega, ?_, ?_, by simp; omega, by rw [List.length_set]; exact HOL.out, ?_, fun q hq => ?_, ?_, ?_⟩
              · exact OwnBks.grown_ ((((HOB2.out.below (below_ext (Below.refl _ _) (Nat.le_refl _) (sU.cat sO))).below ((Below.refl _ _).alloc (Nat.le_refl _) _)).below ((Below.refl _ _).alloc (Nat.le_refl _) _))) (((own_below HOT2.out (below_ext (Below.refl _ _) (Nat.le_refl _) (sU.cat sO))).alloc _).alloc _) (by decide) (by decide) HG6.out
              · unfold OwnTks
                rw [List.length_append, List.flatMap_append]
                simpa using HO6.out
              · have h1 := tk_take (ts := ts) (out := outs) HP.out HXX.out HKZ.out HUN.out
                rw [HMIN.out, Int.sub_self] at h1
                exact h1.symm.trans HTK.out
              · have hqp : p ≠ q := by
                  have h1 := Hnd.out.sublist (List.drop_sublist j l)
                  rw [drop_at HP.out] at h1
                  intro e1
                  subst e1
                  exact (List.nodup_cons.1 h1).1 hq
                rw [List.getElem?_set_ne hqp]
                exact HAG.out q (by rw [drop_at HP.out]; exact List.mem_cons_of_mem _ hq)
              · exact (Below.alloc (Below.alloc (below_ext HB2'.out HB2'.out.size (sU.cat sO)) (by simp [go_sem]; omega) _) (by simp [go_sem]; omega) _).grown HG6.out (by simp [go_sem]; omega) (fun i hi => (HOT.out.lt i hi).1)
              · exact own_grown (((own_below HOI2.out (below_ext (Below.refl _ _) (Nat.le_refl _) (sU.cat sO))).alloc _).alloc _) (((own_below HOT2.out (below_ext (Below.refl _ _) (Nat.le_refl _) (sU.cat sO))).alloc _).alloc _) (by decide) HG6.out
            case measure => simp [intOf]; omega
          · have hmin : min k x.left = k := by omega
            have HMIN := Lib.hid hmin
            obtain ⟨hob2, hgr2⟩ := HOB.out.stored HOP.out (x.left - k)
            have HOB2 := Lib.hid hob2
            have HOT2 := Lib.hid (HOB.out.other HOT.out (by decide) hgr2)
            have HOI2 := Lib.hid (HOB.out.other HOI.out (by decide) hgr2)
            have HB2' := Lib.hid (HB.out.setCell (p := ⟨g, p * 12 + 9, none⟩) hgw (.int .i64 (x.left - k)))
            clear hmin hob2 hgr2
            go_wp2_with (first
              | (go_at_call 67; refine (usable_any x za zc _ _ _ _ _ _ _ hxm HZS.out).mono ?_; rintro e w5 ⟨rfl, hb5⟩; obtain ⟨sU, rfl⟩ := ext_of_below hb5; clear hb5)
              | (go_at_call 59; refine (of_any x za zc _).mono ?_; rintro e w5 ⟨rfl, hb5⟩; obtain ⟨sO, rfl⟩ := ext_of_below hb5; clear hb5)
              | (at_builtin; refine wpList_append_own _ rfl _ _ _ rfl w.heap.size 86 i0 _ 5 48 Try.underlying41 hi0 hz0 hz1 hz2 rfl (by omega) _ ts.length (ts.flatMap Tk.cells) rfl (((own_below HOT2.out (below_ext (Below.refl _ _) (Nat.le_refl _) (sU.cat sO))).alloc _).alloc _) ⟨wr.heap.size + (sU.cat sO).n + 1, 0, none⟩ 1 1 (Tk.cells ⟨x.sub, x.prod, x.idx, x.frm, k⟩) rfl rfl (cells_new _ (by simp [go_sem])) (tk_one _) (by simp only [maxLen]; omega) (by omega) (by simp [go_sem]; omega) ?_; intro v6 w6 hown6 hg6 hnil6; clear hnil6; have HO6 := Lib.hid hown6; have HG6 := Lib.hid hg6; clear hown6 hg6))
            go_roundw
            case rel =>
              refine ⟨j + 1, outs.set p (x.withLeft (x.left - k)), ts ++ [⟨x.sub, x.prod, x.idx, x.frm, k⟩], (0 : Int), by omega, by go_num, by go_num, by omega, by omega, ?_, ?_, by simp; omega, by rw [List.length_set]; exact HOL.out, ?_, fun q hq => ?_, ?_, ?_⟩
              · exact OwnBks.grown_ ((((HOB2.out.below (below_ext (Below.refl _ _) (Nat.le_refl _) (sU.cat sO))).below ((Below.refl _ _).alloc (Nat.le_refl _) _)).below ((Below.refl _ _).alloc (Nat.le_refl _) _))) (((own_below HOT2.out (below_ext (Below.refl _ _) (Nat.le_refl _) (sU.cat sO))).alloc _).alloc _) (by decide) (by decide) HG6.out
              · unfold OwnTks
                rw [List.length_append, List.flatMap_append]
                simpa using HO6.out
              · have h1 := tk_take (ts := ts) (out := outs) HP.out HXX.out HKZ.out HUN.out
                rw [HMIN.out, Int.sub_self] at h1
                exact h1.symm.trans HTK.out
              · have hqp : p ≠ q := by
                  have h1 := Hnd.out.sublist (List.drop_sublist j l)
                  rw [drop_at HP.out] at h1
                  intro e1
                  subst e1
                  exact (List.nodup_cons.1 h1).1 hq
                rw [List.getElem?_set_ne hqp]
                exact HAG.out q (by rw [drop_at HP.out]; exact List.mem_cons_of_mem _ hq)
              · exact (Below.alloc (Below.alloc (below_ext HB2'.out HB2'.out.size (sU.cat sO)) (by simp [go_sem]; omega) _) (by simp [go_sem]; omega) _).grown HG6.out (by simp [go_sem]; omega) (fun i hi => (HOT.out.lt i hi).1)
              · exact own_grown (((own_below HOI2.out (below_ext (Below.refl _ _) (Nat.le_refl _) (sU.cat sO))).alloc _).alloc _) (((own_below HOT2.out (below_ext (Below.refl _ _) (Nat.le_refl _) (sU.cat sO))).alloc _).alloc _) (by decide) HG6.out
            case measure => simp [intOf]; omega
    · have hje : j = l.length := by omega
      have E : Hid (take xs use n = (outs, ts, k)) := by
        unfold Hid
        have := HTK.out
        rw [hje, List.drop_length] at this
        rw [HT.out, ← this]
        rfl
      clear hje
      go_wp2_with fail
      go_ret3
      exact take_end E.out HOB.out HOT.out HB.out

theorem take_any (xs : List Bk) (A : Option Addr) (c : Nat) (account sub kind : Int) (zone : ByteArray) (family : Bool) (t n : Int) (w : World) (hxl : xs.length ≤ 1000) (hzn : ∀ x ∈ xs, x.zones.length ≤ 100) (hxs : Bks w A xs)
    (hn : n ≤ 9223372036854775807) (hleft : ∀ x ∈ xs, x.left ≤ 9223372036854775807) :
    Calls Try.prog 48 #[.slice A xs.length c, .int .i64 account, .int .i64 sub, .int .i64 kind, .string zone, .bool family, .int .i64 t, .int .i64 n] w (TakePost xs (fun x => x.usable account sub kind zone family t) n w) := by
  rcases Int.lt_or_le n 0 with h | h
  · exact take_neg xs A c account sub kind zone family t n w hxl hzn hxs hn hleft h
  · exact take_pos xs A c account sub kind zone family t n w hxl hzn hxs hn hleft h
end Go.Proofs.Ythkollhebabhbaa

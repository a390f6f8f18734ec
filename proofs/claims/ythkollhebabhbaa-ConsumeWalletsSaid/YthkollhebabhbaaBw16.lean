/-
  The walk of the reference's Take.
-/
import Derived.Test.YthkollhebabhbaaBw14
namespace Go.Proofs.Ythkollhebabhbaa
open Go.RowKit
set_option linter.unusedSimpArgs false

set_option maxHeartbeats 4000000 in
theorem rtake_pos (xs : List Bk) (A : Option Addr) (c : Nat) (account sub kind : Int) (zone : ByteArray) (family : Bool) (t n : Int) (w : World) (hxl : xs.length ≤ 1000) (hzn : ∀ x ∈ xs, x.zones.length ≤ 100) (hxs : Bks w A xs)
    (hn : n ≤ 9223372036854775807) (hleft : ∀ x ∈ xs, x.left ≤ 9223372036854775807) (hpos : 0 ≤ n) :
    Calls Try.prog 49 #[.slice A xs.length c, .int .i64 account, .int .i64 sub, .int .i64 kind, .string zone, .bool family, .int .i64 t, .int .i64 n] w (TakePost xs (fun x => x.usable account sub kind zone family t) n w) := by
  obtain ⟨i0, hi0, hz0, hz1, hz2⟩ := info_parts info_tk
  have Hx := Lib.hid hxs
  have Hzn := Lib.hid hzn
  have Hlf := Lib.hid hleft
  clear hxs hzn hleft
  unfold TakePost
  generalize hu : (fun x : Bk => x.usable account sub kind zone family t) = use
  have Hu := Lib.hid hu
  clear hu
  go_enter Try.func49, Try.ntmps49
  go_wp2_with fail
  refine (copies_any xs A c w hxl Hzn.out Hx.out).mono ?_
  rintro e w1 ⟨v1, rfl, own1, hb1⟩
  obtain ⟨A1, c1, rfl, _, _⟩ := own1.form
  go_wp2_with fail
  refine (rplaces_any xs A c hxl w1 (Hx.out.below hb1)).mono ?_
  rintro e w2 ⟨v2, rfl, own2, hb2⟩
  obtain ⟨A2, c2, rfl, _, _⟩ := own2.form
  have hO1 := own1.below hb2
  have hO2 : OwnInts w2 w.heap.size (.slice A2 (srt (posr xs) 0 xs.length).length c2) (srt (posr xs) 0 xs.length) := by
    unfold OwnInts at own2 ⊢
    exact own_mono own2 hb1.size
  have hB2 : Below w.heap.size w w2 := hb1.trans (hb2.mono hb1.size)
  have HO1 := Lib.hid hO1
  have hll : (srt (posr xs) 0 xs.length).length = xs.length := srt_length _ _
  have hl1 := Nat.le_of_eq hll
  have hl2 := Nat.le_of_eq hll.symm
  have hmem := Lib.hid (fun p (hp : p ∈ srt (posr xs) 0 xs.length) => srt_mem.1 hp)
  have hnd : (srt (posr xs) 0 xs.length).Nodup := (srt_perm (r := posr xs) 0 xs.length).nodup_iff.2 List.nodup_range'
  have Hnd := Lib.hid hnd
  have HT : Hid (take xs use n = tk xs use (srt (posr xs) 0 xs.length) xs [] n) := by
    unfold Hid take
    rw [show max n 0 = n by omega]
  clear own1 own2 hb1 hb2 hO1 hll hnd
  generalize srt (posr xs) 0 xs.length = l at *
  have HO2 := Lib.hid hO2
  have HB2 := Lib.hid hB2
  clear hO2 hB2
  go_wp2_with fail
  go_loopw [20, 21, 23] (fun m vt i wr => ∃ (j : Nat) (outs : List Bk) (ts : List Tk) (k : Int), j ≤ l.length ∧ i = .int .i64 (j : Int) ∧ m = .int .i64 k ∧ 0 ≤ k ∧ k ≤ 9223372036854775807 ∧ OwnBks wr w.heap.size (.slice A1 xs.length c1) outs ∧ OwnTks wr w.heap.size vt ts ∧ ts.length ≤ j ∧ outs.length = xs.length ∧
    tk xs use (l.drop j) outs ts k = tk xs use l xs [] n ∧ (∀ p ∈ l.drop j, outs[p]? = xs[p]?) ∧ Below w.heap.size w wr ∧ OwnInts wr w.heap.size (.slice A2 l.length c2) l) (fun _ _ i _ => l.length - (intOf i).toNat)
  case atStart => exact ⟨0, xs, [], n, Nat.zero_le _, rfl, rfl, by omega, by omega, HO1.out, OwnTks.nil _ _, Nat.le_refl _, rfl, rfl, fun _ _ => rfl, HB2.out, HO2.out⟩
  case round =>
    obtain ⟨j, outs, ts, k, hj, rfl, rfl, hk0, hk1, hob, hot, htl, hol, htk, hag, hbw, hoi⟩ := hrel
    have HOB0 := Lib.hid hob
    have HOT0 := Lib.hid hot
    have HTK := Lib.hid htk
    have HAG := Lib.hid hag
    have HB0 := Lib.hid hbw
    have HOI0 := Lib.hid hoi
    have HOL := Lib.hid hol
    have hsz := hbw.size
    clear hob hot htk hag hbw hoi hol
    by_cases hlt : j < l.length
    · obtain ⟨p, hp⟩ : ∃ p, l[j]? = some p := ⟨_, List.getElem?_eq_getElem hlt⟩
      have hpm := hmem.out p (List.mem_of_getElem? hp)
      obtain ⟨g2, o2, rfl, hg2, hc2⟩ := HOI0.out.ints j p hp
      have HP := Lib.hid hp
      clear hp
      obtain ⟨x, hx⟩ : ∃ b, xs[p]? = some b := ⟨_, List.getElem?_eq_getElem (by omega)⟩
      have hop : outs[p]? = some x := by rw [HAG.out p (by rw [drop_at HP.out]; exact List.mem_cons_self ..)]; exact hx
      obtain ⟨g, rfl, hgw, hgl⟩ := HOB0.out.some_ (by rw [HOL.out]; omega)
      obtain ⟨A', c', hv', hbs, _⟩ := HOB0.out.form
      simp only [Value.slice.injEq] at hv'
      obtain ⟨rfl, -, rfl⟩ := hv'
      obtain ⟨b, o, za, zc, hA, hb, x0, x1, x2, x3, x4, x5, x6, x7, x8, x9, x10, x11, hzs, hzc⟩ := bk_cells hbs hop
      simp only [Option.some.injEq, Addr.mk.injEq, and_true] at hA
      obtain ⟨rfl, rfl⟩ := hA
      simp only [Nat.zero_add] at x0 x1 x2 x3 x4 x5 x6 x7 x8 x9 x10 x11
      have hxm := Hzn.out x (List.mem_of_getElem? hx)
      have hxl := Hlf.out x (List.mem_of_getElem? hx)
      have HXX := Lib.hid hx
      have HOP := Lib.hid hop
      clear hzc hx hop hbs
      have hpb : (p : Int) < (xs.length : Int) := by omega
      -- all facts behind the block of b
      have hba : Below wr.heap.size wr (wr.alloc (Obj.cells #[.int .i64 x.acc, .int .i64 x.sub, .string x.prod, .int .i64 x.idx, .int .i64 x.kind, .slice za x.zones.length zc, .int .i64 x.frm, .int .i64 x.til, .int .i64 x.units, .int .i64 x.left, .int .i64 x.prio, .bool x.shared] 91)) := (Below.refl _ _).alloc (Nat.le_refl _) _
      have HOB := Lib.hid (HOB0.out.below hba)
      have HOT := Lib.hid (own_below HOT0.out hba)
      have HOI := Lib.hid (own_below HOI0.out hba)
      have HB := Lib.hid (HB0.out.alloc hsz (Obj.cells #[.int .i64 x.acc, .int .i64 x.sub, .string x.prod, .int .i64 x.idx, .int .i64 x.kind, .slice za x.zones.length zc, .int .i64 x.frm, .int .i64 x.til, .int .i64 x.units, .int .i64 x.left, .int .i64 x.prio, .bool x.shared] 91))
      have HZS := Lib.hid (hzs.below hba)
      clear hzs hba
      by_cases hkz : k = 0
      · have hk00 := hkz
        subst hkz
        go_wp2_with fail
        go_roundw
        case rel =>
          refine ⟨j + 1, outs, ts, 0, by omega, by go_num, rfl, by omega, by omega, HOB.out, HOT.out, by omega, HOL.out, ?_, ?_, HB.out, HOI.out⟩
          · have := HTK.out
            rw [tk_zero] at this ⊢
            exact this
          · intro q hq
            refine HAG.out q ?_
            rw [drop_at HP.out]
            exact List.mem_cons_of_mem _ hq
        case measure => simp [intOf]; omega
      · have hkb : (k == 0) = false := beq_eq_false_iff_ne.2 hkz
        have HKZ := Lib.hid hkz
        clear hkz
        cases hus : x.usable account sub kind zone family t
        · have hun : use x = false := by rw [← Hu.out]; exact hus
          have HUN := Lib.hid hun
          clear hun
          go_wp2_with (go_at_call 69; refine (rusable_any x za zc _ _ _ _ _ _ _ hxm HZS.out).mono ?_; rintro e w1 ⟨rfl, hb⟩; obtain ⟨s, rfl⟩ := ext_of_below hb; clear hb)
          go_roundw
          case rel =>
            refine ⟨j + 1, outs, ts, k, by omega, by go_num, rfl, hk0, hk1, HOB.out.below (below_ext (Below.refl _ _) (Nat.le_refl _) s), own_below HOT.out (below_ext (Below.refl _ _) (Nat.le_refl _) s), by omega, HOL.out, ?_, fun q hq => HAG.out q ?_, below_ext HB.out HB.out.size s, own_below HOI.out (below_ext (Below.refl _ _) (Nat.le_refl _) s)⟩
            · rw [← tk_skip HP.out HXX.out HUN.out]
              exact HTK.out
            · rw [drop_at HP.out]
              exact List.mem_cons_of_mem _ hq
          case measure => simp [intOf]; omega
        · have hun : use x = true := by rw [← Hu.out]; exact hus
          have hxpos : 0 < x.left := by
            simp only [Bk.usable, Bool.and_eq_true, decide_eq_true_eq] at hus
            exact hus.1.1.1.1
          have HUN := Lib.hid hun
          clear hun
          obtain ⟨hcl, hfz⟩ := HOB0.out.left_at HOP.out
          rcases Int.lt_or_le x.left k with hkx | hkx
          · have hmin : min k x.left = x.left := by omega
            have HMIN := Lib.hid hmin
            obtain ⟨hob2, hgr2⟩ := HOB0.out.stored HOP.out (0 : Int)
            have hba2 : Below (wr.setCell ⟨g, p * 12 + 9, none⟩ (.int .i64 (0 : Int))).heap.size (wr.setCell ⟨g, p * 12 + 9, none⟩ (.int .i64 (0 : Int))) ((wr.setCell ⟨g, p * 12 + 9, none⟩ (.int .i64 (0 : Int))).alloc (Obj.cells #[.int .i64 x.acc, .int .i64 x.sub, .string x.prod, .int .i64 x.idx, .int .i64 x.kind, .slice za x.zones.length zc, .int .i64 x.frm, .int .i64 x.til, .int .i64 x.units, .int .i64 x.left, .int .i64 x.prio, .bool x.shared] 91)) := (Below.refl _ _).alloc (Nat.le_refl _) _
            have HOB2 := Lib.hid (hob2.below hba2)
            have HOT2 := Lib.hid (own_below (HOB0.out.other HOT0.out (by decide) hgr2) hba2)
            have HOI2 := Lib.hid (own_below (HOB0.out.other HOI0.out (by decide) hgr2) hba2)
            have HB2' := Lib.hid ((HB0.out.setCell (p := ⟨g, p * 12 + 9, none⟩) hgw (.int .i64 (0 : Int))).trans (hba2.mono (by simpa using hsz)))
            clear hmin hob2 hgr2 hba2
            go_wp2_with (first
              | (go_at_call 69; refine (rusable_any x za zc _ _ _ _ _ _ _ hxm HZS.out).mono ?_; rintro e w5 ⟨rfl, hb5⟩; obtain ⟨sU, rfl⟩ := ext_of_below hb5; clear hb5)
              | (at_builtin; refine wpList_append_own _ rfl _ _ _ rfl w.heap.size 86 i0 _ 5 48 Try.underlying41 hi0 hz0 hz1 hz2 rfl (by omega) _ ts.length (ts.flatMap Tk.cells) rfl ((own_below HOT2.out (below_ext (Below.refl _ _) (Nat.le_refl _) sU)).alloc _) ⟨wr.heap.size + 1 + sU.n, 0, none⟩ 1 1 (Tk.cells ⟨x.sub, x.prod, x.idx, x.frm, x.left⟩) rfl rfl (cells_new _ (by simp [go_sem])) (tk_one _) (by simp only [maxLen]; omega) (by omega) (by simp [go_sem]; omega) ?_; intro v6 w6 hown6 hg6 hnil6; clear hnil6; have HO6 := Lib.hid hown6; have HG6 := Lib.hid hg6; clear hown6 hg6))
            go_roundw
            case rel =>
              refine ⟨j + 1, outs.set p (x.withLeft (0 : Int)), ts ++ [⟨x.sub, x.prod, x.idx, x.frm, x.left⟩], (k - x.left), by omega, by go_num, by go_num, by omega, by omega, ?_, ?_, by simp; omega, by rw [List.length_set]; exact HOL.out, ?_, fun q hq => ?_, ?_, ?_⟩
              · exact OwnBks.grown_ (((HOB2.out.below (below_ext (Below.refl _ _) (Nat.le_refl _) sU)).below ((Below.refl _ _).alloc (Nat.le_refl _) _))) ((own_below HOT2.out (below_ext (Below.refl _ _) (Nat.le_refl _) sU)).alloc _) (by decide) (by decide) HG6.out
              · unfold OwnTks
                rw [List.length_append, List.flatMap_append]
                simpa using HO6.out
              · have h1 := tk_take (ts := ts) (out := outs) HP.out HXX.out HKZ.out HUN.out
                rw [HMIN.out, Int.sub_self] at h1
                exact h1.symm.trans HTK.out
              · have hqp : p ≠ q := by
                  have h1 := Hnd.out.sublist (List.drop_sublist j l)
                  rw [drop_at HP.out] at h1
                  intro e1
                  subst e1
                  exact (List.nodup_cons.1 h1).1 hq
                rw [List.getElem?_set_ne hqp]
                exact HAG.out q (by rw [drop_at HP.out]; exact List.mem_cons_of_mem _ hq)
              · exact (Below.alloc (below_ext HB2'.out HB2'.out.size sU) (by simp [go_sem]; omega) _).grown HG6.out (by simp [go_sem]; omega) (fun i hi => (HOT2.out.lt i hi).1)
              · exact own_grown ((own_below HOI2.out (below_ext (Below.refl _ _) (Nat.le_refl _) sU)).alloc _) ((own_below HOT2.out (below_ext (Below.refl _ _) (Nat.le_refl _) sU)).alloc _) (by decide) HG6.out
            case measure => simp [intOf]; omega
          · have hmin : min k x.left = k := by omega
            have HMIN := Lib.hid hmin
            obtain ⟨hob2, hgr2⟩ := HOB0.out.stored HOP.out (x.left - k)
            have hba2 : Below (wr.setCell ⟨g, p * 12 + 9, none⟩ (.int .i64 (x.left - k))).heap.size (wr.setCell ⟨g, p * 12 + 9, none⟩ (.int .i64 (x.left - k))) ((wr.setCell ⟨g, p * 12 + 9, none⟩ (.int .i64 (x.left - k))).alloc (Obj.cells #[.int .i64 x.acc, .int .i64 x.sub, .string x.prod, .int .i64 x.idx, .int .i64 x.kind, .slice za x.zones.length zc, .int .i64 x.frm, .int .i64 x.til, .int .i64 x.units, .int .i64 x.left, .int .i64 x.prio, .bool x.shared] 91)) := (Below.refl _ _).alloc (Nat.le_refl _) _
            have HOB2 := Lib.hid (hob2.below hba2)
            have HOT2 := Lib.hid (own_below (HOB0.out.other HOT0.out (by decide) hgr2) hba2)
            have HOI2 := Lib.hid (own_below (HOB0.out.other HOI0.out (by decide) hgr2) hba2)
            have HB2' := Lib.hid ((HB0.out.setCell (p := ⟨g, p * 12 + 9, none⟩) hgw (.int .i64 (x.left - k))).trans (hba2.mono (by simpa using hsz)))
            clear hmin hob2 hgr2 hba2
            go_wp2_with (first
              | (go_at_call 69; refine (rusable_any x za zc _ _ _ _ _ _ _ hxm HZS.out).mono ?_; rintro e w5 ⟨rfl, hb5⟩; obtain ⟨sU, rfl⟩ := ext_of_below hb5; clear hb5)
              | (at_builtin; refine wpList_append_own _ rfl _ _ _ rfl w.heap.size 86 i0 _ 5 48 Try.underlying41 hi0 hz0 hz1 hz2 rfl (by omega) _ ts.length (ts.flatMap Tk.cells) rfl ((own_below HOT2.out (below_ext (Below.refl _ _) (Nat.le_refl _) sU)).alloc _) ⟨wr.heap.size + 1 + sU.n, 0, none⟩ 1 1 (Tk.cells ⟨x.sub, x.prod, x.idx, x.frm, k⟩) rfl rfl (cells_new _ (by simp [go_sem])) (tk_one _) (by simp only [maxLen]; omega) (by omega) (by simp [go_sem]; omega) ?_; intro v6 w6 hown6 hg6 hnil6; clear hnil6; have HO6 := Lib.hid hown6; have HG6 := Lib.hid hg6; clear hown6 hg6))
            go_roundw
            case rel =>
              refine ⟨j + 1, outs.set p (x.withLeft (x.left - k)), ts ++ [⟨x.sub, x.prod, x.idx, x.frm, k⟩], (0 : Int), by omega, by go_num, by go_num, by omega, by omega, ?_, ?_, by simp; omega, by rw [List.length_set]; exact HOL.out, ?_, fun q hq => ?_, ?_, ?_⟩
              · exact OwnBks.grown_ (((HOB2.out.below (below_ext (Below.refl _ _) (Nat.le_refl _) sU)).below ((Below.refl _ _).alloc (Nat.le_refl _) _))) ((own_below HOT2.out (below_ext (Below.refl _ _) (Nat.le_refl _) sU)).alloc _) (by decide) (by decide) HG6.out
              · unfold OwnTks
                rw [List.length_append, List.flatMap_append]
                simpa using HO6.out
              · have h1 := tk_take (ts := ts) (out := outs) HP.out HXX.out HKZ.out HUN.out
                rw [HMIN.out, Int.sub_self] at h1
                exact h1.symm.trans HTK.out
              · have hqp : p ≠ q := by
                  have h1 := Hnd.out.sublist (List.drop_sublist j l)
                  rw [drop_at HP.out] at h1
                  intro e1
                  subst e1
                  exact (List.nodup_cons.1 h1).1 hq
                rw [List.getElem?_set_ne hqp]
                exact HAG.out q (by rw [drop_at HP.out]; exact List.mem_cons_of_mem _ hq)
              · exact (Below.alloc (below_ext HB2'.out HB2'.out.size sU) (by simp [go_sem]; omega) _).grown HG6.out (by simp [go_sem]; omega) (fun i hi => (HOT2.out.lt i hi).1)
              · exact own_grown ((own_below HOI2.out (below_ext (Below.refl _ _) (Nat.le_refl _) sU)).alloc _) ((own_below HOT2.out (below_ext (Below.refl _ _) (Nat.le_refl _) sU)).alloc _) (by decide) HG6.out
            case measure => simp [intOf]; omega
    · have hje : j = l.length := by omega
      have E : Hid (take xs use n = (outs, ts, k)) := by
        unfold Hid
        have := HTK.out
        rw [hje, List.drop_length] at this
        rw [HT.out, ← this]
        rfl
      clear hje
      go_wp2_with fail
      go_ret3
      exact take_end E.out HOB0.out HOT0.out HB0.out

set_option maxHeartbeats 4000000 in
theorem rtake_neg (xs : List Bk) (A : Option Addr) (c : Nat) (account sub kind : Int) (zone : ByteArray) (family : Bool) (t n : Int) (w : World) (hxl : xs.length ≤ 1000) (hzn : ∀ x ∈ xs, x.zones.length ≤ 100) (hxs : Bks w A xs)
    (_hn : n ≤ 9223372036854775807) (hleft : ∀ x ∈ xs, x.left ≤ 9223372036854775807) (hpos : n < 0) :
    Calls Try.prog 49 #[.slice A xs.length c, .int .i64 account, .int .i64 sub, .int .i64 kind, .string zone, .bool family, .int .i64 t, .int .i64 n] w (TakePost xs (fun x => x.usable account sub kind zone family t) n w) := by
  obtain ⟨i0, hi0, hz0, hz1, hz2⟩ := info_parts info_tk
  have Hx := Lib.hid hxs
  have Hzn := Lib.hid hzn
  have Hlf := Lib.hid hleft
  clear hxs hzn hleft
  unfold TakePost
  generalize hu : (fun x : Bk => x.usable account sub kind zone family t) = use
  have Hu := Lib.hid hu
  clear hu
  go_enter Try.func49, Try.ntmps49
  go_wp2_with fail
  refine (copies_any xs A c w hxl Hzn.out Hx.out).mono ?_
  rintro e w1 ⟨v1, rfl, own1, hb1⟩
  obtain ⟨A1, c1, rfl, _, _⟩ := own1.form
  go_wp2_with fail
  refine (rplaces_any xs A c hxl w1 (Hx.out.below hb1)).mono ?_
  rintro e w2 ⟨v2, rfl, own2, hb2⟩
  obtain ⟨A2, c2, rfl, _, _⟩ := own2.form
  have hO1 := own1.below hb2
  have hO2 : OwnInts w2 w.heap.size (.slice A2 (srt (posr xs) 0 xs.length).length c2) (srt (posr xs) 0 xs.length) := by
    unfold OwnInts at own2 ⊢
    exact own_mono own2 hb1.size
  have hB2 : Below w.heap.size w w2 := hb1.trans (hb2.mono hb1.size)
  have HO1 := Lib.hid hO1
  have hll : (srt (posr xs) 0 xs.length).length = xs.length := srt_length _ _
  have hl1 := Nat.le_of_eq hll
  have hl2 := Nat.le_of_eq hll.symm
  have hmem := Lib.hid (fun p (hp : p ∈ srt (posr xs) 0 xs.length) => srt_mem.1 hp)
  have hnd : (srt (posr xs) 0 xs.length).Nodup := (srt_perm (r := posr xs) 0 xs.length).nodup_iff.2 List.nodup_range'
  have Hnd := Lib.hid hnd
  have HT : Hid (take xs use n = tk xs use (srt (posr xs) 0 xs.length) xs [] (0 : Int)) := by
    unfold Hid take
    rw [show max n 0 = (0 : Int) by omega]
  clear own1 own2 hb1 hb2 hO1 hll hnd
  generalize srt (posr xs) 0 xs.length = l at *
  have HO2 := Lib.hid hO2
  have HB2 := Lib.hid hB2
  clear hO2 hB2
  go_wp2_with fail
  go_loopw [20, 21, 23] (fun m vt i wr => ∃ (j : Nat) (outs : List Bk) (ts : List Tk) (k : Int), j ≤ l.length ∧ i = .int .i64 (j : Int) ∧ m = .int .i64 k ∧ 0 ≤ k ∧ k ≤ 9223372036854775807 ∧ OwnBks wr w.heap.size (.slice A1 xs.length c1) outs ∧ OwnTks wr w.heap.size vt ts ∧ ts.length ≤ j ∧ outs.length = xs.length ∧
    tk xs use (l.drop j) outs ts k = tk xs use l xs [] (0 : Int) ∧ (∀ p ∈ l.drop j, outs[p]? = xs[p]?) ∧ Below w.heap.size w wr ∧ OwnInts wr w.heap.size (.slice A2 l.length c2) l) (fun _ _ i _ => l.length - (intOf i).toNat)
  case atStart => exact ⟨0, xs, [], (0 : Int), Nat.zero_le _, rfl, rfl, by omega, by omega, HO1.out, OwnTks.nil _ _, Nat.le_refl _, rfl, rfl, fun _ _ => rfl, HB2.out, HO2.out⟩
  case round =>
    obtain ⟨j, outs, ts, k, hj, rfl, rfl, hk0, hk1, hob, hot, htl, hol, htk, hag, hbw, hoi⟩ := hrel
    have HOB0 := Lib.hid hob
    have HOT0 := Lib.hid hot
    have HTK := Lib.hid htk
    have HAG := Lib.hid hag
    have HB0 := Lib.hid hbw
    have HOI0 := Lib.hid hoi
    have HOL := Lib.hid hol
    have hsz := hbw.size
    clear hob hot htk hag hbw hoi hol
    by_cases hlt : j < l.length
    · obtain ⟨p, hp⟩ : ∃ p, l[j]? = some p := ⟨_, List.getElem?_eq_getElem hlt⟩
      have hpm := hmem.out p (List.mem_of_getElem? hp)
      obtain ⟨g2, o2, rfl, hg2, hc2⟩ := HOI0.out.ints j p hp
      have HP := Lib.hid hp
      clear hp
      obtain ⟨x, hx⟩ : ∃ b, xs[p]? = some b := ⟨_, List.getElem?_eq_getElem (by omega)⟩
      have hop : outs[p]? = some x := by rw [HAG.out p (by rw [drop_at HP.out]; exact List.mem_cons_self ..)]; exact hx
      obtain ⟨g, rfl, hgw, hgl⟩ := HOB0.out.some_ (by rw [HOL.out]; omega)
      obtain ⟨A', c', hv', hbs, _⟩ := HOB0.out.form
      simp only [Value.slice.injEq] at hv'
      obtain ⟨rfl, -, rfl⟩ := hv'
      obtain ⟨b, o, za, zc, hA, hb, x0, x1, x2, x3, x4, x5, x6, x7, x8, x9, x10, x11, hzs, hzc⟩ := bk_cells hbs hop
      simp only [Option.some.injEq, Addr.mk.injEq, and_true] at hA
      obtain ⟨rfl, rfl⟩ := hA
      simp only [Nat.zero_add] at x0 x1 x2 x3 x4 x5 x6 x7 x8 x9 x10 x11
      have hxm := Hzn.out x (List.mem_of_getElem? hx)
      have hxl := Hlf.out x (List.mem_of_getElem? hx)
      have HXX := Lib.hid hx
      have HOP := Lib.hid hop
      clear hzc hx hop hbs
      have hpb : (p : Int) < (xs.length : Int) := by omega
      -- all facts behind the block of b
      have hba : Below wr.heap.size wr (wr.alloc (Obj.cells #[.int .i64 x.acc, .int .i64 x.sub, .string x.prod, .int .i64 x.idx, .int .i64 x.kind, .slice za x.zones.length zc, .int .i64 x.frm, .int .i64 x.til, .int .i64 x.units, .int .i64 x.left, .int .i64 x.prio, .bool x.shared] 91)) := (Below.refl _ _).alloc (Nat.le_refl _) _
      have HOB := Lib.hid (HOB0.out.below hba)
      have HOT := Lib.hid (own_below HOT0.out hba)
      have HOI := Lib.hid (own_below HOI0.out hba)
      have HB := Lib.hid (HB0.out.alloc hsz (Obj.cells #[.int .i64 x.acc, .int .i64 x.sub, .string x.prod, .int .i64 x.idx, .int .i64 x.kind, .slice za x.zones.length zc, .int .i64 x.frm, .int .i64 x.til, .int .i64 x.units, .int .i64 x.left, .int .i64 x.prio, .bool x.shared] 91))
      have HZS := Lib.hid (hzs.below hba)
      clear hzs hba
      by_cases hkz : k = 0
      · have hk00 := hkz
        subst hkz
        go_wp2_with fail
        go_roundw
        case rel =>
          refine ⟨j + 1, outs, ts, 0, by omega, by go_num, rfl, by omega, by omega, HOB.out, HOT.out, by omega, HOL.out, ?_, ?_, HB.out, HOI.out⟩
          · have := HTK.out
            rw [tk_zero] at this ⊢
            exact this
          · intro q hq
            refine HAG.out q ?_
            rw [drop_at HP.out]
            exact List.mem_cons_of_mem _ hq
        case measure => simp [intOf]; omega
      · have hkb : (k == 0) = false := beq_eq_false_iff_ne.2 hkz
        have HKZ := Lib.hid hkz
        clear hkz
        cases hus : x.usable account sub kind zone family t
        · have hun : use x = false := by rw [← Hu.out]; exact hus
          have HUN := Lib.hid hun
          clear hun
          go_wp2_with (go_at_call 69; refine (rusable_any x za zc _ _ _ _ _ _ _ hxm HZS.out).mono ?_; rintro e w1 ⟨rfl, hb⟩; obtain ⟨s, rfl⟩ := ext_of_below hb; clear hb)
          go_roundw
          case rel =>
            refine ⟨j + 1, outs, ts, k, by omega, by go_num, rfl, hk0, hk1, HOB.out.below (below_ext (Below.refl _ _) (Nat.le_refl _) s), own_below HOT.out (below_ext (Below.refl _ _) (Nat.le_refl _) s), by omega, HOL.out, ?_, fun q hq => HAG.out q ?_, below_ext HB.out HB.out.size s, own_below HOI.out (below_ext (Below.refl _ _) (Nat.le_refl _) s)⟩
            · rw [← tk_skip HP.out HXX.out HUN.out]
              exact HTK.out
            · rw [drop_at HP.out]
              exact List.mem_cons_of_mem _ hq
          case measure => simp [intOf]; omega
        · have hun : use x = true := by rw [← Hu.out]; exact hus
          have hxpos : 0 < x.left := by
            simp only [Bk.usable, Bool.and_eq_true, decide_eq_true_eq] at hus
            exact hus.1.1.1.1
          have HUN := Lib.hid hun
          clear hun
          obtain ⟨hcl, hfz⟩ := HOB0.out.left_at HOP.out
          rcases Int.lt_or_le x.left k with hkx | hkx
          · have hmin : min k x.left = x.left := by omega
            have HMIN := Lib.hid hmin
            obtain ⟨hob2, hgr2⟩ := HOB0.out.stored HOP.out (0 : Int)
            have hba2 : Below (wr.setCell ⟨g, p * 12 + 9, none⟩ (.int .i64 (0 : Int))).heap.size (wr.setCell ⟨g, p * 12 + 9, none⟩ (.int .i64 (0 : Int))) ((wr.setCell ⟨g, p * 12 + 9, none⟩ (.int .i64 (0 : Int))).alloc (Obj.cells #[.int .i64 x.acc, .int .i64 x.sub, .string x.prod, .int .i64 x.idx, .int .i64 x.kind, .slice za x.zones.length zc, .int .i64 x.frm, .int .i64 x.til, .int .i64 x.units, .int .i64 x.left, .int .i64 x.prio, .bool x.shared] 91)) := (Below.refl _ _).alloc (Nat.le_refl _) _
            have HOB2 := Lib.hid (hob2.below hba2)
            have HOT2 := Lib.hid (own_below (HOB0.out.other HOT0.out (by decide) hgr2) hba2)
            have HOI2 := Lib.hid (own_below (HOB0.out.other HOI0.out (by decide) hgr2) hba2)
            have HB2' := Lib.hid ((HB0.out.setCell (p := ⟨g, p * 12 + 9, none⟩) hgw (.int .i64 (0 : Int))).trans (hba2.mono (by simpa using hsz)))
            clear hmin hob2 hgr2 hba2
            go_wp2_with (first
              | (go_at_call 69; refine (rusable_any x za zc _ _ _ _ _ _ _ hxm HZS.out).mono ?_; rintro e w5 ⟨rfl, hb5⟩; obtain ⟨sU, rfl⟩ := ext_of_below hb5; clear hb5)
              | (at_builtin; refine wpList_append_own _ rfl _ _ _ rfl w.heap.size 86 i0 _ 5 48 Try.underlying41 hi0 hz0 hz1 hz2 rfl (by omega) _ ts.length (ts.flatMap Tk.cells) rfl ((own_below HOT2.out (below_ext (Below.refl _ _) (Nat.le_refl _) sU)).alloc _) ⟨wr.heap.size + 1 + sU.n, 0, none⟩ 1 1 (Tk.cells ⟨x.sub, x.prod, x.idx, x.frm, x.left⟩) rfl rfl (cells_new _ (by simp [go_sem])) (tk_one _) (by simp only [maxLen]; omega) (by omega) (by simp [go_sem]; omega) ?_; intro v6 w6 hown6 hg6 hnil6; clear hnil6; have HO6 := Lib.hid hown6; have HG6 := Lib.hid hg6; clear hown6 hg6))
            go_roundw
            case rel =>
              refine ⟨j + 1, outs.set p (x.withLeft (0 : Int)), ts ++ [⟨x.sub, x.prod, x.idx, x.frm, x.left⟩], (k - x.left), by omega, by go_num, by go_num, by omega, by omega, ?_, ?_, by simp; omega, by rw [List.length_set]; exact HOL.out, ?_, fun q hq => ?_, ?_, ?_⟩
              · exact OwnBks.grown_ (((HOB2.out.below (below_ext (Below.refl _ _) (Nat.le_refl _) sU)).below ((Below.refl _ _).alloc (Nat.le_refl _) _))) ((own_below HOT2.out (below_ext (Below.refl _ _) (Nat.le_refl _) sU)).alloc _) (by decide) (by decide) HG6.out
              · unfold OwnTks
                rw [List.length_append, List.flatMap_append]
                simpa using HO6.out
              · have h1 := tk_take (ts := ts) (out := outs) HP.out HXX.out HKZ.out HUN.out
                rw [HMIN.out, Int.sub_self] at h1
                exact h1.symm.trans HTK.out
              · have hqp : p ≠ q := by
                  have h1 := Hnd.out.sublist (List.drop_sublist j l)
                  rw [drop_at HP.out] at h1
                  intro e1
                  subst e1
                  exact (List.nodup_cons.1 h1).1 hq
                rw [List.getElem?_set_ne hqp]
                exact HAG.out q (by rw [drop_at HP.out]; exact List.mem_cons_of_mem _ hq)
              · exact (Below.alloc (below_ext HB2'.out HB2'.out.size sU) (by simp [go_sem]; omega) _).grown HG6.out (by simp [go_sem]; omega) (fun i hi => (HOT2.out.lt i hi).1)
              · exact own_grown ((own_below HOI2.out (below_ext (Below.refl _ _) (Nat.le_refl _) sU)).alloc _) ((own_below HOT2.out (below_ext (Below.refl _ _) (Nat.le_refl _) sU)).alloc _) (by decide) HG6.out
            case measure => simp [intOf]; omega
          · have hmin : min k x.left = k := by omega
            have HMIN := Lib.hid hmin
            obtain ⟨hob2, hgr2⟩ := HOB0.out.stored HOP.out (x.left - k)
            have hba2 : Below (wr.setCell ⟨g, p * 12 + 9, none⟩ (.int .i64 (x.left - k))).heap.size (wr.setCell ⟨g, p * 12 + 9, none⟩ (.int .i64 (x.left - k))) ((wr.setCell ⟨g, p * 12 + 9, none⟩ (.int .i64 (x.left - k))).alloc (Obj.cells #[.int .i64 x.acc, .int .i64 x.sub, .string x.prod, .int .i64 x.idx, .int .i64 x.kind, .slice za x.zones.length zc, .int .i64 x.frm, .int .i64 x.til, .int .i64 x.units, .int .i64 x.left, .int .i64 x.prio, .bool x.shared] 91)) := (Below.refl _ _).alloc (Nat.le_refl _) _
            have HOB2 := Lib.hid (hob2.below hba2)
            have HOT2 := Lib.hid (own_below (HOB0.out.other HOT0.out (by decide) hgr2) hba2)
            have HOI2 := Lib.hid (own_below (HOB0.out.other HOI0.out (by decide) hgr2) hba2)
            have HB2' := Lib.hid ((HB0.out.setCell (p := ⟨g, p * 12 + 9, none⟩) hgw (.int .i64 (x.left - k))).trans (hba2.mono (by simpa using hsz)))
            clear hmin hob2 hgr2 hba2
            go_wp2_with (first
              | (go_at_call 69; refine (rusable_any x za zc _ _ _ _ _ _ _ hxm HZS.out).mono ?_; rintro e w5 ⟨rfl, hb5⟩; obtain ⟨sU, rfl⟩ := ext_of_below hb5; clear hb5)
              | (at_builtin; refine wpList_append_own _ rfl _ _ _ rfl w.heap.size 86 i0 _ 5 48 Try.underlying41 hi0 hz0 hz1 hz2 rfl (by omega) _ ts.length (ts.flatMap Tk.cells) rfl ((own_below HOT2.out (below_ext (Below.refl _ _) (Nat.le_refl _) sU)).alloc _) ⟨wr.heap.size + 1 + sU.n, 0, none⟩ 1 1 (Tk.cells ⟨x.sub, x.prod, x.idx, x.frm, k⟩) rfl rfl (cells_new _ (by simp [go_sem])) (tk_one _) (by simp only [maxLen]; omega) (by omega) (by simp [go_sem]; omega) ?_; intro v6 w6 hown6 hg6 hnil6; clear hnil6; have HO6 := Lib.hid hown6; have HG6 := Lib.hid hg6; clear hown6 hg6))
            go_roundw
            case rel =>
              refine ⟨j + 1, outs.set p (x.withLeft (x.left - k)), ts ++ [⟨x.sub, x.prod, x.idx, x.frm, k⟩], (0 : Int), by omega, by go_num, by go_num, by omega, by omega, ?_, ?_, by simp; omega, by rw [List.length_set]; exact HOL.out, ?_, fun q hq => ?_, ?_, ?_⟩
              · exact OwnBks.grown_ (((HOB2.out.below (below_ext (Below.refl _ _) (Nat.le_refl _) sU)).below ((Below.refl _ _).alloc (Nat.le_refl _) _))) ((own_below HOT2.out (below_ext (Below.refl _ _) (Nat.le_refl _) sU)).alloc _) (by decide) (by decide) HG6.out
              · unfold OwnTks
                rw [List.length_append, List.flatMap_append]
                simpa using HO6.out
              · have h1 := tk_take (ts := ts) (out := outs) HP.out HXX.out HKZ.out HUN.out
                rw [HMIN.out, Int.sub_self] at h1
                exact h1.symm.trans HTK.out
              · have hqp : p ≠ q := by
                  have h1 := Hnd.out.sublist (List.drop_sublist j l)
                  rw [drop_at HP.out] at h1
                  intro e1
                  subst e1
                  exact (List.nodup_cons.1 h1).1 hq
                rw [List.getElem?_set_ne hqp]
                exact HAG.out q (by rw [drop_at HP.out]; exact List.mem_cons_of_mem _ hq)
              · exact (Below.alloc (below_ext HB2'.out HB2'.out.size sU) (by simp [go_sem]; omega) _).grown HG6.out (by simp [go_sem]; omega) (fun i hi => (HOT2.out.lt i hi).1)
              · exact own_grown ((own_below HOI2.out (below_ext (Below.refl _ _) (Nat.le_refl _) sU)).alloc _) ((own_below HOT2.out (below_ext (Below.refl _ _) (Nat.le_refl _) sU)).alloc _) (by decide) HG6.out
            case measure => simp [intOf]; omega
    · have hje : j = l.length := by omega
      have E : Hid (take xs use n = (outs, ts, k)) := by
        unfold Hid
        have := HTK.out
        rw [hje, List.drop_length] at this
        rw [HT.out, ← this]
        rfl
      clear hje
      go_wp2_with fail
      go_ret3
      exact take_end E.out HOB0.out HOT0.out HB0.out

theorem rtake_any (xs : List Bk) (A : Option Addr) (c : Nat) (account sub kind : Int) (zone : ByteArray) (family : Bool) (t n : Int) (w : World) (hxl : xs.length ≤ 1000) (hzn : ∀ x ∈ xs, x.zones.length ≤ 100) (hxs : Bks w A xs)
    (hn : n ≤ 9223372036854775807) (hleft : ∀ x ∈ xs, x.left ≤ 9223372036854775807) :
    Calls Try.prog 49 #[.slice A xs.length c, .int .i64 account, .int .i64 sub, .int .i64 kind, .string zone, .bool family, .int .i64 t, .int .i64 n] w (TakePost xs (fun x => x.usable account sub kind zone family t) n w) := by
  rcases Int.lt_or_le n 0 with h | h
  · exact rtake_neg xs A c account sub kind zone family t n w hxl hzn hxs hn hleft h
  · exact rtake_pos xs A c account sub kind zone family t n w hxl hzn hxs hn hleft h
end Go.Proofs.Ythkollhebabhbaa

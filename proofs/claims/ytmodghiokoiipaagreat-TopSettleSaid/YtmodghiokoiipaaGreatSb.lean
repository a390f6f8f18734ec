/-
  A statement, walked.
-/
import Derived.Test.YtmodghiokoiipaaGreatSa
namespace Go.Proofs.YtmodghiokoiipaaGreat
open Go.RowKit
set_option linter.unusedSimpArgs false
set_option linter.unusedVariables false

set_option maxRecDepth 100000 in
set_option maxHeartbeats 8000000 in
theorem statement_any (zs : List Ag) (us : List Ug) (D c cu : Nat) (A : Option Addr) (w : World) (hz : Ags w (some ⟨D, 0, none⟩) zs) (hzc : zs.length ≤ c) (hst : AgS w zs) (hsl : ∀ x ∈ zs, x.st.length ≤ maxLen) (hu : Ugs w A us) (hzl : zs.length ≤ 20) (hul : us.length ≤ 40) :
    Calls Tryz.prog 7 #[.slice (some ⟨D, 0, none⟩) zs.length c, .slice A us.length cu, .int .i64 7, .agg #[.int .i64 0, .int .i64 2678400]] w (StR w zs us) := by
  have HCK : Hid (∀ W, Below w.heap.size w W → Calls Tryz.prog 12 #[.slice (some ⟨D, 0, none⟩) zs.length c] W fun e w' => e = .returned (.int .i64 (chkF zs)) ∧ Below W.heap.size W w') := fun W hb => check_any zs _ c W (hz.below hb) (hst.below hb) (by simp only [maxLen]; omega) hsl hzc
  by_cases hck : chkF zs = 0
  · have HCL : Hid (∀ W, Below w.heap.size w W → Calls Tryz.prog 14 #[.slice (some ⟨D, 0, none⟩) zs.length c] W (ClR W zs)) := fun W hb => clone_any zs ⟨D, 0, none⟩ c W (hz.below hb) rfl (by omega)
    have HSO : Hid (∀ (E c' : Nat) W, OA W E zs → Calls Tryz.prog 15 #[.slice (some ⟨E, 0, none⟩) zs.length c', .func (.func 16) #[] #[]] W fun e w' => e = .returned (.tuple #[]) ∧ OA w' E (srtF zs) ∧ Kq E W w') := fun E c' W h => sort_any zs E c' W h hzl
    have HGA : Hid (∀ (E c' : Nat) W, OA W E (srtF zs) → Below w.heap.size w W → Calls Tryz.prog 17 #[.slice (some ⟨E, 0, none⟩) zs.length c', .slice A us.length cu, .int .i64 7, .agg #[.int .i64 0, .int .i64 2678400]] W (GaR W (srtF zs) us)) := fun E c' W h hb => by
      have := gather_any (srtF zs) us E c' cu A W h.ags (hu.below hb) (by rw [srtF_len]; exact hzl) hul
      rw [srtF_len] at this
      exact this
    have HV : Hid (∀ W, Calls Tryz.prog 13 #[.agg #[.int .i64 0, .int .i64 2678400]] W fun e w' => e = .returned (.bool true) ∧ Below W.heap.size W w') := fun W => validp_any 0 2678400 W
    have HS : Hid (stmF zs us = stmL (totF (srtF zs) us) (srtF zs) 0 [] 0) := by
      unfold Hid stmF
      rw [if_neg (by rw [hck]; decide)]
    have HST := Lib.hid hst
    have HSL := Lib.hid hsl
    rw [hck] at HCK
    clear hz hst hu hsl hck hzc
    go_enter Tryz.func7, Tryz.ntmps7
    go_wp2_with (first
      | (go_at_call 12; (with_reducible refine (HCK.out _ ?_).mono ?_); (· repeat' (first | exact Below.refl _ _ | refine below_ext ?_ ?_ _ | refine Below.alloc ?_ ?_ _ | refine Below.setCell ?_ ?_ _ | refine Below.drew ?_ | (rw [size_ext]; refine Nat.le_add_right_of_le ?_) | go_size | (rw [World.size_alloc]; refine Nat.le_add_right_of_le ?_))); rintro e w1 ⟨rfl, hb⟩; obtain ⟨s, rfl⟩ := ext_of_below hb; clear hb)
      | (go_at_call 13; (with_reducible refine (HV.out _).mono ?_); rintro e w1 ⟨rfl, hb⟩; obtain ⟨s, rfl⟩ := ext_of_below hb; clear hb)
      | (go_at_call 14; (with_reducible refine (HCL.out _ ?_).mono ?_); (· repeat' (first | exact Below.refl _ _ | refine below_ext ?_ ?_ _ | refine Below.alloc ?_ ?_ _ | refine Below.setCell ?_ ?_ _ | refine Below.drew ?_ | (rw [size_ext]; refine Nat.le_add_right_of_le ?_) | go_size | (rw [World.size_alloc]; refine Nat.le_add_right_of_le ?_))); rintro e w1 ⟨D1, c1, rfl, k1, k2, k3, hb⟩; have O1 := Lib.hid k3; have B1 := Lib.hid (Below.trans (B := w.heap.size) (a := w) (by repeat' (first | exact Below.refl _ _ | refine below_ext ?_ ?_ _ | refine Below.alloc ?_ ?_ _ | refine Below.setCell ?_ ?_ _ | refine Below.drew ?_ | (rw [size_ext]; refine Nat.le_add_right_of_le ?_) | go_size | (rw [World.size_alloc]; refine Nat.le_add_right_of_le ?_))) (hb.mono (by simp only [size_ext, World.size_alloc]; omega))); have M1 := Lib.hid (Mon.below (((Mon.made w _).alloc _).ext _) hb); have S1 := Lib.hid (Blk.below ((Blk.made5' w _ _ _ _ _ _ _).ext _) hb); simp only [size_ext, World.size_alloc] at k1; clear hb k3)
      | (go_at_call 15; (with_reducible refine (HSO.out _ _ _ O1.out).mono ?_); rintro e w3 ⟨rfl, o3, q3⟩; have O3 := Lib.hid o3; have B3 := Lib.hid (q3.below B1.out B1.out.size (by omega)); have M3 := Lib.hid (M1.out.kq q3 (by omega)); have S3 := Lib.hid (S1.out.kq q3 (by omega)); have m31 := M3.out.2.1; have m32 := M3.out.2.2; have m30 := M3.out.1; clear o3 q3)
      | (go_at_call 17; (with_reducible refine (HGA.out _ _ _ O3.out B3.out).mono ?_); rintro e w4 ⟨M, n4, rfl, g1, g2, hb⟩; have T4 := Lib.hid g2; have O4 := Lib.hid (O3.out.below hb); have B4 := Lib.hid (B3.out.trans (hb.mono B3.out.size)); have M4 := Lib.hid (M3.out.below hb); have S4 := Lib.hid (S3.out.below hb); have m41 := M4.out.2.1; have m42 := M4.out.2.2; have m40 := M4.out.1; have o4 := O4.out.1; have t4 := g2.lt; have z1 := hb.size; have z2 := B3.out.size; clear hb g2))
    obtain ⟨O, hO⟩ : ∃ O, O = w4.heap.size := ⟨_, rfl⟩
    have P5 : Blk (w4.alloc (.cells #[.int .i64 7, .int .i64 0, .int .i64 2678400, .slice none 0 0, .int .i64 0] 35)) O [.int .i64 7, .int .i64 0, .int .i64 2678400, .slice none 0 0, .int .i64 0] := by rw [hO]; exact Blk.made5 _ _ _ _ _ _ _
    have hW5 : (w4.alloc (.cells #[.int .i64 7, .int .i64 0, .int .i64 2678400, .slice none 0 0, .int .i64 0] 35)).heap.size = O + 1 := by rw [hO, World.size_alloc]
    have B5 : Below w.heap.size w (w4.alloc (.cells #[.int .i64 7, .int .i64 0, .int .i64 2678400, .slice none 0 0, .int .i64 0] 35)) := B4.out.alloc B4.out.size _
    have S5 := S4.out.alloc (.cells #[.int .i64 7, .int .i64 0, .int .i64 2678400, .slice none 0 0, .int .i64 0] 35)
    have T5 : Tots (w4.alloc (.cells #[.int .i64 7, .int .i64 0, .int .i64 2678400, .slice none 0 0, .int .i64 0] 35)) M n4 (totF (srtF zs) us) := T4.out.below ((Below.refl _ _).alloc (Nat.le_refl _) _)
    have O5 : OA (w4.alloc (.cells #[.int .i64 7, .int .i64 0, .int .i64 2678400, .slice none 0 0, .int .i64 0] 35)) D1 (srtF zs) := O4.out.below ((Below.refl _ _).alloc (Nat.le_refl _) _)
    have hD1 : D1 < O := by omega
    have hM1 : M < O := by omega
    have hw1 : w.heap.size + 1 < O := by omega
    obtain ⟨R, hR⟩ : ∃ R, R = w.heap.size + 1 := ⟨_, rfl⟩
    have hR0 : w.heap.size ≤ R := by omega
    rw [← hR] at S5 hw1
    rw [← hO, ← hR]
    clear HCK HCL HSO HGA HV O1 B1 M1 S1 k1 O3 B3 M3 S3 m31 m32 m30 g1 T4 O4 B4 M4 S4 m41 m42 m40 o4 t4 z1 z2 hO hR
    generalize w4.alloc (.cells #[.int .i64 7, .int .i64 0, .int .i64 2678400, .slice none 0 0, .int .i64 0] 35) = W5 at *
    have HP5 := Lib.hid P5
    have HB5 := Lib.hid B5
    have HS5 := Lib.hid S5
    have HT5 := Lib.hid T5
    have HO5 := Lib.hid O5
    clear P5 B5 S5 T5 O5
    generalize hZ : srtF zs = Z at *
    have hZl : Z.length = zs.length := by rw [← hZ, srtF_len]
    have HZ : Hid (∀ x ∈ Z, x ∈ zs) := fun x hx => by rw [← hZ] at hx; exact srtF_mem hx
    generalize hg : totF Z us = g at *
    have HG : Hid (∀ i, 0 ≤ (g i).1 ∧ (g i).1 ≤ us.length) := fun i => by rw [← hg]; exact ⟨(totF_in Z i us).1, (totF_in Z i us).2.1⟩
    clear hZ hg
    rw [← hZl] at hzl ⊢
    clear hZl
    obtain ⟨i0, hi0, hz0, hz1, hz2⟩ := info_parts info_ch
    go_loopw [51] (fun i wr => ∃ (k : Nat) (cs : List Ch) (net : Int) (v : Value), k ≤ Z.length ∧ i = .int .i64 k ∧ cs.length ≤ k ∧ (-((k : Int) * 1125899906842624) ≤ net ∧ net ≤ (k : Int) * 1125899906842624) ∧ Hid (stmF zs us = stmL g (Z.drop k) k cs net) ∧ Hid (Blk wr O [.int .i64 7, .int .i64 0, .int .i64 2678400, v, .int .i64 net]) ∧ Hid (OC wr (O + 1) v cs) ∧ Hid (Kq O W5 wr)) (fun i _ => Z.length - (intOf i).toNat)
    case atStart => exact ⟨0, [], 0, .slice none 0 0, Nat.zero_le _, rfl, Nat.le_refl _, ⟨by omega, by omega⟩, HS.out, HP5.out, OC.nil _ _, Kq.refl _ _⟩
    case round =>
      obtain ⟨k, cs, net, v, hk, rfl, hcl, ⟨hn1, hn2⟩, hs, hp, ho, hq⟩ := hrel
      obtain ⟨vA, vc, rfl, -⟩ := own_form ho.out
      have hsz := hq.out.size
      have HB := Lib.hid (hq.out.below HB5.out (by omega) (by omega))
      have HSr := Lib.hid (HS5.out.kq hq.out (by omega))
      have hwr := HSr.out.1
      have hw2 : ¬ R = wr.heap.size := by omega
      have hw3 : ¬ R = wr.heap.size + 1 := by omega
      have hw4 : R < wr.heap.size + 1 := by omega
      by_cases hlt : k < Z.length
      · obtain ⟨x, hx⟩ : ∃ s, Z[k]? = some s := ⟨_, List.getElem?_eq_getElem hlt⟩
        have hor := HO5.out.kq hq.out (by omega)
        have cx := fun i v hv => (hor.2 k x hx i v hv).1
        have x0 := cx 0 _ rfl
        have x1 := cx 1 _ rfl
        have x2 := cx 2 _ rfl
        have x3 := cx 3 _ rfl
        have x4 := cx 4 _ rfl
        have x5 := cx 5 _ rfl
        have x6 := cx 6 _ rfl
        simp only [Nat.add_zero] at x0
        have hD1r := hor.1
        have hmem := HZ.out x (List.mem_of_getElem? hx)
        have htr := HT5.out.kq hq.out (by omega)
        have HL : ∀ (o : Obj), (Instr.lookup 61 (.map (some M)) (.int .i64 (k : Int)) true).run Tryz.prog (wr.alloc o) = .ok (.tuple #[.agg #[.int .i64 (g k).1, .int .i64 (g k).2], .bool (decide (0 < (g k).1))]) (wr.alloc o) := fun o => Tots.look_ok (htr.below ((Below.refl _ _).alloc (Nat.le_refl _) _)) (by omega)
        have hs2 := Lib.hid (hs.out.trans (stmL_drop hx cs net))
        have hg0 := HG.out k
        have HPR : Hid (∀ W, Below w.heap.size w W → Calls Tryz.prog 18 #[.agg #[.int .i64 x.p, .int .i64 x.k, .bool x.ib, .int .i64 x.f, .int .i64 x.t, .slice x.A x.st.length x.c, .int .i64 x.cap], .int .i64 0, .int .i64 (g k).2] W fun e w' => e = .returned (.tuple #[.int .i64 (agF x.st x.cap (g k).2).1, .int .i64 (agF x.st x.cap (g k).2).2]) ∧ Below W.heap.size W w') := fun W hb => aprice_any x.p x.k x.ib x.f x.t x.A x.c x.st x.cap (g k).2 W ((HST.out.below hb) x hmem) (HSL.out x hmem)
        have HAI := Lib.hid (agF_in x.st x.cap (g k).2)
        have hch : Hid (chOf x (g k) = ⟨x.k, x.ib, (g k).1, (g k).2, (agF x.st x.cap (g k).2).1⟩) := rfl
        have hnt : Hid (netOf x (g k) net = if x.ib then net + (agF x.st x.cap (g k).2).1 else net - (agF x.st x.cap (g k).2).1) := rfl
        generalize chOf x (g k) = ch at *
        generalize netOf x (g k) net = net' at *
        obtain ⟨xp, xk, xib, xf, xt, xA, xc, xst, xcap⟩ := x
        dsimp only at x0 x1 x2 x3 x4 x5 x6 hs2 HPR HAI hch hnt
        generalize agF xst xcap (g k).2 = pe at *
        generalize g k = G at *
        obtain ⟨G1, G2⟩ := G
        obtain ⟨pr, er⟩ := pe
        dsimp only at hg0 HL hs2 HPR HAI hch hnt
        clear cx hor hx hmem htr hs
        by_cases hpos : 0 < G1
        · rw [decide_eq_true hpos] at HL
          have hs3 := Lib.hid hs2.out
          rw [if_pos hpos] at hs3
          by_cases he : er = 0
          · subst he
            rw [if_pos rfl] at hs3
            obtain ⟨a1, a2, -⟩ := HAI.out rfl
            have hpr := hp.out.1
            have hp1 : ¬ O = wr.heap.size := by omega
            have hp2 : ¬ O = wr.heap.size + 1 := by omega
            have hp3 : O < wr.heap.size + 1 := by omega
            obtain ⟨p3, -⟩ := hp.out.2 3 _ rfl
            have hlt6 := Lib.hid (World.ownsRow.lt ho.out)
            have hone := hq.out.size
            clear hs2 HAI
            cases xib
            · have hnet : net' = net - pr := hnt.out
              have hwn : IntKind.i64.wrap (net - pr) = net - pr := by simp (disch := omega) only [IntWalk.i64_in]
              go_wp2_with (first
                | (go_at_call 18; (with_reducible refine (HPR.out _ ?_).mono ?_); (· repeat' (first | with_reducible exact HB.out | with_reducible exact Below.refl _ _ | with_reducible refine below_ext ?_ ?_ _ | with_reducible refine Below.alloc ?_ ?_ _ | with_reducible refine Below.setCell ?_ ?_ _ | with_reducible refine Below.drew ?_ | (have := HB.out.size; simp only [size_ext, World.size_alloc, World.size_setCell, World.size_drew]; omega) | exact Nat.le_trans HB.out.size (by go_size) | (have := HB.out.size; simp; omega) | (have := HB.out.size; simp [go_sem]; omega) | (have := HB.out.size; simp [go_sem]; done) | (simp; done) | omega)); rintro e w1 ⟨rfl, hb⟩; obtain ⟨s, rfl⟩ := ext_of_below hb; clear hb)
                | (at_builtin; refine wpList_append_own _ rfl _ _ _ rfl (O + 1) 39 i0 _ 5 40 Tryz.underlying33 hi0 hz0 hz1 hz2 rfl (by omega) _ cs.length (cs.flatMap Ch.cells) rfl (OC.below ho.out (by repeat' (first | with_reducible exact Below.refl _ _ | with_reducible refine below_ext ?_ ?_ _ | with_reducible refine Below.alloc ?_ ?_ _ | with_reducible refine Below.drew ?_ | (simp only [size_ext, World.size_alloc, World.size_setCell, World.size_drew]; omega) | (simp; omega) | (simp [go_sem]; omega) | (simp [go_sem]; done) | (simp; done) | omega))) ⟨wr.heap.size + 1 + 1 + s.n, 0, none⟩ 1 1 [.int .i64 xk, .bool false, .int .i64 G1, .int .i64 G2, .int .i64 pr] rfl rfl (news5 ?_) ?_ (by simp only [maxLen]; omega) (by omega) (by simp only [World.size_alloc, size_ext] <;> omega) ?_; (· intro i v hv; have hi := (List.getElem?_eq_some_iff.1 hv).1; rw [← hv]; match i, hi with | 0, _ | 1, _ | 2, _ | 3, _ | 4, _ => simp [go_sem]); (· exact ch_one ⟨xk, false, G1, G2, pr⟩); intro v6 w6 hown6 hg6 hnil6; clear hnil6; obtain ⟨vA6, vc6, rfl, -⟩ := own_form hown6; have HO6 := Lib.hid hown6; have P6 := Lib.hid (Blk.grown (hp.out.below (by repeat' (first | with_reducible exact Below.refl _ _ | with_reducible refine below_ext ?_ ?_ _ | with_reducible refine Below.alloc ?_ ?_ _ | with_reducible refine Below.drew ?_ | (simp only [size_ext, World.size_alloc, World.size_setCell, World.size_drew]; omega) | (simp; omega) | (simp [go_sem]; omega) | (simp [go_sem]; done) | (simp; done) | omega))) hg6 (fun e => by have := (hlt6.out O e.symm).1; omega)); have b15 : w6.cell? ⟨wr.heap.size, 2, none⟩ = some (.bool false) := hg6.cell (by simp [go_sem]) (fun e => by have := (hlt6.out wr.heap.size e.symm).2; omega); have HK6 := Lib.hid (Kq.grown ((((hq.out.alloc _).alloc _).ext s).alloc _) hg6 (fun k e => by have := (hlt6.out k e).1; omega)); have h6s : wr.heap.size < w6.heap.size := Nat.lt_of_lt_of_le (by simp only [World.size_alloc, size_ext] <;> omega) hg6.size; have h6o : O < w6.heap.size := (by omega); obtain ⟨q3, fq3⟩ := P6.out.2 3 _ rfl; obtain ⟨q4, fq4⟩ := P6.out.2 4 _ rfl; clear hown6 hg6))
              go_roundw
              case rel =>
                refine ⟨k + 1, cs ++ [⟨xk, false, G1, G2, pr⟩], net - pr, .slice vA6 (cs.length + 1) vc6, by omega, by go_num, by rw [List.length_append]; simp; omega, ⟨by omega, by omega⟩, ?_, ?_, ?_, ?_⟩
                · have := hs3.out
                  rw [hch.out, hnet] at this
                  exact this
                · exact (P6.out.set (j := 3) (by simp) _).set (j := 4) (by simp) (.int .i64 (net - pr))
                · exact ((OC.snoc (x := ⟨xk, false, G1, G2, pr⟩) HO6.out).set (Nat.lt_succ_self _) _ _).set (Nat.lt_succ_self _) _ _
                · exact HK6.out.set.set
              case measure => simp [intOf]; omega
            · have hnet : net' = net + pr := hnt.out
              have hwn : IntKind.i64.wrap (net + pr) = net + pr := by simp (disch := omega) only [IntWalk.i64_in]
              go_wp2_with (first
                | (go_at_call 18; (with_reducible refine (HPR.out _ ?_).mono ?_); (· repeat' (first | with_reducible exact HB.out | with_reducible exact Below.refl _ _ | with_reducible refine below_ext ?_ ?_ _ | with_reducible refine Below.alloc ?_ ?_ _ | with_reducible refine Below.setCell ?_ ?_ _ | with_reducible refine Below.drew ?_ | (have := HB.out.size; simp only [size_ext, World.size_alloc, World.size_setCell, World.size_drew]; omega) | exact Nat.le_trans HB.out.size (by go_size) | (have := HB.out.size; simp; omega) | (have := HB.out.size; simp [go_sem]; omega) | (have := HB.out.size; simp [go_sem]; done) | (simp; done) | omega)); rintro e w1 ⟨rfl, hb⟩; obtain ⟨s, rfl⟩ := ext_of_below hb; clear hb)
                | (at_builtin; refine wpList_append_own _ rfl _ _ _ rfl (O + 1) 39 i0 _ 5 40 Tryz.underlying33 hi0 hz0 hz1 hz2 rfl (by omega) _ cs.length (cs.flatMap Ch.cells) rfl (OC.below ho.out (by repeat' (first | with_reducible exact Below.refl _ _ | with_reducible refine below_ext ?_ ?_ _ | with_reducible refine Below.alloc ?_ ?_ _ | with_reducible refine Below.drew ?_ | (simp only [size_ext, World.size_alloc, World.size_setCell, World.size_drew]; omega) | (simp; omega) | (simp [go_sem]; omega) | (simp [go_sem]; done) | (simp; done) | omega))) ⟨wr.heap.size + 1 + 1 + s.n, 0, none⟩ 1 1 [.int .i64 xk, .bool true, .int .i64 G1, .int .i64 G2, .int .i64 pr] rfl rfl (news5 ?_) ?_ (by simp only [maxLen]; omega) (by omega) (by simp only [World.size_alloc, size_ext] <;> omega) ?_; (· intro i v hv; have hi := (List.getElem?_eq_some_iff.1 hv).1; rw [← hv]; match i, hi with | 0, _ | 1, _ | 2, _ | 3, _ | 4, _ => simp [go_sem]); (· exact ch_one ⟨xk, true, G1, G2, pr⟩); intro v6 w6 hown6 hg6 hnil6; clear hnil6; obtain ⟨vA6, vc6, rfl, -⟩ := own_form hown6; have HO6 := Lib.hid hown6; have P6 := Lib.hid (Blk.grown (hp.out.below (by repeat' (first | with_reducible exact Below.refl _ _ | with_reducible refine below_ext ?_ ?_ _ | with_reducible refine Below.alloc ?_ ?_ _ | with_reducible refine Below.drew ?_ | (simp only [size_ext, World.size_alloc, World.size_setCell, World.size_drew]; omega) | (simp; omega) | (simp [go_sem]; omega) | (simp [go_sem]; done) | (simp; done) | omega))) hg6 (fun e => by have := (hlt6.out O e.symm).1; omega)); have b15 : w6.cell? ⟨wr.heap.size, 2, none⟩ = some (.bool true) := hg6.cell (by simp [go_sem]) (fun e => by have := (hlt6.out wr.heap.size e.symm).2; omega); have HK6 := Lib.hid (Kq.grown ((((hq.out.alloc _).alloc _).ext s).alloc _) hg6 (fun k e => by have := (hlt6.out k e).1; omega)); have h6s : wr.heap.size < w6.heap.size := Nat.lt_of_lt_of_le (by simp only [World.size_alloc, size_ext] <;> omega) hg6.size; have h6o : O < w6.heap.size := (by omega); obtain ⟨q3, fq3⟩ := P6.out.2 3 _ rfl; obtain ⟨q4, fq4⟩ := P6.out.2 4 _ rfl; clear hown6 hg6))
              go_roundw
              case rel =>
                refine ⟨k + 1, cs ++ [⟨xk, true, G1, G2, pr⟩], net + pr, .slice vA6 (cs.length + 1) vc6, by omega, by go_num, by rw [List.length_append]; simp; omega, ⟨by omega, by omega⟩, ?_, ?_, ?_, ?_⟩
                · have := hs3.out
                  rw [hch.out, hnet] at this
                  exact this
                · exact (P6.out.set (j := 3) (by simp) _).set (j := 4) (by simp) (.int .i64 (net + pr))
                · exact ((OC.snoc (x := ⟨xk, true, G1, G2, pr⟩) HO6.out).set (Nat.lt_succ_self _) _ _).set (Nat.lt_succ_self _) _ _
                · exact HK6.out.set.set
              case measure => simp [intOf]; omega
          · rw [if_neg he] at hs3
            have he' : (er == 0) = false := by simpa using he
            have y0 := HSr.out.2 0 _ rfl
            have y1 := HSr.out.2 1 _ rfl
            have y2 := HSr.out.2 2 _ rfl
            have y3 := HSr.out.2 3 _ rfl
            have y4 := HSr.out.2 4 _ rfl
            obtain ⟨y0, f0⟩ := y0
            obtain ⟨y1, f1⟩ := y1
            obtain ⟨y2, f2⟩ := y2
            obtain ⟨y3, f3⟩ := y3
            obtain ⟨y4, f4⟩ := y4
            clear HAI he hs2
            go_wp2_with (go_at_call 18; (with_reducible refine (HPR.out _ ?_).mono ?_); (· repeat' (first | with_reducible exact HB.out | with_reducible exact Below.refl _ _ | with_reducible refine below_ext ?_ ?_ _ | with_reducible refine Below.alloc ?_ ?_ _ | with_reducible refine Below.setCell ?_ ?_ _ | with_reducible refine Below.drew ?_ | (have := HB.out.size; simp only [size_ext, World.size_alloc, World.size_setCell, World.size_drew]; omega) | exact Nat.le_trans HB.out.size (by go_size) | (have := HB.out.size; simp; omega) | (have := HB.out.size; simp [go_sem]; omega) | (have := HB.out.size; simp [go_sem]; done) | (simp; done) | omega)); rintro e w1 ⟨rfl, hb⟩; obtain ⟨s, rfl⟩ := ext_of_below hb; clear hb)
            refine bodyPost_ret (by simp [results, Tryz.results7, go_sem, y0, y1, y2, y3, y4, hwr, hw2, hw3, hw4]; first | done | rfl) rfl ?_
            refine str_bad hs3.out 0 0 0 ?_
            repeat' (first | with_reducible exact HB.out | with_reducible exact Below.refl _ _ | with_reducible refine below_ext ?_ ?_ _ | with_reducible refine Below.alloc ?_ ?_ _ | with_reducible refine Below.setCell ?_ ?_ _ | with_reducible refine Below.drew ?_ | (have := HB.out.size; simp only [size_ext, World.size_alloc, World.size_setCell, World.size_drew]; omega) | exact Nat.le_trans HB.out.size (by go_size) | (have := HB.out.size; simp; omega) | (have := HB.out.size; simp [go_sem]; omega) | (have := HB.out.size; simp [go_sem]; done) | (simp; done) | omega)
        · have hs3 := Lib.hid hs2.out
          rw [if_neg hpos] at hs3
          rw [decide_eq_false hpos] at HL
          go_wp2
          go_roundw
          case rel => exact ⟨k + 1, cs, net, _, by omega, by go_num, by omega, ⟨by omega, by omega⟩, hs3.out, hp.out.below (by repeat' (first | with_reducible exact Below.refl _ _ | with_reducible refine below_ext ?_ ?_ _ | with_reducible refine Below.alloc ?_ ?_ _ | with_reducible refine Below.drew ?_ | (simp only [size_ext, World.size_alloc, World.size_setCell, World.size_drew]; omega) | (simp; omega) | (simp [go_sem]; omega) | (simp [go_sem]; done) | (simp; done) | omega)), ho.out.below (by repeat' (first | with_reducible exact Below.refl _ _ | with_reducible refine below_ext ?_ ?_ _ | with_reducible refine Below.alloc ?_ ?_ _ | with_reducible refine Below.drew ?_ | (simp only [size_ext, World.size_alloc, World.size_setCell, World.size_drew]; omega) | (simp; omega) | (simp [go_sem]; omega) | (simp [go_sem]; done) | (simp; done) | omega)), hq.out.step (by repeat' (first | with_reducible exact Below.refl _ _ | with_reducible refine below_ext ?_ ?_ _ | with_reducible refine Below.alloc ?_ ?_ _ | with_reducible refine Below.drew ?_ | (simp only [size_ext, World.size_alloc, World.size_setCell, World.size_drew]; omega) | (simp; omega) | (simp [go_sem]; omega) | (simp [go_sem]; done) | (simp; done) | omega))⟩
          case measure => simp [intOf]; omega
      · obtain rfl : k = Z.length := by omega
        have hs3 := Lib.hid (hs.out.trans (stmL_end cs net))
        have HAV := Lib.hid (fun W => avalid_any net W)
        obtain ⟨y0, f0⟩ := HSr.out.2 0 _ rfl
        obtain ⟨y1, f1⟩ := HSr.out.2 1 _ rfl
        obtain ⟨y2, f2⟩ := HSr.out.2 2 _ rfl
        obtain ⟨y3, f3⟩ := HSr.out.2 3 _ rfl
        obtain ⟨y4, f4⟩ := HSr.out.2 4 _ rfl
        obtain ⟨p0, -⟩ := hp.out.2 0 _ rfl
        obtain ⟨p1, -⟩ := hp.out.2 1 _ rfl
        obtain ⟨p2, -⟩ := hp.out.2 2 _ rfl
        obtain ⟨p3, -⟩ := hp.out.2 3 _ rfl
        obtain ⟨p4, -⟩ := hp.out.2 4 _ rfl
        have hpr := hp.out.1
        clear hs
        by_cases hin : -1125899906842624 ≤ net ∧ net ≤ 1125899906842624
        · rw [if_pos hin] at hs3
          rw [decide_eq_true hin] at HAV
          go_wp2_with (go_at_call 19; (with_reducible refine (HAV.out _).mono ?_); rintro e w1 ⟨rfl, hb⟩; obtain ⟨s, rfl⟩ := ext_of_below hb; clear hb)
          refine bodyPost_ret (by simp [results, Tryz.results7, go_sem, y0, y1, y2, y3, y4, hwr]; first | done | rfl) rfl ?_
          refine str_mk (B := O + 1) hs3.out 7 0 2678400 ?_ (by omega) ?_
          · refine OC.below (OC.set (OC.set (OC.set (OC.set (OC.set ho.out ?_ _ _) ?_ _ _) ?_ _ _) ?_ _ _) ?_ _ _) (by repeat' (first | with_reducible exact Below.refl _ _ | with_reducible refine below_ext ?_ ?_ _ | with_reducible refine Below.alloc ?_ ?_ _ | with_reducible refine Below.drew ?_ | (simp only [size_ext, World.size_alloc, World.size_setCell, World.size_drew]; omega) | (simp; omega) | (simp [go_sem]; omega) | (simp [go_sem]; done) | (simp; done) | omega)) <;> omega
          · repeat' (first | with_reducible exact HB.out | with_reducible exact Below.refl _ _ | with_reducible refine below_ext ?_ ?_ _ | with_reducible refine Below.alloc ?_ ?_ _ | with_reducible refine Below.setCell ?_ ?_ _ | with_reducible refine Below.drew ?_ | (have := HB.out.size; simp only [size_ext, World.size_alloc, World.size_setCell, World.size_drew]; omega) | exact Nat.le_trans HB.out.size (by go_size) | (have := HB.out.size; simp; omega) | (have := HB.out.size; simp [go_sem]; omega) | (have := HB.out.size; simp [go_sem]; done) | (simp; done) | omega)
        · rw [if_neg hin] at hs3
          rw [decide_eq_false hin] at HAV
          go_wp2_with (go_at_call 19; (with_reducible refine (HAV.out _).mono ?_); rintro e w1 ⟨rfl, hb⟩; obtain ⟨s, rfl⟩ := ext_of_below hb; clear hb)
          refine bodyPost_ret (by simp [results, Tryz.results7, go_sem, y0, y1, y2, y3, y4, hwr]; first | done | rfl) rfl ?_
          refine str_bad hs3.out 0 0 0 ?_
          repeat' (first | with_reducible exact HB.out | with_reducible exact Below.refl _ _ | with_reducible refine below_ext ?_ ?_ _ | with_reducible refine Below.alloc ?_ ?_ _ | with_reducible refine Below.setCell ?_ ?_ _ | with_reducible refine Below.drew ?_ | (have := HB.out.size; simp only [size_ext, World.size_alloc, World.size_setCell, World.size_drew]; omega) | exact Nat.le_trans HB.out.size (by go_size) | (have := HB.out.size; simp; omega) | (have := HB.out.size; simp [go_sem]; omega) | (have := HB.out.size; simp [go_sem]; done) | (simp; done) | omega)
  · have hck' : (chkF zs == 0) = false := by simpa using hck
    have hS : stmF zs us = ⟨chkF zs, [], 0⟩ := by unfold stmF; rw [if_pos hck]
    have HS := Lib.hid hS
    clear hz hst hu hsl hS
    go_enter Tryz.func7, Tryz.ntmps7
    go_wp2_with (go_at_call 12; (with_reducible refine (HCK.out _ ?_).mono ?_); (· repeat' (first | exact Below.refl _ _ | refine below_ext ?_ ?_ _ | refine Below.alloc ?_ ?_ _ | refine Below.setCell ?_ ?_ _ | refine Below.drew ?_ | (rw [size_ext]; refine Nat.le_add_right_of_le ?_) | go_size | (rw [World.size_alloc]; refine Nat.le_add_right_of_le ?_))); rintro e w1 ⟨rfl, hb⟩; obtain ⟨s, rfl⟩ := ext_of_below hb; clear hb)
    refine bodyPost_ret (by simp [results, Tryz.results7, go_sem]; first | done | rfl) rfl ?_
    refine str_bad HS.out 0 0 0 ?_
    repeat' (first | exact Below.refl _ _ | refine below_ext ?_ ?_ _ | refine Below.alloc ?_ ?_ _ | refine Below.setCell ?_ ?_ _ | refine Below.drew ?_ | (rw [size_ext]; refine Nat.le_add_right_of_le ?_) | go_size | (rw [World.size_alloc]; refine Nat.le_add_right_of_le ?_))
end Go.Proofs.YtmodghiokoiipaaGreat

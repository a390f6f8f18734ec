/-
  The walk of BucketUnits.
-/
import Derived.Test.YthhpdpcingapgaaBl4
import Derived.Test.YthhpdpcingapgaaBl5
import Derived.Test.YthhpdpcingapgaaBw20
namespace Go.Proofs.Ythhpdpcingapgaa
open Go.RowKit
set_option linter.unusedSimpArgs false

def sumT (ts : List Tk) : Int := (ts.map Tk.units).sum
theorem sum_take (ts : List Tk) (k : Nat) (n r : Int) (h : sumT ts + r = n) (h0 : ∀ t ∈ ts, 1 ≤ t.units) (hr : 0 ≤ r) : r ≤ r + sumT (ts.take k) ∧ r + sumT (ts.take k) ≤ n := by
  have hp : ∀ l : List Tk, (∀ t ∈ l, 1 ≤ t.units) → 0 ≤ sumT l := by
    intro l
    induction l with
    | nil => intro _; exact Int.le_refl _
    | cons a l ih =>
      intro hl
      have h1 := hl a (List.mem_cons_self ..)
      have h2 := ih fun t ht => hl t (List.mem_cons_of_mem _ ht)
      simp only [sumT, List.map_cons, List.sum_cons] at h2 ⊢
      omega
  have h1 := hp (ts.take k) fun t ht => h0 t (List.mem_of_mem_take ht)
  have h2 := hp (ts.drop k) fun t ht => h0 t (List.mem_of_mem_drop ht)
  have h3 : sumT ts = sumT (ts.take k) + sumT (ts.drop k) := by
    unfold sumT
    rw [← List.sum_append, ← List.map_append, List.take_append_drop]
  omega
theorem sum_next {ts : List Tk} {k : Nat} {t : Tk} (h : ts[k]? = some t) : sumT (ts.take (k + 1)) = sumT (ts.take k) + t.units := by
  obtain ⟨h1, h2⟩ := List.getElem?_eq_some_iff.1 h
  rw [List.take_succ_eq_append_getElem h1, h2]
  simp [sumT]

theorem wish_cells {w wr : World} {account sub kind : Int} {zone : ByteArray} {family : Bool} {t n : Int} (h : Below (w.alloc (Obj.cells #[.int .i64 account, .int .i64 sub, .int .i64 kind, .string zone, .bool family, .int .i64 t, .int .i64 n] 32)).heap.size (w.alloc (Obj.cells #[.int .i64 account, .int .i64 sub, .int .i64 kind, .string zone, .bool family, .int .i64 t, .int .i64 n] 32)) wr) :
    w.heap.size < wr.heap.size ∧ wr.cell? ⟨w.heap.size, 0, none⟩ = some (.int .i64 account) ∧ wr.cell? ⟨w.heap.size, 1, none⟩ = some (.int .i64 sub) ∧ wr.cell? ⟨w.heap.size, 2, none⟩ = some (.int .i64 kind) ∧ wr.cell? ⟨w.heap.size, 3, none⟩ = some (.string zone) ∧
    wr.cell? ⟨w.heap.size, 4, none⟩ = some (.bool family) ∧ wr.cell? ⟨w.heap.size, 5, none⟩ = some (.int .i64 t) ∧ wr.cell? ⟨w.heap.size, 6, none⟩ = some (.int .i64 n) ∧ Below w.heap.size w wr := by
  have hs := h.size
  have hc : ∀ i, wr.cell? ⟨w.heap.size, i, none⟩ = (w.alloc (Obj.cells #[.int .i64 account, .int .i64 sub, .int .i64 kind, .string zone, .bool family, .int .i64 t, .int .i64 n] 32)).cell? ⟨w.heap.size, i, none⟩ := fun i => h.cell (p := ⟨w.heap.size, i, none⟩) (by simp)
  refine ⟨by simp at hs; omega, (hc 0).trans (by simp [go_sem]), (hc 1).trans (by simp [go_sem]), (hc 2).trans (by simp [go_sem]), (hc 3).trans (by simp [go_sem]), (hc 4).trans (by simp [go_sem]), (hc 5).trans (by simp [go_sem]), (hc 6).trans (by simp [go_sem]), ?_⟩
  exact ((Below.refl _ _).alloc (Nat.le_refl _) _).trans (h.mono (by simp))

set_option maxRecDepth 100000 in
set_option maxHeartbeats 4000000 in
theorem units_yes (A : Option Addr) (c : Nat) (xs : List Bk) (account sub kind : Int) (zone : ByteArray) (family : Bool) (t n : Int) (w : World) (hx : Bks w A xs) (hn : xs.length ≤ maxLen) (hz : ∀ x ∈ xs, x.zones.length ≤ maxLen)
    (hF : ∀ x ∈ xs, x.Fits) (hf : fewB xs = true) (h1 : 0 ≤ n) (h3 : n ≤ 9223372036854775807) :
    Calls Try.prog 10 #[.slice A xs.length c, .agg #[.int .i64 account, .int .i64 sub, .int .i64 kind, .string zone, .bool family, .int .i64 t, .int .i64 n]] w fun e w' => e = .returned (.bool true) ∧ Below w.heap.size w w' := by
  obtain ⟨h12, h6⟩ := few_yes hf
  have hu := usable_ok account sub kind zone family t
  have Hx := Lib.hid hx
  have HZ := Lib.hid hz
  have HN := Lib.hid hn
  have HF := Lib.hid hf
  have C1 : ∀ W A c, Bks W A xs → Calls Try.prog 17 #[.slice A xs.length c, .int .i64 account, .int .i64 sub, .int .i64 kind, .string zone, .bool family, .int .i64 t, .int .i64 n] W (TakeR (take xs (fun x => x.usable account sub kind zone family t) n) W) := fun W A c hW =>
    take_any xs A c account sub kind zone family t n W (by omega) (fun x hx => Nat.le_trans (h6 x hx) (by omega)) hW (by omega) (fun x hx => (hF x hx).left.2)
  have TU := take_units (xs := xs) hu h1
  have hol : (take xs (fun x => x.usable account sub kind zone family t) n).1.length = xs.length := take_len _ _ _
  have htl : (take xs (fun x => x.usable account sub kind zone family t) n).2.1.length ≤ 12 := Nat.le_trans (take_tlen _ _ _) h12
  have hgive : Distinct xs → give (take xs (fun x => x.usable account sub kind zone family t) n).2.1 (take xs (fun x => x.usable account sub kind zone family t) n).1 = (xs, 0) := fun hd => give_take hu hd h1
  have hob : ∀ y ∈ (take xs (fun x => x.usable account sub kind zone family t) n).1, y.zones.length ≤ 6 ∧ fits y.left ∧ fits y.units := fun y hy => by
    obtain ⟨q, hq⟩ := List.mem_iff_getElem?.1 hy
    rw [take_out hu h1] at hq
    obtain ⟨x, hx, rfl⟩ := Option.map_eq_some_iff.1 hq
    have hxm := List.mem_of_getElem? hx
    have ha := am_le (eff_nonneg hu xs) (srt (posr xs) 0 xs.length) n q h1
    have hxf := hF x hxm
    have hl := hxf.left
    have he := eff_at (use := fun x => x.usable account sub kind zone family t) hx
    refine ⟨h6 x hxm, ?_, hxf.units⟩
    rw [Bk.left_with]
    unfold fits amt at *
    rw [he] at ha
    split at ha
    · omega
    · omega
  have htf : ∀ u ∈ (take xs (fun x => x.usable account sub kind zone family t) n).2.1, fits u.units := fun u hu' => by
    have := TU.2.1 u hu'
    unfold fits
    omega
  have hz6 : ∀ x ∈ xs, x.zones.length ≤ 1000 := fun x hx => Nat.le_trans (h6 x hx) (by omega)
  have HZ6 := Lib.hid hz6
  generalize take xs (fun x => x.usable account sub kind zone family t) n = r at *
  obtain ⟨os, ts, r⟩ := r
  dsimp only at *
  obtain ⟨tu1, tu2, tu3, tu4, tu5⟩ := TU
  have HC1 := Lib.hid C1
  have HOL := Lib.hid hol
  have HGV := Lib.hid hgive
  have HOB := Lib.hid hob
  have HTF := Lib.hid htf
  have HS := Lib.hid (sum_take ts · n r tu1 (fun t ht => (tu2 t ht).1) tu3)
  have HT1 : Hid (r + sumT ts = n) := by
    unfold Hid sumT
    omega
  have HT2 := Lib.hid tu2
  have HT5 := Lib.hid tu5
  clear C1 hol hgive hob htf hz6 tu1 tu2 tu5 h6 hu hf hn hz hx
  go_enter Try.func10, Try.ntmps10
  go_wp2_with (first
    | (go_at_call 16; with_reducible refine (few_any xs A c _ HN.out HZ.out (Hx.out.alloc _)).mono ?_; rw [HF.out]; rintro e w1 ⟨rfl, hb⟩; obtain ⟨s, rfl⟩ := ext_of_below hb; clear hb)
    | (go_at_call 17; (with_reducible refine (HC1.out _ _ _ ((Hx.out.alloc _).ext _)).mono ?_); rintro e w1 ⟨v1, v2, rfl, own1, tk1, hb1⟩; obtain ⟨A1, c1, rfl, hbs1, _⟩ := own1.form; obtain ⟨A2, c2, rfl, hts1⟩ := tk1.form; obtain ⟨s1, rfl⟩ := ext_of_below hb1; rw [ext_ext] at hbs1 hts1; have HB1 := Lib.hid hbs1; have HTS := Lib.hid hts1; clear hbs1 own1 hts1 tk1 hb1))
  go_loopw [8, 9] (fun sm i wr => ∃ (k : Nat), k ≤ ts.length ∧ i = .int .i64 (k : Int) ∧ sm = .int .i64 (r + sumT (ts.take k)) ∧ Below (w.alloc (Obj.cells #[.int .i64 account, .int .i64 sub, .int .i64 kind, .string zone, .bool family, .int .i64 t, .int .i64 n] 32)).heap.size (w.alloc (Obj.cells #[.int .i64 account, .int .i64 sub, .int .i64 kind, .string zone, .bool family, .int .i64 t, .int .i64 n] 32)) wr ∧ Bks wr A1 os ∧ Tks wr A2 ts) (fun _ i _ => ts.length - (intOf i).toNat)
  case atStart => exact ⟨0, Nat.zero_le _, rfl, by simp [sumT], below_ext (Below.refl _ _) (Nat.le_refl _) _, HB1.out, HTS.out⟩
  case round =>
    obtain ⟨k, hk, rfl, rfl, hbw, hb2, ht2⟩ := hrel
    obtain ⟨wsz, w0, w1, w2, w3, w4, w5, w6, hbb⟩ := wish_cells hbw
    have HBW := Lib.hid hbw
    have HBB := Lib.hid hbb
    clear hbw hbb
    have HB2 := Lib.hid hb2
    have HTS2 := Lib.hid ht2
    clear hb2 ht2
    obtain ⟨q1, q2⟩ := HS.out k
    by_cases hlt : k < ts.length
    · obtain ⟨u, hu⟩ : ∃ u, ts[k]? = some u := ⟨_, List.getElem?_eq_getElem hlt⟩
      obtain ⟨g2, o2, rfl, hg2, t0, t1, t2, t3, t4⟩ := tks_cells HTS2.out hu
      obtain ⟨u1, u2⟩ := HT2.out u (List.mem_of_getElem? hu)
      have hsn := sum_next hu
      obtain ⟨q3, q4⟩ := HS.out (k + 1)
      rw [hsn] at q3 q4
      have HSN := Lib.hid hsn
      have hkb : (k : Int) < (ts.length : Int) := by omega
      have b1 : decide (u.units < 1) = false := decide_eq_false (by omega)
      have b2 : decide (n < u.units) = false := decide_eq_false (by omega)
      clear hu hsn
      go_wp2_with fail
      refine wp_region_more (by kernel_rfl) (by kernel_rfl) ?_
      repeat (first | go_big_quiet_skip | quiet_step (fail))
      refine wpQuiet_nil ?_
      rintro _ ⟨s4, rfl⟩
      go_wp2_with fail
      go_roundw
      case rel => exact ⟨k + 1, by omega, by go_num, by rw [HSN.out]; first | rfl | (rw [Int.add_assoc]), below_ext HBW.out HBW.out.size _, HB2.out.ext _, HTS2.out.ext _⟩
      case measure => simp [intOf]; omega
    · have hkn : k = ts.length := by omega
      have hsm : r + sumT (ts.take k) = n := by rw [hkn, List.take_length]; exact HT1.out
      rw [hsm]
      clear hkn hsm q1 q2
      have c1' : ((os.length : Int) != (xs.length : Int)) = false := by rw [HOL.out]; simp
      have c2' : (os.length != xs.length) = false := by rw [HOL.out]; simp
      have c3' : decide (r < 0) = false := decide_eq_false (by omega)
      go_wp2_with fail
      go_loopw [10] (fun i wr => ∃ (k : Nat), k ≤ xs.length ∧ i = .int .i64 (k : Int) ∧ Below (w.alloc (Obj.cells #[.int .i64 account, .int .i64 sub, .int .i64 kind, .string zone, .bool family, .int .i64 t, .int .i64 n] 32)).heap.size (w.alloc (Obj.cells #[.int .i64 account, .int .i64 sub, .int .i64 kind, .string zone, .bool family, .int .i64 t, .int .i64 n] 32)) wr ∧ Bks wr A1 os ∧ Tks wr A2 ts) (fun i _ => xs.length - (intOf i).toNat)
      case atStart => exact ⟨0, Nat.zero_le _, rfl, HBW.out, HB2.out, HTS2.out⟩
      case round =>
        clear wsz w0 w1 w2 w3 w4 w5 w6 HB2 HTS2 HBW HBB
        obtain ⟨k', hk', rfl, hbw, hb3, ht3⟩ := hrel
        obtain ⟨wsz, w0, w1, w2, w3, w4, w5, w6, hbb⟩ := wish_cells hbw
        have HBW := Lib.hid hbw
        have HBB := Lib.hid hbb
        have HXW := Lib.hid (Hx.out.below hbb)
        clear hbw hbb
        have HB3 := Lib.hid hb3
        have HTS3 := Lib.hid ht3
        clear hb3 ht3
        by_cases hlt' : k' < xs.length
        · obtain ⟨x, hx⟩ : ∃ b, xs[k']? = some b := ⟨_, List.getElem?_eq_getElem hlt'⟩
          obtain ⟨y, hy, hyl, hyu⟩ := HT5.out k' x hx
          obtain ⟨b, o, za, zc, rfl, hb, x0, x1, x2, x3, x4, x5, x6, x7, x8, x9, x10, x11, hzs, hzc⟩ := bk_cells HXW.out hx
          obtain ⟨b', o', za', zc', rfl, hb', y0, y1, y2, y3, y4, y5, y6, y7, y8, y9, y10, y11, hzs', hzc'⟩ := bk_cells HB3.out hy
          have hy6 := (HOB.out y (List.mem_of_getElem? hy)).1
          have HUS : 0 < r → ∀ W, StrsAt W za' y.zones → Calls Try.prog 14 #[.agg #[.int .i64 y.acc, .int .i64 y.sub, .string y.prod, .int .i64 y.idx, .int .i64 y.kind, .slice za' y.zones.length zc', .int .i64 y.frm, .int .i64 y.til, .int .i64 y.units, .int .i64 y.left, .int .i64 y.prio, .bool y.shared], .int .i64 account, .int .i64 sub, .int .i64 kind, .string zone, .bool family, .int .i64 t] W fun e w' => e = .returned (.bool false) ∧ Below W.heap.size W w' := fun hr0 W hW => by
            have := usable_any y za' zc' account sub kind zone family t W (by omega) hW
            rw [hyu hr0] at this
            exact this
          have HHUS := Lib.hid HUS
          have HZS := Lib.hid hzs'
          have hkb : (k' : Int) < (xs.length : Int) := by omega
          have hkb2 : (k' : Int) < (os.length : Int) := by rw [HOL.out]; exact hkb
          have hkb3 : k' < os.length := by rw [HOL.out]; exact hlt'
          have b1 : decide (x.left < y.left) = false := decide_eq_false (by omega)
          clear hx hy hyu HUS hzs hzs' hzc hzc'
          by_cases hr0 : 0 < r
          · have b2 : decide (0 < r) = true := decide_eq_true hr0
            have HC2 := Lib.hid (HHUS.out hr0)
            go_wp2_with fail
            refine wp_region_more (by kernel_rfl) (by kernel_rfl) ?_
            repeat (first | go_big_quiet_skip | quiet_step (first
              | (go_at_call 14; first | with_reducible exact more_call (HC2.out _ (HZS.out.ext _)) | exact more_call2 (HC2.out _ (HZS.out.ext _)))))
            refine wpQuiet_nil ?_
            rintro _ ⟨s4, rfl⟩
            go_wp2_with fail
            go_roundw
            case rel => exact ⟨k' + 1, by omega, by go_num, below_ext HBW.out HBW.out.size _, HB3.out.ext _, HTS3.out.ext _⟩
            case measure => simp [intOf]; omega
          · have b2 : decide (0 < r) = false := decide_eq_false hr0
            go_wp2_with fail
            refine wp_region_more (by kernel_rfl) (by kernel_rfl) ?_
            repeat (first | go_big_quiet_skip | quiet_step (fail))
            refine wpQuiet_nil ?_
            rintro _ ⟨s4, rfl⟩
            go_wp2_with fail
            go_roundw
            case rel => exact ⟨k' + 1, by omega, by go_num, below_ext HBW.out HBW.out.size _, HB3.out.ext _, HTS3.out.ext _⟩
            case measure => simp [intOf]; omega
        · have hkk : ¬ k' < os.length := by rw [HOL.out]; exact hlt'
          have hkk2 : ¬ (k' : Int) < (os.length : Int) := by rw [HOL.out]; omega
          cases hd : distB xs
          · go_wp2_with (first
              | (go_at_call 28; with_reducible refine (distinct_any xs A c _ (by omega) HXW.out).mono ?_; rw [hd]; rintro e w1 ⟨rfl, hb⟩; obtain ⟨s, rfl⟩ := ext_of_below hb; clear hb)
              | (go_at_call 13; with_reducible refine (alive_any _).mono ?_; rintro e w1 ⟨rfl, hb⟩; obtain ⟨s, rfl⟩ := ext_of_below hb; clear hb))
            go_ret
            exact ⟨rfl, below_ext HBB.out HBB.out.size _⟩
          · have hgive := HGV.out (distB_spec hd)
            have HGI := Lib.hid hgive
            clear hgive
            go_wp2_with (first
              | (go_at_call 28; with_reducible refine (distinct_any xs A c _ (by omega) HXW.out).mono ?_; rw [hd]; rintro e w1 ⟨rfl, hb⟩; obtain ⟨s, rfl⟩ := ext_of_below hb; clear hb)
              | (go_at_call 26; (refine (give_any ts os A1 A2 c1 c2 _ (by rw [HOL.out]; omega) (by omega) (fun y hy => Nat.le_trans (HOB.out y hy).1 (by omega)) (HB3.out.ext _) (HTS3.out.ext _) (fun y hy => (HOB.out y hy).2) (fun u hu => HTF.out u hu)).mono ?_); rintro e w5 ⟨v5, rfl, own5, hb5⟩; rw [HGI.out] at own5 ⊢; obtain ⟨A5, c5, rfl, hbs5, _⟩ := own5.form; obtain ⟨s5, rfl⟩ := ext_of_below hb5; rw [ext_ext] at hbs5; have HB5 := Lib.hid hbs5; clear hbs5 own5 hb5)
              | (go_at_call 19; refine (samebks_any xs A5 A c5 c _ (by omega) HZ6.out HB5.out (HXW.out.ext _)).mono ?_; rintro e w1 ⟨rfl, hb⟩; obtain ⟨s, rfl⟩ := ext_of_below hb; clear hb)
              | (go_at_call 13; with_reducible refine (alive_any _).mono ?_; rintro e w1 ⟨rfl, hb⟩; obtain ⟨s, rfl⟩ := ext_of_below hb; clear hb))
            go_ret
            exact ⟨rfl, below_ext HBB.out HBB.out.size _⟩


set_option maxHeartbeats 4000000 in
theorem units_no (A : Option Addr) (c : Nat) (xs : List Bk) (account sub kind : Int) (zone : ByteArray) (family : Bool) (t n : Int) (w : World) (hx : Bks w A xs) (hn : xs.length ≤ maxLen) (hz : ∀ x ∈ xs, x.zones.length ≤ maxLen)
    (hbad : fewB xs = false ∨ n < 0) :
    Calls Try.prog 10 #[.slice A xs.length c, .agg #[.int .i64 account, .int .i64 sub, .int .i64 kind, .string zone, .bool family, .int .i64 t, .int .i64 n]] w fun e w' => e = .returned (.bool true) ∧ Below w.heap.size w w' := by
  have Hx := Lib.hid hx
  have HZ := Lib.hid hz
  have HN := Lib.hid hn
  clear hx hz hn
  generalize hf : fewB xs = fb at *
  have HF := Lib.hid hf
  clear hf
  rcases fb with _ | _
  · clear hbad
    go_enter Try.func10, Try.ntmps10
    go_wp2_with (first
      | (go_at_call 16; with_reducible refine (few_any xs A c _ HN.out HZ.out (Hx.out.alloc _)).mono ?_; rw [HF.out]; rintro e w1 ⟨rfl, hb⟩; obtain ⟨s, rfl⟩ := ext_of_below hb; clear hb)
      | (go_at_call 13; with_reducible refine (alive_any _).mono ?_; rintro e w1 ⟨rfl, hb⟩; obtain ⟨s, rfl⟩ := ext_of_below hb; clear hb))
    go_ret
    refine ⟨rfl, ?_⟩
    repeat' (first | exact Below.refl _ _ | refine below_ext ?_ ?_ _ | refine Below.alloc ?_ ?_ _ | refine Below.setCell ?_ ?_ _ | refine Below.drew ?_ | (rw [size_ext]; refine Nat.le_add_right_of_le ?_) | go_size | (rw [World.size_alloc]; refine Nat.le_add_right_of_le ?_))
  · simp only [Bool.true_eq_false, false_or] at hbad
    go_enter Try.func10, Try.ntmps10
    go_wp2_with (first
      | (go_at_call 16; with_reducible refine (few_any xs A c _ HN.out HZ.out (Hx.out.alloc _)).mono ?_; rw [HF.out]; rintro e w1 ⟨rfl, hb⟩; obtain ⟨s, rfl⟩ := ext_of_below hb; clear hb)
      | (go_at_call 13; with_reducible refine (alive_any _).mono ?_; rintro e w1 ⟨rfl, hb⟩; obtain ⟨s, rfl⟩ := ext_of_below hb; clear hb))
    go_ret
    refine ⟨rfl, ?_⟩
    repeat' (first | exact Below.refl _ _ | refine below_ext ?_ ?_ _ | refine Below.alloc ?_ ?_ _ | refine Below.setCell ?_ ?_ _ | refine Below.drew ?_ | (rw [size_ext]; refine Nat.le_add_right_of_le ?_) | go_size | (rw [World.size_alloc]; refine Nat.le_add_right_of_le ?_))

theorem walk_bucketUnits (A : Option Addr) (k c : Nat) (account sub kind : Int) (zone : ByteArray) (family : Bool) (t n : Int) (w : World) (h : InBks w A k) (hfn : fits n) :
    Calls Try.prog 10 #[.slice A k c, .agg #[.int .i64 account, .int .i64 sub, .int .i64 kind, .string zone, .bool family, .int .i64 t, .int .i64 n]] w fun e w' => e = .returned (.bool true) ∧ Below w.heap.size w w' := by
  obtain ⟨xs, rfl, hn, hxs, hF⟩ := h
  have hz : ∀ x ∈ xs, x.zones.length ≤ maxLen := fun x hx => (hF x hx).zones
  by_cases hg : fewB xs = true ∧ 0 ≤ n
  · exact units_yes A c xs account sub kind zone family t n w hxs hn hz hF hg.1 hg.2 hfn.2
  · refine units_no A c xs account sub kind zone family t n w hxs hn hz ?_
    cases hf : fewB xs
    · exact .inl rfl
    · right
      have hg' : ¬ 0 ≤ n := fun h => hg ⟨hf, h⟩
      omega
end Go.Proofs.Ythhpdpcingapgaa

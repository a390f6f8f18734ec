/-
  ConsumeWallets: texts joined (by joinw.py).
-/
import Derived.Test.YthkollhebabhbaaYb
import Derived.BigQuiet
import Derived.Deep.RegionHeld3
import Derived.Deep.DeepCutAuto
import Derived.Test.YthkollhebabhbaaCe3

/-!
  Rows that are sliced, appended and owned.
-/
namespace Go.Proofs.Ythkollhebabhbaa
open Go.RowKit
set_option linter.unusedSimpArgs false
set_option linter.unusedVariables false

section
variable {α : Type} {f : α → List Value} {n : Nat}
theorem flat_at (hf : ∀ x, (f x).length = n) : ∀ (ts : List α) (j i : Nat) (x : α), ts[j]? = some x → i < n → (ts.flatMap f)[j * n + i]? = (f x)[i]?
  | [], _, _, _, h, _ => by simp at h
  | y :: ts, 0, i, x, h, hi => by
    obtain rfl := Option.some.inj h
    rw [Nat.zero_mul, Nat.zero_add, List.flatMap_cons, List.getElem?_append_left (by rw [hf]; exact hi)]
  | y :: ts, j + 1, i, x, h, hi => by
    have hl : (f y).length = n := hf y
    rw [List.flatMap_cons, List.getElem?_append_right (by rw [hl, Nat.add_mul]; omega), hl, show (j + 1) * n + i - n = j * n + i from by rw [Nat.add_mul]; omega]
    exact flat_at hf ts j i x (by simpa using h) hi
theorem flat_len (hf : ∀ x, (f x).length = n) : ∀ ts : List α, (ts.flatMap f).length = ts.length * n
  | [] => by simp
  | x :: ts => by
    have := flat_len hf ts
    rw [List.flatMap_cons, List.length_append, hf, this, List.length_cons, Nat.add_mul]
    omega
theorem own_rws (hf : ∀ x, (f x).length = n) {w : World} {B : Nat} {e : TypeId} {v : Value} {ts : List α} (h : w.ownsRow B e n v ts.length (ts.flatMap f)) : ∃ A c, v = .slice A ts.length c ∧ Rws f n w A ts ∧ (A = none → c = 0) ∧ ts.length ≤ c := by
  rcases h.2 with ⟨rfl, h0⟩ | ⟨g, cap, cur, rfl, _, hh, hcap, _⟩
  · refine ⟨none, 0, by rw [h0], fun j x hx => ?_, fun _ => rfl, by omega⟩
    have hj : j < ts.length := (List.getElem?_eq_some_iff.1 hx).1
    omega
  · refine ⟨some ⟨g, 0, none⟩, cap, rfl, fun j x hx => ?_, fun h => (by cases h), hcap⟩
    have hj : j < ts.length := (List.getElem?_eq_some_iff.1 hx).1
    refine ⟨g, 0, rfl, (Array.getElem?_eq_some_iff.1 hh).1, fun i u hu => ?_⟩
    have hi : i < n := by
      have := (List.getElem?_eq_some_iff.1 hu).1
      rwa [hf] at this
    have hlt : j * n + i < ts.length * n := by
      have : (j + 1) * n ≤ ts.length * n := Nat.mul_le_mul_right _ hj
      rw [Nat.add_mul] at this
      omega
    rw [Nat.zero_add, h.cellAt (j * n + i) hlt, ← hu]
    exact flat_at hf ts j i x hx hi
theorem Rws.news (hf : ∀ x, (f x).length = n) (hn : 0 < n) {w : World} {A : Option Addr} {xs : List α} (h : Rws f n w A xs) : ∀ ad, A = some ad → ∀ j u, (xs.flatMap f)[j]? = some u → w.cell? (ad.add j) = some u := by
  rintro ad rfl j u hu
  have hj : j < xs.length * n := by
    have := (List.getElem?_eq_some_iff.1 hu).1
    rwa [flat_len hf] at this
  have hq : j / n < xs.length := (Nat.div_lt_iff_lt_mul hn).2 hj
  obtain ⟨x, hx⟩ : ∃ x, xs[j / n]? = some x := ⟨_, List.getElem?_eq_getElem hq⟩
  obtain ⟨b, o, hA, _, hc⟩ := h (j / n) x hx
  obtain rfl := Option.some.inj hA
  have he : j = j / n * n + j % n := (Nat.div_add_mod' j n).symm
  have hm : j % n < n := Nat.mod_lt _ hn
  have hu2 : (f x)[j % n]? = some u := by
    rw [← flat_at hf xs (j / n) (j % n) x hx hm, ← he]
    exact hu
  have := hc (j % n) u hu2
  rw [Nat.add_assoc, ← he] at this
  unfold Addr.add
  by_cases h0 : j = 0
  · subst h0
    simpa using this
  · simp only [h0, if_false]
    exact this
/-- A row's first part. -/
def slTo (A : Option Addr) (c : Nat) : Option Addr := if c = 0 then A else A.map (·.add 0)
def slFrom (A : Option Addr) (c k size : Nat) : Option Addr := if c = k then A else A.map (·.add (k * size))
theorem slTo_eq (A : Option Addr) (c : Nat) : slTo A c = A := by
  unfold slTo
  split
  · rfl
  · cases A
    · rfl
    · simp [Addr.add]
theorem Rws.take {w : World} {A : Option Addr} {xs : List α} (h : Rws f n w A xs) (k : Nat) : Rws f n w A (xs.take k) := fun j x hx => by
  have hj : j < k := by
    have := (List.getElem?_eq_some_iff.1 hx).1
    rw [List.length_take] at this
    omega
  rw [List.getElem?_take_of_lt hj] at hx
  exact h j x hx
theorem Rws.drop (hn : 0 < n) {w : World} {A : Option Addr} {xs : List α} {c k : Nat} (h : Rws f n w A xs) (hc : xs.length ≤ c) : Rws f n w (slFrom A c k n) (xs.drop k) := fun j x hx => by
  rw [List.getElem?_drop] at hx
  have hj := (List.getElem?_eq_some_iff.1 hx).1
  obtain ⟨b, o, rfl, hlt, hcl⟩ := h (k + j) x hx
  have hck : ¬ c = k := by omega
  refine ⟨b, o + k * n, ?_, hlt, fun i v hv => ?_⟩
  · unfold slFrom
    rw [if_neg hck, Option.map_some]
    unfold Addr.add
    by_cases h0 : k * n = 0
    · rw [if_pos h0, h0]
      rfl
    · rw [if_neg h0]
  · have := hcl i v hv
    rw [Nat.add_mul] at this
    rw [← this]
    congr 2
    omega
theorem slFrom_none {A : Option Addr} {c k : Nat} (hA : A = none → c = 0) (hk : k ≤ c) (h : slFrom A c k n = none) : A = none := by
  unfold slFrom at h
  split at h
  · exact h
  · cases A
    · rfl
    · cases h
theorem Rws.one {w : World} {N : Nat} {e : TypeId} {x : α} (hf : ∀ x, (f x).length = n) (hN : N = w.heap.size) : Rws f n (w.alloc (.cells (f x).toArray e)) (some ⟨N, 0, none⟩) [x] := fun j y hy => by
  subst hN
  obtain ⟨rfl, rfl⟩ : j = 0 ∧ x = y := by
    match j, hy with
    | 0, hy => exact ⟨rfl, Option.some.inj hy⟩
    | j + 1, hy => simp at hy
  refine ⟨w.heap.size, 0, rfl, by simp, fun i v hv => ?_⟩
  rw [World.cell?_alloc_at _ _ _ _ rfl]
  simpa using hv
end
theorem run_slice_to {P : Program} (t e : TypeId) (ht : P.underlying t = some (.slice e)) (i : TypeInfo) (hi : P.info? e = some i) (A : Option Addr) (n c k : Nat) (hk : k ≤ c) (W : World) : (Instr.slice t (.slice A n c) none (some (.int .i64 (k : Int))) none).run P W = .ok (.slice A k c) W := by
  have h1 : (0 : Int) ≤ (k : Int) ∧ (k : Int) ≤ (c : Int) := by omega
  have := slTo_eq A c
  unfold slTo at this
  simp [Instr.slice, Instr.sliceBounds, Instr.sliceBound, run_underlying ht, asIntOf, sizeOf, h1, hk, run_typeInfo W hi, go_sem, this]
theorem run_slice_from {P : Program} (t e : TypeId) (ht : P.underlying t = some (.slice e)) (i : TypeInfo) (hi : P.info? e = some i) (A : Option Addr) (n c k : Nat) (hk : k ≤ n) (W : World) : (Instr.slice t (.slice A n c) (some (.int .i64 (k : Int))) none none).run P W = .ok (.slice (slFrom A c k i.size) (n - k) (c - k)) W := by
  have h1 : (0 : Int) ≤ (k : Int) ∧ (k : Int) ≤ (n : Int) := by omega
  unfold slFrom
  simp [Instr.slice, Instr.sliceBounds, Instr.sliceBound, run_underlying ht, asIntOf, sizeOf, h1, hk, run_typeInfo W hi, go_sem]
end Go.Proofs.Ythkollhebabhbaa

/-!
  With and Without.
-/
namespace Go.Proofs.Ythkollhebabhbaa
open Go.RowKit
set_option linter.unusedSimpArgs false
set_option linter.unusedVariables false

def sct (s : ByteArray) : List Value := [.string s]
theorem sct_one (xs : List ByteArray) : ∀ u ∈ xs.flatMap sct, u.oneCell' = true := by
  intro u hu
  simp only [List.mem_flatMap, sct, List.mem_singleton] at hu
  obtain ⟨x, _, rfl⟩ := hu
  rfl
theorem strs_rws {w : World} {A : Option Addr} {zs : List ByteArray} (h : StrsAt w A zs) : Rws sct 1 w A zs := fun j x hx => by
  obtain ⟨b, o, hA, hlt, hc⟩ := h j x hx
  refine ⟨b, o, hA, hlt, fun i v hv => ?_⟩
  match i, hv with
  | 0, hv =>
    obtain rfl : Value.string x = v := Option.some.inj hv
    simpa using hc
  | i + 1, hv => simp [sct] at hv
theorem rws_strs {w : World} {A : Option Addr} {zs : List ByteArray} (h : Rws sct 1 w A zs) : StrsAt w A zs := fun j x hx => by
  obtain ⟨b, o, hA, hlt, hc⟩ := h j x hx
  refine ⟨b, o, hA, hlt, ?_⟩
  have := hc 0 _ rfl
  simpa using this
theorem own_lit0 (w : World) (B size : Nat) (e : TypeId) (hB : B ≤ w.heap.size) : (w.alloc (.cells #[] e)).ownsRow B e size (.slice (some ⟨w.heap.size, 0, none⟩) 0 0) 0 [] := by
  have := World.ownsRow_lit (base := B) (e := e) (size := size) w #[] 0 hB (by simp [maxLen]) (by simp)
  exact this
theorem own_strS {w : World} {B m c : Nat} {A : Option Addr} {xs : List ByteArray} (h : w.ownsRow B 9 1 (.slice A m c) m (xs.flatMap sct)) (hm : m = xs.length) : StrS w A m c := by
  subst hm
  obtain ⟨A', c', hv, hr, h0, hc⟩ := own_rws (f := sct) (fun _ => rfl) h
  simp only [Value.slice.injEq, true_and] at hv
  obtain ⟨rfl, rfl⟩ := hv
  exact ⟨⟨xs, rfl, rws_strs hr⟩, h0, hc⟩
/-- A list of strings of its own is returned. -/
def StrR (n : Nat) (w : World) (e : Ending) (w' : World) : Prop := (∃ A m c, ∃ xs : List ByteArray, e = .returned (.slice A m c) ∧ w'.ownsRow w.heap.size 9 1 (.slice A m c) m (xs.flatMap sct) ∧ m = xs.length ∧ m ≤ n) ∧ Below w.heap.size w w'
theorem str_own {w' : World} {n m : Nat} {v : Value} {xs : List ByteArray} {w : World} (h : w'.ownsRow w.heap.size 9 1 v m (xs.flatMap sct)) (hm : m = xs.length) (hn : m ≤ n) (hb : Below w.heap.size w w') : StrR n w (.returned v) w' := by
  obtain ⟨A, c, rfl, _⟩ := own_form h
  exact ⟨⟨A, m, c, xs, rfl, h, hm, hn⟩, hb⟩

set_option maxRecDepth 100000 in
set_option maxHeartbeats 4000000 in
theorem vwith_any (A : Option Addr) (n c : Nat) (s : ByteArray) (w : World) (h : StrS w A n c) (hn : n ≤ 1000) :
    Calls Try.prog 92 #[.slice A n c, .string s] w (StrR (n + 1) w) := by
  obtain ⟨j0, hj0, hy0, hy1, hy2⟩ := info_parts info_str
  obtain ⟨⟨zs, rfl, hz⟩, h0, hc⟩ := h
  have HZ := Lib.hid (strs_rws hz)
  have HA0 := Lib.hid h0
  clear hz h0
  go_enter Try.func92, Try.ntmps92
  go_wp2
  go_loop [5] (fun i => ∃ k : Nat, k ≤ zs.length ∧ i = .int .i64 k) (fun i => zs.length - (intOf i).toNat)
  case atStart => exact ⟨0, Nat.zero_le _, rfl⟩
  case round =>
    obtain ⟨k, hk, rfl⟩ := hrel
    have hs1 := fun W => run_slice_to (P := Try.prog) 87 9 Try.underlying87 j0 hj0 A zs.length c k (by omega) W
    have hs2 := fun W => run_slice_from (P := Try.prog) 87 9 Try.underlying87 j0 hj0 A zs.length c k (by omega) W
    rw [hy1] at hs2
    have HN1 : Hid (A = none → k = 0 ∧ c = 0) := fun h => by have := HA0.out h; omega
    have HN2 : Hid (slFrom A c k 1 = none → zs.length - k = 0 ∧ c - k = 0) := fun h => by have := HA0.out (slFrom_none HA0.out (by omega) h); omega
    have HL1 : Hid (((zs.take k).flatMap sct).length = k * 1) := by unfold Hid; rw [flat_len (n := 1) (fun _ => rfl), List.length_take]; omega
    have HL2 : Hid (((zs.drop k).flatMap sct).length = (zs.length - k) * 1) := by unfold Hid; rw [flat_len (n := 1) (fun _ => rfl), List.length_drop]
    have htail : k < zs.length ∨ ¬ k < zs.length := by omega
    rcases htail with hlt | hlt
    · obtain ⟨x, hx⟩ : ∃ s, zs[k]? = some s := ⟨_, List.getElem?_eq_getElem hlt⟩
      obtain ⟨b, o, hA, hb, x0⟩ := rws_strs HZ.out k x hx
      subst hA
      clear hx
      go_wp2_with (first
        | (at_builtin; refine wpList_append_any rfl _ _ _ rfl w.heap.size 9 j0 _ 1 16 Try.underlying87 hj0 hy0 hy1 hy2 rfl (by omega) (.slice (some ⟨w.heap.size, 0, none⟩) 0 0) 0 [] rfl (own_lit0 w _ _ _ (Nat.le_refl _)) _ k c ((zs.take k).flatMap sct) rfl HN1.out HL1.out (Rws.news (f := sct) (n := 1) (fun _ => rfl) (by decide) ((HZ.out.alloc _).take k)) (sct_one _) (by simp only [maxLen]; omega) (by omega) (by simp) ?_; intro v1 w1 hown1 hg1; rw [Nat.zero_add, List.nil_append] at hown1; have HB1 := Lib.hid (((Below.refl w.heap.size w).alloc (Nat.le_refl _) (.cells #[] 9)).grown hg1 (by simp) (fun i hi => by simp only [Value.ownBlock, Option.some.injEq] at hi; omega)); have HO1 := Lib.hid hown1; have hsz1 := HB1.out.size; clear hown1 hg1)
        | (at_builtin; refine wpList_append_any rfl _ _ _ rfl w.heap.size 9 j0 _ 1 16 Try.underlying87 hj0 hy0 hy1 hy2 rfl (by omega) v1 k ((zs.take k).flatMap sct) rfl (World.ownsRow.alloc HO1.out _) (some ⟨w1.heap.size, 0, none⟩) 1 1 (sct s) rfl (fun h => by cases h) rfl (fun ad had => by obtain rfl := Option.some.inj had; exact cells_new _ rfl) (by simpa using sct_one [s]) (by simp only [maxLen]; omega) (by omega) (by simp; omega) ?_; intro v2 w2 hown2 hg2; have HB2 := Lib.hid ((HB1.out.alloc hsz1 (.cells #[.string s] 9)).grown hg2 (by simp; omega) (fun i hi => (World.ownsRow.lt HO1.out i hi).1)); have HO2 := Lib.hid hown2; have hsz2 := HB2.out.size; clear hown2 hg2)
        | (at_builtin; refine wpList_append_any rfl _ _ _ rfl w.heap.size 9 j0 _ 1 16 Try.underlying87 hj0 hy0 hy1 hy2 rfl (by omega) v2 (k + 1) ((zs.take k).flatMap sct ++ sct s) rfl HO2.out _ (zs.length - k) (c - k) ((zs.drop k).flatMap sct) rfl HN2.out HL2.out (Rws.news (f := sct) (n := 1) (fun _ => rfl) (by decide) (Rws.drop (n := 1) (by decide) (HZ.out.below HB2.out) hc)) (sct_one _) (by simp only [maxLen]; omega) (by omega) (by omega) ?_; intro v3 w3 hown3 hg3; have HB3 := Lib.hid (HB2.out.grown hg3 hsz2 (fun i hi => (World.ownsRow.lt HO2.out i hi).1)); have HO3 := Lib.hid hown3; clear hown3 hg3))
      all_goals first
        | (go_round
           case rel => exact ⟨k + 1, by omega, by go_num⟩
           case measure => simp [intOf]; omega)
        | (go_ret
           exact str_own (xs := zs.take k ++ [s] ++ zs.drop k) (by simpa [sct] using HO3.out) (by simp; omega) (by omega) HB3.out)
    · go_wp2_with (first
        | (at_builtin; refine wpList_append_any rfl _ _ _ rfl w.heap.size 9 j0 _ 1 16 Try.underlying87 hj0 hy0 hy1 hy2 rfl (by omega) (.slice (some ⟨w.heap.size, 0, none⟩) 0 0) 0 [] rfl (own_lit0 w _ _ _ (Nat.le_refl _)) _ k c ((zs.take k).flatMap sct) rfl HN1.out HL1.out (Rws.news (f := sct) (n := 1) (fun _ => rfl) (by decide) ((HZ.out.alloc _).take k)) (sct_one _) (by simp only [maxLen]; omega) (by omega) (by simp) ?_; intro v1 w1 hown1 hg1; rw [Nat.zero_add, List.nil_append] at hown1; have HB1 := Lib.hid (((Below.refl w.heap.size w).alloc (Nat.le_refl _) (.cells #[] 9)).grown hg1 (by simp) (fun i hi => by simp only [Value.ownBlock, Option.some.injEq] at hi; omega)); have HO1 := Lib.hid hown1; have hsz1 := HB1.out.size; clear hown1 hg1)
        | (at_builtin; refine wpList_append_any rfl _ _ _ rfl w.heap.size 9 j0 _ 1 16 Try.underlying87 hj0 hy0 hy1 hy2 rfl (by omega) v1 k ((zs.take k).flatMap sct) rfl (World.ownsRow.alloc HO1.out _) (some ⟨w1.heap.size, 0, none⟩) 1 1 (sct s) rfl (fun h => by cases h) rfl (fun ad had => by obtain rfl := Option.some.inj had; exact cells_new _ rfl) (by simpa using sct_one [s]) (by simp only [maxLen]; omega) (by omega) (by simp; omega) ?_; intro v2 w2 hown2 hg2; have HB2 := Lib.hid ((HB1.out.alloc hsz1 (.cells #[.string s] 9)).grown hg2 (by simp; omega) (fun i hi => (World.ownsRow.lt HO1.out i hi).1)); have HO2 := Lib.hid hown2; have hsz2 := HB2.out.size; clear hown2 hg2)
        | (at_builtin; refine wpList_append_any rfl _ _ _ rfl w.heap.size 9 j0 _ 1 16 Try.underlying87 hj0 hy0 hy1 hy2 rfl (by omega) v2 (k + 1) ((zs.take k).flatMap sct ++ sct s) rfl HO2.out _ (zs.length - k) (c - k) ((zs.drop k).flatMap sct) rfl HN2.out HL2.out (Rws.news (f := sct) (n := 1) (fun _ => rfl) (by decide) (Rws.drop (n := 1) (by decide) (HZ.out.below HB2.out) hc)) (sct_one _) (by simp only [maxLen]; omega) (by omega) (by omega) ?_; intro v3 w3 hown3 hg3; have HB3 := Lib.hid (HB2.out.grown hg3 hsz2 (fun i hi => (World.ownsRow.lt HO2.out i hi).1)); have HO3 := Lib.hid hown3; clear hown3 hg3))
      go_ret
      exact str_own (xs := zs.take k ++ [s] ++ zs.drop k) (by simpa [sct] using HO3.out) (by simp; omega) (by omega) HB3.out

set_option maxRecDepth 100000 in
set_option maxHeartbeats 2000000 in
theorem vwithout_any (A : Option Addr) (n c : Nat) (s : ByteArray) (w : World) (h : StrS w A n c) (hn : n ≤ 1000) :
    Calls Try.prog 93 #[.slice A n c, .string s] w (StrR n w) := by
  obtain ⟨j0, hj0, hy0, hy1, hy2⟩ := info_parts info_str
  obtain ⟨⟨zs, rfl, hz⟩, h0, hc⟩ := h
  have HZ := Lib.hid hz
  clear hz h0 hc
  go_enter Try.func93, Try.ntmps93
  go_wp2
  go_loopw [5, 6] (fun vo i wr => ∃ k : Nat, k ≤ zs.length ∧ i = .int .i64 k ∧ (∃ (m : Nat) (ys : List ByteArray), wr.ownsRow w.heap.size 9 1 vo m (ys.flatMap sct) ∧ m = ys.length ∧ m ≤ k) ∧ Below w.heap.size w wr) (fun _ i _ => zs.length - (intOf i).toNat)
  case atStart => exact ⟨0, Nat.zero_le _, rfl, ⟨0, [], World.ownsRow_nil _ _ _ _, rfl, Nat.le_refl _⟩, Below.refl _ _⟩
  case round =>
    obtain ⟨k, hk, rfl, ⟨m, ys, ho, hm, hmk⟩, hbw⟩ := hrel
    have HO := Lib.hid ho
    have HM := Lib.hid hm
    have HBW := Lib.hid hbw
    have hsz := hbw.size
    clear ho hm hbw
    by_cases hlt : k < zs.length
    · obtain ⟨x, hx⟩ : ∃ s, zs[k]? = some s := ⟨_, List.getElem?_eq_getElem hlt⟩
      obtain ⟨b, o, rfl, hb, x0⟩ := (HZ.out.below HBW.out) k x hx
      clear hx
      go_wp2_with (at_builtin; refine wpList_append_any rfl _ _ _ rfl w.heap.size 9 j0 _ 1 16 Try.underlying87 hj0 hy0 hy1 hy2 rfl (by omega) _ m (ys.flatMap sct) rfl (World.ownsRow.alloc HO.out _) (some ⟨wr.heap.size, 0, none⟩) 1 1 (sct x) rfl (fun h => by cases h) rfl (fun ad had => by obtain rfl := Option.some.inj had; exact cells_new _ rfl) (by simpa using sct_one [x]) (by simp only [maxLen]; omega) (by omega) (by simp; omega) ?_; intro v2 w2 hown2 hg2; have HB2 := Lib.hid ((HBW.out.alloc hsz (.cells #[.string x] 9)).grown hg2 (by simp; omega) (fun i hi => (World.ownsRow.lt HO.out i hi).1)); have HO2 := Lib.hid hown2; clear hown2 hg2)
      all_goals
        go_roundw
        case rel =>
          first
          | exact ⟨k + 1, by omega, by go_num, ⟨m + 1, ys ++ [x], by simpa [sct] using HO2.out, by have := HM.out; simp; omega, by omega⟩, HB2.out⟩
          | exact ⟨k + 1, by omega, by go_num, ⟨m, ys, HO.out, HM.out, by omega⟩, HBW.out⟩
        case measure => simp [intOf]; omega
    · go_wp2
      go_ret
      exact str_own HO.out HM.out (by omega) HBW.out
end Go.Proofs.Ythkollhebabhbaa

/-!
  A subscription that is changed.
-/
namespace Go.Proofs.Ythkollhebabhbaa
open Go.RowKit
set_option linter.unusedSimpArgs false
set_option linter.unusedVariables false

def SbV (x : Sb) : Value := .agg #[.int .i64 x.id, .int .i64 x.acc, .int .i64 x.since, .string x.plan, .slice x.na x.nn x.nc, .slice x.pa x.pn x.pc, .bool x.su, .bool x.fa]
/-- W' is as w from block lo on. -/
structure AgL (lo : Nat) (w W' : World) : Prop where
  s : w.heap.size ≤ W'.heap.size
  h : ∀ k, lo ≤ k → k < w.heap.size → W'.heap[k]? = w.heap[k]?
theorem AgL.refl (lo : Nat) (w : World) : AgL lo w w := ⟨Nat.le_refl _, fun _ _ _ => rfl⟩
theorem AgL.trans {lo : Nat} {a b c : World} (h : AgL lo a b) (h' : AgL lo b c) : AgL lo a c := ⟨Nat.le_trans h.s h'.s, fun k hk hl => (h'.h k hk (Nat.lt_of_lt_of_le hl h.s)).trans (h.h k hk hl)⟩
theorem AgL.mono {lo lo' : Nat} {a b : World} (h : AgL lo a b) (hl : lo ≤ lo') : AgL lo' a b := ⟨h.s, fun k hk => h.h k (Nat.le_trans hl hk)⟩
theorem AgL.of_below {lo : Nat} {a b : World} (h : Below a.heap.size a b) : AgL lo a b := ⟨h.size, fun k _ hl => h.block k hl⟩
theorem AgL.set {lo : Nat} {a b : World} (h : AgL lo a b) {p i : Nat} {v : Value} (hp : p < lo) : AgL lo a (b.setCell ⟨p, i, none⟩ v) := ⟨by simpa using h.s, fun k hk hl => (Below.heap_setCell b ⟨p, i, none⟩ v k (by simp only [ne_eq]; omega)).trans (h.h k hk hl)⟩
theorem own_ag {lo : Nat} {w w' : World} (ag : AgL lo w w') {base : Nat} {e : TypeId} {size : Nat} {v : Value} {n : Nat} {xs : List Value} (h : w.ownsRow base e size v n xs) (hB : lo ≤ base) : w'.ownsRow base e size v n xs :=
  own_heap h fun k hk hl => ag.h k (Nat.le_trans hB hk) hl
def SbR (id : Int) (B lo : Nat) (w0 w : World) (e : Ending) (w' : World) : Prop := (∃ x' : Sb, e = .returned (SbV x') ∧ x'.id = id ∧ ∀ W', AgL lo w0 W' → AgL w.heap.size w' W' → x'.Ok W' B) ∧ Below w.heap.size w w'
theorem StrS.nil (w : World) : StrS w none 0 0 := ⟨⟨[], rfl, fun j s h => by simp at h⟩, fun _ => rfl, Nat.le_refl _⟩
theorem sbR_mk {id acc since : Int} {plan : ByteArray} {A1 A2 : Option Addr} {n1 c1 n2 c2 B lo : Nat} {su fa : Bool} {w0 w w' : World} (h1 : ∀ W', AgL lo w0 W' → AgL w.heap.size w' W' → StrS W' A1 n1 c1) (h2 : ∀ W', AgL lo w0 W' → AgL w.heap.size w' W' → StrS W' A2 n2 c2) (b1 : n1 ≤ B) (b2 : n2 ≤ B) (hb : Below w.heap.size w w') :
    SbR id B lo w0 w (.returned (.agg #[.int .i64 id, .int .i64 acc, .int .i64 since, .string plan, .slice A1 n1 c1, .slice A2 n2 c2, .bool su, .bool fa])) w' :=
  ⟨⟨⟨id, acc, since, plan, A1, n1, c1, A2, n2, c2, su, fa⟩, rfl, rfl, fun W' a1 a2 => ⟨h1 W' a1 a2, h2 W' a1 a2, b1, b2⟩⟩, hb⟩

set_option maxRecDepth 100000 in
set_option maxHeartbeats 8000000 in
theorem changed_any (x : Sb) (B : Nat) (a k c s : Int) (nu na : ByteArray) (v : Int) (lo : Nat) (w0 w : World) (h0 : ∀ W', AgL lo w0 W' → x.Ok W' B) (hb0 : AgL lo w0 w) (hB : B ≤ 900) :
    Calls Try.prog 78 #[.agg #[.int .i64 x.id, .int .i64 x.acc, .int .i64 x.since, .string x.plan, .slice x.na x.nn x.nc, .slice x.pa x.pn x.pc, .bool x.su, .bool x.fa], .agg #[.int .i64 a, .int .i64 k, .int .i64 c, .int .i64 s, .string nu, .string na, .int .i64 v]] w (SbR x.id (B + 1) lo w0 w) := by
  have h := h0 w hb0
  have HOS := Lib.hid h0
  have HNS := Lib.hid (fun W hW => h.ns.below (w' := W) hW)
  have HPS := Lib.hid (fun W hW => h.ps.below (w' := W) hW)
  have hnb := h.nb
  have hpb := h.pb
  clear h h0 hb0
  go_enter Try.func78, Try.ntmps78
  go_wp2_with (first
    | (go_at_call 92; (with_reducible refine (vwith_any x.na x.nn x.nc _ _ (HNS.out _ ?_) (by omega)).mono ?_); (· repeat' (first | exact Below.refl _ _ | refine below_ext ?_ ?_ _ | refine Below.alloc ?_ ?_ _ | refine Below.setCell ?_ ?_ _ | refine Below.drew ?_ | (rw [size_ext]; refine Nat.le_add_right_of_le ?_) | go_size | (rw [World.size_alloc]; refine Nat.le_add_right_of_le ?_))); rintro e w1 ⟨⟨A', m', c', ys, rfl, ho, hm, hmn⟩, hb⟩; obtain ⟨s1, rfl⟩ := ext_of_below hb; have HO := Lib.hid ho; have HM := Lib.hid hm; clear ho hm hb)
    | (go_at_call 92; (with_reducible refine (vwith_any x.pa x.pn x.pc _ _ (HPS.out _ ?_) (by omega)).mono ?_); (· repeat' (first | exact Below.refl _ _ | refine below_ext ?_ ?_ _ | refine Below.alloc ?_ ?_ _ | refine Below.setCell ?_ ?_ _ | refine Below.drew ?_ | (rw [size_ext]; refine Nat.le_add_right_of_le ?_) | go_size | (rw [World.size_alloc]; refine Nat.le_add_right_of_le ?_))); rintro e w1 ⟨⟨A', m', c', ys, rfl, ho, hm, hmn⟩, hb⟩; obtain ⟨s1, rfl⟩ := ext_of_below hb; have HO := Lib.hid ho; have HM := Lib.hid hm; clear ho hm hb)
    | (go_at_call 93; (with_reducible refine (vwithout_any x.na x.nn x.nc _ _ (HNS.out _ ?_) (by omega)).mono ?_); (· repeat' (first | exact Below.refl _ _ | refine below_ext ?_ ?_ _ | refine Below.alloc ?_ ?_ _ | refine Below.setCell ?_ ?_ _ | refine Below.drew ?_ | (rw [size_ext]; refine Nat.le_add_right_of_le ?_) | go_size | (rw [World.size_alloc]; refine Nat.le_add_right_of_le ?_))); rintro e w1 ⟨⟨A', m', c', ys, rfl, ho, hm, hmn⟩, hb⟩; obtain ⟨s1, rfl⟩ := ext_of_below hb; have HO := Lib.hid ho; have HM := Lib.hid hm; clear ho hm hb)
    | (go_at_call 93; (with_reducible refine (vwithout_any x.pa x.pn x.pc _ _ (HPS.out _ ?_) (by omega)).mono ?_); (· repeat' (first | exact Below.refl _ _ | refine below_ext ?_ ?_ _ | refine Below.alloc ?_ ?_ _ | refine Below.setCell ?_ ?_ _ | refine Below.drew ?_ | (rw [size_ext]; refine Nat.le_add_right_of_le ?_) | go_size | (rw [World.size_alloc]; refine Nat.le_add_right_of_le ?_))); rintro e w1 ⟨⟨A', m', c', ys, rfl, ho, hm, hmn⟩, hb⟩; obtain ⟨s1, rfl⟩ := ext_of_below hb; have HO := Lib.hid ho; have HM := Lib.hid hm; clear ho hm hb))
  all_goals
    refine bodyPost_ret (by simp [results, Try.results78, go_sem]; first | done | rfl) rfl ?_
    refine sbR_mk ?_ ?_ (by omega) (by omega) (by repeat' (first | exact Below.refl _ _ | refine below_ext ?_ ?_ _ | refine Below.alloc ?_ ?_ _ | refine Below.setCell ?_ ?_ _ | refine Below.drew ?_ | (rw [size_ext]; refine Nat.le_add_right_of_le ?_) | go_size | (rw [World.size_alloc]; refine Nat.le_add_right_of_le ?_)))
    all_goals first
      | exact fun _ _ _ => StrS.nil _
      | exact fun W' _ ag => own_strS (own_ag ag (own_swap HO.out (by simp) (by simp)) (by simp; omega)) HM.out
      | exact fun W' ag _ => (HOS.out W' ag).ns
      | exact fun W' ag _ => (HOS.out W' ag).ps
end Go.Proofs.Ythkollhebabhbaa

/-!
  Rows that stay behind new blocks; helpers for Apply.
-/
namespace Go.Proofs.Ythkollhebabhbaa
open Go.RowKit
set_option linter.unusedSimpArgs false
set_option linter.unusedVariables false

theorem start_ext (w : World) : ∃ (W : World) (s : More), w = ext W s ∧ W = w := ⟨w, ⟨[], w.drawn⟩, by simp [ext], rfl⟩
theorem own_litN {Z : World} {N B size : Nat} {e : TypeId} (hN : N = Z.heap.size) (hB : B ≤ Z.heap.size) : (Z.alloc (.cells #[] e)).ownsRow B e size (.slice (some ⟨N, 0, none⟩) 0 0) 0 [] := by
  subst hN
  exact own_lit0 Z B size e hB
theorem own_ex {w : World} {B size n : Nat} {e : TypeId} {v : Value} {xs : List Value} (h : w.ownsRow B e size v n xs) (s : More) : (ext w s).ownsRow B e size v n xs := own_below h (below_ext (Below.refl _ _) (Nat.le_refl _) s)
theorem own_drewx {w : World} {B size n : Nat} {e : TypeId} {v : Value} {xs : List Value} (h : w.ownsRow B e size v n xs) : w.drew.ownsRow B e size v n xs := own_below h (Below.drew (Below.refl _ _))
theorem own_setT {w : World} {B size n N i : Nat} {e e' : TypeId} {v x : Value} {xs : List Value} {cs : Array Value} {fr : Nat × Nat} (h : w.ownsRow B e size v n xs) (hN : w.heap[N]? = some (.cells cs e' fr)) (hne : e ≠ e') : (w.setCell ⟨N, i, none⟩ x).ownsRow B e size v n xs := by
  refine ⟨h.1, ?_⟩
  rcases h.2 with h2 | ⟨g, cap, cur, hv, hg, hh, r⟩
  · exact .inl h2
  · refine .inr ⟨g, cap, cur, hv, hg, ?_, r⟩
    rw [Below.heap_setCell w ⟨N, i, none⟩ x g (fun e1 => by
      simp only at e1
      subst e1
      rw [hh] at hN
      simp only [Option.some.injEq, Obj.cells.injEq] at hN
      exact hne hN.2.1)]
    exact hh
/-- A block of cells of a type. -/
def Typed (w : World) (N : Nat) (e : TypeId) : Prop := ∃ cs fr, w.heap[N]? = some (.cells cs e fr)
theorem Typed.below {w w' : World} {N : Nat} {e : TypeId} (h : Typed w N e) (hb : Below w.heap.size w w') : Typed w' N e := by
  obtain ⟨cs, fr, h⟩ := h
  exact ⟨cs, fr, (hb.block N (Array.getElem?_eq_some_iff.1 h).1).trans h⟩
theorem Typed.set {w : World} {N M i : Nat} {e : TypeId} {x : Value} (h : Typed w N e) : Typed (w.setCell ⟨M, i, none⟩ x) N e := by
  obtain ⟨cs, fr, h⟩ := h
  by_cases hN : N = M
  · subst hN
    refine ⟨cs.setIfInBounds i x, fr, ?_⟩
    simp [World.setCell, Array.getElem?_modify, h]
  · exact ⟨cs, fr, (Below.heap_setCell w ⟨M, i, none⟩ x N hN).trans h⟩
theorem own_setY {w : World} {B size n N i : Nat} {e e' : TypeId} {v x : Value} {xs : List Value} (h : w.ownsRow B e size v n xs) (hN : Typed w N e') (hne : e ≠ e') : (w.setCell ⟨N, i, none⟩ x).ownsRow B e size v n xs := by
  obtain ⟨cs, fr, hN⟩ := hN
  exact own_setT h hN hne
theorem typed_new {Z : World} {N : Nat} {cs : Array Value} {e : TypeId} {fr : Nat × Nat} (hN : N = Z.heap.size) : Typed (Z.alloc (.cells cs e fr)) N e := by
  subst hN
  exact ⟨cs, fr, (MapKept.heap_alloc Z _).1⟩
theorem own_catx {w : World} {s : More} {B size n : Nat} {e : TypeId} {v : Value} {xs : List Value} (h : (ext w s).ownsRow B e size v n xs) (t : More) : (ext w (s.cat t)).ownsRow B e size v n xs := by
  rw [← ext_ext]
  exact own_ex h t
theorem Typed.al {w : World} {N : Nat} {e : TypeId} (h : Typed w N e) (o : Obj) : Typed (w.alloc o) N e := h.below (Below.alloc (Below.refl _ _) (Nat.le_refl _) o)
theorem Typed.ex {w : World} {N : Nat} {e : TypeId} (h : Typed w N e) (s : More) : Typed (ext w s) N e := h.below (below_ext (Below.refl _ _) (Nat.le_refl _) s)
theorem Typed.catx {w : World} {s : More} {N : Nat} {e : TypeId} (h : Typed (ext w s) N e) (t : More) : Typed (ext w (s.cat t)) N e := by
  rw [← ext_ext]
  exact h.ex t

/-- The same but for block N. -/
def SwN (N : Nat) (X F : World) : Prop := X.heap.size = F.heap.size ∧ ∀ k, k ≠ N → F.heap[k]? = X.heap[k]?
theorem SwN.base {Z : World} {cs cs' : Array Value} {e : TypeId} : SwN Z.heap.size (Z.alloc (.cells cs e)) (Z.alloc (.cells cs' e)) := by
  refine ⟨by simp, fun k hk => ?_⟩
  simp only [World.alloc, Array.getElem?_push]
  rw [if_neg hk, if_neg hk]
theorem SwN.al {N : Nat} {X F : World} (h : SwN N X F) (o : Obj) : SwN N (X.alloc o) (F.alloc o) := by
  refine ⟨by simp [h.1], fun k hk => ?_⟩
  simp only [World.alloc, Array.getElem?_push]
  rw [h.1]
  split
  · rfl
  · exact h.2 k hk
theorem SwN.ex {N : Nat} {X F : World} (h : SwN N X F) (s : More) : SwN N (ext X s) (ext F s) := by
  refine ⟨by simp [size_ext, h.1], fun k hk => ?_⟩
  simp only [ext, Array.getElem?_append]
  rw [h.1]
  split
  · exact h.2 k hk
  · rfl
theorem SwN.dr {N : Nat} {X F : World} (h : SwN N X F) : SwN N X.drew F.drew := h
theorem own_sw {N B size n : Nat} {e T : TypeId} {v : Value} {xs : List Value} {X F : World} (sw : SwN N X F) (ty : Typed X N T) (hne : e ≠ T) (h : X.ownsRow B e size v n xs) : F.ownsRow B e size v n xs := by
  refine ⟨h.1, ?_⟩
  rcases h.2 with h2 | ⟨g, cap, cur, hv, hg, hh, r⟩
  · exact .inl h2
  · refine .inr ⟨g, cap, cur, hv, hg, ?_, r⟩
    rw [sw.2 g (fun e1 => by
      subst e1
      obtain ⟨cs, fr, hN⟩ := ty
      rw [hh] at hN
      simp only [Option.some.injEq, Obj.cells.injEq] at hN
      exact hne hN.2.1)]
    exact hh

/-- The book that is being made. -/
structure ApC (B : Nat) (wx : World) (m : Bo) (N : Nat) (v1 v2 v3 : Value) : Prop where
  lt : N < wx.heap.size
  c0 : wx.cell? ⟨N, 0, none⟩ = some v1
  c1 : wx.cell? ⟨N, 1, none⟩ = some v2
  c2 : wx.cell? ⟨N, 2, none⟩ = some v3
  f0 : wx.frozen? ⟨N, 0, none⟩ = false
  f1 : wx.frozen? ⟨N, 1, none⟩ = false
  f2 : wx.frozen? ⟨N, 2, none⟩ = false
  o1 : wx.ownsRow B 118 6 v1 m.al.length (m.al.flatMap Ac.cells)
  o2 : wx.ownsRow B 121 8 v2 m.sl.length (m.sl.flatMap Sb.cells)
  o3 : wx.ownsRow B 3 1 v3 m.el.length (m.el.flatMap ntc)
  ty : Typed wx N 104
  hN : B ≤ N
theorem info_ac : (Try.prog.info? 118).map (fun i => (i.zero, i.size, i.bytes)) = some (some (.agg #[.int .i64 0, .int .i64 0, .int .i64 0, .bool false, .bool false, .slice none 0 0]), 6, 56) := by kernel_rfl
theorem info_sb : (Try.prog.info? 121).map (fun i => (i.zero, i.size, i.bytes)) = some (some (.agg #[.int .i64 0, .int .i64 0, .int .i64 0, .string ByteArray.empty, .slice none 0 0, .slice none 0 0, .bool false, .bool false]), 8, 96) := by kernel_rfl
theorem info_nt : (Try.prog.info? 3).map (fun i => (i.zero, i.size, i.bytes)) = some (some (.int .i64 0), 1, 8) := by kernel_rfl
theorem ac_one (xs : List Ac) : ∀ u ∈ xs.flatMap Ac.cells, u.oneCell' = true := by
  intro u hu
  simp only [List.mem_flatMap, Ac.cells, List.mem_cons, List.not_mem_nil, or_false] at hu
  obtain ⟨x, _, h⟩ := hu
  rcases h with rfl | rfl | rfl | rfl | rfl | rfl <;> rfl
theorem sb_one (xs : List Sb) : ∀ u ∈ xs.flatMap Sb.cells, u.oneCell' = true := by
  intro u hu
  simp only [List.mem_flatMap, Sb.cells, List.mem_cons, List.not_mem_nil, or_false] at hu
  obtain ⟨x, _, h⟩ := hu
  rcases h with rfl | rfl | rfl | rfl | rfl | rfl | rfl | rfl <;> rfl
theorem ntc_one (xs : List Int) : ∀ u ∈ xs.flatMap ntc, u.oneCell' = true := by
  intro u hu
  simp only [List.mem_flatMap, ntc, List.mem_singleton] at hu
  obtain ⟨x, _, rfl⟩ := hu
  rfl
end Go.Proofs.Ythkollhebabhbaa

/-!
  Opened, Prepaid: what the events say of an account.
-/
namespace Go.Proofs.Ythkollhebabhbaa
open Go.RowKit
set_option linter.unusedSimpArgs false
set_option linter.unusedVariables false

theorem ev_cells {w : World} {A : Option Addr} {xs : List Ev} (h : Rws Ev.cells 7 w A xs) {j : Nat} {x : Ev} (hx : xs[j]? = some x) : ∃ b o, A = some ⟨b, o, none⟩ ∧ b < w.heap.size ∧
    w.cell? ⟨b, o + j * 7, none⟩ = some (.int .i64 x.at_) ∧ w.cell? ⟨b, o + j * 7 + 1, none⟩ = some (.int .i64 x.kind) ∧ w.cell? ⟨b, o + j * 7 + 2, none⟩ = some (.int .i64 x.acc) ∧ w.cell? ⟨b, o + j * 7 + 3, none⟩ = some (.int .i64 x.sub) ∧ w.cell? ⟨b, o + j * 7 + 4, none⟩ = some (.string x.num) ∧ w.cell? ⟨b, o + j * 7 + 5, none⟩ = some (.string x.name) ∧ w.cell? ⟨b, o + j * 7 + 6, none⟩ = some (.int .i64 x.value) := by
  obtain ⟨b, o, hA, hlt, hc⟩ := h j x hx
  exact ⟨b, o, hA, hlt, hc 0 _ rfl, hc 1 _ rfl, hc 2 _ rfl, hc 3 _ rfl, hc 4 _ rfl, hc 5 _ rfl, hc 6 _ rfl⟩

def preB (s : ByteArray) : Bool := s.toList == [112, 114, 101, 112, 97, 105, 100]
/-- Was the account opened as a prepaid one up to t: the program's way. -/
def popB (acc t : Int) : List Ev → Bool
  | [] => false
  | x :: l => if x.kind = 1 ∧ x.acc = acc ∧ x.at_ ≤ t then preB x.name else popB acc t l
/-- The event that opened the account: the reference's way. -/
def prepO (acc : Int) : List Ev → Option Ev
  | [] => none
  | x :: l => if x.kind = 1 ∧ x.acc = acc then some x else prepO acc l
def prepB (acc t : Int) (l : List Ev) : Bool := match prepO acc l with
  | some x => decide (x.at_ ≤ t) && preB x.name
  | none => false
theorem pop_late {acc t : Int} : ∀ {l : List Ev}, (∀ y ∈ l, t < y.at_) → popB acc t l = false
  | [], _ => rfl
  | x :: l, h => by
    have ih := pop_late (acc := acc) (l := l) (fun y hy => h y (List.mem_cons_of_mem _ hy))
    have hx := h x (List.mem_cons_self ..)
    unfold popB
    rw [if_neg (by omega), ih]
theorem pop_prep {acc t : Int} : ∀ {l : List Ev}, l.Pairwise (fun x y => x.at_ ≤ y.at_) → popB acc t l = prepB acc t l
  | [], _ => rfl
  | x :: l, h => by
    have ih := pop_prep (acc := acc) (t := t) (List.Pairwise.of_cons h)
    have hx := (List.pairwise_cons.1 h).1
    unfold popB prepB prepO
    by_cases hm : x.kind = 1 ∧ x.acc = acc
    · rw [if_pos hm]
      by_cases ht : x.at_ ≤ t
      · rw [if_pos ⟨hm.1, hm.2, ht⟩]
        simp [ht]
      · rw [if_neg (by omega), pop_late (fun y hy => by have := hx y hy; omega)]
        simp [ht]
    · rw [if_neg hm, if_neg (fun hh => hm ⟨hh.1, hh.2.1⟩), ih]
      rfl
theorem evdrop {l : List Ev} {k : Nat} {x : Ev} (h : l[k]? = some x) : l.drop k = x :: l.drop (k + 1) := by
  obtain ⟨h1, h2⟩ := List.getElem?_eq_some_iff.1 h
  rw [List.drop_eq_getElem_cons h1, h2]

set_option maxHeartbeats 1000000 in
theorem opened_any (evs : List Ev) (A : Option Addr) (cp : Nat) (acc t : Int) (w : World) (h : Rws Ev.cells 7 w A evs) (hn : evs.length ≤ 1000) :
    Calls Try.prog 40 #[.slice A evs.length cp, .int .i64 acc, .int .i64 t] w fun e w' => e = .returned (.bool (popB acc t evs)) ∧ Below w.heap.size w w' := by
  have H := Lib.hid h
  clear h
  obtain ⟨r, hr⟩ : ∃ r, r = popB acc t evs := ⟨_, rfl⟩
  rw [← hr]
  have HR := Lib.hid hr
  clear hr
  go_enter Try.func40, Try.ntmps40
  go_wp2
  go_loopw [11] (fun i wr => ∃ k : Nat, k ≤ evs.length ∧ i = .int .i64 k ∧ r = popB acc t (evs.drop k) ∧ Below w.heap.size w wr) (fun i _ => evs.length - (intOf i).toNat)
  case atStart => exact ⟨0, Nat.zero_le _, rfl, HR.out, Below.refl _ _⟩
  case round =>
    obtain ⟨k, hk, rfl, hrk, hbw⟩ := hrel
    have HRK := Lib.hid hrk
    clear hrk
    by_cases hlt : k < evs.length
    · obtain ⟨x, hx⟩ : ∃ s, evs[k]? = some s := ⟨_, List.getElem?_eq_getElem hlt⟩
      obtain ⟨b, o, rfl, hb, x0, x1, x2, x3, x4, x5, x6⟩ := ev_cells (H.out.below hbw) hx
      have hsz := hbw.size
      have HD := Lib.hid (evdrop hx)
      clear hx
      by_cases he : x.kind = 1 ∧ x.acc = acc ∧ x.at_ ≤ t
      · have HT : Hid (r = preB x.name) := by
          unfold Hid
          rw [HRK.out, HD.out]
          unfold popB
          rw [if_pos he]
        obtain ⟨h1, h2, h3⟩ := he
        go_wp2
        go_ret
        exact ⟨congrArg (fun b => Ending.returned (Value.bool b)) HT.out.symm, by repeat' (first | exact Below.refl _ _ | refine below_ext ?_ ?_ _ | refine Below.alloc ?_ ?_ _ | refine Below.setCell ?_ ?_ _ | refine Below.drew ?_ | (rw [size_ext]; refine Nat.le_add_right_of_le ?_) | go_size | (rw [World.size_alloc]; refine Nat.le_add_right_of_le ?_))⟩
      · have HT : Hid (r = popB acc t (evs.drop (k + 1))) := by
          unfold Hid
          rw [HRK.out, HD.out]
          show (if _ then _ else _) = _
          rw [if_neg he]
        have hc : ¬ x.kind = 1 ∨ (x.kind = 1 ∧ ¬ x.acc = acc) ∨ (x.kind = 1 ∧ x.acc = acc ∧ ¬ x.at_ ≤ t) := by omega
        clear he
        rcases hc with h1 | ⟨h1, h2⟩ | ⟨h1, h2, h3⟩
        all_goals
          go_wp2
          go_roundw
          case rel => exact ⟨k + 1, by omega, by go_num, HT.out, by repeat' (first | exact Below.refl _ _ | refine below_ext ?_ ?_ _ | refine Below.alloc ?_ ?_ _ | refine Below.setCell ?_ ?_ _ | refine Below.drew ?_ | (rw [size_ext]; refine Nat.le_add_right_of_le ?_) | go_size | (rw [World.size_alloc]; refine Nat.le_add_right_of_le ?_))⟩
          case measure => simp [intOf]; omega
    · have HT : Hid (r = false) := by
        unfold Hid
        rw [HRK.out, List.drop_of_length_le (by omega)]
        rfl
      go_wp2
      go_ret
      exact ⟨congrArg (fun b => Ending.returned (Value.bool b)) HT.out.symm, hbw⟩

def evV (x : Ev) : Value := .agg #[.int .i64 x.at_, .int .i64 x.kind, .int .i64 x.acc, .int .i64 x.sub, .string x.num, .string x.name, .int .i64 x.value]
def OpR (o : Option Ev) (w : World) (e : Ending) (w' : World) : Prop := (match o with
  | some x => e = .returned (.tuple #[.agg #[.int .i64 x.at_, .int .i64 x.kind, .int .i64 x.acc, .int .i64 x.sub, .string x.num, .string x.name, .int .i64 x.value], .bool true])
  | none => e = .returned (.tuple #[.agg #[.int .i64 0, .int .i64 0, .int .i64 0, .int .i64 0, .string ByteArray.empty, .string ByteArray.empty, .int .i64 0], .bool false])) ∧ Below w.heap.size w w'

set_option maxHeartbeats 1000000 in
theorem ropened_any (evs : List Ev) (A : Option Addr) (cp : Nat) (acc : Int) (w : World) (h : Rws Ev.cells 7 w A evs) (hn : evs.length ≤ 1000) :
    Calls Try.prog 64 #[.slice A evs.length cp, .int .i64 acc] w (OpR (prepO acc evs) w) := by
  have H := Lib.hid h
  clear h
  obtain ⟨r, hr⟩ : ∃ r, r = prepO acc evs := ⟨_, rfl⟩
  rw [← hr]
  have HR := Lib.hid hr
  clear hr
  go_enter Try.func64, Try.ntmps64
  go_wp2
  go_loopw [6] (fun i wr => ∃ k : Nat, k ≤ evs.length ∧ i = .int .i64 k ∧ Hid (r = prepO acc (evs.drop k)) ∧ Below (w.heap.size + 1) (w.alloc (.cells #[.int .i64 0, .int .i64 0, .int .i64 0, .int .i64 0, .string ByteArray.empty, .string ByteArray.empty, .int .i64 0] 80)) wr) (fun i _ => evs.length - (intOf i).toNat)
  case atStart => exact ⟨0, Nat.zero_le _, rfl, HR.out, Below.refl _ _⟩
  case round =>
    obtain ⟨k, hk, rfl, HRK, hbw⟩ := hrel
    have hsz := hbw.size
    rw [World.size_alloc] at hsz
    have plt : w.heap.size < wr.heap.size := by omega
    have HB := Lib.hid (show Below w.heap.size w wr from ((Below.refl w.heap.size w).alloc (Nat.le_refl _) _).trans (hbw.mono (Nat.le_succ _)))
    have z0 : wr.cell? ⟨w.heap.size, 0, none⟩ = some (.int .i64 0) := (hbw.cell (p := ⟨w.heap.size, 0, none⟩) (Nat.lt_succ_self _)).trans (by simp [go_sem])
    have g0 : wr.frozen? ⟨w.heap.size, 0, none⟩ = false := (hbw.frozen (p := ⟨w.heap.size, 0, none⟩) (Nat.lt_succ_self _)).trans (by simp [go_sem])
    have z1 : wr.cell? ⟨w.heap.size, 1, none⟩ = some (.int .i64 0) := (hbw.cell (p := ⟨w.heap.size, 1, none⟩) (Nat.lt_succ_self _)).trans (by simp [go_sem])
    have g1 : wr.frozen? ⟨w.heap.size, 1, none⟩ = false := (hbw.frozen (p := ⟨w.heap.size, 1, none⟩) (Nat.lt_succ_self _)).trans (by simp [go_sem])
    have z2 : wr.cell? ⟨w.heap.size, 2, none⟩ = some (.int .i64 0) := (hbw.cell (p := ⟨w.heap.size, 2, none⟩) (Nat.lt_succ_self _)).trans (by simp [go_sem])
    have g2 : wr.frozen? ⟨w.heap.size, 2, none⟩ = false := (hbw.frozen (p := ⟨w.heap.size, 2, none⟩) (Nat.lt_succ_self _)).trans (by simp [go_sem])
    have z3 : wr.cell? ⟨w.heap.size, 3, none⟩ = some (.int .i64 0) := (hbw.cell (p := ⟨w.heap.size, 3, none⟩) (Nat.lt_succ_self _)).trans (by simp [go_sem])
    have g3 : wr.frozen? ⟨w.heap.size, 3, none⟩ = false := (hbw.frozen (p := ⟨w.heap.size, 3, none⟩) (Nat.lt_succ_self _)).trans (by simp [go_sem])
    have z4 : wr.cell? ⟨w.heap.size, 4, none⟩ = some (.string ByteArray.empty) := (hbw.cell (p := ⟨w.heap.size, 4, none⟩) (Nat.lt_succ_self _)).trans (by simp [go_sem])
    have g4 : wr.frozen? ⟨w.heap.size, 4, none⟩ = false := (hbw.frozen (p := ⟨w.heap.size, 4, none⟩) (Nat.lt_succ_self _)).trans (by simp [go_sem])
    have z5 : wr.cell? ⟨w.heap.size, 5, none⟩ = some (.string ByteArray.empty) := (hbw.cell (p := ⟨w.heap.size, 5, none⟩) (Nat.lt_succ_self _)).trans (by simp [go_sem])
    have g5 : wr.frozen? ⟨w.heap.size, 5, none⟩ = false := (hbw.frozen (p := ⟨w.heap.size, 5, none⟩) (Nat.lt_succ_self _)).trans (by simp [go_sem])
    have z6 : wr.cell? ⟨w.heap.size, 6, none⟩ = some (.int .i64 0) := (hbw.cell (p := ⟨w.heap.size, 6, none⟩) (Nat.lt_succ_self _)).trans (by simp [go_sem])
    have g6 : wr.frozen? ⟨w.heap.size, 6, none⟩ = false := (hbw.frozen (p := ⟨w.heap.size, 6, none⟩) (Nat.lt_succ_self _)).trans (by simp [go_sem])
    have HBW := Lib.hid hbw
    clear hbw
    by_cases hlt : k < evs.length
    · obtain ⟨x, hx⟩ : ∃ s, evs[k]? = some s := ⟨_, List.getElem?_eq_getElem hlt⟩
      obtain ⟨b, o, rfl, hb, x0, x1, x2, x3, x4, x5, x6⟩ := ev_cells (H.out.below HB.out) hx
      have HD := Lib.hid (evdrop hx)
      clear hx
      by_cases he : x.kind = 1 ∧ x.acc = acc
      · have HT : Hid (r = some x) := by
          unfold Hid
          rw [HRK.out, HD.out]
          show (if _ then _ else _) = _
          rw [if_pos he]
        obtain ⟨h1, h2⟩ := he
        go_wp2
        refine bodyPost_ret (by simp [results, Try.results64, go_sem, plt, z0, z1, z2, z3, z4, z5, z6]; first | done | rfl) rfl ?_
        rw [HT.out]
        refine ⟨by simp [h1, h2], ?_⟩
        exact Below.setCell (Below.setCell (Below.setCell (Below.setCell (Below.setCell (Below.setCell (Below.setCell HB.out (p := ⟨w.heap.size, 0, none⟩) (Nat.le_refl _) _) (p := ⟨w.heap.size, 1, none⟩) (Nat.le_refl _) _) (p := ⟨w.heap.size, 2, none⟩) (Nat.le_refl _) _) (p := ⟨w.heap.size, 3, none⟩) (Nat.le_refl _) _) (p := ⟨w.heap.size, 4, none⟩) (Nat.le_refl _) _) (p := ⟨w.heap.size, 5, none⟩) (Nat.le_refl _) _) (p := ⟨w.heap.size, 6, none⟩) (Nat.le_refl _) _
      · have HT : Hid (r = prepO acc (evs.drop (k + 1))) := by
          unfold Hid
          rw [HRK.out, HD.out]
          show (if _ then _ else _) = _
          rw [if_neg he]
        have hc : ¬ x.kind = 1 ∨ (x.kind = 1 ∧ ¬ x.acc = acc) := by omega
        clear he
        rcases hc with h1 | ⟨h1, h2⟩
        all_goals
          go_wp2
          go_roundw
          case rel => exact ⟨k + 1, by omega, by go_num, HT.out, HBW.out⟩
          case measure => simp [intOf]; omega
    · have HT : Hid (r = none) := by
        unfold Hid
        rw [HRK.out, List.drop_of_length_le (by omega)]
        rfl
      go_wp2
      refine bodyPost_ret (by simp [results, Try.results64, go_sem, plt, z0, z1, z2, z3, z4, z5, z6]; first | done | rfl) rfl ?_
      rw [HT.out]
      refine ⟨rfl, ?_⟩
      exact Below.setCell (Below.setCell (Below.setCell (Below.setCell (Below.setCell (Below.setCell (Below.setCell HB.out (p := ⟨w.heap.size, 0, none⟩) (Nat.le_refl _) _) (p := ⟨w.heap.size, 1, none⟩) (Nat.le_refl _) _) (p := ⟨w.heap.size, 2, none⟩) (Nat.le_refl _) _) (p := ⟨w.heap.size, 3, none⟩) (Nat.le_refl _) _) (p := ⟨w.heap.size, 4, none⟩) (Nat.le_refl _) _) (p := ⟨w.heap.size, 5, none⟩) (Nat.le_refl _) _) (p := ⟨w.heap.size, 6, none⟩) (Nat.le_refl _) _

set_option maxHeartbeats 1000000 in
theorem prepaid_any (evs : List Ev) (A : Option Addr) (cp : Nat) (acc t : Int) (w : World) (h : Rws Ev.cells 7 w A evs) (hn : evs.length ≤ 1000) :
    Calls Try.prog 45 #[.slice A evs.length cp, .int .i64 acc, .int .i64 t] w fun e w' => e = .returned (.bool (prepB acc t evs)) ∧ Below w.heap.size w w' := by
  have HO := Lib.hid (ropened_any evs A cp acc w h hn)
  clear h
  unfold prepB
  rcases ho : prepO acc evs with _ | x
  · rw [ho] at HO
    go_enter Try.func45, Try.ntmps45
    go_wp2_with (go_at_call 64; (with_reducible refine HO.out.mono ?_); rintro e w1 ⟨rfl, hb⟩; obtain ⟨s, rfl⟩ := ext_of_below hb; clear hb)
    go_ret
    exact ⟨rfl, by repeat' (first | exact Below.refl _ _ | refine below_ext ?_ ?_ _ | refine Below.alloc ?_ ?_ _ | refine Below.setCell ?_ ?_ _ | refine Below.drew ?_ | (rw [size_ext]; refine Nat.le_add_right_of_le ?_) | go_size | (rw [World.size_alloc]; refine Nat.le_add_right_of_le ?_))⟩
  · rw [ho] at HO
    by_cases ht : x.at_ ≤ t
    · have hd : decide (x.at_ ≤ t) = true := decide_eq_true ht
      simp only [hd, Bool.true_and]
      go_enter Try.func45, Try.ntmps45
      go_wp2_with (go_at_call 64; (with_reducible refine HO.out.mono ?_); rintro e w1 ⟨rfl, hb⟩; obtain ⟨s, rfl⟩ := ext_of_below hb; clear hb)
      go_ret
      exact ⟨rfl, by repeat' (first | exact Below.refl _ _ | refine below_ext ?_ ?_ _ | refine Below.alloc ?_ ?_ _ | refine Below.setCell ?_ ?_ _ | refine Below.drew ?_ | (rw [size_ext]; refine Nat.le_add_right_of_le ?_) | go_size | (rw [World.size_alloc]; refine Nat.le_add_right_of_le ?_))⟩
    · have hd : decide (x.at_ ≤ t) = false := decide_eq_false ht
      simp only [hd, Bool.false_and]
      go_enter Try.func45, Try.ntmps45
      go_wp2_with (go_at_call 64; (with_reducible refine HO.out.mono ?_); rintro e w1 ⟨rfl, hb⟩; obtain ⟨s, rfl⟩ := ext_of_below hb; clear hb)
      go_ret
      exact ⟨rfl, by repeat' (first | exact Below.refl _ _ | refine below_ext ?_ ?_ _ | refine Below.alloc ?_ ?_ _ | refine Below.setCell ?_ ?_ _ | refine Below.drew ?_ | (rw [size_ext]; refine Nat.le_add_right_of_le ?_) | go_size | (rw [World.size_alloc]; refine Nat.le_add_right_of_le ?_))⟩
end Go.Proofs.Ythkollhebabhbaa

/-!
  An event on a wallet.
-/
namespace Go.Proofs.Ythkollhebabhbaa
open Go.RowKit
set_option linter.unusedSimpArgs false
set_option linter.unusedVariables false

/-- A wallet behind an event. -/
def carryF (x : W5) (k v : Int) : W5 := if k = 14 then (if (x.credit v).2 = 0 then (x.credit v).1 else x) else if k = 15 then (if (x.floor v).2 = 0 then (x.floor v).1 else x) else x
theorem credit_keeps (x : W5) (v : Int) (h : (x.credit v).2 = 0) : (x.credit v).1.u = x.u ∧ (x.credit v).1.a = x.a := by
  unfold W5.credit at h ⊢
  split
  · rename_i hc
    rw [if_pos hc] at h
    split
    · exact ⟨rfl, rfl⟩
    · rename_i hd
      rw [if_neg hd] at h
      cases h
  · rename_i hc
    rw [if_neg hc] at h
    exact absurd h hc
theorem floor_keeps (x : W5) (v : Int) (h : (x.floor v).2 = 0) : (x.floor v).1.u = x.u ∧ (x.floor v).1.a = x.a := by
  unfold W5.floor at h ⊢
  split
  · rename_i hc
    rw [if_pos hc] at h
    split
    · rename_i hd
      rw [if_pos hd] at h
      split
      · rename_i he
        rw [if_pos he] at h
        cases h
      · exact ⟨rfl, rfl⟩
    · rename_i hd
      rw [if_neg hd] at h
      cases h
  · rename_i hc
    rw [if_neg hc] at h
    exact absurd h hc
theorem carry_keeps (x : W5) (k v : Int) : (carryF x k v).u = x.u ∧ (carryF x k v).a = x.a := by
  unfold carryF
  split
  · split
    · exact credit_keeps x v (by assumption)
    · exact ⟨rfl, rfl⟩
  · split
    · split
      · exact floor_keeps x v (by assumption)
      · exact ⟨rfl, rfl⟩
    · exact ⟨rfl, rfl⟩

set_option maxRecDepth 100000 in
set_option maxHeartbeats 2000000 in
theorem carry_any (x : W5) (a k c s : Int) (nu na : ByteArray) (v : Int) (w : World) :
    Calls Try.prog 47 #[.agg #[.int .i64 x.a, .int .i64 x.b, .int .i64 x.f, .int .i64 x.h, .int .i64 x.u], .agg #[.int .i64 a, .int .i64 k, .int .i64 c, .int .i64 s, .string nu, .string na, .int .i64 v]] w fun e w' => e = .returned (.agg #[.int .i64 (carryF x k v).a, .int .i64 (carryF x k v).b, .int .i64 (carryF x k v).f, .int .i64 (carryF x k v).h, .int .i64 (carryF x k v).u]) ∧ Below w.heap.size w w' := by
  obtain ⟨xa, xb, xf, xh, xu⟩ := x
  have HC := Lib.hid (fun W => rcredit_any xa xb xf xh xu v W)
  have HF := Lib.hid (fun W => rfloor_any xa xb xf xh xu v W)
  obtain ⟨y, hy⟩ : ∃ y, y = carryF ⟨xa, xb, xf, xh, xu⟩ k v := ⟨_, rfl⟩
  rw [← hy]
  have HY := Lib.hid hy
  clear hy
  by_cases h14 : k = 14
  · have HE : Hid (y = if ((W5.mk xa xb xf xh xu).credit v).2 = 0 then ((W5.mk xa xb xf xh xu).credit v).1 else ⟨xa, xb, xf, xh, xu⟩) := by
      unfold Hid
      rw [HY.out]
      unfold carryF
      rw [if_pos h14]
    clear HY HF
    generalize (W5.mk xa xb xf xh xu).credit v = r at *
    obtain ⟨⟨pa, pb, pf, ph, pu⟩, pe⟩ := r
    dsimp only at HC HE
    by_cases he : pe = 0
    · have HR : Hid (y = ⟨pa, pb, pf, ph, pu⟩) := HE.out.trans (if_pos he)
      subst he
      subst h14
      go_enter Try.func47, Try.ntmps47
      go_wp2_with (go_at_call 37; (with_reducible refine (HC.out _).mono ?_); rintro e w1 ⟨rfl, hb⟩; obtain ⟨s1, rfl⟩ := ext_of_below hb; clear hb)
      refine bodyPost_ret (by simp [results, Try.results47, go_sem]; first | done | rfl) rfl ?_
      rw [HR.out]
      exact ⟨rfl, by repeat' (first | exact Below.refl _ _ | refine below_ext ?_ ?_ _ | refine Below.alloc ?_ ?_ _ | refine Below.setCell ?_ ?_ _ | refine Below.drew ?_ | (rw [size_ext]; refine Nat.le_add_right_of_le ?_) | go_size | (rw [World.size_alloc]; refine Nat.le_add_right_of_le ?_))⟩
    · have HR : Hid (y = ⟨xa, xb, xf, xh, xu⟩) := HE.out.trans (if_neg he)
      subst h14
      go_enter Try.func47, Try.ntmps47
      go_wp2_with (go_at_call 37; (with_reducible refine (HC.out _).mono ?_); rintro e w1 ⟨rfl, hb⟩; obtain ⟨s1, rfl⟩ := ext_of_below hb; clear hb)
      refine bodyPost_ret (by simp [results, Try.results47, go_sem]; first | done | rfl) rfl ?_
      rw [HR.out]
      exact ⟨rfl, by repeat' (first | exact Below.refl _ _ | refine below_ext ?_ ?_ _ | refine Below.alloc ?_ ?_ _ | refine Below.setCell ?_ ?_ _ | refine Below.drew ?_ | (rw [size_ext]; refine Nat.le_add_right_of_le ?_) | go_size | (rw [World.size_alloc]; refine Nat.le_add_right_of_le ?_))⟩
  · by_cases h15 : k = 15
    · have HE : Hid (y = if ((W5.mk xa xb xf xh xu).floor v).2 = 0 then ((W5.mk xa xb xf xh xu).floor v).1 else ⟨xa, xb, xf, xh, xu⟩) := by
        unfold Hid
        rw [HY.out]
        unfold carryF
        rw [if_neg h14, if_pos h15]
      clear HY HC
      generalize (W5.mk xa xb xf xh xu).floor v = r at *
      obtain ⟨⟨pa, pb, pf, ph, pu⟩, pe⟩ := r
      dsimp only at HF HE
      by_cases he : pe = 0
      · have HR : Hid (y = ⟨pa, pb, pf, ph, pu⟩) := HE.out.trans (if_pos he)
        subst he
        subst h15
        go_enter Try.func47, Try.ntmps47
        go_wp2_with (go_at_call 65; (with_reducible refine (HF.out _).mono ?_); rintro e w1 ⟨rfl, hb⟩; obtain ⟨s1, rfl⟩ := ext_of_below hb; clear hb)
        refine bodyPost_ret (by simp [results, Try.results47, go_sem]; first | done | rfl) rfl ?_
        rw [HR.out]
        exact ⟨rfl, by repeat' (first | exact Below.refl _ _ | refine below_ext ?_ ?_ _ | refine Below.alloc ?_ ?_ _ | refine Below.setCell ?_ ?_ _ | refine Below.drew ?_ | (rw [size_ext]; refine Nat.le_add_right_of_le ?_) | go_size | (rw [World.size_alloc]; refine Nat.le_add_right_of_le ?_))⟩
      · have HR : Hid (y = ⟨xa, xb, xf, xh, xu⟩) := HE.out.trans (if_neg he)
        subst h15
        go_enter Try.func47, Try.ntmps47
        go_wp2_with (go_at_call 65; (with_reducible refine (HF.out _).mono ?_); rintro e w1 ⟨rfl, hb⟩; obtain ⟨s1, rfl⟩ := ext_of_below hb; clear hb)
        refine bodyPost_ret (by simp [results, Try.results47, go_sem]; first | done | rfl) rfl ?_
        rw [HR.out]
        exact ⟨rfl, by repeat' (first | exact Below.refl _ _ | refine below_ext ?_ ?_ _ | refine Below.alloc ?_ ?_ _ | refine Below.setCell ?_ ?_ _ | refine Below.drew ?_ | (rw [size_ext]; refine Nat.le_add_right_of_le ?_) | go_size | (rw [World.size_alloc]; refine Nat.le_add_right_of_le ?_))⟩
    · have HR : Hid (y = ⟨xa, xb, xf, xh, xu⟩) := by
        unfold Hid
        rw [HY.out]
        unfold carryF
        rw [if_neg h14, if_neg h15]
      clear HY HC HF
      go_enter Try.func47, Try.ntmps47
      go_wp2
      refine bodyPost_ret (by simp [results, Try.results47, go_sem]; first | done | rfl) rfl ?_
      rw [HR.out]
      exact ⟨rfl, by repeat' (first | exact Below.refl _ _ | refine below_ext ?_ ?_ _ | refine Below.alloc ?_ ?_ _ | refine Below.setCell ?_ ?_ _ | refine Below.drew ?_ | (rw [size_ext]; refine Nat.le_add_right_of_le ?_) | go_size | (rw [World.size_alloc]; refine Nat.le_add_right_of_le ?_))⟩

set_option maxHeartbeats 1000000 in
theorem ascending_any (ws : List W5) (A : Option Addr) (cp : Nat) (w : World) (h : Fives w A ws) (hn : ws.length ≤ 1000) :
    Calls Try.prog 38 #[.slice A ws.length cp] w (SomeB w) := by
  have H := Lib.hid h
  clear h
  go_enter Try.func38, Try.ntmps38
  go_wp2
  go_loopw [3] (fun i wr => ∃ k : Nat, i = .int .i64 ((k : Int) + 1) ∧ (k < ws.length ∨ (k = 0 ∧ ws.length = 0)) ∧ Below w.heap.size w wr) (fun i _ => ws.length + 1 - (intOf i).toNat)
  case atStart => exact ⟨0, rfl, by omega, Below.refl _ _⟩
  case round =>
    obtain ⟨k, rfl, hk, hbw⟩ := hrel
    have HB := Lib.hid hbw
    clear hbw
    by_cases hlt : k + 1 < ws.length
    · obtain ⟨x, hx⟩ : ∃ s, ws[k]? = some s := ⟨_, List.getElem?_eq_getElem (by omega)⟩
      obtain ⟨y, hy⟩ : ∃ s, ws[k + 1]? = some s := ⟨_, List.getElem?_eq_getElem (by omega)⟩
      obtain ⟨b, o, hA, hb, x0, -⟩ := fives_cells (H.out.below HB.out) hx
      obtain ⟨b', o', hA', hb', y0, -⟩ := fives_cells (H.out.below HB.out) hy
      subst hA
      obtain ⟨rfl, rfl⟩ : b = b' ∧ o = o' := by simpa using hA'
      clear hx hy hA'
      have hw1 : IntKind.i64.wrap (k : Int) = (k : Int) := IntWalk.i64_in _ ⟨by omega, by omega⟩
      have hk1 : (k : Int) < (ws.length : Int) := by omega
      have hk2 : (k : Int) + 1 < (ws.length : Int) := by omega
      have hk0 : (0 : Int) ≤ (k : Int) + 1 := by omega
      have hk3 : (0 : Int) ≤ (k : Int) := by omega
      have hk4 : ((k : Int) + 1).toNat = k + 1 := by omega
      have hw2 : IntKind.i64.wrap ((k : Int) + 1 + 1) = (k : Int) + 1 + 1 := IntWalk.i64_in _ ⟨by omega, by omega⟩
      have hsz := HB.out.size
      go_wp2
      go_upto_region 4 with fail
      refine wp_region_more (by kernel_rfl) (by kernel_rfl) ?_
      repeat (first | go_big_quiet_skip | quiet_step (fail))
      refine wpQuiet_nil ?_
      rintro _ ⟨s4, rfl⟩
      go_wp2
      all_goals first
        | (go_ret; exact ⟨⟨_, rfl⟩, below_ext HB.out hsz _⟩)
        | (go_roundw
           case rel => exact ⟨k + 1, by first | rfl | (simp [hw2]; done) | go_num, by omega, below_ext HB.out hsz _⟩
           case measure => simp [intOf, hw2]; omega)
    · go_wp2
      go_ret
      exact ⟨⟨_, rfl⟩, HB.out⟩
end Go.Proofs.Ythkollhebabhbaa

/-!
  A wallet that is put in its place.
-/
namespace Go.Proofs.Ythkollhebabhbaa
open Go.RowKit
open Go.Maps
set_option linter.unusedSimpArgs false
set_option linter.unusedVariables false

def lessN (acc : Int) : List W5 → Nat
  | [] => 0
  | x :: l => if x.a < acc then lessN acc l + 1 else 0
theorem lessN_le (acc : Int) : ∀ l : List W5, lessN acc l ≤ l.length
  | [] => Nat.le_refl _
  | x :: l => by
    have := lessN_le acc l
    unfold lessN
    split <;> simp <;> omega
theorem less_more {acc : Int} {ws : List W5} {k : Nat} {x : W5} (hx : ws[k]? = some x) (hl : lessN acc ws = k + lessN acc (ws.drop k)) (h : x.a < acc) : lessN acc ws = k + 1 + lessN acc (ws.drop (k + 1)) := by
  obtain ⟨h1, h2⟩ := List.getElem?_eq_some_iff.1 hx
  have e : lessN acc (x :: ws.drop (k + 1)) = lessN acc (ws.drop (k + 1)) + 1 := by simp [lessN, h]
  rw [List.drop_eq_getElem_cons h1, h2, e] at hl
  omega
theorem less_stop {acc : Int} {ws : List W5} {k : Nat} {x : W5} (hx : ws[k]? = some x) (hl : lessN acc ws = k + lessN acc (ws.drop k)) (h : ¬ x.a < acc) : lessN acc ws = k := by
  obtain ⟨h1, h2⟩ := List.getElem?_eq_some_iff.1 hx
  have e : lessN acc (x :: ws.drop (k + 1)) = 0 := by simp [lessN, h]
  rw [List.drop_eq_getElem_cons h1, h2, e] at hl
  omega
theorem less_end {acc : Int} {ws : List W5} {k : Nat} (hk : ¬ k < ws.length) (hl : lessN acc ws = k + lessN acc (ws.drop k)) : lessN acc ws = k := by
  rw [List.drop_of_length_le (by omega)] at hl
  exact hl
def newW (acc : Int) : W5 := ⟨acc, 0, 0, 0, -1⟩
def insF (acc : Int) (ws : List W5) : List W5 := ws.take (lessN acc ws) ++ [newW acc] ++ ws.drop (lessN acc ws)
def withF (acc : Int) (ws : List W5) : List W5 × Nat := match plc acc ws with
  | some k => (ws, k)
  | none => (insF acc ws, lessN acc ws)
theorem w5_one (xs : List W5) : ∀ u ∈ xs.flatMap W5.cells, u.oneCell' = true := fives_one xs
theorem fives_rws {w : World} {A : Option Addr} {xs : List W5} (h : Fives w A xs) : Rws W5.cells 5 w A xs := h

/-- Wallets of its own, and a place, are returned. -/
def WithR (ws : List W5) (k : Nat) (w : World) (e : Ending) (w' : World) : Prop := (∃ A c, e = .returned (.tuple #[.slice A ws.length c, .int .i64 (k : Int)]) ∧ OwnF w' w.heap.size 37 (.slice A ws.length c) ws) ∧ Below w.heap.size w w'
theorem ins_own {w' : World} {B : Nat} {v : Value} {acc : Int} {ws : List W5} {k n : Nat} (h : w'.ownsRow B 37 5 v n ((ws.take k).flatMap W5.cells ++ W5.cells (newW acc) ++ (ws.drop k).flatMap W5.cells)) (hk : k ≤ ws.length) (hn : n = k + 1 + (ws.length - k)) (hl : lessN acc ws = k) : OwnF w' B 37 v (insF acc ws) ∧ n = (insF acc ws).length := by
  have e : n = (insF acc ws).length := by
    unfold insF
    rw [hl]
    simp
    omega
  refine ⟨?_, e⟩
  unfold OwnF fives
  rw [← e]
  unfold insF
  rw [hl]
  simpa using h

set_option maxRecDepth 100000 in
set_option maxHeartbeats 4000000 in
theorem with_yes (ws : List W5) (A : Option Addr) (cp : Nat) (acc : Int) (k : Nat) (w : World) (h : Fives w A ws) (hn : ws.length ≤ 1000) (h0 : A = none → cp = 0) (hfw : ∀ x ∈ ws, fits x.a) (hfa : fits acc) (hp : plc acc ws = some k) :
    Calls Try.prog 41 #[.slice A ws.length cp, .int .i64 acc] w (WithR ws k w) := by
  obtain ⟨j0, hj0, hy0, hy1, hy2⟩ := info_parts info_w5
  have hkey : keyOf Try.prog 3 (.int .i64 acc) = some (.int .i64 acc) := keyOf_int_mk Try.underlying3 (int_wf hfa)
  have H := Lib.hid h
  have HNIL := Lib.hid (fives_nil h h0)
  have HFW := Lib.hid hfw
  have HK := Lib.hid hkey
  have HP := Lib.hid hp
  clear h hfw hkey hp
  go_enter Try.func41, Try.ntmps41
  go_wp2_with (first
    | (go_at_call 27; refine (places_any' ws A cp _ hn H.out HFW.out).mono ?_; rintro e w2 ⟨rfl, hm, hb2⟩; obtain ⟨s2, rfl⟩ := ext_of_below hb2; obtain ⟨D, hD1, hD2, hD3⟩ := hm; have hhas : Maps.has D (.int .i64 acc) = true := (by rw [(hD3 acc).1, HP.out]; rfl); have HAT := Lib.hid ((hD3 acc).2 k HP.out); have HD2 := Lib.hid hD2; clear hb2 hD1 hD2 hD3)
    | (at_lookup; refine wpList_lookup_own_ok_int _ rfl _ _ 62 rfl 3 3 .i64 lawI Try.underlying62 Try.underlying3 (zeroI _) _ _ D rfl HD2.out _ _ rfl HK.out ?_; intro c hat hwc; obtain rfl : c = (k : Int) := (by rw [HAT.out] at hat; cases hat; rfl); clear hat hwc)
    | (at_builtin; refine wpList_append_any rfl _ _ _ rfl w.heap.size 37 j0 _ 5 40 Try.underlying23 hj0 hy0 hy1 hy2 rfl (by omega) (.slice none 0 0) 0 [] rfl (World.ownsRow_nil _ _ _ _) A ws.length cp (fives ws) rfl HNIL.out (fives_len _) (Fives.news (H.out.ext _)) (fives_one _) (by simp only [maxLen]; omega) (by omega) (by simp [go_sem]) ?_; intro v1 w1 hown1 hg1; rw [Nat.zero_add, List.nil_append] at hown1; have HB1 := Lib.hid ((below_ext (Below.refl w.heap.size w) (Nat.le_refl _) s2).grown hg1 (by simp [go_sem]) (fun i hi => by simp [Value.ownBlock] at hi)); have HO1 := Lib.hid hown1; obtain ⟨A3, k3, rfl, _⟩ := own_form hown1; clear hown1 hg1))
  refine bodyPost_ret (by simp [results, Try.results41, go_sem]; first | done | rfl) rfl ?_
  exact ⟨⟨_, _, rfl, HO1.out⟩, HB1.out⟩

set_option maxRecDepth 100000 in
set_option maxHeartbeats 8000000 in
theorem with_no (ws : List W5) (A : Option Addr) (cp : Nat) (acc : Int) (w : World) (h : Fives w A ws) (hn : ws.length ≤ 1000) (h0 : A = none → cp = 0) (hc : ws.length ≤ cp) (hfw : ∀ x ∈ ws, fits x.a) (hfa : fits acc) (hp : plc acc ws = none) :
    Calls Try.prog 41 #[.slice A ws.length cp, .int .i64 acc] w (WithR (insF acc ws) (lessN acc ws) w) := by
  obtain ⟨j0, hj0, hy0, hy1, hy2⟩ := info_parts info_w5
  have hkey : keyOf Try.prog 3 (.int .i64 acc) = some (.int .i64 acc) := keyOf_int_mk Try.underlying3 (int_wf hfa)
  have HZ := Lib.hid (fives_rws h)
  have HA0 := Lib.hid h0
  have HFW := Lib.hid hfw
  have HK := Lib.hid hkey
  have HP := Lib.hid hp
  clear h h0 hfw hkey hp
  go_enter Try.func41, Try.ntmps41
  go_upto_region 4 with (first
    | (go_at_call 27; refine (places_any' ws A cp _ hn HZ.out HFW.out).mono ?_; rintro e w2 ⟨rfl, hm, hb2⟩; obtain ⟨s2, rfl⟩ := ext_of_below hb2; obtain ⟨D, hD1, hD2, hD3⟩ := hm; have hhas : Maps.has D (.int .i64 acc) = false := (by rw [(hD3 acc).1, HP.out]; rfl); have HD2 := Lib.hid hD2; clear hb2 hD1 hD2 hD3)
    | (at_lookup; refine wpList_lookup_own_ok_int _ rfl _ _ 62 rfl 3 3 .i64 lawI Try.underlying62 Try.underlying3 (zeroI _) _ _ D rfl HD2.out _ _ rfl HK.out ?_; intro c hat hwc; clear hat hwc))
  obtain ⟨wb, hwbe⟩ : ∃ wb, wb = ext w s2 := ⟨_, rfl⟩
  have HWB := Lib.hid (show Below w.heap.size w wb by rw [hwbe]; exact below_ext (Below.refl _ _) (Nat.le_refl _) s2)
  have hwb := HWB.out.size
  rw [← hwbe]
  have HZB := Lib.hid (HZ.out.below HWB.out)
  clear hwbe HD2
  go_wp2
  go_loop [8] (fun i => ∃ k : Nat, k ≤ ws.length ∧ i = .int .i64 k ∧ Hid (lessN acc ws = k + lessN acc (ws.drop k))) (fun i => ws.length - (intOf i).toNat)
  case atStart => exact ⟨0, Nat.zero_le _, rfl, by unfold Hid; rw [List.drop_zero, Nat.zero_add]⟩
  case round =>
    obtain ⟨k, hk, rfl, HLK⟩ := hrel
    have hs1 := fun W => run_slice_to (P := Try.prog) 23 37 Try.underlying23 j0 hj0 A ws.length cp k (by omega) W
    have hs2 := fun W => run_slice_from (P := Try.prog) 23 37 Try.underlying23 j0 hj0 A ws.length cp k (by omega) W
    rw [hy1] at hs2
    have HN1 : Hid (A = none → k = 0 ∧ cp = 0) := fun h => by have := HA0.out h; omega
    have HN2 : Hid (slFrom A cp k 5 = none → ws.length - k = 0 ∧ cp - k = 0) := fun h => by have := HA0.out (slFrom_none HA0.out (by omega) h); omega
    have HL1 : Hid (((ws.take k).flatMap W5.cells).length = k * 5) := by unfold Hid; rw [flat_len (f := W5.cells) (n := 5) (fun _ => rfl), List.length_take]; omega
    have HL2 : Hid (((ws.drop k).flatMap W5.cells).length = (ws.length - k) * 5) := by unfold Hid; rw [flat_len (f := W5.cells) (n := 5) (fun _ => rfl), List.length_drop]
    by_cases hlt : k < ws.length
    · obtain ⟨x, hx⟩ : ∃ s, ws[k]? = some s := ⟨_, List.getElem?_eq_getElem hlt⟩
      obtain ⟨b, o, hA, hb, x0, -⟩ := fives_cells HZB.out hx
      have HX := Lib.hid hx
      subst hA
      clear hx
      by_cases hl : x.a < acc
      · have HM := Lib.hid (less_more HX.out HLK.out hl)
        go_wp2
        go_round
        case rel => exact ⟨k + 1, by omega, by go_num, HM.out⟩
        case measure => simp [intOf]; omega
      · have HM := Lib.hid (less_stop HX.out HLK.out hl)
        go_wp2_with (first
        | (at_builtin; refine wpList_append_any rfl _ _ _ rfl w.heap.size 37 j0 _ 5 40 Try.underlying23 hj0 hy0 hy1 hy2 rfl (by omega) (.slice none 0 0) 0 [] rfl (World.ownsRow_nil _ _ _ _) _ k cp ((ws.take k).flatMap W5.cells) rfl HN1.out HL1.out (Rws.news (f := W5.cells) (n := 5) (fun _ => rfl) (by decide) (HZB.out.take k)) (w5_one _) (by simp only [maxLen]; omega) (by omega) hwb ?_; intro v1 w1 hown1 hg1; rw [Nat.zero_add, List.nil_append] at hown1; have HB1 := Lib.hid (HWB.out.grown hg1 hwb (fun i hi => by simp [Value.ownBlock] at hi)); have HO1 := Lib.hid hown1; have hsz1 := HB1.out.size; clear hown1 hg1)
        | (at_builtin; refine wpList_append_any rfl _ _ _ rfl w.heap.size 37 j0 _ 5 40 Try.underlying23 hj0 hy0 hy1 hy2 rfl (by omega) v1 k ((ws.take k).flatMap W5.cells) rfl (World.ownsRow.alloc HO1.out _) (some ⟨w1.heap.size, 0, none⟩) 1 1 (W5.cells (newW acc)) rfl (fun h => by cases h) rfl (fun ad had => by obtain rfl := Option.some.inj had; exact cells_new _ rfl) (by simpa using w5_one [newW acc]) (by simp only [maxLen]; omega) (by omega) (by simp; omega) ?_; intro v2 w2 hown2 hg2; have HB2 := Lib.hid ((HB1.out.alloc hsz1 (.cells (W5.cells (newW acc)).toArray 37)).grown hg2 (by simp; omega) (fun i hi => (World.ownsRow.lt HO1.out i hi).1)); have HO2 := Lib.hid hown2; have hsz2 := HB2.out.size; clear hown2 hg2)
        | (at_builtin; refine wpList_append_any rfl _ _ _ rfl w.heap.size 37 j0 _ 5 40 Try.underlying23 hj0 hy0 hy1 hy2 rfl (by omega) v2 (k + 1) ((ws.take k).flatMap W5.cells ++ W5.cells (newW acc)) rfl HO2.out _ (ws.length - k) (cp - k) ((ws.drop k).flatMap W5.cells) rfl HN2.out HL2.out (Rws.news (f := W5.cells) (n := 5) (fun _ => rfl) (by decide) (Rws.drop (n := 5) (by decide) (HZ.out.below HB2.out) hc)) (w5_one _) (by simp only [maxLen]; omega) (by omega) (by omega) ?_; intro v3 w3 hown3 hg3; have HB3 := Lib.hid (HB2.out.grown hg3 hsz2 (fun i hi => (World.ownsRow.lt HO2.out i hi).1)); have HO3 := Lib.hid hown3; obtain ⟨A3, k3, rfl, _⟩ := own_form hown3; clear hown3 hg3))
        refine bodyPost_ret (by simp [results, Try.results41, go_sem]; first | done | rfl) rfl ?_
        obtain ⟨e1, e2⟩ := ins_own HO3.out (by omega) rfl HM.out
        rw [e2] at e1
        rw [e2, HM.out]
        exact ⟨⟨_, _, rfl, e1⟩, HB3.out⟩
    · have HM := Lib.hid (less_end hlt HLK.out)
      go_wp2_with (first
        | (at_builtin; refine wpList_append_any rfl _ _ _ rfl w.heap.size 37 j0 _ 5 40 Try.underlying23 hj0 hy0 hy1 hy2 rfl (by omega) (.slice none 0 0) 0 [] rfl (World.ownsRow_nil _ _ _ _) _ k cp ((ws.take k).flatMap W5.cells) rfl HN1.out HL1.out (Rws.news (f := W5.cells) (n := 5) (fun _ => rfl) (by decide) (HZB.out.take k)) (w5_one _) (by simp only [maxLen]; omega) (by omega) hwb ?_; intro v1 w1 hown1 hg1; rw [Nat.zero_add, List.nil_append] at hown1; have HB1 := Lib.hid (HWB.out.grown hg1 hwb (fun i hi => by simp [Value.ownBlock] at hi)); have HO1 := Lib.hid hown1; have hsz1 := HB1.out.size; clear hown1 hg1)
        | (at_builtin; refine wpList_append_any rfl _ _ _ rfl w.heap.size 37 j0 _ 5 40 Try.underlying23 hj0 hy0 hy1 hy2 rfl (by omega) v1 k ((ws.take k).flatMap W5.cells) rfl (World.ownsRow.alloc HO1.out _) (some ⟨w1.heap.size, 0, none⟩) 1 1 (W5.cells (newW acc)) rfl (fun h => by cases h) rfl (fun ad had => by obtain rfl := Option.some.inj had; exact cells_new _ rfl) (by simpa using w5_one [newW acc]) (by simp only [maxLen]; omega) (by omega) (by simp; omega) ?_; intro v2 w2 hown2 hg2; have HB2 := Lib.hid ((HB1.out.alloc hsz1 (.cells (W5.cells (newW acc)).toArray 37)).grown hg2 (by simp; omega) (fun i hi => (World.ownsRow.lt HO1.out i hi).1)); have HO2 := Lib.hid hown2; have hsz2 := HB2.out.size; clear hown2 hg2)
        | (at_builtin; refine wpList_append_any rfl _ _ _ rfl w.heap.size 37 j0 _ 5 40 Try.underlying23 hj0 hy0 hy1 hy2 rfl (by omega) v2 (k + 1) ((ws.take k).flatMap W5.cells ++ W5.cells (newW acc)) rfl HO2.out _ (ws.length - k) (cp - k) ((ws.drop k).flatMap W5.cells) rfl HN2.out HL2.out (Rws.news (f := W5.cells) (n := 5) (fun _ => rfl) (by decide) (Rws.drop (n := 5) (by decide) (HZ.out.below HB2.out) hc)) (w5_one _) (by simp only [maxLen]; omega) (by omega) (by omega) ?_; intro v3 w3 hown3 hg3; have HB3 := Lib.hid (HB2.out.grown hg3 hsz2 (fun i hi => (World.ownsRow.lt HO2.out i hi).1)); have HO3 := Lib.hid hown3; obtain ⟨A3, k3, rfl, _⟩ := own_form hown3; clear hown3 hg3))
      refine bodyPost_ret (by simp [results, Try.results41, go_sem]; first | done | rfl) rfl ?_
      obtain ⟨e1, e2⟩ := ins_own HO3.out (by omega) rfl HM.out
      rw [e2] at e1
      rw [e2, HM.out]
      exact ⟨⟨_, _, rfl, e1⟩, HB3.out⟩
end Go.Proofs.Ythkollhebabhbaa

/-!
  A wallet that the reference puts in its place.
-/
namespace Go.Proofs.Ythkollhebabhbaa
open Go.RowKit
open Go.Maps
set_option linter.unusedSimpArgs false
set_option linter.unusedVariables false

def InsR (ws : List W5) (w : World) (e : Ending) (w' : World) : Prop := (∃ A c, e = .returned (.slice A ws.length c) ∧ OwnF w' w.heap.size 37 (.slice A ws.length c) ws) ∧ Below w.heap.size w w'

set_option maxRecDepth 100000 in
set_option maxHeartbeats 8000000 in
theorem rwith_any (ws : List W5) (A : Option Addr) (cp : Nat) (acc : Int) (w : World) (h : Fives w A ws) (hn : ws.length ≤ 1000) (h0 : A = none → cp = 0) (hc : ws.length ≤ cp) :
    Calls Try.prog 46 #[.slice A ws.length cp, .agg #[.int .i64 acc, .int .i64 0, .int .i64 0, .int .i64 0, .int .i64 (-1)]] w (InsR (insF acc ws) w) := by
  obtain ⟨j0, hj0, hy0, hy1, hy2⟩ := info_parts info_w5
  have HZ := Lib.hid (fives_rws h)
  have HA0 := Lib.hid h0
  clear h h0
  go_enter Try.func46, Try.ntmps46
  go_wp2
  go_loopw [5] (fun i wr => ∃ k : Nat, k ≤ ws.length ∧ i = .int .i64 k ∧ Hid (lessN acc ws = k + lessN acc (ws.drop k)) ∧ Below (w.heap.size + 1) (w.alloc (.cells #[.int .i64 acc, .int .i64 0, .int .i64 0, .int .i64 0, .int .i64 (-1)] 37)) wr) (fun i _ => ws.length - (intOf i).toNat)
  case atStart => exact ⟨0, Nat.zero_le _, rfl, by unfold Hid; rw [List.drop_zero, Nat.zero_add], Below.refl _ _⟩
  case round =>
    obtain ⟨k, hk, rfl, HLK, hbw⟩ := hrel
    have hsz := hbw.size
    rw [World.size_alloc] at hsz
    have plt : w.heap.size < wr.heap.size := by omega
    have HBW := Lib.hid hbw
    have HB := Lib.hid (show Below w.heap.size w wr from ((Below.refl w.heap.size w).alloc (Nat.le_refl _) _).trans (hbw.mono (Nat.le_succ _)))
    have q0 : wr.cell? ⟨w.heap.size, 0, none⟩ = some (.int .i64 acc) := (hbw.cell (p := ⟨w.heap.size, 0, none⟩) (Nat.lt_succ_self _)).trans (by simp [go_sem])
    have q1 : wr.cell? ⟨w.heap.size, 1, none⟩ = some (.int .i64 0) := (hbw.cell (p := ⟨w.heap.size, 1, none⟩) (Nat.lt_succ_self _)).trans (by simp [go_sem])
    have q2 : wr.cell? ⟨w.heap.size, 2, none⟩ = some (.int .i64 0) := (hbw.cell (p := ⟨w.heap.size, 2, none⟩) (Nat.lt_succ_self _)).trans (by simp [go_sem])
    have q3 : wr.cell? ⟨w.heap.size, 3, none⟩ = some (.int .i64 0) := (hbw.cell (p := ⟨w.heap.size, 3, none⟩) (Nat.lt_succ_self _)).trans (by simp [go_sem])
    have q4 : wr.cell? ⟨w.heap.size, 4, none⟩ = some (.int .i64 (-1)) := (hbw.cell (p := ⟨w.heap.size, 4, none⟩) (Nat.lt_succ_self _)).trans (by simp [go_sem])
    clear hbw
    have hs1 := fun W => run_slice_to (P := Try.prog) 23 37 Try.underlying23 j0 hj0 A ws.length cp k (by omega) W
    have hs2 := fun W => run_slice_from (P := Try.prog) 23 37 Try.underlying23 j0 hj0 A ws.length cp k (by omega) W
    rw [hy1] at hs2
    have HN1 : Hid (A = none → k = 0 ∧ cp = 0) := fun h => by have := HA0.out h; omega
    have HN2 : Hid (slFrom A cp k 5 = none → ws.length - k = 0 ∧ cp - k = 0) := fun h => by have := HA0.out (slFrom_none HA0.out (by omega) h); omega
    have HL1 : Hid (((ws.take k).flatMap W5.cells).length = k * 5) := by unfold Hid; rw [flat_len (f := W5.cells) (n := 5) (fun _ => rfl), List.length_take]; omega
    have HL2 : Hid (((ws.drop k).flatMap W5.cells).length = (ws.length - k) * 5) := by unfold Hid; rw [flat_len (f := W5.cells) (n := 5) (fun _ => rfl), List.length_drop]
    have hkk : (k : Int) ≤ (ws.length : Int) := by omega
    have hcases : (k < ws.length ∧ ∃ x, ws[k]? = some x ∧ x.a < acc) ∨ (k < ws.length ∧ (∃ x, ws[k]? = some x ∧ ¬ x.a < acc) ∧ lessN acc ws = k) ∨ (¬ k < ws.length ∧ lessN acc ws = k) := by
      by_cases hlt : k < ws.length
      · have hx := List.getElem?_eq_getElem hlt
        by_cases hl : ws[k].a < acc
        · exact .inl ⟨hlt, _, hx, hl⟩
        · exact .inr (.inl ⟨hlt, ⟨_, hx, hl⟩, less_stop hx HLK.out hl⟩)
      · exact .inr (.inr ⟨hlt, less_end hlt HLK.out⟩)
    rcases hcases with ⟨hlt, x, hx, hl⟩ | ⟨hlt, ⟨x, hx, hl⟩, hM⟩ | ⟨hlt, hM⟩
    · obtain ⟨b, o, hA, hb, x0, -⟩ := fives_cells (HZ.out.below HB.out) hx
      have HM := Lib.hid (less_more hx HLK.out hl)
      subst hA
      clear hx
      go_wp2
      go_upto_region 2 with fail
      refine wp_region_more (by kernel_rfl) (by kernel_rfl) ?_
      repeat (first | go_big_quiet_skip | quiet_step (fail))
      refine wpQuiet_nil ?_
      rintro _ ⟨s4, rfl⟩
      go_wp2
      go_roundw
      case rel => exact ⟨k + 1, by omega, by go_num, HM.out, below_ext HBW.out (by omega) _⟩
      case measure => simp [intOf]; omega
    · obtain ⟨b, o, hA, hb, x0, -⟩ := fives_cells (HZ.out.below HB.out) hx
      have HM := Lib.hid hM
      subst hA
      clear hx hM
      go_wp2
      go_upto_region 2 with fail
      refine wp_region_more (by kernel_rfl) (by kernel_rfl) ?_
      repeat (first | go_big_quiet_skip | quiet_step (fail))
      refine wpQuiet_nil ?_
      rintro _ ⟨s4, rfl⟩
      obtain ⟨wb, hwbe⟩ : ∃ wb, wb = ext wr s4 := ⟨_, rfl⟩
      have HWB := Lib.hid (show Below w.heap.size w wb by rw [hwbe]; exact below_ext HB.out HB.out.size s4)
      have hwb := HWB.out.size
      have HBX := Lib.hid (show Below wr.heap.size wr wb by rw [hwbe]; exact below_ext (Below.refl _ _) (Nat.le_refl _) s4)
      have HZB := Lib.hid (HZ.out.below HWB.out)
      rw [← hwbe]
      clear hwbe
      go_wp2_with (first
        | (at_builtin; refine wpList_append_any rfl _ _ _ rfl w.heap.size 37 j0 _ 5 40 Try.underlying23 hj0 hy0 hy1 hy2 rfl (by omega) (.slice (some ⟨wb.heap.size, 0, none⟩) 0 0) 0 [] rfl (own_lit0 wb _ _ _ hwb) _ k cp ((ws.take k).flatMap W5.cells) rfl HN1.out HL1.out (Rws.news (f := W5.cells) (n := 5) (fun _ => rfl) (by decide) ((HZB.out.alloc _).take k)) (w5_one _) (by simp only [maxLen]; omega) (by omega) (by simp; omega) ?_; intro v1 w1 hown1 hg1; rw [Nat.zero_add, List.nil_append] at hown1; have HB1 := Lib.hid ((HWB.out.alloc hwb (.cells #[] 37)).grown hg1 (by simp; omega) (fun i hi => by simp only [Value.ownBlock, Option.some.injEq] at hi; omega)); have HO1 := Lib.hid hown1; have hsz1 := HB1.out.size; have HQ1 := Lib.hid (HBX.out.trans (((Below.refl wb.heap.size wb).alloc (Nat.le_refl _) (.cells #[] 37)).grown hg1 (by simp) (fun i hi => by simp only [Value.ownBlock, Option.some.injEq] at hi; omega) |>.mono HBX.out.size)); have q10 := (HQ1.out.cell (p := ⟨w.heap.size, 0, none⟩) plt).trans q0; have q11 := (HQ1.out.cell (p := ⟨w.heap.size, 1, none⟩) plt).trans q1; have q12 := (HQ1.out.cell (p := ⟨w.heap.size, 2, none⟩) plt).trans q2; have q13 := (HQ1.out.cell (p := ⟨w.heap.size, 3, none⟩) plt).trans q3; have q14 := (HQ1.out.cell (p := ⟨w.heap.size, 4, none⟩) plt).trans q4; have plt1 : w.heap.size < w1.heap.size := Nat.lt_of_lt_of_le plt HQ1.out.size; clear hown1 hg1)
        | (at_builtin; refine wpList_append_any rfl _ _ _ rfl w.heap.size 37 j0 _ 5 40 Try.underlying23 hj0 hy0 hy1 hy2 rfl (by omega) v1 k ((ws.take k).flatMap W5.cells) rfl (World.ownsRow.alloc HO1.out _) (some ⟨w1.heap.size, 0, none⟩) 1 1 (W5.cells (newW acc)) rfl (fun h => by cases h) rfl (fun ad had => by obtain rfl := Option.some.inj had; exact cells_new _ rfl) (by simpa using w5_one [newW acc]) (by simp only [maxLen]; omega) (by omega) (by simp; omega) ?_; intro v2 w2 hown2 hg2; have HB2 := Lib.hid ((HB1.out.alloc hsz1 (.cells (W5.cells (newW acc)).toArray 37)).grown hg2 (by simp; omega) (fun i hi => (World.ownsRow.lt HO1.out i hi).1)); have HO2 := Lib.hid hown2; have hsz2 := HB2.out.size; clear hown2 hg2)
        | (at_builtin; refine wpList_append_any rfl _ _ _ rfl w.heap.size 37 j0 _ 5 40 Try.underlying23 hj0 hy0 hy1 hy2 rfl (by omega) v2 (k + 1) ((ws.take k).flatMap W5.cells ++ W5.cells (newW acc)) rfl HO2.out _ (ws.length - k) (cp - k) ((ws.drop k).flatMap W5.cells) rfl HN2.out HL2.out (Rws.news (f := W5.cells) (n := 5) (fun _ => rfl) (by decide) (Rws.drop (n := 5) (by decide) (HZ.out.below HB2.out) hc)) (w5_one _) (by simp only [maxLen]; omega) (by omega) (by omega) ?_; intro v3 w3 hown3 hg3; have HB3 := Lib.hid (HB2.out.grown hg3 hsz2 (fun i hi => (World.ownsRow.lt HO2.out i hi).1)); have HO3 := Lib.hid hown3; obtain ⟨A3, k3, rfl, _⟩ := own_form hown3; clear hown3 hg3))
      refine bodyPost_ret (by simp [results, Try.results46, go_sem]; first | done | rfl) rfl ?_
      obtain ⟨e1, e2⟩ := ins_own HO3.out (by omega) rfl HM.out
      rw [e2] at e1
      rw [e2]
      exact ⟨⟨_, _, rfl, e1⟩, HB3.out⟩
    · have HM := Lib.hid hM
      clear hM
      go_wp2
      go_upto_region 2 with fail
      refine wp_region_more (by kernel_rfl) (by kernel_rfl) ?_
      repeat (first | go_big_quiet_skip | quiet_step (fail))
      refine wpQuiet_nil ?_
      rintro _ ⟨s4, rfl⟩
      obtain ⟨wb, hwbe⟩ : ∃ wb, wb = ext wr s4 := ⟨_, rfl⟩
      have HWB := Lib.hid (show Below w.heap.size w wb by rw [hwbe]; exact below_ext HB.out HB.out.size s4)
      have hwb := HWB.out.size
      have HBX := Lib.hid (show Below wr.heap.size wr wb by rw [hwbe]; exact below_ext (Below.refl _ _) (Nat.le_refl _) s4)
      have HZB := Lib.hid (HZ.out.below HWB.out)
      rw [← hwbe]
      clear hwbe
      go_wp2_with (first
        | (at_builtin; refine wpList_append_any rfl _ _ _ rfl w.heap.size 37 j0 _ 5 40 Try.underlying23 hj0 hy0 hy1 hy2 rfl (by omega) (.slice (some ⟨wb.heap.size, 0, none⟩) 0 0) 0 [] rfl (own_lit0 wb _ _ _ hwb) _ k cp ((ws.take k).flatMap W5.cells) rfl HN1.out HL1.out (Rws.news (f := W5.cells) (n := 5) (fun _ => rfl) (by decide) ((HZB.out.alloc _).take k)) (w5_one _) (by simp only [maxLen]; omega) (by omega) (by simp; omega) ?_; intro v1 w1 hown1 hg1; rw [Nat.zero_add, List.nil_append] at hown1; have HB1 := Lib.hid ((HWB.out.alloc hwb (.cells #[] 37)).grown hg1 (by simp; omega) (fun i hi => by simp only [Value.ownBlock, Option.some.injEq] at hi; omega)); have HO1 := Lib.hid hown1; have hsz1 := HB1.out.size; have HQ1 := Lib.hid (HBX.out.trans (((Below.refl wb.heap.size wb).alloc (Nat.le_refl _) (.cells #[] 37)).grown hg1 (by simp) (fun i hi => by simp only [Value.ownBlock, Option.some.injEq] at hi; omega) |>.mono HBX.out.size)); have q10 := (HQ1.out.cell (p := ⟨w.heap.size, 0, none⟩) plt).trans q0; have q11 := (HQ1.out.cell (p := ⟨w.heap.size, 1, none⟩) plt).trans q1; have q12 := (HQ1.out.cell (p := ⟨w.heap.size, 2, none⟩) plt).trans q2; have q13 := (HQ1.out.cell (p := ⟨w.heap.size, 3, none⟩) plt).trans q3; have q14 := (HQ1.out.cell (p := ⟨w.heap.size, 4, none⟩) plt).trans q4; have plt1 : w.heap.size < w1.heap.size := Nat.lt_of_lt_of_le plt HQ1.out.size; clear hown1 hg1)
        | (at_builtin; refine wpList_append_any rfl _ _ _ rfl w.heap.size 37 j0 _ 5 40 Try.underlying23 hj0 hy0 hy1 hy2 rfl (by omega) v1 k ((ws.take k).flatMap W5.cells) rfl (World.ownsRow.alloc HO1.out _) (some ⟨w1.heap.size, 0, none⟩) 1 1 (W5.cells (newW acc)) rfl (fun h => by cases h) rfl (fun ad had => by obtain rfl := Option.some.inj had; exact cells_new _ rfl) (by simpa using w5_one [newW acc]) (by simp only [maxLen]; omega) (by omega) (by simp; omega) ?_; intro v2 w2 hown2 hg2; have HB2 := Lib.hid ((HB1.out.alloc hsz1 (.cells (W5.cells (newW acc)).toArray 37)).grown hg2 (by simp; omega) (fun i hi => (World.ownsRow.lt HO1.out i hi).1)); have HO2 := Lib.hid hown2; have hsz2 := HB2.out.size; clear hown2 hg2)
        | (at_builtin; refine wpList_append_any rfl _ _ _ rfl w.heap.size 37 j0 _ 5 40 Try.underlying23 hj0 hy0 hy1 hy2 rfl (by omega) v2 (k + 1) ((ws.take k).flatMap W5.cells ++ W5.cells (newW acc)) rfl HO2.out _ (ws.length - k) (cp - k) ((ws.drop k).flatMap W5.cells) rfl HN2.out HL2.out (Rws.news (f := W5.cells) (n := 5) (fun _ => rfl) (by decide) (Rws.drop (n := 5) (by decide) (HZ.out.below HB2.out) hc)) (w5_one _) (by simp only [maxLen]; omega) (by omega) (by omega) ?_; intro v3 w3 hown3 hg3; have HB3 := Lib.hid (HB2.out.grown hg3 hsz2 (fun i hi => (World.ownsRow.lt HO2.out i hi).1)); have HO3 := Lib.hid hown3; obtain ⟨A3, k3, rfl, _⟩ := own_form hown3; clear hown3 hg3))
      refine bodyPost_ret (by simp [results, Try.results46, go_sem]; first | done | rfl) rfl ?_
      obtain ⟨e1, e2⟩ := ins_own HO3.out (by omega) rfl HM.out
      rw [e2] at e1
      rw [e2]
      exact ⟨⟨_, _, rfl, e1⟩, HB3.out⟩
end Go.Proofs.Ythkollhebabhbaa

/-!
  Wallets where nothing is done.
-/
namespace Go.Proofs.Ythkollhebabhbaa
open Go.RowKit
open Go.Maps
set_option linter.unusedSimpArgs false
set_option linter.unusedVariables false

/-- What Wallets asks of a state. -/
structure WaIn (w : World) (Ae : Option Addr) (evs : List Ev) (Ab Aw Ac : Option Addr) (cw cc : Nat) (st : St) : Prop where
  e : Rws Ev.cells 7 w Ae evs
  b : Bks w Ab st.bs
  s : Fives w Aw st.ws
  c : Fives w Ac st.cs
  ne : evs.length ≤ 1000
  nb : st.bs.length ≤ 1000
  nw : st.ws.length ≤ 900
  nc : st.cs.length ≤ 1000
  z : ∀ x ∈ st.bs, x.zones.length ≤ 100
  wn : Aw = none → cw = 0
  cn : Ac = none → cc = 0
  fw : ∀ x ∈ st.ws, fits x.a

set_option maxRecDepth 100000 in
set_option maxHeartbeats 4000000 in
theorem wal_no (evs : List Ev) (st : St) (Ae Ab Aw Ac : Option Addr) (ce cb cw cc : Nat) (acc t : Int) (w : World) (h : WaIn w Ae evs Ab Aw Ac cw cc st) (hno : t < 0 ∨ (0 ≤ t ∧ 12622780800 ≤ t) ∨ (0 ≤ t ∧ t < 12622780800 ∧ popB acc t evs = false)) :
    Calls Try.prog 19 #[.slice Ae evs.length ce, .agg #[.slice Ab st.bs.length cb, .slice Aw st.ws.length cw, .slice Ac st.cs.length cc], .int .i64 acc, .int .i64 t] w (ClonedSt st w) := by
  have hnw := h.nw
  have HC1 := Lib.hid (fun W (hb : Bks W Ab st.bs) (hw : Fives W Aw st.ws) (hc : Fives W Ac st.cs) => cclone_any st Ab Aw Ac cb cw cc W h.nb (by omega) h.nc h.z hb hw hc h.wn h.cn)
  have HE := Lib.hid h.e
  have HB := Lib.hid h.b
  have HW := Lib.hid h.s
  have HC := Lib.hid h.c
  have hne := h.ne
  clear h
  unfold ClonedSt
  rcases hno with h1 | ⟨h1, h2⟩ | ⟨h1, h2, h3⟩
  all_goals
    try have HP := Lib.hid h3
    go_enter Try.func19, Try.ntmps19
    go_wp2_with (first
      | (go_at_call 26; refine (HC1.out _ ((HB.out.alloc _).alloc _) ((HW.out.alloc _).alloc _) ((HC.out.alloc _).alloc _)).mono ?_; rintro e w1 ⟨v1, v2, v3, rfl, os1, hb1⟩; obtain ⟨A1, c1, rfl, _, _⟩ := os1.1.form; obtain ⟨A2, c2, rfl, hF2, _⟩ := os1.2.1.form; obtain ⟨A3, c3, rfl, _, _⟩ := os1.2.2.form; obtain ⟨hcc, hff⟩ := bcell hb1; have hsz1 := hb1.size; simp at hsz1; have hz1 : w.heap.size < w1.heap.size := (by omega); have hz2 : w.heap.size + 1 < w1.heap.size := (by omega); have HO1 := Lib.hid (os1.mono (B' := w.heap.size + 2) (by simp)); have HF2 := Lib.hid hF2; have HBW := Lib.hid ((((Below.refl w.heap.size w).alloc (Nat.le_refl _) _).alloc (by simp) _).trans (hb1.mono (by simp; omega))); clear os1 hF2 hb1)
      | (go_at_call 40; refine (opened_any evs Ae ce acc t _ (HE.out.below ((HBW.out.alloc (by omega) _).mono (Nat.le_refl _))) hne).mono ?_; rw [HP.out]; rintro e w2 ⟨rfl, hb2⟩; obtain ⟨s2, rfl⟩ := ext_of_below hb2; clear hb2))
    refine bodyPost_ret (by simp [results, Try.results19, go_sem, hz1, hz2, hcc, hff]; first | done | rfl) rfl ?_
    refine ⟨_, _, _, rfl, OwnSt.mono (B := w.heap.size + 2) ?_ (by omega), ?_⟩
    · repeat' (first | with_reducible exact HO1.out | with_reducible refine OwnSt.ext ?_ _ | with_reducible refine OwnSt.alloc ?_ _ | with_reducible refine OwnSt.low ?_ ?_ | (simp; omega) | (simp; done) | omega)
    · repeat' (first | with_reducible exact HBW.out | with_reducible exact Below.refl _ _ | with_reducible refine below_ext ?_ ?_ _ | with_reducible refine Below.alloc ?_ ?_ _ | with_reducible refine Below.setCell ?_ ?_ _ | with_reducible refine Below.drew ?_ | (simp; omega) | (simp; done) | (simp [go_sem]; omega) | (simp [go_sem]; done) | omega)

set_option maxRecDepth 100000 in
set_option maxHeartbeats 4000000 in
theorem rwal_no (evs : List Ev) (st : St) (Ae Ab Aw Ac : Option Addr) (ce cb cw cc : Nat) (acc t : Int) (w : World) (h : WaIn w Ae evs Ab Aw Ac cw cc st) (hno : ¬ (0 ≤ t ∧ t < 12622780800) ∨ ((0 ≤ t ∧ t < 12622780800) ∧ prepB acc t evs = false)) :
    Calls Try.prog 20 #[.slice Ae evs.length ce, .agg #[.slice Ab st.bs.length cb, .slice Aw st.ws.length cw, .slice Ac st.cs.length cc], .int .i64 acc, .int .i64 t] w (ClonedSt st w) := by
  have hnw := h.nw
  have HC1 := Lib.hid (fun W (hb : Bks W Ab st.bs) (hw : Fives W Aw st.ws) (hc : Fives W Ac st.cs) => rclone_any st Ab Aw Ac cb cw cc W h.nb (by omega) h.nc h.z hb hw hc h.wn h.cn)
  have HE := Lib.hid h.e
  have HB := Lib.hid h.b
  have HW := Lib.hid h.s
  have HC := Lib.hid h.c
  have hne := h.ne
  have HIN := Lib.hid (fun W => instant_any t W)
  clear h
  unfold ClonedSt
  rcases hno with h1 | ⟨h1, h3⟩
  all_goals
    first
    | (have hd : decide (0 ≤ t ∧ t < 12622780800) = false := decide_eq_false h1; rw [hd] at HIN)
    | (have hd : decide (0 ≤ t ∧ t < 12622780800) = true := decide_eq_true h1; rw [hd] at HIN)
    try have HP := Lib.hid h3
    clear hd h1
    go_enter Try.func20, Try.ntmps20
    go_wp2_with (first
      | (go_at_call 30; refine (HC1.out _ ((HB.out.alloc _).alloc _) ((HW.out.alloc _).alloc _) ((HC.out.alloc _).alloc _)).mono ?_; rintro e w1 ⟨v1, v2, v3, rfl, os1, hb1⟩; obtain ⟨A1, c1, rfl, _, _⟩ := os1.1.form; obtain ⟨A2, c2, rfl, hF2, _⟩ := os1.2.1.form; obtain ⟨A3, c3, rfl, _, _⟩ := os1.2.2.form; obtain ⟨hcc, hff⟩ := bcell hb1; have hsz1 := hb1.size; simp at hsz1; have hz1 : w.heap.size < w1.heap.size := (by omega); have hz2 : w.heap.size + 1 < w1.heap.size := (by omega); have HO1 := Lib.hid (os1.mono (B' := w.heap.size + 2) (by simp)); have HF2 := Lib.hid hF2; have HBW := Lib.hid ((((Below.refl w.heap.size w).alloc (Nat.le_refl _) _).alloc (by simp) _).trans (hb1.mono (by simp; omega))); clear os1 hF2 hb1)
      | (go_at_call 44; refine (HIN.out _).mono ?_; rintro e w2 ⟨rfl, rfl⟩)
      | (go_at_call 45; refine (prepaid_any evs Ae ce acc t _ (HE.out.below ((HBW.out.alloc (by omega) _).mono (Nat.le_refl _))) hne).mono ?_; rw [HP.out]; rintro e w2 ⟨rfl, hb2⟩; obtain ⟨s2, rfl⟩ := ext_of_below hb2; clear hb2))
    refine bodyPost_ret (by simp [results, Try.results20, go_sem, hz1, hz2, hcc, hff]; first | done | rfl) rfl ?_
    refine ⟨_, _, _, rfl, OwnSt.mono (B := w.heap.size + 2) ?_ (by omega), ?_⟩
    · repeat' (first | with_reducible exact HO1.out | with_reducible refine OwnSt.ext ?_ _ | with_reducible refine OwnSt.alloc ?_ _ | with_reducible refine OwnSt.low ?_ ?_ | (simp; omega) | (simp; done) | omega)
    · repeat' (first | with_reducible exact HBW.out | with_reducible exact Below.refl _ _ | with_reducible refine below_ext ?_ ?_ _ | with_reducible refine Below.alloc ?_ ?_ _ | with_reducible refine Below.setCell ?_ ?_ _ | with_reducible refine Below.drew ?_ | (simp; omega) | (simp; done) | (simp [go_sem]; omega) | (simp [go_sem]; done) | omega)
end Go.Proofs.Ythkollhebabhbaa

/-!
  The closure of Wallets; boxes.
-/
namespace Go.Proofs.Ythkollhebabhbaa
open Go.RowKit
open Go.Maps
set_option linter.unusedSimpArgs false
set_option linter.unusedVariables false

/-- The wallet variable's block. -/
structure PwC (w : World) (p : Nat) (x : W5) : Prop where
  lt : p < w.heap.size
  c0 : w.cell? ⟨p, 0, none⟩ = some (.int .i64 x.a)
  c1 : w.cell? ⟨p, 1, none⟩ = some (.int .i64 x.b)
  c2 : w.cell? ⟨p, 2, none⟩ = some (.int .i64 x.f)
  c3 : w.cell? ⟨p, 3, none⟩ = some (.int .i64 x.h)
  c4 : w.cell? ⟨p, 4, none⟩ = some (.int .i64 x.u)
  f0 : w.frozen? ⟨p, 0, none⟩ = false
  f1 : w.frozen? ⟨p, 1, none⟩ = false
  f2 : w.frozen? ⟨p, 2, none⟩ = false
  f3 : w.frozen? ⟨p, 3, none⟩ = false
  f4 : w.frozen? ⟨p, 4, none⟩ = false
theorem PwC.below {w w' : World} {p : Nat} {x : W5} (h : PwC w p x) (hb : Below w.heap.size w w') : PwC w' p x :=
  ⟨Nat.lt_of_lt_of_le h.lt hb.size, (hb.cell (p := ⟨p, 0, none⟩) h.lt).trans h.c0, (hb.cell (p := ⟨p, 1, none⟩) h.lt).trans h.c1, (hb.cell (p := ⟨p, 2, none⟩) h.lt).trans h.c2, (hb.cell (p := ⟨p, 3, none⟩) h.lt).trans h.c3, (hb.cell (p := ⟨p, 4, none⟩) h.lt).trans h.c4,
   (hb.frozen (p := ⟨p, 0, none⟩) h.lt).trans h.f0, (hb.frozen (p := ⟨p, 1, none⟩) h.lt).trans h.f1, (hb.frozen (p := ⟨p, 2, none⟩) h.lt).trans h.f2, (hb.frozen (p := ⟨p, 3, none⟩) h.lt).trans h.f3, (hb.frozen (p := ⟨p, 4, none⟩) h.lt).trans h.f4⟩
theorem PwC.new (w : World) (x : W5) : PwC (w.alloc (.cells #[.int .i64 x.a, .int .i64 x.b, .int .i64 x.f, .int .i64 x.h, .int .i64 x.u] 37)) w.heap.size x := by
  constructor <;> simp [go_sem]

set_option maxHeartbeats 1000000 in
theorem clo_any (y x : W5) (e : Int) (p : Nat) (w : World) (h : PwC w p x) :
    Calls Try.prog 42 #[.agg #[.int .i64 y.a, .int .i64 y.b, .int .i64 y.f, .int .i64 y.h, .int .i64 y.u], .int .i64 e, .pointer (some ⟨p, 0, none⟩)] w fun en w' => (∃ v, en = .returned v) ∧ PwC w' p (if e = 0 then y else x) ∧ ∀ B, B ≤ p → Below B w w' := by
  obtain ⟨ya, yb, yf, yh, yu⟩ := y
  have hlt := h.lt
  have HX := Lib.hid h
  obtain ⟨_, c0, c1, c2, c3, c4, f0, f1, f2, f3, f4⟩ := h
  by_cases he : e = 0
  · subst he
    rw [if_pos rfl]
    go_enter Try.func42, Try.ntmps42
    go_wp2
    refine bodyPost_end (by simp [results, Try.results42, go_sem]; first | done | rfl) rfl ?_
    refine ⟨⟨_, rfl⟩, ?_, fun B hB => ?_⟩
    · constructor <;> first | (simp [go_sem, c0, c1, c2, c3, c4, f0, f1, f2, f3, f4, hlt]; done) | (simp [go_sem, c0, c1, c2, c3, c4, f0, f1, f2, f3, f4, hlt]; omega)
    · refine Below.alloc ?_ (by simp; omega) _
      exact Below.setCell (Below.setCell (Below.setCell (Below.setCell (Below.setCell (Below.refl B w) (p := ⟨p, 0, none⟩) hB _) (p := ⟨p, 1, none⟩) hB _) (p := ⟨p, 2, none⟩) hB _) (p := ⟨p, 3, none⟩) hB _) (p := ⟨p, 4, none⟩) hB _
  · rw [if_neg he]
    have hne : (e == 0) = false := by simp [he]
    go_enter Try.func42, Try.ntmps42
    go_wp2
    refine bodyPost_end (by simp [results, Try.results42, go_sem]; first | done | rfl) rfl ?_
    exact ⟨⟨_, rfl⟩, HX.out.below (Below.alloc (Below.refl _ _) (Nat.le_refl _) _), fun B hB => Below.alloc (Below.refl _ _) (by omega) _⟩

/-- A block of three cells. -/
structure Box3 (w : World) (O : Nat) (a b c : Value) : Prop where
  lt : O < w.heap.size
  c0 : w.cell? ⟨O, 0, none⟩ = some a
  c1 : w.cell? ⟨O, 1, none⟩ = some b
  c2 : w.cell? ⟨O, 2, none⟩ = some c
  f0 : w.frozen? ⟨O, 0, none⟩ = false
  f1 : w.frozen? ⟨O, 1, none⟩ = false
  f2 : w.frozen? ⟨O, 2, none⟩ = false
theorem Box3.below {w w' : World} {O : Nat} {a b c : Value} (h : Box3 w O a b c) (hb : Below w.heap.size w w') : Box3 w' O a b c :=
  ⟨Nat.lt_of_lt_of_le h.lt hb.size, (hb.cell (p := ⟨O, 0, none⟩) h.lt).trans h.c0, (hb.cell (p := ⟨O, 1, none⟩) h.lt).trans h.c1, (hb.cell (p := ⟨O, 2, none⟩) h.lt).trans h.c2, (hb.frozen (p := ⟨O, 0, none⟩) h.lt).trans h.f0, (hb.frozen (p := ⟨O, 1, none⟩) h.lt).trans h.f1, (hb.frozen (p := ⟨O, 2, none⟩) h.lt).trans h.f2⟩
theorem Box3.new (w : World) (a b c : Value) (e : TypeId) : Box3 (w.alloc (.cells #[a, b, c] e)) w.heap.size a b c := by
  constructor <;> simp [go_sem]

/-! The model. -/
def stepW (acc t u : Int) (x : W5) (e : Ev) : W5 := if e.acc = acc ∧ u < e.at_ ∧ e.at_ ≤ t then carryF x e.kind e.value else x
def evW (acc t u : Int) (x : W5) (evs : List Ev) : W5 := evs.foldl (stepW acc t u) x
theorem step_keeps (acc t u : Int) (x : W5) (e : Ev) : (stepW acc t u x e).u = x.u ∧ (stepW acc t u x e).a = x.a := by
  unfold stepW
  split
  · exact carry_keeps x e.kind e.value
  · exact ⟨rfl, rfl⟩
theorem evW_keeps (acc t u : Int) : ∀ (evs : List Ev) (x : W5), (evW acc t u x evs).u = x.u ∧ (evW acc t u x evs).a = x.a
  | [], x => ⟨rfl, rfl⟩
  | e :: l, x => by
    have h := evW_keeps acc t u l (stepW acc t u x e)
    have h2 := step_keeps acc t u x e
    exact ⟨h.1.trans h2.1, h.2.trans h2.2⟩
theorem evW_snoc (acc t u : Int) (x : W5) {evs : List Ev} {k : Nat} {e : Ev} (h : evs[k]? = some e) : evW acc t u x (evs.take (k + 1)) = stepW acc t u (evW acc t u x (evs.take k)) e := by
  obtain ⟨h1, h2⟩ := List.getElem?_eq_some_iff.1 h
  rw [List.take_succ_eq_append_getElem h1, h2]
  unfold evW
  rw [List.foldl_append]
  rfl
def endW (acc t : Int) (x : W5) (evs : List Ev) : W5 := { evW acc t x.u x evs with u := max x.u t }
end Go.Proofs.Ythkollhebabhbaa

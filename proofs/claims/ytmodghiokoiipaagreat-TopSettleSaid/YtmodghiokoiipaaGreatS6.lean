/-
  Rows of the call's own; the copy of a row of agreements.
-/
import Derived.Test.YtmodghiokoiipaaGreatJf
import Derived.Laws.AppendOwnNone
namespace Go.Proofs.YtmodghiokoiipaaGreat
open Go.RowKit
set_option linter.unusedSimpArgs false
set_option linter.unusedVariables false

theorem own_mono {w : World} {base base' : Nat} {e : TypeId} {size : Nat} {v : Value} {n : Nat} {xs : List Value} (h : w.ownsRow base e size v n xs) (hb : base' ≤ base) : w.ownsRow base' e size v n xs := by
  obtain ⟨h1, h2⟩ := h
  refine ⟨h1, ?_⟩
  rcases h2 with h2 | ⟨g, cap, cur, hv, hg, r⟩
  · exact .inl h2
  · exact .inr ⟨g, cap, cur, hv, Nat.le_trans hb hg, r⟩
theorem own_heap {w w' : World} {base : Nat} {e : TypeId} {size : Nat} {v : Value} {n : Nat} {xs : List Value} (h : w.ownsRow base e size v n xs) (hk : ∀ k, base ≤ k → k < w.heap.size → w'.heap[k]? = w.heap[k]?) : w'.ownsRow base e size v n xs := by
  obtain ⟨h1, h2⟩ := h
  refine ⟨h1, ?_⟩
  rcases h2 with h2 | ⟨g, cap, cur, hv, hg, hh, r⟩
  · exact .inl h2
  · refine .inr ⟨g, cap, cur, hv, hg, ?_, r⟩
    rw [hk g hg ?_, hh]
    rcases Nat.lt_or_ge g w.heap.size with hlt | hge
    · exact hlt
    · rw [Array.getElem?_eq_none hge] at hh
      cases hh
theorem own_below {w w' : World} {base : Nat} {e : TypeId} {size : Nat} {v : Value} {n : Nat} {xs : List Value} (h : w.ownsRow base e size v n xs) (hb : Below w.heap.size w w') : w'.ownsRow base e size v n xs :=
  own_heap h fun k _ hk => hb.block k hk
theorem own_lit0 (w : World) (B size : Nat) (e : TypeId) (hB : B ≤ w.heap.size) : (w.alloc (.cells #[] e)).ownsRow B e size (.slice (some ⟨w.heap.size, 0, none⟩) 0 0) 0 [] := by
  have := World.ownsRow_lit (base := B) (e := e) (size := size) w #[] 0 hB (by simp [maxLen]) (by simp)
  exact this
theorem flat_at {α : Type} {f : α → List Value} {n : Nat} (hf : ∀ x, (f x).length = n) : ∀ (ts : List α) (j i : Nat) (x : α), ts[j]? = some x → i < n → (ts.flatMap f)[j * n + i]? = (f x)[i]?
  | [], _, _, _, h, _ => by simp at h
  | y :: ts, 0, i, x, h, hi => by
    obtain rfl := Option.some.inj h
    rw [Nat.zero_mul, Nat.zero_add, List.flatMap_cons, List.getElem?_append_left (by rw [hf]; exact hi)]
  | y :: ts, j + 1, i, x, h, hi => by
    have hl : (f y).length = n := hf y
    rw [List.flatMap_cons, List.getElem?_append_right (by rw [hl, Nat.add_mul]; omega), hl, show (j + 1) * n + i - n = j * n + i from by rw [Nat.add_mul]; omega]
    exact flat_at hf ts j i x (by simpa using h) hi
theorem flat_len {α : Type} {f : α → List Value} {n : Nat} (hf : ∀ x, (f x).length = n) : ∀ (ts : List α), (ts.flatMap f).length = ts.length * n
  | [] => by simp
  | y :: ts => by rw [List.flatMap_cons, List.length_append, hf, flat_len hf ts, List.length_cons, Nat.add_mul]; omega
/-- The cells of records, one behind the other, as news for an append. -/
theorem recs_news {α : Type} {n : Nat} {cells : α → List Value} (hf : ∀ x, (cells x).length = n) (hn : 0 < n) {w : World} {ad : Addr} {xs : List α} (h : Recs n cells w (some ad) xs) (hsp : ad.spot = none) : ∀ j u, (xs.flatMap cells)[j]? = some u → w.cell? (ad.add j) = some u := by
  intro j u hu
  have hlt : j < xs.length * n := by
    have := (List.getElem?_eq_some_iff.1 hu).1
    rwa [flat_len hf] at this
  have hq : j / n < xs.length := Nat.div_lt_of_lt_mul (by rw [Nat.mul_comm]; exact hlt)
  obtain ⟨x, hx⟩ : ∃ x, xs[j / n]? = some x := ⟨_, List.getElem?_eq_getElem hq⟩
  obtain ⟨b, o, hA, hb, hc⟩ := h (j / n) x hx
  have hj : j / n * n + j % n = j := by
    have := Nat.div_add_mod j n
    rw [Nat.mul_comm] at this
    exact this
  have hm : j % n < n := Nat.mod_lt _ hn
  have hu2 : (cells x)[j % n]? = some u := by
    rw [← flat_at hf xs (j / n) (j % n) x hx hm, hj]
    exact hu
  have := hc (j % n) u hu2
  cases hA
  have ha : (⟨b, o, none⟩ : Addr).add j = ⟨b, o + j, none⟩ := by
    unfold Addr.add
    split
    · rename_i h0
      simp [h0]
    · rfl
  rw [ha]
  rw [show o + j / n * n + j % n = o + j by omega] at this
  exact this
/-- A row of one's own, as records that may be written. -/
theorem own_recs {α : Type} {n : Nat} {cells : α → List Value} (hf : ∀ x, (cells x).length = n) {w : World} {B D c : Nat} {e : TypeId} {xs : List α} (h : w.ownsRow B e n (.slice (some ⟨D, 0, none⟩) xs.length c) xs.length (xs.flatMap cells)) :
    B ≤ D ∧ D < w.heap.size ∧ ∀ (j : Nat) (x : α), xs[j]? = some x → ∀ i v, (cells x)[i]? = some v → w.cell? ⟨D, j * n + i, none⟩ = some v ∧ w.frozen? ⟨D, j * n + i, none⟩ = false := by
  obtain ⟨l1, l2⟩ := World.ownsRow.lt h D rfl
  refine ⟨l1, l2, fun j x hx i v hv => ?_⟩
  have hi : i < n := by
    have := (List.getElem?_eq_some_iff.1 hv).1
    rwa [hf] at this
  have hj : j < xs.length := (List.getElem?_eq_some_iff.1 hx).1
  have hlt : j * n + i < xs.length * n := by
    have : (j + 1) * n ≤ xs.length * n := Nat.mul_le_mul_right _ hj
    rw [Nat.add_mul] at this
    omega
  exact ⟨by rw [World.ownsRow.cellAt h (j * n + i) hlt, flat_at hf xs j i x hx hi, hv], World.ownsRow.frozenAt h _⟩
theorem info_ag : (Tryz.prog.info? 42).map (fun i => (i.zero, i.size, i.bytes)) = some (some (.agg #[.int .i64 0, .int .i64 0, .bool false, .int .i64 0, .int .i64 0, .slice none 0 0, .int .i64 0]), 7, 72) := by kernel_rfl
theorem info_parts {t : TypeId} {z : Option Value} {s b : Nat} (h : (Tryz.prog.info? t).map (fun i => (i.zero, i.size, i.bytes)) = some (z, s, b)) : ∃ i, Tryz.prog.info? t = some i ∧ i.zero = z ∧ i.size = s ∧ i.bytes = b := by
  cases hi : Tryz.prog.info? t with
  | none => rw [hi] at h; cases h
  | some i =>
    rw [hi] at h
    simp only [Option.map_some, Option.some.injEq, Prod.mk.injEq] at h
    exact ⟨i, rfl, h.1, h.2.1, h.2.2⟩
theorem ag_one (x : Ag) : ∀ u ∈ x.cells, u.oneCell' = true := by
  intro u hu
  simp only [Ag.cells, List.mem_cons, List.not_mem_nil, or_false] at hu
  rcases hu with rfl | rfl | rfl | rfl | rfl | rfl | rfl <;> rfl
theorem flat_one {α : Type} {cells : α → List Value} (h : ∀ x, ∀ u ∈ cells x, u.oneCell' = true) (xs : List α) : ∀ u ∈ xs.flatMap cells, u.oneCell' = true := by
  intro u hu
  obtain ⟨x, _, hx⟩ := List.mem_flatMap.1 hu
  exact h x u hx
/-- A block of one's own has been written or made, all below B stays. -/
theorem below_grown {B : Nat} {a w w' : World} {row : Option Nat} (h : Below B a w) (hg : w.grownBy w' row) (hB : B ≤ w.heap.size) (hr : ∀ k, row = some k → B ≤ k) : Below B a w' :=
  ⟨hg.os.trans h.os, hg.tape.trans h.tape, hg.output.trans h.output, Nat.le_trans h.size hg.size, fun k hk => (hg.block k (Nat.lt_of_lt_of_le hk hB) (fun e => by have := hr k e.symm; omega)).trans (h.block k hk)⟩
theorem own_form {w : World} {B n m : Nat} {e : TypeId} {v : Value} {xs : List Value} (h : w.ownsRow B e n v m xs) : ∃ A c, v = .slice A m c ∧ (A = none ∧ m = 0 ∧ c = 0 ∨ ∃ D, A = some ⟨D, 0, none⟩ ∧ B ≤ D ∧ D < w.heap.size ∧ m ≤ c) := by
  obtain ⟨h1, h2⟩ := h
  rcases h2 with ⟨rfl, rfl⟩ | ⟨g, cap, cur, hv, hb, hh, hl, r⟩
  · exact ⟨none, 0, rfl, .inl ⟨rfl, rfl, rfl⟩⟩
  · exact ⟨_, _, hv, .inr ⟨g, rfl, hb, (Array.getElem?_eq_some_iff.1 hh).1, hl⟩⟩
theorem oa_own {w : World} {B D c : Nat} {zs : List Ag} (h : w.ownsRow B 42 7 (.slice (some ⟨D, 0, none⟩) zs.length c) zs.length (zs.flatMap Ag.cells)) : OA w D zs :=
  ⟨(own_recs cells7 h).2.1, (own_recs cells7 h).2.2⟩
/-- The copy of a row. -/
def ClR (w : World) (zs : List Ag) (e : Ending) (w' : World) : Prop := ∃ D c, e = .returned (.slice (some ⟨D, 0, none⟩) zs.length c) ∧ w.heap.size ≤ D ∧ zs.length ≤ c ∧ OA w' D zs ∧ Below w.heap.size w w'
theorem clr_mk {w w' : World} {zs : List Ag} {v : Value} (h : w'.ownsRow w.heap.size 42 7 v (0 + zs.length) ([] ++ zs.flatMap Ag.cells)) (hn : v ≠ .slice none 0 0) (hb : Below w.heap.size w w') : ClR w zs (.returned v) w' := by
  rw [Nat.zero_add, List.nil_append] at h
  obtain ⟨A, c, rfl, hA⟩ := own_form h
  rcases hA with ⟨rfl, h1, rfl⟩ | ⟨D, rfl, h1, h2, h3⟩
  · rw [h1] at hn
    exact absurd rfl hn
  · exact ⟨D, c, rfl, h1, h3, oa_own h, hb⟩
set_option maxRecDepth 100000 in
set_option maxHeartbeats 4000000 in
theorem clone_any (zs : List Ag) (ad : Addr) (c : Nat) (w : World) (h : Ags w (some ad) zs) (hs : ad.spot = none) (hl : zs.length ≤ 4096) :
    Calls Tryz.prog 14 #[.slice (some ad) zs.length c] w (ClR w zs) := by
  obtain ⟨i0, hi0, hz0, hz1, hz2⟩ := info_parts info_ag
  have HN := Lib.hid (fun (W : World) (hb : Below w.heap.size w W) => recs_news cells7 (by decide) (h.below hb) hs)
  clear h
  have he : ∀ W : World, (binOp .eql 22 (.slice (some ad) zs.length c) (.slice none 0 0)).run Tryz.prog W = .ok (.bool false) W := fun _ => rfl
  go_enter Tryz.func14, Tryz.ntmps14
  go_wp2_with (at_builtin; refine wpList_append_own _ rfl _ _ _ rfl w.heap.size 42 i0 _ 7 72 Tryz.underlying22 hi0 hz0 hz1 hz2 rfl (by omega) _ 0 [] rfl (own_lit0 _ _ _ _ (Nat.le_refl _)) ad zs.length c (zs.flatMap Ag.cells) rfl (flat_len cells7 zs) (HN.out _ (Below.alloc (Below.refl _ _) (Nat.le_refl _) _)) (flat_one ag_one zs) (by simp only [maxLen]; omega) (by omega) (by simp) ?_; intro v6 w6 hown6 hg6 hnil6)
  go_ret
  refine clr_mk hown6 (fun e => ?_) ?_
  · have := (hnil6.1 e).1
    cases this
  · refine below_grown (Below.alloc (Below.refl _ _) (Nat.le_refl _) _) hg6 (by simp) (fun k hk => ?_)
    obtain rfl := Option.some.inj hk
    exact Nat.le_refl _
end Go.Proofs.YtmodghiokoiipaaGreat

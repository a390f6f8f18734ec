/-
  The walk of CopyState: a state in new memory.
-/
import Derived.Test.YthkollhebabhbaaCc1
import Derived.Test.YthkollhebabhbaaBw13
namespace Go.Proofs.Ythkollhebabhbaa
open Go.RowKit
set_option linter.unusedSimpArgs false
set_option linter.unusedVariables false

/-! New blocks, one set behind another. -/
def More.add (s : More) (o : Obj) : More := ⟨s.L ++ [o], s.d⟩
theorem alloc_add (w : World) (s : More) (o : Obj) : (ext w s).alloc o = ext w (s.add o) := by simp [ext, World.alloc, More.add]
theorem n_add (s : More) (o : Obj) : (s.add o).n = s.n + 1 := by simp [More.add, More.n]
def More.le (s t : More) : Prop := ∃ l, t.L = s.L ++ l
theorem More.le_refl (s : More) : More.le s s := ⟨[], by simp⟩
theorem More.le_cat {s t : More} (h : More.le s t) (u : More) : More.le s (t.cat u) := by
  obtain ⟨l, h⟩ := h
  exact ⟨l ++ u.L, by simp [More.cat, h]⟩
theorem More.le_add {s t : More} (h : More.le s t) (o : Obj) : More.le s (t.add o) := by
  obtain ⟨l, h⟩ := h
  exact ⟨l ++ [o], by simp [More.add, h]⟩
theorem More.le_draw {s t : More} (h : More.le s t) : More.le s t.draw := h
theorem below_le {w : World} {s t : More} (h : More.le s t) : Below (ext w s).heap.size (ext w s) (ext w t) := by
  obtain ⟨l, h⟩ := h
  refine ⟨rfl, rfl, rfl, by simp [ext, h], fun k hk => ?_⟩
  simp only [ext, List.size_toArray, Array.size_append] at hk
  simp only [ext, h, Array.getElem?_append, List.getElem?_toArray, List.getElem?_append]
  split
  · rfl
  · rw [if_pos (by omega)]
theorem own_le {w : World} {s t : More} {B size n : Nat} {e : TypeId} {v : Value} {xs : List Value} (h : (ext w s).ownsRow B e size v n xs) (hle : More.le s t) : (ext w t).ownsRow B e size v n xs := own_below h (below_le hle)
theorem OwnBks.le {w : World} {s t : More} {B : Nat} {v : Value} {xs : List Bk} (h : OwnBks (ext w s) B v xs) (hle : More.le s t) : OwnBks (ext w t) B v xs := h.below (below_le hle)
theorem own_lit {w : World} {s t : More} {B size N : Nat} {e : TypeId} (hle : More.le (s.add (.cells #[] e)) t) (hN : N = w.heap.size + s.n) (hB : B ≤ w.heap.size) : (ext w t).ownsRow B e size (.slice (some ⟨N, 0, none⟩) 0 0) 0 [] := by
  refine own_le ?_ hle
  have := World.ownsRow_lit (base := B) (e := e) (size := size) (ext w s) #[] 0 (by rw [size_ext]; omega) (by simp [maxLen]) (by simp)
  rw [size_ext, ← hN] at this
  rw [← alloc_add]
  exact this

/-! Append to an empty literal: nothing that was there is written. -/
section
variable {P : Program} {w : World}
theorem run_append_lit (base : Nat) (t ty e : TypeId) (i : TypeInfo) (z : Value) (size bytes : Nat) (ht : P.underlying t = some (.slice e)) (hi : P.info? e = some i) (hz : i.zero = some z)
    (hsize : i.size = size) (hby : i.bytes = bytes) (hzs : z.cells.size = size) (hsz : 0 < size)
    (g : Nat) (hown : w.ownsRow base e size (.slice (some ⟨g, 0, none⟩) 0 0) 0 [])
    (a : Addr) (m c : Nat) (news : List Value) (hl : news.length = m * size) (hnews : ∀ j u, news[j]? = some u → w.cell? (a.add j) = some u) (h1 : ∀ u ∈ news, u.oneCell' = true)
    (h63 : m ≤ maxLen) (hbytes : m * bytes ≤ 140737488355328) (hbase : base ≤ w.heap.size) :
    ∃ v' w', (Builtin.append_ #[t, t] ty #[.slice (some ⟨g, 0, none⟩) 0 0, .slice (some a) m c]).run P w = .ok v' w' ∧ w'.ownsRow base e size v' m news ∧ w.grownBy w' none := by
  by_cases hm : m = 0
  · subst hm
    have hn : news = [] := List.eq_nil_of_length_eq_zero (by simpa using hl)
    subst hn
    subst hsize
    have hown0 := hown
    rcases hown.2 with ⟨h, _⟩ | ⟨g', cap, cur, hv, hbg, hg, hnc, hcm, hcs, htake⟩
    · cases h
    · simp only [Value.slice.injEq, Option.some.injEq, Addr.mk.injEq, and_true, true_and] at hv
      obtain ⟨rfl, rfl⟩ := hv
      have hcur : cur = #[] := by
        have : cur.size = 0 := by simpa using hcs
        exact Array.eq_empty_of_size_eq_zero this
      subst hcur
      have hr := run_append_room (P := P) w t ty e i ht hi g 0 0 #[] hg a 0 c [] (by simp) hnews h1 (by omega) (by simp)
      have hsame : ∀ k : Nat, (w.setRow g (((#[] : Array Value).toList.take (0 * i.size) ++ [] ++ (#[] : Array Value).toList.drop (0 * i.size + ([] : List Value).length)).toArray)).heap[k]? = w.heap[k]? := fun k => by
        by_cases hk : k = g
        · subst hk
          rw [setRow_heap w k #[] _ e _ hg, hg]
          simp
        · exact setRow_other w g k _ (fun e => hk e)
      exact ⟨_, _, hr, own_heap hown0 fun k _ _ => hsame k, ⟨rfl, rfl, rfl, by simp, fun k _ _ => hsame k⟩⟩
  · subst hsize
    subst hby
    have hsmall : m ≤ 9223372036854775807 := by simp only [maxLen] at h63; omega
    have hr := run_append_grow (P := P) w t ty e i z ht hi hz ⟨g, 0, none⟩ 0 0 [] (by simp) (by intro j u h; simp at h) a m c news hl hnews (by omega) (by omega) (growslice_fits (by omega) (by simpa using hbytes))
    simp only [Nat.zero_add] at hr
    have hge := grownCap_ge w m 0 e
    have hcm : grownCap w m 0 e ≤ maxLen := grownCap_le_maxLen w m 0 e h63
    refine ⟨_, _, hr, ⟨hl, .inr ⟨w.heap.size, _, _, rfl, hbase, heap_alloc_new w.drew _, hge, hcm, ?_, ?_⟩⟩, ⟨rfl, rfl, rfl, by simp, fun k hk _ => heap_alloc_old w.drew _ hk⟩⟩
    · simp only [Array.size_append, List.size_toArray, size_zeroCells, hzs, hl, List.length_nil, Nat.zero_add, ← Nat.add_mul]
      congr 1
      omega
    · simp only [Array.toList_append, List.nil_append, ← hl]
      exact List.take_left
theorem step_append_lit {ops : Array Oper} {o : Oper} {a : Act} {K : Act → World → Prop} {Q : Exit → Act → World → Prop} {E : Prop} (hgd : o.guard = none) (s x : Operand) (t : TypeId)
    (ho : o.op = .call { callee := .builtin .append, args := #[s, x], argTypes := #[t, t] })
    (base : Nat) (e : TypeId) (i : TypeInfo) (z : Value) (size bytes : Nat) (ht : P.underlying t = some (.slice e)) (hi : P.info? e = some i) (hz : i.zero = some z)
    (hsize : i.size = size) (hby : i.bytes = bytes) (hzs : z.cells.size = size) (hsz : 0 < size)
    (g : Nat) (hs : a.eval s = .slice (some ⟨g, 0, none⟩) 0 0) (hown : w.ownsRow base e size (.slice (some ⟨g, 0, none⟩) 0 0) 0 [])
    (A : Option Addr) (m c : Nat) (news : List Value) (hx : a.eval x = .slice A m c) (hnil : A = none → m = 0 ∧ c = 0) (hl : news.length = m * size) (hnews : ∀ ad, A = some ad → ∀ j u, news[j]? = some u → w.cell? (ad.add j) = some u) (h1 : ∀ u ∈ news, u.oneCell' = true)
    (h63 : m ≤ maxLen) (hbytes : m * bytes ≤ 140737488355328) (hbase : base ≤ w.heap.size)
    (h : ∀ v' w', w'.ownsRow base e size v' m news → w.grownBy w' none → K (a.put o.dst v') w') :
    if Region.wanted o (yielded ops a.tmps) = true then Oper.wp P o a w K Q else E := by
  have hw : Region.wanted o (yielded ops a.tmps) = true := by simp [Region.wanted, hgd]
  rw [if_pos hw]
  rcases A with _ | ad
  · obtain ⟨rfl, rfl⟩ := hnil rfl
    have hnn : news = [] := List.eq_nil_of_length_eq_zero (by omega)
    subst hnn
    have hrun := run_append_owned_none (P := P) (w := w) base t o.type e i size ht hi _ 0 [] hown
    unfold Oper.wp
    simp [execOp, ho, resolve, invoke, builtin, hs, hx, hrun, Result.andThen]
    exact h _ _ hown (grown_refl _ _)
  · obtain ⟨v', w', hr, h2, h3⟩ := run_append_lit (P := P) (w := w) base t o.type e i z size bytes ht hi hz hsize hby hzs hsz g hown ad m c news hl (hnews ad rfl) h1 h63 hbytes hbase
    unfold Oper.wp execOp
    simp only [ho, resolve, invoke, builtin, Sem.run_bind, Sem.run_pure, Result.andThen_ok, List.map_toArray, List.map_cons, List.map_nil, hs, hx, hr]
    exact h v' w' h2 h3
end

attribute [local go_sem] alloc_add n_add
attribute [local go_sem ↓] Go.wp_at_zero Go.wp_at_succ
set_option maxRecDepth 100000 in
set_option maxHeartbeats 8000000 in
theorem rclone_any (st : St) (Ab Aw Ac : Option Addr) (cb cw cc : Nat) (w : World) (hn : st.bs.length ≤ 1000) (hnw : st.ws.length ≤ 1000) (hnc : st.cs.length ≤ 1000) (hzn : ∀ x ∈ st.bs, x.zones.length ≤ 100) (hb : Bks w Ab st.bs) (hw : Fives w Aw st.ws) (hc : Fives w Ac st.cs)
    (hwn : Aw = none → cw = 0) (hcn : Ac = none → cc = 0) :
    Calls Try.prog 30 #[.agg #[.slice Ab st.bs.length cb, .slice Aw st.ws.length cw, .slice Ac st.cs.length cc]] w (ClonedSt st w) := by
  obtain ⟨i0, hi0, hz0, hz1, hz2⟩ := info_parts info_w5
  obtain ⟨j0, hj0, hy0, hy1, hy2⟩ := info_parts info_c5
  unfold ClonedSt
  have HB := Lib.hid hb
  have HW := Lib.hid hw
  have HC := Lib.hid hc
  have HWN := Lib.hid (fives_nil hw hwn)
  have HCN := Lib.hid (fives_nil hc hcn)
  have Hzn := Lib.hid hzn
  clear hb hw hc hwn hcn hzn
  go_enter Try.func30, Try.ntmps30
  go_wp2_with fail
  rw [ext_nil (World.alloc _ _)]
  go_region_held3 (fun w' => w'.cell? ⟨w.heap.size, 0, none⟩ = some (.slice Ab st.bs.length cb) ∧ w'.cell? ⟨w.heap.size, 1, none⟩ = some (.slice Aw st.ws.length cw) ∧ w'.cell? ⟨w.heap.size, 2, none⟩ = some (.slice Ac st.cs.length cc))
    (first | (refine ⟨?_, ?_, ?_⟩ <;> simp [go_sem]) | go_keep)
    ((first
      | (go_at_call 55; refine (copies_any st.bs Ab cb _ hn Hzn.out (((HB.out.alloc _).alloc _).ext _)).mono ?_; rintro e w1 ⟨v1, rfl, own1, hb1⟩; obtain ⟨A1, k1, rfl, _, _⟩ := own1.form; obtain ⟨s1, rfl⟩ := ext_of_below hb1; rw [ext_ext] at own1 ⊢; have HO1 := Lib.hid own1; clear own1 hb1)
      | (refine step_append_lit (by rfl) _ _ _ (by rfl) (w.heap.size + 2) 37 i0 _ 5 40 Try.underlying23 hi0 hz0 hz1 hz2 rfl (by omega) _ (by rfl) (own_lit (by repeat' (first | exact More.le_refl _ | refine More.le_draw ?_ | refine More.le_cat ?_ _ | refine More.le_add ?_ _)) (by simp [go_sem]) (by simp)) Aw st.ws.length cw (fives st.ws) (by rfl) HWN.out (fives_len _) (Fives.news (((HW.out.alloc _).alloc _).ext _)) (fives_one _) (by simp only [maxLen]; omega) (by omega) (by simp [go_sem]) ?_; intro v2 w2 hown2 hg2; obtain ⟨A2, k2, rfl, _⟩ := own_form hown2; have hb2 := (Below.refl _ _).grown hg2 (Nat.le_refl _) (by simp); obtain ⟨s2, rfl⟩ := ext_of_below hb2; rw [ext_ext] at hown2 ⊢; have HO2 := Lib.hid hown2; clear hown2 hg2 hb2)
      | (refine step_append_lit (by rfl) _ _ _ (by rfl) (w.heap.size + 2) 68 j0 _ 5 40 Try.underlying24 hj0 hy0 hy1 hy2 rfl (by omega) _ (by rfl) (own_lit (by repeat' (first | exact More.le_refl _ | refine More.le_draw ?_ | refine More.le_cat ?_ _ | refine More.le_add ?_ _)) (by simp [go_sem]) (by simp)) Ac st.cs.length cc (fives st.cs) (by rfl) HCN.out (fives_len _) (Fives.news (((HC.out.alloc _).alloc _).ext _)) (fives_one _) (by simp only [maxLen]; omega) (by omega) (by simp [go_sem]) ?_; intro v3 w3 hown3 hg3; obtain ⟨A3, k3, rfl, _⟩ := own_form hown3; have hb3 := (Below.refl _ _).grown hg3 (Nat.le_refl _) (by simp); obtain ⟨s3, rfl⟩ := ext_of_below hb3; rw [ext_ext] at hown3 ⊢; have HO3 := Lib.hid hown3; clear hown3 hg3 hb3)))
  all_goals
    go_wp2_with fail
    go_returns
    refine ⟨_, _, _, rfl, ⟨OwnBks.mono (OwnBks.swap (HO1.out.le (by repeat' (first | exact More.le_refl _ | refine More.le_draw ?_ | refine More.le_cat ?_ _ | refine More.le_add ?_ _))) (by simp) (by simp [go_sem])) (by simp [go_sem]; omega), ?_, ?_⟩, ?_⟩
    · unfold OwnF
      exact own_mono (own_swap (own_le HO2.out (by repeat' (first | exact More.le_refl _ | refine More.le_draw ?_ | refine More.le_cat ?_ _ | refine More.le_add ?_ _))) (by simp) (by simp)) (by omega)
    · unfold OwnF
      exact own_mono (own_swap (own_le HO3.out (by repeat' (first | exact More.le_refl _ | refine More.le_draw ?_ | refine More.le_cat ?_ _ | refine More.le_add ?_ _))) (by simp) (by simp)) (by omega)
    · repeat' (first | exact Below.refl _ _ | refine below_ext ?_ ?_ _ | refine Below.alloc ?_ ?_ _ | refine Below.setCell ?_ ?_ _ | refine Below.drew ?_ | (rw [size_ext]; refine Nat.le_add_right_of_le ?_) | go_size | (rw [World.size_alloc]; refine Nat.le_add_right_of_le ?_))
end Go.Proofs.Ythkollhebabhbaa

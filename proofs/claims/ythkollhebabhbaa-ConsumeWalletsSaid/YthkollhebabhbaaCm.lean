/-
  The state of rating as plain data and in memory: buckets, wallets, counters; append of a slice that may be nil, at a step of a region too.
-/
import Derived.Test.YthkollhebabhbaaWal2
import Derived.Test.YthkollhebabhbaaBw7
import Derived.Test.YthkollhebabhbaaBx
import Derived.Test.YthkollhebabhbaaBw10
import Derived.Deep.AppendLies
namespace Go.Proofs.Ythkollhebabhbaa
open Go.RowKit
set_option linter.unusedSimpArgs false
set_option linter.unusedVariables false

/-! Append of a slice, nil or not. -/
section
variable {P : Program} {w : World}
theorem grown_refl (w : World) (row : Option Nat) : w.grownBy w row := ⟨rfl, rfl, rfl, Nat.le_refl _, fun _ _ _ => rfl⟩
theorem wp_append_any {o : Oper} {a : Act} {K : Act → World → Prop} {Q : Exit → Act → World → Prop} (s x : Operand) (t : TypeId)
    (ho : o.op = .call { callee := .builtin .append, args := #[s, x], argTypes := #[t, t] })
    (base : Nat) (e : TypeId) (i : TypeInfo) (z : Value) (size bytes : Nat) (ht : P.underlying t = some (.slice e)) (hi : P.info? e = some i) (hz : i.zero = some z)
    (hsize : i.size = size) (hby : i.bytes = bytes) (hzs : z.cells.size = size) (hsz : 0 < size)
    (v : Value) (n : Nat) (xs : List Value) (hs : a.eval s = v) (hown : w.ownsRow base e size v n xs)
    (A : Option Addr) (m c : Nat) (news : List Value) (hx : a.eval x = .slice A m c) (hnil : A = none → m = 0 ∧ c = 0) (hl : news.length = m * size) (hnews : ∀ ad, A = some ad → ∀ j u, news[j]? = some u → w.cell? (ad.add j) = some u) (h1 : ∀ u ∈ news, u.oneCell' = true)
    (h63 : n + m ≤ maxLen) (hbytes : (n + m) * bytes ≤ 140737488355328) (hbase : base ≤ w.heap.size)
    (h : ∀ v' w', w'.ownsRow base e size v' (n + m) (xs ++ news) → w.grownBy w' v.ownBlock → K (a.put o.dst v') w') : o.wp P a w K Q := by
  rcases A with _ | ad
  · obtain ⟨rfl, rfl⟩ := hnil rfl
    have hnn : news = [] := List.eq_nil_of_length_eq_zero (by omega)
    subst hnn
    have hrun := run_append_owned_none (P := P) (w := w) base t o.type e i size ht hi v n xs hown
    unfold Oper.wp
    simp [execOp, ho, resolve, invoke, builtin, hs, hx, hrun, Result.andThen]
    exact h _ _ (by simpa using hown) (grown_refl _ _)
  · exact wp_append_own w s x t ho base e i z size bytes ht hi hz hsize hby hzs hsz v n xs hs hown ad m c news hx hl (hnews ad rfl) h1 h63 hbytes hbase fun v' w' h2 h3 _ => h v' w' h2 h3
theorem wpList_append_any {ops : Array Oper} {rest : List Oper} {o : Oper} {a : Act} {Q : Exit → Act → World → Prop} (hgd : o.guard = none) (s x : Operand) (t : TypeId)
    (ho : o.op = .call { callee := .builtin .append, args := #[s, x], argTypes := #[t, t] })
    (base : Nat) (e : TypeId) (i : TypeInfo) (z : Value) (size bytes : Nat) (ht : P.underlying t = some (.slice e)) (hi : P.info? e = some i) (hz : i.zero = some z)
    (hsize : i.size = size) (hby : i.bytes = bytes) (hzs : z.cells.size = size) (hsz : 0 < size)
    (v : Value) (n : Nat) (xs : List Value) (hs : a.eval s = v) (hown : w.ownsRow base e size v n xs)
    (A : Option Addr) (m c : Nat) (news : List Value) (hx : a.eval x = .slice A m c) (hnil : A = none → m = 0 ∧ c = 0) (hl : news.length = m * size) (hnews : ∀ ad, A = some ad → ∀ j u, news[j]? = some u → w.cell? (ad.add j) = some u) (h1 : ∀ u ∈ news, u.oneCell' = true)
    (h63 : n + m ≤ maxLen) (hbytes : (n + m) * bytes ≤ 140737488355328) (hbase : base ≤ w.heap.size)
    (h : ∀ v' w', w'.ownsRow base e size v' (n + m) (xs ++ news) → w.grownBy w' v.ownBlock → wpList P ops Q rest (a.put o.dst v') w') : wpList P ops Q (o :: rest) a w :=
  wpList_plain hgd fun _ hK => wp_append_any s x t ho base e i z size bytes ht hi hz hsize hby hzs hsz v n xs hs hown A m c news hx hnil hl hnews h1 h63 hbytes hbase fun v' w' h2 h3 => hK _ _ (h v' w' h2 h3)
theorem step_append_any {ops : Array Oper} {o : Oper} {a : Act} {K : Act → World → Prop} {Q : Exit → Act → World → Prop} {E : Prop} (hgd : o.guard = none) (s x : Operand) (t : TypeId)
    (ho : o.op = .call { callee := .builtin .append, args := #[s, x], argTypes := #[t, t] })
    (base : Nat) (e : TypeId) (i : TypeInfo) (z : Value) (size bytes : Nat) (ht : P.underlying t = some (.slice e)) (hi : P.info? e = some i) (hz : i.zero = some z)
    (hsize : i.size = size) (hby : i.bytes = bytes) (hzs : z.cells.size = size) (hsz : 0 < size)
    (v : Value) (n : Nat) (xs : List Value) (hs : a.eval s = v) (hown : w.ownsRow base e size v n xs)
    (A : Option Addr) (m c : Nat) (news : List Value) (hx : a.eval x = .slice A m c) (hnil : A = none → m = 0 ∧ c = 0) (hl : news.length = m * size) (hnews : ∀ ad, A = some ad → ∀ j u, news[j]? = some u → w.cell? (ad.add j) = some u) (h1 : ∀ u ∈ news, u.oneCell' = true)
    (h63 : n + m ≤ maxLen) (hbytes : (n + m) * bytes ≤ 140737488355328) (hbase : base ≤ w.heap.size)
    (h : ∀ v' w', w'.ownsRow base e size v' (n + m) (xs ++ news) → w.grownBy w' v.ownBlock → K (a.put o.dst v') w') :
    if Region.wanted o (yielded ops a.tmps) = true then Oper.wp P o a w K Q else E := by
  have hw : Region.wanted o (yielded ops a.tmps) = true := by simp [Region.wanted, hgd]
  rw [if_pos hw]
  exact wp_append_any s x t ho base e i z size bytes ht hi hz hsize hby hzs hsz v n xs hs hown A m c news hx hnil hl hnews h1 h63 hbytes hbase h
end

/-! Wallets and counters: five numbers each. -/
def W5.cells (x : W5) : List Value := [.int .i64 x.a, .int .i64 x.b, .int .i64 x.f, .int .i64 x.h, .int .i64 x.u]
theorem W5.len_cells (x : W5) : x.cells.length = 5 := rfl
def fives (xs : List W5) : List Value := xs.flatMap W5.cells
theorem fives_at : ∀ (ts : List W5) (j i : Nat) (x : W5), ts[j]? = some x → i < 5 → (fives ts)[j * 5 + i]? = x.cells[i]?
  | [], _, _, _, h, _ => by simp at h
  | y :: ts, 0, i, x, h, hi => by
    obtain rfl := Option.some.inj h
    rw [fives, Nat.zero_mul, Nat.zero_add, List.flatMap_cons, List.getElem?_append_left (by simpa [W5.cells] using hi)]
  | y :: ts, j + 1, i, x, h, hi => by
    have hl : y.cells.length = 5 := rfl
    rw [fives, List.flatMap_cons, List.getElem?_append_right (by rw [hl]; omega), hl, show (j + 1) * 5 + i - 5 = j * 5 + i from by omega]
    exact fives_at ts j i x (by simpa using h) hi
theorem fives_len : ∀ xs : List W5, (fives xs).length = xs.length * 5
  | [] => rfl
  | x :: xs => by
    have := fives_len xs
    simp only [fives, List.flatMap_cons, List.length_append, W5.len_cells, List.length_cons] at *
    omega
theorem fives_one (xs : List W5) : ∀ u ∈ fives xs, u.oneCell' = true := by
  intro u hu
  obtain ⟨x, _, hx⟩ := List.mem_flatMap.1 hu
  simp only [W5.cells, List.mem_cons, List.not_mem_nil, or_false] at hx
  rcases hx with rfl | rfl | rfl | rfl | rfl <;> rfl
theorem fives_append (xs ys : List W5) : fives (xs ++ ys) = fives xs ++ fives ys := by simp [fives]
/-- Lists of five numbers from A on. -/
def Fives (w : World) (A : Option Addr) (xs : List W5) : Prop := ∀ (j : Nat) (x : W5), xs[j]? = some x → ∃ b o, A = some ⟨b, o, none⟩ ∧ b < w.heap.size ∧ ∀ i v, x.cells[i]? = some v → w.cell? ⟨b, o + j * 5 + i, none⟩ = some v
theorem Fives.below {w w' : World} {A : Option Addr} {xs : List W5} (h : Fives w A xs) (hb : Below w.heap.size w w') : Fives w' A xs := fun j x hx => by
  obtain ⟨b, o, hA, hlt, hc⟩ := h j x hx
  exact ⟨b, o, hA, Nat.lt_of_lt_of_le hlt hb.size, fun i v hv => (hb.cell (p := ⟨b, o + j * 5 + i, none⟩) hlt).trans (hc i v hv)⟩
theorem Fives.ext {w : World} {A : Option Addr} {xs : List W5} (h : Fives w A xs) (s : More) : Fives (Go.Proofs.Ythkollhebabhbaa.ext w s) A xs := h.below (below_ext (Below.refl _ _) (Nat.le_refl _) s)
theorem Fives.alloc {w : World} {A : Option Addr} {xs : List W5} (h : Fives w A xs) (o : Obj) : Fives (w.alloc o) A xs := h.below ((Below.refl _ _).alloc (Nat.le_refl _) o)
theorem Fives.cat {w : World} {A : Option Addr} {xs : List W5} {s : More} (h : Fives (Go.Proofs.Ythkollhebabhbaa.ext w s) A xs) (t : More) : Fives (Go.Proofs.Ythkollhebabhbaa.ext w (s.cat t)) A xs := by
  have := h.ext t
  rwa [ext_ext] at this
theorem fives_cells {w : World} {A : Option Addr} {ts : List W5} (h : Fives w A ts) {j : Nat} {x : W5} (hx : ts[j]? = some x) : ∃ b o, A = some ⟨b, o, none⟩ ∧ b < w.heap.size ∧
    w.cell? ⟨b, o + j * 5, none⟩ = some (.int .i64 x.a) ∧ w.cell? ⟨b, o + j * 5 + 1, none⟩ = some (.int .i64 x.b) ∧ w.cell? ⟨b, o + j * 5 + 2, none⟩ = some (.int .i64 x.f) ∧ w.cell? ⟨b, o + j * 5 + 3, none⟩ = some (.int .i64 x.h) ∧ w.cell? ⟨b, o + j * 5 + 4, none⟩ = some (.int .i64 x.u) := by
  obtain ⟨b, o, hA, hlt, hc⟩ := h j x hx
  exact ⟨b, o, hA, hlt, hc 0 _ rfl, hc 1 _ rfl, hc 2 _ rfl, hc 3 _ rfl, hc 4 _ rfl⟩
/-- The cells to be appended. -/
theorem Fives.news {w : World} {A : Option Addr} {xs : List W5} (h : Fives w A xs) : ∀ ad, A = some ad → ∀ j u, (fives xs)[j]? = some u → w.cell? (ad.add j) = some u := by
  rintro ad rfl j u hu
  have hj : j < xs.length * 5 := by
    have := (List.getElem?_eq_some_iff.1 hu).1
    rwa [fives_len] at this
  obtain ⟨x, hx⟩ : ∃ x, xs[j / 5]? = some x := ⟨_, List.getElem?_eq_getElem (by omega)⟩
  obtain ⟨b, o, hA, _, hc⟩ := h (j / 5) x hx
  obtain rfl := Option.some.inj hA
  have he : j = j / 5 * 5 + j % 5 := by omega
  rw [he, fives_at xs (j / 5) (j % 5) x hx (by omega)] at hu
  rw [← hc (j % 5) u hu]
  unfold Addr.add
  by_cases h0 : j = 0
  · subst h0
    simp
  · simp only [h0, if_false]
    congr 2
    omega
/-- The call owns a list of five numbers each, of type e. -/
def OwnF (w : World) (B : Nat) (e : TypeId) (v : Value) (xs : List W5) : Prop := w.ownsRow B e 5 v xs.length (fives xs)
theorem OwnF.form {w : World} {B : Nat} {e : TypeId} {v : Value} {xs : List W5} (h : OwnF w B e v xs) : ∃ A c, v = .slice A xs.length c ∧ Fives w A xs ∧ (A = none → c = 0) := by
  unfold OwnF at h
  rcases h.2 with ⟨rfl, h0⟩ | ⟨g, cap, cur, rfl, _, hh, _⟩
  · refine ⟨none, 0, by rw [h0], fun j x hx => ?_, fun _ => rfl⟩
    have hj : j < xs.length := (List.getElem?_eq_some_iff.1 hx).1
    omega
  · refine ⟨some ⟨g, 0, none⟩, cap, rfl, fun j x hx => ?_, fun h => by cases h⟩
    have hj : j < xs.length := (List.getElem?_eq_some_iff.1 hx).1
    refine ⟨g, 0, rfl, ?_, fun i u hu => ?_⟩
    · rcases Nat.lt_or_ge g w.heap.size with hlt | hge
      · exact hlt
      · rw [Array.getElem?_eq_none hge] at hh
        cases hh
    · have hi : i < 5 := (List.getElem?_eq_some_iff.1 hu).1
      rw [Nat.zero_add, h.cellAt (j * 5 + i) (by omega), ← hu]
      exact fives_at xs j i x hx hi
theorem OwnF.some_ {w : World} {B n c : Nat} {e : TypeId} {A : Option Addr} {xs : List W5} (h : OwnF w B e (.slice A n c) xs) (hn : 0 < xs.length) : ∃ g, A = some ⟨g, 0, none⟩ ∧ B ≤ g ∧ g < w.heap.size ∧ n = xs.length := by
  unfold OwnF at h
  rcases h.2 with ⟨_, h5⟩ | ⟨g, cap, cur, h4, hg, hh, _⟩
  · omega
  · simp only [Value.slice.injEq] at h4
    refine ⟨g, h4.1, hg, ?_, h4.2.1⟩
    rcases Nat.lt_or_ge g w.heap.size with hlt | hge
    · exact hlt
    · rw [Array.getElem?_eq_none hge] at hh
      cases hh

/-! The state. -/
structure St where
  bs : List Bk
  ws : List W5
  cs : List W5
/-- The position of the first wallet of an account. -/
def plc (a : Int) : List W5 → Option Nat
  | [] => none
  | w :: l => if w.a = a then some 0 else (plc a l).map (· + 1)
theorem plc_some {a : Int} : ∀ {l : List W5} {k : Nat}, plc a l = some k → ∃ w, l[k]? = some w ∧ w.a = a
  | [], _, h => by simp [plc] at h
  | c :: l, k, h => by
    simp only [plc] at h
    split at h
    · rename_i hc
      obtain rfl := Option.some.inj h
      exact ⟨c, rfl, hc⟩
    · rw [Option.map_eq_some_iff] at h
      obtain ⟨j, hj, rfl⟩ := h
      obtain ⟨b, hb, h2⟩ := plc_some hj
      exact ⟨b, by simpa using hb, h2⟩
theorem plc_at {a : Int} : ∀ {l : List W5} {k : Nat} {b : W5}, l[k]? = some b → b.a = a → (∀ j c, j < k → l[j]? = some c → c.a ≠ a) → plc a l = some k
  | [], _, _, h, _, _ => by simp at h
  | c :: l, 0, b, h, hb, _ => by
    obtain rfl := Option.some.inj h
    simp [plc, hb]
  | c :: l, k + 1, b, h, hb, hj => by
    have h0 := hj 0 c (by omega) rfl
    have ih := plc_at (l := l) (k := k) (b := b) (by simpa using h) hb (fun j c' hjk hc => hj (j + 1) c' (by omega) (by simpa using hc))
    simp [plc, h0, ih]
theorem plc_none {a : Int} : ∀ {l : List W5}, (∀ (j : Nat) (c : W5), l[j]? = some c → c.a ≠ a) → plc a l = none
  | [], _ => rfl
  | c :: l, h => by
    have h0 := h 0 c rfl
    have ih := plc_none (l := l) (fun j c' hc => h (j + 1) c' (by simpa using hc))
    simp [plc, h0, ih]
theorem plc_snoc (a : Int) : ∀ (l : List W5) (w : W5), plc a (l ++ [w]) = match plc a l with | some k => some k | none => if w.a = a then some l.length else none
  | [], w => by
    simp only [List.nil_append, plc]
    split <;> simp
  | c :: l, w => by
    simp only [List.cons_append, plc, plc_snoc a l w]
    split
    · rfl
    · cases plc a l with
      | some k => rfl
      | none =>
        simp only [Option.map_none]
        split <;> simp
end Go.Proofs.Ythkollhebabhbaa

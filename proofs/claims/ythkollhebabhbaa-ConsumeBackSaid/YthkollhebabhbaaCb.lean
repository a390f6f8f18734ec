/-
  The plain law of ConsumeBack: Undo gives back what Units and Pay took.
-/
import Derived.Test.YthkollhebabhbaaCl1
import Derived.Test.YthkollhebabhbaaCl3
import Derived.Test.YthkollhebabhbaaBw20
namespace Go.Proofs.Ythkollhebabhbaa
open Go.RowKit
set_option linter.unusedSimpArgs false
set_option linter.unusedVariables false

theorem plc_set {a : Int} {y : W5} : ∀ {l : List W5} {k : Nat} {x : W5}, plc a l = some k → l[k]? = some x → y.a = x.a → plc a (l.set k y) = some k
  | [], _, _, h, _, _ => by simp [plc] at h
  | c :: l, k, x, h, hx, hy => by
    simp only [plc] at h
    split at h
    · rename_i hc
      obtain rfl := Option.some.inj h
      obtain rfl := Option.some.inj hx
      simp [plc, hy, hc]
    · rename_i hc
      rw [Option.map_eq_some_iff] at h
      obtain ⟨j, hj, rfl⟩ := h
      have ih := plc_set (y := y) hj (by simpa using hx) hy
      simp [plc, hc, ih]

theorem take_fits {xs : List Bk} {use : Bk → Bool} (hu : UseOk use) {n : Int} (hF : ∀ x ∈ xs, fits x.left ∧ fits x.units) : ∀ y ∈ (take xs use n).1, fits y.left ∧ fits y.units := fun y hy => by
  rw [take_max] at hy
  have h1 : 0 ≤ max n 0 := by omega
  obtain ⟨q, hq⟩ := List.mem_iff_getElem?.1 hy
  rw [take_out hu h1] at hq
  obtain ⟨x, hx, rfl⟩ := Option.map_eq_some_iff.1 hq
  have hxm := List.mem_of_getElem? hx
  have ha := am_le (eff_nonneg hu xs) (srt (posr xs) 0 xs.length) (max n 0) q h1
  obtain ⟨hl, hun⟩ := hF x hxm
  have he := eff_at (use := use) hx
  refine ⟨?_, hun⟩
  rw [Bk.left_with]
  unfold fits amt at *
  rw [he] at ha
  split at ha
  · omega
  · omega
theorem take_tfits {xs : List Bk} {use : Bk → Bool} (hu : UseOk use) {n : Int} (hn : n ≤ 9223372036854775807) : ∀ t ∈ (take xs use n).2.1, fits t.units := fun t ht => by
  rw [take_max] at ht
  have h1 : 0 ≤ max n 0 := by omega
  have := (take_units (xs := xs) hu h1).2.1 t ht
  unfold fits
  omega

theorem units_ok {s : St} {use : Bk → Bool} (hu : UseOk use) {n : Int} (ok : StOk s) : StOk (s.units use n).1 := by
  unfold St.units
  refine ⟨by dsimp only; rw [take_len]; exact ok.nb, ok.nw, ok.nc, fun y hy => ?_, ok.fw, take_fits hu ok.fb⟩
  obtain ⟨x, hx, l, _, rfl⟩ := take_mem hu hy
  exact ok.z x hx
theorem pay_ok {s : St} (a n : Int) (pre : Bool) (ok : StOk s) : StOk (s.pay a n pre).1 := by
  unfold St.pay
  split
  · exact ok
  · split
    · exact ok
    · rename_i k hk
      split
      · obtain ⟨x, hx, hxa⟩ := plc_some hk
        have hgd : s.ws.getD k W5.zero = x := by simp [List.getD, hx]
        refine ⟨ok.nb, by simpa using ok.nw, ok.nc, ok.z, fun y hy => ?_, ok.fb⟩
        rcases List.mem_or_eq_of_mem_set hy with hy | rfl
        · exact ok.fw y hy
        · rw [hgd]
          exact ok.fw x (List.mem_of_getElem? hx)
      · exact ok

theorem back_law (s : St) {use : Bk → Bool} (hu : UseOk use) (hd : Distinct s.bs) (n a amt : Int) (pre : Bool) :
    (((s.units use n).1.pay a amt pre).1).undo a (s.units use n).2.1 ((s.units use n).1.pay a amt pre).2.1 = (s, 0) := by
  have hg : give (take s.bs use n).2.1 (take s.bs use n).1 = (s.bs, 0) := by
    rw [take_max]
    exact give_take hu hd (by omega)
  have h0 : (({ s with bs := (take s.bs use n).1 } : St)).undo a (take s.bs use n).2.1 0 = (s, 0) := by
    unfold St.undo
    dsimp only
    rw [hg]
    simp
  unfold St.units
  dsimp only
  unfold St.pay
  split
  · exact h0
  · rename_i hc
    dsimp only
    split
    · exact h0
    · rename_i k hk
      split
      · rename_i hck
        obtain ⟨x, hx, _⟩ := plc_some hk
        have hgd : s.ws.getD k W5.zero = x := by simp [List.getD, hx]
        rw [hgd] at hck ⊢
        have hb := W5.chk_ok.1 hck
        have hfr : x.free = x.b - x.h - x.f := by unfold W5.free; rw [if_pos hck]
        have hfn : 0 ≤ x.free := free_nonneg x
        have hn : ¬ amt ≤ 0 := fun h => hc (.inr h)
        have hkl : k < s.ws.length := (List.getElem?_eq_some_iff.1 hx).1
        generalize hp : min (min amt x.free) 1125899906842624 = p
        have hp0 : 0 ≤ p := by omega
        have hp1 : p ≤ x.free := by omega
        have hp2 : p ≤ 1125899906842624 := by omega
        unfold St.undo
        dsimp only
        rw [hg]
        dsimp only
        rw [if_neg (by simp)]
        by_cases hpz : p = 0
        · rw [if_pos hpz]
          subst hpz
          have : ({ x with b := x.b - 0 } : W5) = x := by simp
          rw [this]
          have hs : s.ws.set k x = s.ws := by
            apply List.ext_getElem?
            intro j
            rw [List.getElem?_set]
            split
            · rename_i h; subst h; exact hx.symm
            · rfl
          rw [hs]
        · rw [if_neg hpz, plc_set (y := { x with b := x.b - p }) hk hx rfl]
          dsimp only
          have hgd2 : (s.ws.set k { x with b := x.b - p }).getD k W5.zero = { x with b := x.b - p } := by simp [List.getD, hkl]
          rw [hgd2]
          have hcy : ({ x with b := x.b - p } : W5).chk = 0 := W5.chk_ok.2 (by dsimp only; omega)
          have hcr : W5.credit { x with b := x.b - p } p = (x, 0) := by
            unfold W5.credit
            rw [if_pos hcy, if_pos (by dsimp only; omega)]
            simp
          rw [hcr]
          dsimp only
          rw [if_pos rfl, List.set_set]
          have hs : s.ws.set k x = s.ws := by
            apply List.ext_getElem?
            intro j
            rw [List.getElem?_set]
            split
            · rename_i h; subst h; exact hx.symm
            · rfl
          rw [hs]
      · exact h0
end Go.Proofs.Ythkollhebabhbaa

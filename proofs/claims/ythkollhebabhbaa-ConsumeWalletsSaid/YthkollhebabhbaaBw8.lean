/-
  The walk of places: the positions of buckets in the order of use, by halves.
-/
import Derived.Test.YthkollhebabhbaaBw7
import Derived.Test.YthkollhebabhbaaBw4
import Derived.Test.YthkollhebabhbaaBs
import Derived.BigQuiet
namespace Go.Proofs.Ythkollhebabhbaa
open Go.RowKit
set_option linter.unusedSimpArgs false

theorem info_int : (Try.prog.info? 3).map (fun i => (i.zero, i.size, i.bytes)) = some (some (.int .i64 0), 1, 8) := by kernel_rfl

/-- Positions as cells. -/
def ints (l : List Nat) : List Value := l.map fun (i : Nat) => Value.int .i64 (i : Int)
theorem ints_len (l : List Nat) : (ints l).length = l.length := by simp [ints]
theorem ints_one (l : List Nat) : ∀ u ∈ ints l, u.oneCell' = true := by
  intro u hu
  obtain ⟨s, _, rfl⟩ := List.mem_map.1 hu
  rfl
theorem int_one (x : Int) : ∀ u ∈ [Value.int .i64 x], u.oneCell' = true := by
  intro u hu
  obtain rfl := List.mem_singleton.1 hu
  rfl
theorem OwnInts.nil (w : World) (B : Nat) : w.ownsRow B 3 1 (.slice none 0 0) 0 [] := World.ownsRow_nil _ _ _ _
theorem ints_append (l m : List Nat) : ints (l ++ m) = ints l ++ ints m := by simp [ints]
/-- The call owns the positions l. -/
def OwnInts (w : World) (B : Nat) (v : Value) (l : List Nat) : Prop := w.ownsRow B 3 1 v l.length (ints l)
/-- The positions l lie from A on. -/
def Ints (w : World) (A : Option Addr) (l : List Nat) : Prop := ∀ (j p : Nat), l[j]? = some p → ∃ b o, A = some ⟨b, o, none⟩ ∧ b < w.heap.size ∧ w.cell? ⟨b, o + j, none⟩ = some (.int .i64 (p : Int))
theorem Ints.below {w w' : World} {A : Option Addr} {l : List Nat} (h : Ints w A l) (hb : Below w.heap.size w w') : Ints w' A l := fun j p hp => by
  obtain ⟨b, o, hA, hlt, hc⟩ := h j p hp
  exact ⟨b, o, hA, Nat.lt_of_lt_of_le hlt hb.size, (hb.cell (p := ⟨b, o + j, none⟩) hlt).trans hc⟩
theorem OwnInts.form {w : World} {B : Nat} {v : Value} {l : List Nat} (h : OwnInts w B v l) : ∃ A c, v = .slice A l.length c ∧ Ints w A l ∧ (A = none → c = 0) := by
  unfold OwnInts at h
  rcases h.2 with ⟨rfl, h0⟩ | ⟨g, cap, cur, rfl, _, hh, _⟩
  · refine ⟨none, 0, by rw [h0], fun j p hp => ?_, fun _ => rfl⟩
    have hj : j < l.length := (List.getElem?_eq_some_iff.1 hp).1
    omega
  · refine ⟨some ⟨g, 0, none⟩, cap, rfl, fun j p hp => ?_, fun h => by cases h⟩
    have hj : j < l.length := (List.getElem?_eq_some_iff.1 hp).1
    refine ⟨g, 0, rfl, ?_, ?_⟩
    · rcases Nat.lt_or_ge g w.heap.size with hlt | hge
      · exact hlt
      · rw [Array.getElem?_eq_none hge] at hh
        cases hh
    · rw [Nat.zero_add, h.cellAt j (by omega)]
      simp [ints, hp]

def Bk.zero : Bk := ⟨0, 0, ByteArray.empty, 0, 0, [], 0, 0, 0, 0, 0, false⟩
/-- Whether the bucket at one position is used before that at another. -/
def posr (xs : List Bk) (i j : Nat) : Bool := (xs.getD i Bk.zero).before (xs.getD j Bk.zero)
theorem posr_weak (xs : List Bk) : Weak (posr xs) := ⟨fun h => before_weak.asymm h, fun _ h => before_weak.cotr _ h⟩
theorem posr_at {xs : List Bk} {i j : Nat} {x y : Bk} (hx : xs[i]? = some x) (hy : xs[j]? = some y) : posr xs i j = x.before y := by
  simp [posr, List.getD, hx, hy]

def PlacesPost (xs : List Bk) (first n : Nat) (w : World) (e : Ending) (w' : World) : Prop := ∃ v, e = .returned v ∧ OwnInts w' w.heap.size v (srt (posr xs) first n) ∧ Below w.heap.size w w'

set_option maxHeartbeats 1000000 in
theorem places_small (xs : List Bk) (A : Option Addr) (c first n : Nat) (w : World) (hn : n < 2) (hf : first + n ≤ 1000) (a b : Int) (ha : a = (first : Int)) (hb : b = (first : Int) + (n : Int)) :
    Calls Try.prog 66 #[.slice A xs.length c, .int .i64 a, .int .i64 b] w (PlacesPost xs first n w) := by
  obtain ⟨i0, hi0, hz0, hz1, hz2⟩ := info_parts info_int
  subst ha hb
  unfold PlacesPost
  have hs : srt (posr xs) first n = List.range' first n := by
    match n, hn with
    | 0, _ => rfl
    | 1, _ => rfl
  rw [hs]
  clear hs
  have t1 : (first : Int) + (n : Int) - first < 2 := by omega
  go_enter Try.func66, Try.ntmps66
  go_wp2
  go_loopw [7, 8] (fun v i wr => ∃ k : Nat, k ≤ n ∧ i = .int .i64 ((first : Int) + (k : Int)) ∧ OwnInts wr w.heap.size v (List.range' first k) ∧ Below w.heap.size w wr) (fun _ i _ => first + n - (intOf i).toNat)
  case atStart => exact ⟨0, Nat.zero_le _, by go_num, OwnInts.nil _ _, Below.refl _ _⟩
  case round =>
    obtain ⟨k, hk, rfl, hown, hbw⟩ := hrel
    have HO := Lib.hid hown
    clear hown
    by_cases hlt : k < n
    · have hsz := hbw.size
      go_wp2_with (at_builtin; refine wpList_append_own _ rfl _ _ _ rfl w.heap.size 3 i0 _ 1 8 Try.underlying102 hi0 hz0 hz1 hz2 rfl (by omega) _ (List.range' first k).length (ints (List.range' first k)) rfl (HO.out.alloc _) ⟨wr.heap.size, 0, none⟩ 1 1 [.int .i64 ((first : Int) + (k : Int))] rfl rfl (cells_new _ rfl) (int_one _) (by simp only [maxLen, List.length_range']; omega) (by simp only [List.length_range']; omega) (by simp; omega) ?_; intro v2 w2 hown2 hg hnil; clear hnil; have HO2 := Lib.hid hown2; have HG := Lib.hid hg; clear hown2 hg)
      go_roundw
      case rel =>
        refine ⟨k + 1, by omega, by go_num, ?_, ?_⟩
        · rw [List.range'_concat]
          unfold OwnInts
          rw [ints_append]
          simpa [ints] using HO2.out
        · exact (hbw.alloc hbw.size _).grown HG.out (by simp; omega) (fun j hj => (HO.out.lt j hj).1)
      case measure => simp [intOf]; omega
    · have hkn : k = n := by omega
      subst hkn
      go_wp2
      go_ret
      exact ⟨_, rfl, HO.out, hbw⟩
end Go.Proofs.Ythkollhebabhbaa

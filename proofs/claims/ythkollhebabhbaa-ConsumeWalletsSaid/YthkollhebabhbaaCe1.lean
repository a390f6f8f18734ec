/-
  Pay and Undo, the program's and the reference's, in one contract each; a state as an argument.
-/
import Derived.Test.YthkollhebabhbaaCd2
namespace Go.Proofs.Ythkollhebabhbaa
open Go.RowKit
set_option linter.unusedSimpArgs false
set_option linter.unusedVariables false

/-- A state of bounded size whose numbers are ints. -/
structure StOk (st : St) : Prop where
  nb : st.bs.length ≤ 1000
  nw : st.ws.length ≤ 1000
  nc : st.cs.length ≤ 1000
  z : ∀ x ∈ st.bs, x.zones.length ≤ 100
  fw : ∀ x ∈ st.ws, fits x.a
  fb : ∀ x ∈ st.bs, fits x.left ∧ fits x.units
/-- A state in memory. -/
structure StIn (w : World) (Ab Aw Ac : Option Addr) (cw cc : Nat) (st : St) : Prop where
  b : Bks w Ab st.bs
  s : Fives w Aw st.ws
  c : Fives w Ac st.cs
  wn : Aw = none → cw = 0
  cn : Ac = none → cc = 0
theorem StIn.below {w w' : World} {Ab Aw Ac : Option Addr} {cw cc : Nat} {st : St} (h : StIn w Ab Aw Ac cw cc st) (hb : Below w.heap.size w w') : StIn w' Ab Aw Ac cw cc st := ⟨h.b.below hb, h.s.below hb, h.c.below hb, h.wn, h.cn⟩
theorem StIn.ext {w : World} {Ab Aw Ac : Option Addr} {cw cc : Nat} {st : St} (h : StIn w Ab Aw Ac cw cc st) (t : More) : StIn (Go.Proofs.Ythkollhebabhbaa.ext w t) Ab Aw Ac cw cc st := h.below (below_ext (Below.refl _ _) (Nat.le_refl _) t)
theorem StIn.alloc {w : World} {Ab Aw Ac : Option Addr} {cw cc : Nat} {st : St} (h : StIn w Ab Aw Ac cw cc st) (o : Obj) : StIn (w.alloc o) Ab Aw Ac cw cc st := h.below ((Below.refl _ _).alloc (Nat.le_refl _) o)
theorem StIn.cat {w : World} {Ab Aw Ac : Option Addr} {cw cc : Nat} {st : St} {s : More} (h : StIn (Go.Proofs.Ythkollhebabhbaa.ext w s) Ab Aw Ac cw cc st) (t : More) : StIn (Go.Proofs.Ythkollhebabhbaa.ext w (s.cat t)) Ab Aw Ac cw cc st := by
  have := h.ext t
  rwa [ext_ext] at this
theorem OwnSt.form {w : World} {B : Nat} {vb vw vc : Value} {s : St} (h : OwnSt w B vb vw vc s) : ∃ Ab Aw Ac cb cw cc, vb = .slice Ab s.bs.length cb ∧ vw = .slice Aw s.ws.length cw ∧ vc = .slice Ac s.cs.length cc ∧ StIn w Ab Aw Ac cw cc s := by
  obtain ⟨Ab, cb, rfl, hb, _⟩ := h.1.form
  obtain ⟨Aw, cw, rfl, hw, hwn⟩ := h.2.1.form
  obtain ⟨Ac, cc, rfl, hc, hcn⟩ := h.2.2.form
  exact ⟨Ab, Aw, Ac, cb, cw, cc, rfl, rfl, rfl, hb, hw, hc, hwn, hcn⟩

section
variable (st : St) (Ab Aw Ac At : Option Addr) (cb cw cc ct : Nat) (a n : Int) (pre : Bool) (w : World) (ok : StOk st) (hi : StIn w Ab Aw Ac cw cc st) (hfa : fits a) (hfn : fits n)
include ok hi hfa hfn

theorem pay_any : Calls Try.prog 10 #[.agg #[.slice Ab st.bs.length cb, .slice Aw st.ws.length cw, .slice Ac st.cs.length cc], .int .i64 a, .int .i64 n, .bool pre] w (PayPost (st.pay a n pre) w) := by
  have C1 : ∀ W, Bks W Ab st.bs → Fives W Aw st.ws → Fives W Ac st.cs → Calls Try.prog 26 #[.agg #[.slice Ab st.bs.length cb, .slice Aw st.ws.length cw, .slice Ac st.cs.length cc]] W (ClonedSt st W) := fun W h1 h2 h3 => cclone_any st Ab Aw Ac cb cw cc W ok.nb ok.nw ok.nc ok.z h1 h2 h3 hi.wn hi.cn
  cases pre
  · exact pay_off st Ab Aw Ac cb cw cc a n false w ok.nw hi.b hi.s hi.c C1 ok.fw hfa rfl
  · by_cases hn0 : n ≤ 0
    · exact pay_zero st Ab Aw Ac cb cw cc a n true w ok.nw hi.b hi.s hi.c C1 ok.fw hfa rfl hn0
    · rcases hp : plc a st.ws with _ | k
      · exact pay_none st Ab Aw Ac cb cw cc a n true w ok.nw hi.b hi.s hi.c C1 ok.fw hfa hp rfl hn0
      · obtain ⟨⟨xa, xb, xf, xh, xu⟩, hx, _⟩ := plc_some hp
        by_cases hck : (⟨xa, xb, xf, xh, xu⟩ : W5).chk = 0
        · rcases Int.lt_or_le 1125899906842624 n with h1 | h1
          · rcases Int.lt_or_le 1125899906842624 (xb - xh - xf) with h2 | h2
            · exact pay_ok2 st Ab Aw Ac cb cw cc a n true w ok.nw hi.b hi.s hi.c C1 ok.fw hfa k xa xb xf xh xu hp hx rfl hn0 hfn.2 hck h1 h2
            · exact pay_ok1 st Ab Aw Ac cb cw cc a n true w ok.nw hi.b hi.s hi.c C1 ok.fw hfa k xa xb xf xh xu hp hx rfl hn0 hfn.2 hck (by omega) h2
          · rcases Int.lt_or_le (xb - xh - xf) n with h2 | h2
            · exact pay_ok1 st Ab Aw Ac cb cw cc a n true w ok.nw hi.b hi.s hi.c C1 ok.fw hfa k xa xb xf xh xu hp hx rfl hn0 hfn.2 hck h2 (by omega)
            · exact pay_ok0 st Ab Aw Ac cb cw cc a n true w ok.nw hi.b hi.s hi.c C1 ok.fw hfa k xa xb xf xh xu hp hx rfl hn0 hfn.2 hck h2 h1
        · exact pay_err st Ab Aw Ac cb cw cc a n true w ok.nw hi.b hi.s hi.c C1 ok.fw hfa k xa xb xf xh xu hp hx rfl hn0 hfn.2 hck
theorem rpay_any : Calls Try.prog 11 #[.agg #[.slice Ab st.bs.length cb, .slice Aw st.ws.length cw, .slice Ac st.cs.length cc], .int .i64 a, .int .i64 n, .bool pre] w (PayPost (st.pay a n pre) w) := by
  have C1 : ∀ W, Bks W Ab st.bs → Fives W Aw st.ws → Fives W Ac st.cs → Calls Try.prog 30 #[.agg #[.slice Ab st.bs.length cb, .slice Aw st.ws.length cw, .slice Ac st.cs.length cc]] W (ClonedSt st W) := fun W h1 h2 h3 => rclone_any st Ab Aw Ac cb cw cc W ok.nb ok.nw ok.nc ok.z h1 h2 h3 hi.wn hi.cn
  cases pre
  · exact rpay_off st Ab Aw Ac cb cw cc a n false w ok.nw hi.b hi.s hi.c C1 ok.fw hfa rfl
  · by_cases hn0 : n ≤ 0
    · exact rpay_zero st Ab Aw Ac cb cw cc a n true w ok.nw hi.b hi.s hi.c C1 ok.fw hfa rfl hn0
    · rcases hp : plc a st.ws with _ | k
      · exact rpay_none st Ab Aw Ac cb cw cc a n true w ok.nw hi.b hi.s hi.c C1 ok.fw hfa hp rfl hn0
      · obtain ⟨⟨xa, xb, xf, xh, xu⟩, hx, _⟩ := plc_some hp
        by_cases hck : (⟨xa, xb, xf, xh, xu⟩ : W5).chk = 0
        · rcases Int.lt_or_le 1125899906842624 n with h1 | h1
          · rcases Int.lt_or_le 1125899906842624 (xb - xh - xf) with h2 | h2
            · exact rpay_ok2 st Ab Aw Ac cb cw cc a n true w ok.nw hi.b hi.s hi.c C1 ok.fw hfa k xa xb xf xh xu hp hx rfl hn0 hfn.2 hck h1 h2
            · exact rpay_ok1 st Ab Aw Ac cb cw cc a n true w ok.nw hi.b hi.s hi.c C1 ok.fw hfa k xa xb xf xh xu hp hx rfl hn0 hfn.2 hck (by omega) h2
          · rcases Int.lt_or_le (xb - xh - xf) n with h2 | h2
            · exact rpay_ok1 st Ab Aw Ac cb cw cc a n true w ok.nw hi.b hi.s hi.c C1 ok.fw hfa k xa xb xf xh xu hp hx rfl hn0 hfn.2 hck h2 (by omega)
            · exact rpay_ok0 st Ab Aw Ac cb cw cc a n true w ok.nw hi.b hi.s hi.c C1 ok.fw hfa k xa xb xf xh xu hp hx rfl hn0 hfn.2 hck h2 h1
        · exact rpay_err st Ab Aw Ac cb cw cc a n true w ok.nw hi.b hi.s hi.c C1 ok.fw hfa k xa xb xf xh xu hp hx rfl hn0 hfn.2 hck

variable (ts : List Tk) (htl : ts.length ≤ 1000) (ht : Tks w At ts) (hft : ∀ t ∈ ts, fits t.units)
include htl ht hft
omit hfn in
theorem undo_any : Calls Try.prog 16 #[.agg #[.slice Ab st.bs.length cb, .slice Aw st.ws.length cw, .slice Ac st.cs.length cc], .int .i64 a, .slice At ts.length ct, .int .i64 n] w (UndoPost (st.undo a ts n) w) := by
  have C1 : ∀ W, Bks W Ab st.bs → Fives W Aw st.ws → Fives W Ac st.cs → Calls Try.prog 26 #[.agg #[.slice Ab st.bs.length cb, .slice Aw st.ws.length cw, .slice Ac st.cs.length cc]] W (ClonedSt st W) := fun W h1 h2 h3 => cclone_any st Ab Aw Ac cb cw cc W ok.nb ok.nw ok.nc ok.z h1 h2 h3 hi.wn hi.cn
  have C0 : ∀ W, Bks W Ab st.bs → Tks W At ts → Calls Try.prog 34 #[.slice Ab st.bs.length cb, .slice At ts.length ct] W (GiveR (give ts st.bs).1 (give ts st.bs).2 W) := fun W h1 h2 => give_any ts st.bs Ab At cb ct W ok.nb htl ok.z h1 h2 ok.fb hft
  by_cases hg : (give ts st.bs).2 = 0
  · by_cases hn : n = 0
    · exact undo_zero st Ab Aw Ac At cb cw cc ct ts a n _ _ w ok.nw hi.b hi.s hi.c ht C0 C1 ok.fw hfa rfl hg hn
    · rcases hp : plc a st.ws with _ | k
      · exact undo_none st Ab Aw Ac At cb cw cc ct ts a n _ _ w ok.nw hi.b hi.s hi.c ht C0 C1 ok.fw hfa rfl hg hn hp
      · obtain ⟨⟨xa, xb, xf, xh, xu⟩, hx, _⟩ := plc_some hp
        rcases hcr : W5.credit ⟨xa, xb, xf, xh, xu⟩ n with ⟨⟨ya, yb, yf, yh, yu⟩, ce⟩
        by_cases hce : ce = 0
        · exact undo_ok st Ab Aw Ac At cb cw cc ct ts a n _ _ w ok.nw hi.b hi.s hi.c ht C0 C1 ok.fw hfa rfl hg hn k xa xb xf xh xu ya yb yf yh yu ce hp hx hcr hce
        · exact undo_err st Ab Aw Ac At cb cw cc ct ts a n _ _ w ok.nw hi.b hi.s hi.c ht C0 C1 ok.fw hfa rfl hg hn k xa xb xf xh xu ya yb yf yh yu ce hp hx hcr hce
  · exact undo_bad st Ab Aw Ac At cb cw cc ct ts a n _ _ w ok.nw hi.b hi.s hi.c ht C0 C1 ok.fw hfa rfl hg
omit hfn in
theorem rundo_any : Calls Try.prog 17 #[.agg #[.slice Ab st.bs.length cb, .slice Aw st.ws.length cw, .slice Ac st.cs.length cc], .int .i64 a, .slice At ts.length ct, .int .i64 n] w (UndoPost (st.undo a ts n) w) := by
  have C1 : ∀ W, Bks W Ab st.bs → Fives W Aw st.ws → Fives W Ac st.cs → Calls Try.prog 30 #[.agg #[.slice Ab st.bs.length cb, .slice Aw st.ws.length cw, .slice Ac st.cs.length cc]] W (ClonedSt st W) := fun W h1 h2 h3 => rclone_any st Ab Aw Ac cb cw cc W ok.nb ok.nw ok.nc ok.z h1 h2 h3 hi.wn hi.cn
  have C0 : ∀ W, Bks W Ab st.bs → Tks W At ts → Calls Try.prog 36 #[.slice Ab st.bs.length cb, .slice At ts.length ct] W (GiveR (give ts st.bs).1 (give ts st.bs).2 W) := fun W h1 h2 => rgive_any ts st.bs Ab At cb ct W ok.nb htl ok.z h1 h2 ok.fb hft
  by_cases hg : (give ts st.bs).2 = 0
  · by_cases hn : n = 0
    · exact rundo_zero st Ab Aw Ac At cb cw cc ct ts a n _ _ w ok.nw hi.b hi.s hi.c ht C0 C1 ok.fw hfa rfl hg hn
    · rcases hp : plc a st.ws with _ | k
      · exact rundo_none st Ab Aw Ac At cb cw cc ct ts a n _ _ w ok.nw hi.b hi.s hi.c ht C0 C1 ok.fw hfa rfl hg hn hp
      · obtain ⟨⟨xa, xb, xf, xh, xu⟩, hx, _⟩ := plc_some hp
        rcases hcr : W5.credit ⟨xa, xb, xf, xh, xu⟩ n with ⟨⟨ya, yb, yf, yh, yu⟩, ce⟩
        by_cases hce : ce = 0
        · exact rundo_ok st Ab Aw Ac At cb cw cc ct ts a n _ _ w ok.nw hi.b hi.s hi.c ht C0 C1 ok.fw hfa rfl hg hn k xa xb xf xh xu ya yb yf yh yu ce hp hx hcr hce
        · exact rundo_err st Ab Aw Ac At cb cw cc ct ts a n _ _ w ok.nw hi.b hi.s hi.c ht C0 C1 ok.fw hfa rfl hg hn k xa xb xf xh xu ya yb yf yh yu ce hp hx hcr hce
  · exact rundo_bad st Ab Aw Ac At cb cw cc ct ts a n _ _ w ok.nw hi.b hi.s hi.c ht C0 C1 ok.fw hfa rfl hg
end
end Go.Proofs.Ythkollhebabhbaa

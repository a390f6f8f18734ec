/-
  The executor: the function with a range over a function: its run over names.
-/
import Derived.Test.YtmodghiokoiipaaGreatEu
namespace Go.Proofs.YtmodghiokoiipaaGreat
open Go Go.RowKit
set_option linter.unusedVariables false
set_option linter.unusedSimpArgs false

def evAt (t : Int) : Value → Bool
  | .agg xs => match xs.getD 0 undef with
    | .int .i64 n => decide (n ≤ t)
    | _ => false
  | _ => false
def srLoop (P : Program) (cf : CFn) (apf et : Nat) (a : Addr) (sz : Nat) (t : Int) (wv : Value) : Nat → Nat → AH → Option AH
  | 0, _, m => some m
  | n + 1, k, m => match Sem.arun P (loadVar et ⟨a.block, a.off + k * sz, none⟩) m with
    | some (ev, m1) => match evAt t ev with
      | true => match cf apf #[wv, ev] m1 with
        | some (_, m2) => srLoop P cf apf et a sz t wv n (k + 1) m2
        | none => none
      | false => none
    | none => none
def srState (P : Program) (bgf apf cuf et : Nat) (cf : CFn) (args : Array Value) (m : AH) : Option (Value × AH) :=
  match Nat.beq args.size 2 with
  | true => match args.getD 0 undef, args.getD 1 undef with
    | .slice (some a) n _, .int .i64 t => match P.info? et with
      | some i => match cf bgf #[] m with
        | some (wv, m1) => match srLoop P cf apf et a i.size t wv n 0 m1 with
          | some m2 => cf cuf #[wv] m2
          | none => none
        | none => none
      | none => none
    | .slice none 0 0, .int .i64 t => match cf bgf #[] m with
      | some (wv, m1) => cf cuf #[wv] m1
      | none => none
    | _, _ => none
  | false => none
end Go.Proofs.YtmodghiokoiipaaGreat

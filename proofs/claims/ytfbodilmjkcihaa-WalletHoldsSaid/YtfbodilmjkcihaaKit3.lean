/-
  Sizes of heaps, one below the other, where many blocks were laid: more of the Kit's lemmas.
-/
import Derived.Test.YtfbodilmjkcihaaKit
namespace Go.Proofs.Ytfbodilmjkcihaa
@[go_sem] theorem lt_a9 (a k : Nat) (x1 x2 x3 x4 x5 x6 x7 x8 x9 : Nat) (h : 0 < k) : a < a + k + x1 + x2 + x3 + x4 + x5 + x6 + x7 + x8 + x9 := by omega
@[go_sem] theorem lt_b9 (a j k : Nat) (x1 x2 x3 x4 x5 x6 x7 x8 x9 : Nat) (h : j < k) : a + j < a + k + x1 + x2 + x3 + x4 + x5 + x6 + x7 + x8 + x9 := by omega
@[go_sem] theorem lt_c9 (b a k : Nat) (x1 x2 x3 x4 x5 x6 x7 x8 x9 : Nat) (h : b < a) : b < a + k + x1 + x2 + x3 + x4 + x5 + x6 + x7 + x8 + x9 := by omega
@[go_sem] theorem lt_a10 (a k : Nat) (x1 x2 x3 x4 x5 x6 x7 x8 x9 x10 : Nat) (h : 0 < k) : a < a + k + x1 + x2 + x3 + x4 + x5 + x6 + x7 + x8 + x9 + x10 := by omega
@[go_sem] theorem lt_b10 (a j k : Nat) (x1 x2 x3 x4 x5 x6 x7 x8 x9 x10 : Nat) (h : j < k) : a + j < a + k + x1 + x2 + x3 + x4 + x5 + x6 + x7 + x8 + x9 + x10 := by omega
@[go_sem] theorem lt_c10 (b a k : Nat) (x1 x2 x3 x4 x5 x6 x7 x8 x9 x10 : Nat) (h : b < a) : b < a + k + x1 + x2 + x3 + x4 + x5 + x6 + x7 + x8 + x9 + x10 := by omega
@[go_sem] theorem lt_a11 (a k : Nat) (x1 x2 x3 x4 x5 x6 x7 x8 x9 x10 x11 : Nat) (h : 0 < k) : a < a + k + x1 + x2 + x3 + x4 + x5 + x6 + x7 + x8 + x9 + x10 + x11 := by omega
@[go_sem] theorem lt_b11 (a j k : Nat) (x1 x2 x3 x4 x5 x6 x7 x8 x9 x10 x11 : Nat) (h : j < k) : a + j < a + k + x1 + x2 + x3 + x4 + x5 + x6 + x7 + x8 + x9 + x10 + x11 := by omega
@[go_sem] theorem lt_c11 (b a k : Nat) (x1 x2 x3 x4 x5 x6 x7 x8 x9 x10 x11 : Nat) (h : b < a) : b < a + k + x1 + x2 + x3 + x4 + x5 + x6 + x7 + x8 + x9 + x10 + x11 := by omega
@[go_sem] theorem lt_a12 (a k : Nat) (x1 x2 x3 x4 x5 x6 x7 x8 x9 x10 x11 x12 : Nat) (h : 0 < k) : a < a + k + x1 + x2 + x3 + x4 + x5 + x6 + x7 + x8 + x9 + x10 + x11 + x12 := by omega
@[go_sem] theorem lt_b12 (a j k : Nat) (x1 x2 x3 x4 x5 x6 x7 x8 x9 x10 x11 x12 : Nat) (h : j < k) : a + j < a + k + x1 + x2 + x3 + x4 + x5 + x6 + x7 + x8 + x9 + x10 + x11 + x12 := by omega
@[go_sem] theorem lt_c12 (b a k : Nat) (x1 x2 x3 x4 x5 x6 x7 x8 x9 x10 x11 x12 : Nat) (h : b < a) : b < a + k + x1 + x2 + x3 + x4 + x5 + x6 + x7 + x8 + x9 + x10 + x11 + x12 := by omega
@[go_sem] theorem lt_a13 (a k : Nat) (x1 x2 x3 x4 x5 x6 x7 x8 x9 x10 x11 x12 x13 : Nat) (h : 0 < k) : a < a + k + x1 + x2 + x3 + x4 + x5 + x6 + x7 + x8 + x9 + x10 + x11 + x12 + x13 := by omega
@[go_sem] theorem lt_b13 (a j k : Nat) (x1 x2 x3 x4 x5 x6 x7 x8 x9 x10 x11 x12 x13 : Nat) (h : j < k) : a + j < a + k + x1 + x2 + x3 + x4 + x5 + x6 + x7 + x8 + x9 + x10 + x11 + x12 + x13 := by omega
@[go_sem] theorem lt_c13 (b a k : Nat) (x1 x2 x3 x4 x5 x6 x7 x8 x9 x10 x11 x12 x13 : Nat) (h : b < a) : b < a + k + x1 + x2 + x3 + x4 + x5 + x6 + x7 + x8 + x9 + x10 + x11 + x12 + x13 := by omega
@[go_sem] theorem lt_a14 (a k : Nat) (x1 x2 x3 x4 x5 x6 x7 x8 x9 x10 x11 x12 x13 x14 : Nat) (h : 0 < k) : a < a + k + x1 + x2 + x3 + x4 + x5 + x6 + x7 + x8 + x9 + x10 + x11 + x12 + x13 + x14 := by omega
@[go_sem] theorem lt_b14 (a j k : Nat) (x1 x2 x3 x4 x5 x6 x7 x8 x9 x10 x11 x12 x13 x14 : Nat) (h : j < k) : a + j < a + k + x1 + x2 + x3 + x4 + x5 + x6 + x7 + x8 + x9 + x10 + x11 + x12 + x13 + x14 := by omega
@[go_sem] theorem lt_c14 (b a k : Nat) (x1 x2 x3 x4 x5 x6 x7 x8 x9 x10 x11 x12 x13 x14 : Nat) (h : b < a) : b < a + k + x1 + x2 + x3 + x4 + x5 + x6 + x7 + x8 + x9 + x10 + x11 + x12 + x13 + x14 := by omega
@[go_sem] theorem lt_a15 (a k : Nat) (x1 x2 x3 x4 x5 x6 x7 x8 x9 x10 x11 x12 x13 x14 x15 : Nat) (h : 0 < k) : a < a + k + x1 + x2 + x3 + x4 + x5 + x6 + x7 + x8 + x9 + x10 + x11 + x12 + x13 + x14 + x15 := by omega
@[go_sem] theorem lt_b15 (a j k : Nat) (x1 x2 x3 x4 x5 x6 x7 x8 x9 x10 x11 x12 x13 x14 x15 : Nat) (h : j < k) : a + j < a + k + x1 + x2 + x3 + x4 + x5 + x6 + x7 + x8 + x9 + x10 + x11 + x12 + x13 + x14 + x15 := by omega
@[go_sem] theorem lt_c15 (b a k : Nat) (x1 x2 x3 x4 x5 x6 x7 x8 x9 x10 x11 x12 x13 x14 x15 : Nat) (h : b < a) : b < a + k + x1 + x2 + x3 + x4 + x5 + x6 + x7 + x8 + x9 + x10 + x11 + x12 + x13 + x14 + x15 := by omega
@[go_sem] theorem lt_a16 (a k : Nat) (x1 x2 x3 x4 x5 x6 x7 x8 x9 x10 x11 x12 x13 x14 x15 x16 : Nat) (h : 0 < k) : a < a + k + x1 + x2 + x3 + x4 + x5 + x6 + x7 + x8 + x9 + x10 + x11 + x12 + x13 + x14 + x15 + x16 := by omega
@[go_sem] theorem lt_b16 (a j k : Nat) (x1 x2 x3 x4 x5 x6 x7 x8 x9 x10 x11 x12 x13 x14 x15 x16 : Nat) (h : j < k) : a + j < a + k + x1 + x2 + x3 + x4 + x5 + x6 + x7 + x8 + x9 + x10 + x11 + x12 + x13 + x14 + x15 + x16 := by omega
@[go_sem] theorem lt_c16 (b a k : Nat) (x1 x2 x3 x4 x5 x6 x7 x8 x9 x10 x11 x12 x13 x14 x15 x16 : Nat) (h : b < a) : b < a + k + x1 + x2 + x3 + x4 + x5 + x6 + x7 + x8 + x9 + x10 + x11 + x12 + x13 + x14 + x15 + x16 := by omega
@[go_sem] theorem lt_a17 (a k : Nat) (x1 x2 x3 x4 x5 x6 x7 x8 x9 x10 x11 x12 x13 x14 x15 x16 x17 : Nat) (h : 0 < k) : a < a + k + x1 + x2 + x3 + x4 + x5 + x6 + x7 + x8 + x9 + x10 + x11 + x12 + x13 + x14 + x15 + x16 + x17 := by omega
@[go_sem] theorem lt_b17 (a j k : Nat) (x1 x2 x3 x4 x5 x6 x7 x8 x9 x10 x11 x12 x13 x14 x15 x16 x17 : Nat) (h : j < k) : a + j < a + k + x1 + x2 + x3 + x4 + x5 + x6 + x7 + x8 + x9 + x10 + x11 + x12 + x13 + x14 + x15 + x16 + x17 := by omega
@[go_sem] theorem lt_c17 (b a k : Nat) (x1 x2 x3 x4 x5 x6 x7 x8 x9 x10 x11 x12 x13 x14 x15 x16 x17 : Nat) (h : b < a) : b < a + k + x1 + x2 + x3 + x4 + x5 + x6 + x7 + x8 + x9 + x10 + x11 + x12 + x13 + x14 + x15 + x16 + x17 := by omega
@[go_sem] theorem lt_a18 (a k : Nat) (x1 x2 x3 x4 x5 x6 x7 x8 x9 x10 x11 x12 x13 x14 x15 x16 x17 x18 : Nat) (h : 0 < k) : a < a + k + x1 + x2 + x3 + x4 + x5 + x6 + x7 + x8 + x9 + x10 + x11 + x12 + x13 + x14 + x15 + x16 + x17 + x18 := by omega
@[go_sem] theorem lt_b18 (a j k : Nat) (x1 x2 x3 x4 x5 x6 x7 x8 x9 x10 x11 x12 x13 x14 x15 x16 x17 x18 : Nat) (h : j < k) : a + j < a + k + x1 + x2 + x3 + x4 + x5 + x6 + x7 + x8 + x9 + x10 + x11 + x12 + x13 + x14 + x15 + x16 + x17 + x18 := by omega
@[go_sem] theorem lt_c18 (b a k : Nat) (x1 x2 x3 x4 x5 x6 x7 x8 x9 x10 x11 x12 x13 x14 x15 x16 x17 x18 : Nat) (h : b < a) : b < a + k + x1 + x2 + x3 + x4 + x5 + x6 + x7 + x8 + x9 + x10 + x11 + x12 + x13 + x14 + x15 + x16 + x17 + x18 := by omega
@[go_sem] theorem lt_a19 (a k : Nat) (x1 x2 x3 x4 x5 x6 x7 x8 x9 x10 x11 x12 x13 x14 x15 x16 x17 x18 x19 : Nat) (h : 0 < k) : a < a + k + x1 + x2 + x3 + x4 + x5 + x6 + x7 + x8 + x9 + x10 + x11 + x12 + x13 + x14 + x15 + x16 + x17 + x18 + x19 := by omega
@[go_sem] theorem lt_b19 (a j k : Nat) (x1 x2 x3 x4 x5 x6 x7 x8 x9 x10 x11 x12 x13 x14 x15 x16 x17 x18 x19 : Nat) (h : j < k) : a + j < a + k + x1 + x2 + x3 + x4 + x5 + x6 + x7 + x8 + x9 + x10 + x11 + x12 + x13 + x14 + x15 + x16 + x17 + x18 + x19 := by omega
@[go_sem] theorem lt_c19 (b a k : Nat) (x1 x2 x3 x4 x5 x6 x7 x8 x9 x10 x11 x12 x13 x14 x15 x16 x17 x18 x19 : Nat) (h : b < a) : b < a + k + x1 + x2 + x3 + x4 + x5 + x6 + x7 + x8 + x9 + x10 + x11 + x12 + x13 + x14 + x15 + x16 + x17 + x18 + x19 := by omega
@[go_sem] theorem lt_a20 (a k : Nat) (x1 x2 x3 x4 x5 x6 x7 x8 x9 x10 x11 x12 x13 x14 x15 x16 x17 x18 x19 x20 : Nat) (h : 0 < k) : a < a + k + x1 + x2 + x3 + x4 + x5 + x6 + x7 + x8 + x9 + x10 + x11 + x12 + x13 + x14 + x15 + x16 + x17 + x18 + x19 + x20 := by omega
@[go_sem] theorem lt_b20 (a j k : Nat) (x1 x2 x3 x4 x5 x6 x7 x8 x9 x10 x11 x12 x13 x14 x15 x16 x17 x18 x19 x20 : Nat) (h : j < k) : a + j < a + k + x1 + x2 + x3 + x4 + x5 + x6 + x7 + x8 + x9 + x10 + x11 + x12 + x13 + x14 + x15 + x16 + x17 + x18 + x19 + x20 := by omega
@[go_sem] theorem lt_c20 (b a k : Nat) (x1 x2 x3 x4 x5 x6 x7 x8 x9 x10 x11 x12 x13 x14 x15 x16 x17 x18 x19 x20 : Nat) (h : b < a) : b < a + k + x1 + x2 + x3 + x4 + x5 + x6 + x7 + x8 + x9 + x10 + x11 + x12 + x13 + x14 + x15 + x16 + x17 + x18 + x19 + x20 := by omega
@[go_sem] theorem lt_a21 (a k : Nat) (x1 x2 x3 x4 x5 x6 x7 x8 x9 x10 x11 x12 x13 x14 x15 x16 x17 x18 x19 x20 x21 : Nat) (h : 0 < k) : a < a + k + x1 + x2 + x3 + x4 + x5 + x6 + x7 + x8 + x9 + x10 + x11 + x12 + x13 + x14 + x15 + x16 + x17 + x18 + x19 + x20 + x21 := by omega
@[go_sem] theorem lt_b21 (a j k : Nat) (x1 x2 x3 x4 x5 x6 x7 x8 x9 x10 x11 x12 x13 x14 x15 x16 x17 x18 x19 x20 x21 : Nat) (h : j < k) : a + j < a + k + x1 + x2 + x3 + x4 + x5 + x6 + x7 + x8 + x9 + x10 + x11 + x12 + x13 + x14 + x15 + x16 + x17 + x18 + x19 + x20 + x21 := by omega
@[go_sem] theorem lt_c21 (b a k : Nat) (x1 x2 x3 x4 x5 x6 x7 x8 x9 x10 x11 x12 x13 x14 x15 x16 x17 x18 x19 x20 x21 : Nat) (h : b < a) : b < a + k + x1 + x2 + x3 + x4 + x5 + x6 + x7 + x8 + x9 + x10 + x11 + x12 + x13 + x14 + x15 + x16 + x17 + x18 + x19 + x20 + x21 := by omega
end Go.Proofs.Ytfbodilmjkcihaa

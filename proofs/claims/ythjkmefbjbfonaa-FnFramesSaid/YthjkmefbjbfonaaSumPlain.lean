/- Plain facts of SumOf: its rounds on numbers below 2^32. No program in sight. -/
import Derived.Test.YthjkmefbjbfonaaVarPlain
namespace Go.Proofs.Ythjkmefbjbfonaa
open Go.RowKit

def crcBit (x : Nat) : Nat := if x % 2 = 1 then (x / 2) ^^^ 3988292384 else x / 2
def crcBits : Nat → Nat → Nat
  | 0, x => x
  | k + 1, x => crcBit (crcBits k x)
def crcTo (s : ByteArray) : Nat → Nat
  | 0 => 4294967295
  | k + 1 => crcBits 8 (crcTo s k ^^^ byteAt s k)
def sumOf (s : ByteArray) : Nat := crcTo s s.size ^^^ 4294967295

theorem xor_lt {a b : Nat} (ha : a < 4294967296) (hb : b < 4294967296) : a ^^^ b < 4294967296 := Nat.xor_lt_two_pow (n := 32) ha hb
theorem crcBit_lt {x : Nat} (h : x < 4294967296) : crcBit x < 4294967296 := by
  unfold crcBit
  split
  · exact xor_lt (by omega) (by decide)
  · omega
theorem crcBits_lt {x : Nat} (h : x < 4294967296) : ∀ k, crcBits k x < 4294967296
  | 0 => h
  | k + 1 => crcBit_lt (crcBits_lt h k)
theorem crcTo_lt (s : ByteArray) : ∀ k, crcTo s k < 4294967296
  | 0 => by show 4294967295 < 4294967296; omega
  | k + 1 => crcBits_lt (xor_lt (crcTo_lt s k) (by have := byteAt_lt s k; omega)) 8
theorem sumOf_lt (s : ByteArray) : sumOf s < 4294967296 := xor_lt (crcTo_lt s _) (by decide)
theorem i64_xor {a b : Nat} (ha : a < 4294967296) (hb : b < 4294967296) : bits .xor .i64 (a : Int) (b : Int) = ((a ^^^ b : Nat) : Int) := i64_xor_nat a b (by omega) (by omega)
def xorP (a : Nat) : Nat := a ^^^ 3988292384
def xorM (a : Nat) : Nat := a ^^^ 4294967295
theorem i64_xorP {a : Nat} (ha : a < 4294967296) : bits .xor .i64 (a : Int) 3988292384 = ((xorP a : Nat) : Int) := i64_xor (b := 3988292384) ha (by omega)
theorem i64_xorM {a : Nat} (ha : a < 4294967296) : bits .xor .i64 (a : Int) 4294967295 = ((xorM a : Nat) : Int) := i64_xor (b := 4294967295) ha (by omega)
theorem crcBit_odd {v : Nat} (h : v % 2 = 1) : crcBit v = xorP (v / 2) := by rw [crcBit, if_pos h]; rfl
theorem crcBit_even {v : Nat} (h : ¬ v % 2 = 1) : crcBit v = v / 2 := by rw [crcBit, if_neg h]
theorem sumOf_eq (s : ByteArray) : sumOf s = xorM (crcTo s s.size) := rfl
end Go.Proofs.Ythjkmefbjbfonaa

/- Plain facts of Unhex. No program in sight. -/
import Derived.Test.YtfcgijhiedlfgaaDoorHexPlain
import Derived.Shelf.Small.Strs
import Derived.Shelf.Strings.Search1
namespace Go.Proofs.YtfcgijhiedlfgaaDoor
open Go.RowKit

/-- What a figure is worth; -1 of what is none. -/
def unfig (b : Int) : Int := if 48 ≤ b ∧ b ≤ 57 then b - 48 else if 97 ≤ b ∧ b ≤ 102 then b - 97 + 10 else -1
theorem unfig_bd (b : Int) : -1 ≤ unfig b ∧ unfig b < 16 := by
  unfold unfig
  by_cases h1 : 48 ≤ b ∧ b ≤ 57
  · rw [if_pos h1]; omega
  · rw [if_neg h1]
    by_cases h2 : 97 ≤ b ∧ b ≤ 102
    · rw [if_pos h2]; omega
    · rw [if_neg h2]; omega
theorem indexByte_figs (c : UInt8) : Lib.indexByte figsB.data.toList c = unfig c.toNat := by
  have h : ∀ n : Fin 256, Lib.indexByte figsB.data.toList (UInt8.ofNat n.val) = unfig (n.val : Int) := by decide +kernel
  have := h ⟨c.toNat, UInt8.toNat_lt c⟩
  simpa using this
theorem indexByte_at (x : Nat) (h : x < 256) : Lib.indexByte figsB.data.toList (x : Int).toNat.toUInt8 = unfig x := by
  rw [indexByte_figs, Int.toNat_natCast]
  congr 2
  exact Nat.mod_eq_of_lt h
def pairB (s : ByteArray) (k : Nat) : UInt8 := UInt8.ofNat (16 * unfig (byteAt s (2 * k)) + unfig (byteAt s (2 * k + 1))).toNat
def unhexL (s : ByteArray) (k : Nat) : List UInt8 := (List.range k).map (pairB s)
theorem unhexL_length (s : ByteArray) (k : Nat) : (unhexL s k).length = k := by simp [unhexL]
theorem unhexL_succ (s : ByteArray) (k : Nat) : unhexL s (k + 1) = unhexL s k ++ [pairB s k] := by simp [unhexL, List.range_succ]
def figsTo (s : ByteArray) (k : Nat) : Prop := ∀ i, i < k → 0 ≤ unfig (byteAt s i)
theorem figsTo_succ {s : ByteArray} {k : Nat} (h : figsTo s k) (h1 : 0 ≤ unfig (byteAt s k)) : figsTo s (k + 1) := fun i hi => by
  by_cases e : i = k
  · rw [e]; exact h1
  · exact h i (by omega)
instance figsTo_dec (s : ByteArray) (k : Nat) : Decidable (figsTo s k) := by unfold figsTo; infer_instance
def unhexOk (s : ByteArray) : Bool := decide (s.size ≤ 40000 ∧ s.size % 2 = 0 ∧ figsTo s s.size)
def unhexS (s : ByteArray) : ByteArray := if unhexOk s = true then ⟨(unhexL s (s.size / 2)).toArray⟩ else ⟨#[]⟩
theorem unhex_yes {s : ByteArray} (h1 : s.size ≤ 40000) (h2 : s.size % 2 = 0) (h3 : figsTo s s.size) : unhexOk s = true ∧ unhexS s = ⟨(unhexL s (s.size / 2)).toArray⟩ := by
  have : unhexOk s = true := by unfold unhexOk; exact decide_eq_true ⟨h1, h2, h3⟩
  exact ⟨this, by rw [unhexS, if_pos this]⟩
theorem unhex_no {s : ByteArray} (h : ¬ (s.size ≤ 40000 ∧ s.size % 2 = 0 ∧ figsTo s s.size)) : unhexOk s = false ∧ unhexS s = ⟨#[]⟩ := by
  have : unhexOk s = false := by unfold unhexOk; exact decide_eq_false h
  exact ⟨this, by rw [unhexS, if_neg (by rw [this]; decide)]⟩
theorem unhex_bad {s : ByteArray} {k : Nat} (hk : k < s.size) (h : unfig (byteAt s k) < 0) : unhexOk s = false ∧ unhexS s = ⟨#[]⟩ :=
  unhex_no fun ⟨_, _, h3⟩ => by have := h3 k hk; omega
theorem bytesV_pair (s : ByteArray) (k : Nat) (h0 : 0 ≤ unfig (byteAt s (2 * k))) (h1 : 0 ≤ unfig (byteAt s (2 * k + 1))) :
    bytesV (unhexL s (k + 1)) = bytesV (unhexL s k) ++ [.int .u8 (16 * unfig (byteAt s (2 * k)) + unfig (byteAt s (2 * k + 1)))] := by
  have b0 := unfig_bd (byteAt s (2 * k))
  have b1 := unfig_bd (byteAt s (2 * k + 1))
  rw [unhexL_succ, bytesV_append]
  congr 1
  simp only [bytesV, pairB, List.map_cons, List.map_nil, UInt8.toNat_ofNat']
  rw [Nat.mod_eq_of_lt (by omega), Int.toNat_of_nonneg (by omega)]
end Go.Proofs.YtfcgijhiedlfgaaDoor

/- Plain facts of Hex and Unhex. No program in sight. -/
import Derived.Test.YtfcgijhiedlfgaaDoorVarPlain
namespace Go.Proofs.YtfcgijhiedlfgaaDoor
open Go.RowKit

def fig (y : Int) : Int := if y < 10 then 48 + y else 87 + y
theorem fig_bd {y : Int} (h0 : 0 ≤ y) (h1 : y < 16) : 0 ≤ fig y ∧ fig y < 256 := by unfold fig; split <;> omega
def hex2 (n : Nat) : List UInt8 := [UInt8.ofNat (fig ((n : Int) / 16)).toNat, UInt8.ofNat (fig ((n : Int) % 16)).toNat]
def hexL (l : List UInt8) : List UInt8 := l.flatMap fun b => hex2 b.toNat
theorem hexL_length (l : List UInt8) : (hexL l).length = 2 * l.length := by
  induction l with
  | nil => rfl
  | cons b l ih => simp only [hexL, List.flatMap_cons, List.length_append] at *; rw [ih]; simp [hex2]; omega
theorem hexL_snoc (l : List UInt8) (b : UInt8) : hexL (l ++ [b]) = hexL l ++ hex2 b.toNat := by simp [hexL]
theorem bytesV_hex2 (n : Nat) (h : n < 256) : bytesV (hex2 n) = [.int .u8 (fig ((n : Int) / 16)), .int .u8 (fig ((n : Int) % 16))] := by
  have h1 := fig_bd (y := (n : Int) / 16) (by omega) (by omega)
  have h2 := fig_bd (y := (n : Int) % 16) (by omega) (by omega)
  simp only [bytesV, hex2, List.map_cons, List.map_nil, UInt8.toNat_ofNat']
  rw [Nat.mod_eq_of_lt (by omega), Nat.mod_eq_of_lt (by omega), Int.toNat_of_nonneg h1.1, Int.toNat_of_nonneg h2.1]
theorem take_snoc (s : ByteArray) (k : Nat) (h : k < s.size) : s.data.toList.take (k + 1) = s.data.toList.take k ++ [s[k]] := by
  rw [List.take_succ_eq_append_getElem (by simpa using h)]; rfl
theorem hexL_take (s : ByteArray) (k : Nat) (h : k < s.size) : bytesV (hexL (s.data.toList.take (k + 1))) = bytesV (hexL (s.data.toList.take k)) ++ [.int .u8 (fig ((byteAt s k : Int) / 16)), .int .u8 (fig ((byteAt s k : Int) % 16))] := by
  rw [take_snoc s k h, hexL_snoc, bytesV_append, byteAt_eq h, bytesV_hex2 _ (byteAt_lt s k)]
theorem take_all (s : ByteArray) : s.data.toList.take s.size = s.data.toList := List.take_of_length_le (by rw [Array.length_toList]; exact Nat.le_refl _)
theorem length_take (s : ByteArray) (k : Nat) (h : k ≤ s.size) : (s.data.toList.take k).length = k := by
  rw [List.length_take, Array.length_toList]; exact Nat.min_eq_left h

/-- The figures' string. -/
def figsB : ByteArray := ⟨#[48, 49, 50, 51, 52, 53, 54, 55, 56, 57, 97, 98, 99, 100, 101, 102]⟩
theorem figs_at (y : Nat) (h : y < 16) : (byteAt figsB y : Int) = fig y := by
  have : y = 0 ∨ y = 1 ∨ y = 2 ∨ y = 3 ∨ y = 4 ∨ y = 5 ∨ y = 6 ∨ y = 7 ∨ y = 8 ∨ y = 9 ∨ y = 10 ∨ y = 11 ∨ y = 12 ∨ y = 13 ∨ y = 14 ∨ y = 15 := by omega
  rcases this with rfl | rfl | rfl | rfl | rfl | rfl | rfl | rfl | rfl | rfl | rfl | rfl | rfl | rfl | rfl | rfl <;> rfl
theorem run_figs {P : Program} {t : TypeId} (ht : P.underlying t = some .string) (k : IntKind) (y : Int) (h0 : 0 ≤ y) (h1 : y < 16) (w : World) :
    (Instr.index t (.string ⟨#[48, 49, 50, 51, 52, 53, 54, 55, 56, 57, 97, 98, 99, 100, 101, 102]⟩) (.int k y)).run P w = .ok (.int .u8 (fig y)) w := by
  have hs : (figsB.size : Int) = 16 := rfl
  show (Instr.index t (.string figsB) (.int k y)).run P w = _
  rw [run_index_string (w := w) t figsB k y ht, dif_pos ⟨h0, by omega⟩]
  have e := figs_at y.toNat (by omega)
  rw [← byteAt_eq (show y.toNat < figsB.size from by omega), Int.toNat_of_nonneg h0] at e
  rw [e]
theorem run_byte {P : Program} {t : TypeId} (ht : P.underlying t = some .string) (s : ByteArray) (k : IntKind) (i : Nat) (h : i < s.size) (w : World) :
    (Instr.index t (.string s) (.int k (i : Int))).run P w = .ok (.int .u8 (byteAt s i : Int)) w := by
  rw [run_index_string (w := w) t s k i ht, dif_pos ⟨by omega, by omega⟩, ← byteAt_eq h]
  rfl
end Go.Proofs.YtfcgijhiedlfgaaDoor

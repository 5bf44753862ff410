/- The walks of FourAt, the program's and the reference's. -/
import Derived.Test.YthjkmefbjbfonaaFourOf
import Derived.BigQuiet
import Derived.IntWalk
namespace Go.Proofs.Ythjkmefbjbfonaa
open Go.RowKit Go.ChangeShapes

set_option maxRecDepth 100000 in
theorem fourAt_impl (s : ByteArray) (p : Nat) (w : World) (h0 : p + 4 ≤ s.size) (hs : s.size ≤ 1048576) :
    Calls Try.prog 59 #[.string s, .int .i64 p] w fun e w' => e = .returned (.tuple #[.int .i64 (fourAt s p), .bool true]) ∧ Below w.heap.size w w' := by
  have hd2 : decide ((s.size : Int) - 4 < (p : Int)) = false := by simp; omega
  have h4 : (p : Int) + 4 ≤ s.size := by omega
  have h5 : (p : Int) ≤ (p : Int) + 4 := by omega
  have t4 : ((p : Int) + 4).toNat = p + 4 := by omega
  have hsz := Lib.hid (show (s.extract p (p + 4)).size = 4 by simp; omega)
  obtain ⟨cap, W1, hrun, hb1, hlt1, hcell⟩ := bytes_of_string (P := Try.prog) w 9 22 5 (s.extract p (p + 4)) Try.underlying9 Try.underlying22 Try.underlying5
  rw [hsz.out] at hrun hcell
  have HC : Hid (∀ k, k < 4 → W1.cell? ⟨w.heap.size, k, none⟩ = some (.int .u8 (byteAt s (p + k) : Int))) := Lib.hid fun k hk => by rw [hcell k hk, byteAt_extract (by omega) (by omega)]
  clear hcell
  go_enter Try.func59, Try.ntmps59
  go_wp2_with (first | (go_at_call 54; refine (within_t _ _ _ _ (by omega) (by omega)).mono ?_; rintro e w' ⟨rfl, rfl⟩))
  go_loop [6, 22] (fun n i => ∃ k : Nat, k ≤ 4 ∧ i = .int .i64 k ∧ n = .int .i64 (fourTo s p k)) (fun _ i => 4 - (intOf i).toNat)
  case atStart => exact ⟨0, by omega, rfl, rfl⟩
  case round =>
    obtain ⟨k, hk, rfl, rfl⟩ := hrel
    have hbd := fourTo_bd s p k
    have hle : (256 : Int) ^ k ≤ 4294967296 := by
      rcases (show k = 0 ∨ k = 1 ∨ k = 2 ∨ k = 3 ∨ k = 4 by omega) with rfl | rfl | rfl | rfl | rfl <;> decide
    obtain ⟨y, hy⟩ : ∃ y, y = fourTo s p k := ⟨_, rfl⟩
    have y0 : 0 ≤ y := by omega
    have y1 : y < 4294967296 := by omega
    rw [← hy]
    have HY := Lib.hid hy
    clear hy hbd hle
    by_cases hlt : k < 4
    · have hc := HC.out k hlt
      have hbl := byteAt_lt s (p + k)
      obtain ⟨x, hx⟩ : ∃ x, x = byteAt s (p + k) := ⟨_, rfl⟩
      rw [← hx] at hc hbl
      have HX := Lib.hid hx
      clear hx
      go_wp2
      go_round
      case rel => exact ⟨k + 1, by omega, by go_num, by rw [fourTo, ← HY.out, ← HX.out]⟩
      case measure => simp [intOf]; omega
    · obtain rfl : k = 4 := by omega
      go_wp2
      go_ret2
      exact ⟨by rw [← fourTo_four, ← HY.out]; rfl, hb1⟩

set_option maxRecDepth 100000 in
theorem fourAt_impl_no (s : ByteArray) (p : Int) (w : World) (h0 : p < 0 ∨ (s.size : Int) - 4 < p) (hs : s.size ≤ 1048576) :
    Calls Try.prog 59 #[.string s, .int .i64 p] w fun e w' => e = .returned (.tuple #[.int .i64 0, .bool false]) ∧ Below w.heap.size w w' := by
  have H := Lib.hid h0
  clear h0
  go_enter Try.func59, Try.ntmps59
  go_wp2_with (go_at_call 54; refine (within_f _ _ _ _ H.out).mono ?_; rintro e w' ⟨rfl, rfl⟩)
  go_ret2
  exact ⟨rfl, Below.refl _ _⟩

/-- FourAt, of whatever string and place: the number, and whether there is one. -/
def fourAtN (s : ByteArray) (p : Int) : Int := if 0 ≤ p ∧ p ≤ (s.size : Int) - 4 then fourAt s p.toNat else 0
def fourAtOk (s : ByteArray) (p : Int) : Bool := decide (0 ≤ p ∧ p ≤ (s.size : Int) - 4)
theorem fourAt_impl_any (s : ByteArray) (p : Int) (w : World) (hs : s.size ≤ 1048576) :
    Calls Try.prog 59 #[.string s, .int .i64 p] w fun e w' => e = .returned (.tuple #[.int .i64 (fourAtN s p), .bool (fourAtOk s p)]) ∧ Below w.heap.size w w' := by
  by_cases h : 0 ≤ p ∧ p ≤ (s.size : Int) - 4
  · rw [fourAtN, fourAtOk, if_pos h, decide_eq_true h]
    obtain ⟨q, rfl⟩ := Int.eq_ofNat_of_zero_le h.1
    exact fourAt_impl s q w (by omega) hs
  · rw [fourAtN, fourAtOk, if_neg h, decide_eq_false h]
    exact fourAt_impl_no s p w (by omega) hs
end Go.Proofs.Ythjkmefbjbfonaa

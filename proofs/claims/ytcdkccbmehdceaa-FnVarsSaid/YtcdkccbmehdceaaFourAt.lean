/- The walks of FourAt, the program's and the reference's. -/
import Derived.Test.YtcdkccbmehdceaaFourOf
import Derived.BigQuiet
import Derived.IntWalk
namespace Go.Proofs.Ytcdkccbmehdceaa
open Go.RowKit Go.ChangeShapes

set_option maxRecDepth 100000 in
theorem fourAt_spec (s : ByteArray) (p : Nat) (w : World) (h0 : p + 4 ≤ s.size) (hs : s.size ≤ 1048576) :
    Calls Try.prog 50 #[.string s, .int .i64 p] w fun e w' => e = .returned (.tuple #[.int .i64 (fourAt s p), .bool true]) ∧ Below w.heap.size w w' := by
  have hd1 : decide ((p : Int) < 0) = false := by simp
  have hd2 : decide ((s.size : Int) - 4 < (p : Int)) = false := by simp; omega
  have h1 : (p : Int) < s.size := by omega
  have h2 : (p : Int) + 1 < s.size := by omega
  have h3 : (p : Int) + 2 < s.size := by omega
  have h4 : (p : Int) + 3 < s.size := by omega
  have k1 : IntKind.i64.wrap ((p : Int) + 1) = (p : Int) + 1 := IntWalk.i64_in _ (by omega)
  have k2 : IntKind.i64.wrap ((p : Int) + 2) = (p : Int) + 2 := IntWalk.i64_in _ (by omega)
  have k3 : IntKind.i64.wrap ((p : Int) + 3) = (p : Int) + 3 := IntWalk.i64_in _ (by omega)
  have z1 : (0 : Int) ≤ (p : Int) + 1 := by omega
  have z2 : (0 : Int) ≤ (p : Int) + 2 := by omega
  have z3 : (0 : Int) ≤ (p : Int) + 3 := by omega
  have t1 : ((p : Int) + 1).toNat = p + 1 := by omega
  have t2 : ((p : Int) + 2).toNat = p + 2 := by omega
  have t3 : ((p : Int) + 3).toNat = p + 3 := by omega
  have b0 := byteAt_lt s p
  have b1 := byteAt_lt s (p + 1)
  have b2 := byteAt_lt s (p + 2)
  have b3 := byteAt_lt s (p + 3)
  have e0 := byteAt_eq (s := s) (i := p) (by omega)
  have e1 := byteAt_eq (s := s) (i := p + 1) (by omega)
  have e2 := byteAt_eq (s := s) (i := p + 2) (by omega)
  have e3 := byteAt_eq (s := s) (i := p + 3) (by omega)
  obtain ⟨x0, g0⟩ : ∃ x, x = byteAt s p := ⟨_, rfl⟩
  obtain ⟨x1, g1⟩ : ∃ x, x = byteAt s (p + 1) := ⟨_, rfl⟩
  obtain ⟨x2, g2⟩ : ∃ x, x = byteAt s (p + 2) := ⟨_, rfl⟩
  obtain ⟨x3, g3⟩ : ∃ x, x = byteAt s (p + 3) := ⟨_, rfl⟩
  have HF := Lib.hid (show fourAt s p = (x0 : Int) * 16777216 + (x1 : Int) * 65536 + (x2 : Int) * 256 + (x3 : Int) by rw [g0, g1, g2, g3]; rfl)
  rw [← g0] at b0 e0
  rw [← g1] at b1 e1
  rw [← g2] at b2 e2
  rw [← g3] at b3 e3
  clear g0 g1 g2 g3
  have w0 : IntKind.i64.wrap (x0 : Int) = (x0 : Int) := IntWalk.i64_in _ (by omega)
  have w1 : IntKind.i64.wrap (x1 : Int) = (x1 : Int) := IntWalk.i64_in _ (by omega)
  have w2 : IntKind.i64.wrap (x2 : Int) = (x2 : Int) := IntWalk.i64_in _ (by omega)
  have w3 : IntKind.i64.wrap (x3 : Int) = (x3 : Int) := IntWalk.i64_in _ (by omega)
  have m0 : IntKind.i64.wrap ((x0 : Int) * 16777216) = (x0 : Int) * 16777216 := IntWalk.i64_in _ (by omega)
  have m1 : IntKind.i64.wrap ((x1 : Int) * 65536) = (x1 : Int) * 65536 := IntWalk.i64_in _ (by omega)
  have m2 : IntKind.i64.wrap ((x2 : Int) * 256) = (x2 : Int) * 256 := IntWalk.i64_in _ (by omega)
  have s1 : IntKind.i64.wrap ((x0 : Int) * 16777216 + (x1 : Int) * 65536) = (x0 : Int) * 16777216 + (x1 : Int) * 65536 := IntWalk.i64_in _ (by omega)
  have s2 : IntKind.i64.wrap ((x0 : Int) * 16777216 + (x1 : Int) * 65536 + (x2 : Int) * 256) = (x0 : Int) * 16777216 + (x1 : Int) * 65536 + (x2 : Int) * 256 := IntWalk.i64_in _ (by omega)
  have s3 : IntKind.i64.wrap ((x0 : Int) * 16777216 + (x1 : Int) * 65536 + (x2 : Int) * 256 + (x3 : Int)) = (x0 : Int) * 16777216 + (x1 : Int) * 65536 + (x2 : Int) * 256 + (x3 : Int) := IntWalk.i64_in _ (by omega)
  clear b0 b1 b2 b3
  go_enter Try.func50, Try.ntmps50
  go_wp2
  go_quiet (fail)
  go_wp2
  go_ret2
  exact ⟨by rw [HF.out]; rfl, below_drewN (Below.refl _ _) _⟩
set_option maxRecDepth 100000 in
theorem fourAt_impl (s : ByteArray) (p : Nat) (w : World) (h0 : p + 4 ≤ s.size) (hs : s.size ≤ 1048576) :
    Calls Try.prog 27 #[.string s, .int .i64 p] w fun e w' => e = .returned (.tuple #[.int .i64 (fourAt s p), .bool true]) ∧ Below w.heap.size w w' := by
  have hd2 : decide ((s.size : Int) - 4 < (p : Int)) = false := by simp; omega
  have h4 : (p : Int) + 4 ≤ s.size := by omega
  have h5 : (p : Int) ≤ (p : Int) + 4 := by omega
  have t4 : ((p : Int) + 4).toNat = p + 4 := by omega
  have hsz := Lib.hid (show (s.extract p (p + 4)).size = 4 by simp; omega)
  obtain ⟨cap, W1, hrun, hb1, hlt1, hcell⟩ := bytes_of_string (P := Try.prog) w 9 30 5 (s.extract p (p + 4)) Try.underlying9 Try.underlying30 Try.underlying5
  rw [hsz.out] at hrun hcell
  have HC : Hid (∀ k, k < 4 → W1.cell? ⟨w.heap.size, k, none⟩ = some (.int .u8 (byteAt s (p + k) : Int))) := Lib.hid fun k hk => by rw [hcell k hk, byteAt_extract (by omega) (by omega)]
  clear hcell
  go_enter Try.func27, Try.ntmps27
  go_wp2_with (first | (go_at_call 45; refine (within_t _ _ _ _ (by omega) (by omega)).mono ?_; rintro e w' ⟨rfl, rfl⟩))
  go_loop [6, 22] (fun n i => ∃ k : Nat, k ≤ 4 ∧ i = .int .i64 k ∧ n = .int .i64 (fourTo s p k)) (fun _ i => 4 - (intOf i).toNat)
  case atStart => exact ⟨0, by omega, rfl, rfl⟩
  case round =>
    obtain ⟨k, hk, rfl, rfl⟩ := hrel
    have hbd := fourTo_bd s p k
    have hle : (256 : Int) ^ k ≤ 4294967296 := by
      rcases (show k = 0 ∨ k = 1 ∨ k = 2 ∨ k = 3 ∨ k = 4 by omega) with rfl | rfl | rfl | rfl | rfl <;> decide
    obtain ⟨y, hy⟩ : ∃ y, y = fourTo s p k := ⟨_, rfl⟩
    have y0 : 0 ≤ y := by omega
    have y1 : y < 4294967296 := by omega
    rw [← hy]
    have HY := Lib.hid hy
    clear hy hbd hle
    by_cases hlt : k < 4
    · have hc := HC.out k hlt
      have hbl := byteAt_lt s (p + k)
      obtain ⟨x, hx⟩ : ∃ x, x = byteAt s (p + k) := ⟨_, rfl⟩
      rw [← hx] at hc hbl
      have HX := Lib.hid hx
      clear hx
      go_wp2
      go_round
      case rel => exact ⟨k + 1, by omega, by go_num, by rw [fourTo, ← HY.out, ← HX.out]⟩
      case measure => simp [intOf]; omega
    · obtain rfl : k = 4 := by omega
      go_wp2
      go_ret2
      exact ⟨by rw [← fourTo_four, ← HY.out]; rfl, hb1⟩

set_option maxRecDepth 100000 in
theorem fourAt_impl_no (s : ByteArray) (p : Int) (w : World) (h0 : p < 0 ∨ (s.size : Int) - 4 < p) (hs : s.size ≤ 1048576) :
    Calls Try.prog 27 #[.string s, .int .i64 p] w fun e w' => e = .returned (.tuple #[.int .i64 0, .bool false]) ∧ Below w.heap.size w w' := by
  have H := Lib.hid h0
  clear h0
  go_enter Try.func27, Try.ntmps27
  go_wp2_with (go_at_call 45; refine (within_f _ _ _ _ H.out).mono ?_; rintro e w' ⟨rfl, rfl⟩)
  go_ret2
  exact ⟨rfl, Below.refl _ _⟩

set_option maxRecDepth 100000 in
theorem fourAt_spec_no (s : ByteArray) (p : Int) (w : World) (h0 : p < 0 ∨ (s.size : Int) - 4 < p) (hs : s.size ≤ 1048576) :
    Calls Try.prog 50 #[.string s, .int .i64 p] w fun e w' => e = .returned (.tuple #[.int .i64 0, .bool false]) ∧ Below w.heap.size w w' := by
  by_cases hn : p < 0
  · clear h0
    go_enter Try.func50, Try.ntmps50
    go_wp2
    go_ret2
    exact ⟨rfl, Below.refl _ _⟩
  · have h1 : (s.size : Int) - 4 < p := by omega
    clear h0
    go_enter Try.func50, Try.ntmps50
    go_wp2
    go_ret2
    exact ⟨rfl, Below.refl _ _⟩

/-- FourAt, of whatever string and place: the number, and whether there is one. -/
def fourAtN (s : ByteArray) (p : Int) : Int := if 0 ≤ p ∧ p ≤ (s.size : Int) - 4 then fourAt s p.toNat else 0
def fourAtOk (s : ByteArray) (p : Int) : Bool := decide (0 ≤ p ∧ p ≤ (s.size : Int) - 4)
theorem fourAt_impl_any (s : ByteArray) (p : Int) (w : World) (hs : s.size ≤ 1048576) :
    Calls Try.prog 27 #[.string s, .int .i64 p] w fun e w' => e = .returned (.tuple #[.int .i64 (fourAtN s p), .bool (fourAtOk s p)]) ∧ Below w.heap.size w w' := by
  by_cases h : 0 ≤ p ∧ p ≤ (s.size : Int) - 4
  · rw [fourAtN, fourAtOk, if_pos h, decide_eq_true h]
    obtain ⟨q, rfl⟩ := Int.eq_ofNat_of_zero_le h.1
    exact fourAt_impl s q w (by omega) hs
  · rw [fourAtN, fourAtOk, if_neg h, decide_eq_false h]
    exact fourAt_impl_no s p w (by omega) hs
theorem fourAt_spec_any (s : ByteArray) (p : Int) (w : World) (hs : s.size ≤ 1048576) :
    Calls Try.prog 50 #[.string s, .int .i64 p] w fun e w' => e = .returned (.tuple #[.int .i64 (fourAtN s p), .bool (fourAtOk s p)]) ∧ Below w.heap.size w w' := by
  by_cases h : 0 ≤ p ∧ p ≤ (s.size : Int) - 4
  · rw [fourAtN, fourAtOk, if_pos h, decide_eq_true h]
    obtain ⟨q, rfl⟩ := Int.eq_ofNat_of_zero_le h.1
    exact fourAt_spec s q w (by omega) hs
  · rw [fourAtN, fourAtOk, if_neg h, decide_eq_false h]
    exact fourAt_spec_no s p w (by omega) hs
end Go.Proofs.Ytcdkccbmehdceaa

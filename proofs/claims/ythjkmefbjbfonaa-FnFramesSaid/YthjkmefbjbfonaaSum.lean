/- The walks of SumOf, the program's and the reference's. -/
import Derived.Test.YthjkmefbjbfonaaSumPlain
import Derived.Test.YthjkmefbjbfonaaHexPlain
import Derived.Test.YthjkmefbjbfonaaVarText
namespace Go.Proofs.Ythjkmefbjbfonaa
open Go.RowKit Go.ChangeShapes

set_option maxRecDepth 100000 in
theorem sumOf_impl (s : ByteArray) (w : World) (hs : s.size ≤ 1048576) :
    Calls Try.prog 57 #[.string s] w fun e w' => e = .returned (.int .i64 (sumOf s)) ∧ w = w' := by
  go_enter Try.func57, Try.ntmps57
  go_wp2
  go_loop [3, 4, 5, 6] (fun x i _ _ => ∃ k : Nat, k ≤ s.size ∧ i = .int .i64 k ∧ x = .int .i64 (crcTo s k)) (fun _ i _ _ => s.size - (intOf i).toNat)
  case atStart => exact ⟨0, Nat.zero_le _, rfl, rfl⟩
  case round =>
    obtain ⟨k, hk, rfl, rfl⟩ := hrel
    have hx := crcTo_lt s k
    by_cases hlt : k < s.size
    · have hbl := byteAt_lt s k
      have e0 := run_byte (P := Try.prog) Try.underlying9 s .i64 k hlt
      have HT := Lib.hid (show crcTo s (k + 1) = crcBits 8 (crcTo s k ^^^ byteAt s k) from rfl)
      obtain ⟨x, hxx⟩ : ∃ x, x = byteAt s k := ⟨_, rfl⟩
      rw [← hxx] at hbl e0 HT
      obtain ⟨y, hyy⟩ : ∃ y, y = crcTo s k := ⟨_, rfl⟩
      rw [← hyy] at hx HT ⊢
      clear hxx hyy
      have hb1 : (x : Int) < 256 := by omega
      have hxor : bits .xor .i64 (y : Int) (x : Int) = ((y ^^^ x : Nat) : Int) := i64_xor (by omega) (by omega)
      have hz : y ^^^ x < 4294967296 := xor_lt (by omega) (by omega)
      obtain ⟨z, hzz⟩ : ∃ z, z = y ^^^ x := ⟨_, rfl⟩
      rw [← hzz] at hz hxor HT
      clear hzz
      go_wp2
      clear e0 hxor hbl hb1
      go_loop [3, 5, 6] (fun v c _ => ∃ j : Nat, j ≤ 8 ∧ c = .int .i64 j ∧ v = .int .i64 (crcBits j z)) (fun _ c _ => 8 - (intOf c).toNat)
      case atStart => exact ⟨0, by omega, rfl, rfl⟩
      case round =>
        obtain ⟨j, hj, rfl, rfl⟩ := hrel
        have hv := crcBits_lt hz j
        by_cases hl8 : j < 8
        · have HJ := Lib.hid (show crcBits (j + 1) z = crcBit (crcBits j z) from rfl)
          obtain ⟨v, hvv⟩ : ∃ v, v = crcBits j z := ⟨_, rfl⟩
          rw [← hvv] at hv HJ ⊢
          clear hvv hz
          obtain ⟨q, hq⟩ : ∃ q : Int, q = (v : Int) := ⟨_, rfl⟩
          have hq0 : 0 ≤ q := by omega
          have hq1 : q < 4294967296 := by omega
          by_cases hodd : v % 2 = 1
          · have h1 : ((q % 2) == 1) = true := by simp; omega
            have h2 : bits .xor .i64 (q / 2) 3988292384 = ((xorP (v / 2) : Nat) : Int) := by
              rw [show q / 2 = ((v / 2 : Nat) : Int) by omega]
              exact i64_xorP (by omega)
            have HB := Lib.hid (crcBit_odd hodd)
            rw [← hq]
            clear hodd hv hq
            go_wp2
            go_round
            case rel => exact ⟨j + 1, by omega, by go_num, by rw [HJ.out, HB.out]⟩
            case measure => simp [intOf]; omega
          · have h1 : ((q % 2) == 1) = false := by simp; omega
            have HB := Lib.hid (show ((crcBit v : Nat) : Int) = q / 2 by rw [crcBit_even hodd]; omega)
            rw [← hq]
            clear hodd hv hq
            go_wp2
            go_round
            case rel => exact ⟨j + 1, by omega, by go_num, by rw [HJ.out, HB.out]⟩
            case measure => simp [intOf]; omega
        · obtain rfl : j = 8 := by omega
          rw [← HT.out]
          clear hv
          go_wp2
          go_round
          case rel => exact ⟨k + 1, by omega, by go_num, rfl⟩
          case measure => simp [intOf]; omega
    · obtain rfl : k = s.size := by omega
      have hxor : bits .xor .i64 ((crcTo s s.size : Nat) : Int) 4294967295 = ((sumOf s : Nat) : Int) := i64_xorM hx
      clear hx
      go_wp2
      go_ret
      exact ⟨rfl, rfl⟩

theorem sumOf_impl_any (s : ByteArray) (w : World) (hs : s.size ≤ 1048576) : Calls Try.prog 57 #[.string s] w fun e w' => e = .returned (.int .i64 (sumOf s)) ∧ Below w.heap.size w w' :=
  (sumOf_impl s w hs).mono fun _ _ ⟨he, hw⟩ => ⟨he, by rw [← hw]; exact Below.refl _ _⟩

end Go.Proofs.Ythjkmefbjbfonaa

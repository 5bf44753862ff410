/- The walks of VarText, the program's and the reference's: both return the bytes of the number. -/
import Derived.Test.YthjkmefbjbfonaaVarPlain
import Derived.Test.YthjkmefbjbfonaaRows
import Derived.WalkKit
import Derived.OpenShut
namespace Go.Proofs.Ythjkmefbjbfonaa
open Go.RowKit Go.ChangeShapes

theorem Try.infoU8 : (Try.prog.info? 5).map (fun i => (i.zero, i.size, i.bytes)) = some (some (.int .u8 0), 1, 1) := by kernel_rfl

theorem within_t (n lo hi : Int) (w : World) (h0 : lo ≤ n) (h1 : n ≤ hi) : Calls Try.prog 54 #[.int .i64 n, .int .i64 lo, .int .i64 hi] w fun e w' => e = .returned (.bool true) ∧ w = w' := by
  go_enter Try.func54, Try.ntmps54
  go_wp2
  go_ret
  exact ⟨rfl, rfl⟩
theorem within_f (n lo hi : Int) (w : World) (h : n < lo ∨ hi < n) : Calls Try.prog 54 #[.int .i64 n, .int .i64 lo, .int .i64 hi] w fun e w' => e = .returned (.bool false) ∧ w = w' := by
  by_cases h0 : lo ≤ n
  · have h1 : decide (n ≤ hi) = false := by simp; omega
    clear h
    go_enter Try.func54, Try.ntmps54
    go_wp2
    go_ret
    exact ⟨rfl, rfl⟩
  · clear h
    go_enter Try.func54, Try.ntmps54
    go_wp2
    go_ret
    exact ⟨rfl, rfl⟩
theorem l01In_t (n lo hi : Int) (w : World) (h0 : lo ≤ n) (h1 : n ≤ hi) : Calls Try.prog 89 #[.int .i64 n, .int .i64 lo, .int .i64 hi] w fun e w' => e = .returned (.bool true) ∧ w = w' := by
  go_enter Try.func89, Try.ntmps89
  go_wp2
  go_ret
  exact ⟨rfl, rfl⟩
theorem l01In_f (n lo hi : Int) (w : World) (h : n < lo ∨ hi < n) : Calls Try.prog 89 #[.int .i64 n, .int .i64 lo, .int .i64 hi] w fun e w' => e = .returned (.bool false) ∧ w = w' := by
  by_cases h0 : lo ≤ n
  · have h1 : decide (n ≤ hi) = false := by simp; omega
    clear h
    go_enter Try.func89, Try.ntmps89
    go_wp2
    go_ret
    exact ⟨rfl, rfl⟩
  · clear h
    go_enter Try.func89, Try.ntmps89
    go_wp2
    go_ret
    exact ⟨rfl, rfl⟩

set_option maxHeartbeats 400000 in
set_option maxRecDepth 100000 in
theorem varText_impl (n : Int) (w : World) (h0 : 0 ≤ n) (h1 : n ≤ 1000000000) :
    Calls Try.prog 55 #[.int .i64 n] w fun e w' => e = .returned (.string ⟨(vtL 5 n.toNat).toArray⟩) ∧ Below w.heap.size w w' := by
  obtain ⟨i0, hi, hz0, hz1, hz2⟩ := info_parts Try.infoU8
  obtain ⟨m0, rfl⟩ := Int.eq_ofNat_of_zero_le h0
  rw [Int.toNat_natCast]
  go_enter Try.func55, Try.ntmps55
  go_wp2_with (go_at_call 54; refine (within_t _ _ _ _ (by omega) (by omega)).mono ?_; rintro e w' ⟨rfl, rfl⟩)
  go_loopw [0, 3] (fun u v wr => ∃ (m f : Nat) (l : List UInt8), u = .int .i64 m ∧ (m : Int) ≤ 1000000000 ∧ 1 ≤ f ∧ l.length + f = 5 ∧ Hid (m < 128 ^ f) ∧ Hid (l ++ vtL f m = vtL 5 m0) ∧ wr.ownsRow w.heap.size 5 1 v l.length (bytesV l) ∧ Below w.heap.size w wr)
    (fun u _ _ => (intOf u).toNat)
  case atStart => exact ⟨m0, 5, [], rfl, by omega, by omega, rfl, (show m0 < 128 ^ 5 by omega), rfl, World.ownsRow_nil _ _ _ _, Below.refl _ _⟩
  case round =>
    obtain ⟨m, f, l, rfl, hm, hf, hlf, hmf, hl, hown, hb⟩ := hrel
    by_cases hlt : m < 128
    · have hu : (UInt8.ofNat m).toNat = m := by simp; omega
      have H := Lib.hid hu
      clear hu
      have HL := Lib.hid (show vtL 5 m0 = l ++ [UInt8.ofNat m] by rw [← hl.out, vt_last f m hf hlt])
      clear hl hmf
      go_wp2_with (at_builtin; go_loud (refine wpList_append_new rfl _ _ _ rfl w.heap.size _ i0 _ 1 1 Try.underlying22 hi hz0 hz1 hz2 rfl (by decide) u3 l.length (bytesV l) rfl hown hb hb.size _ 1 1 rfl rfl (by intro u hu; simp at hu; subst hu; rfl) ⟨by omega, by omega⟩ ?_); intro v1 w1 hown1 hb1 hg1 hat1; have hcv := run_string_own (dst := 9) (l := l ++ [UInt8.ofNat m]) Try.underlying22 Try.underlying5 Try.underlying9 (by rw [bytesV_append]; simpa [bytesV, H.out] using hown1); clear hown hg1 hat1 hown1)
      go_ret
      exact ⟨ret_str (by rw [HL.out]), hb1⟩
    · obtain ⟨f', rfl, hf', hm', hl'⟩ := vt_step f m hmf.out (by omega)
      have hu : (m : Int) % 128 + 128 = ((UInt8.ofNat (m % 128 + 128)).toNat : Int) := by rw [UInt8.toNat_ofNat']; omega
      have H := Lib.hid hu
      clear hu
      have HL := Lib.hid (show (l ++ [UInt8.ofNat (m % 128 + 128)]) ++ vtL f' (m / 128) = vtL 5 m0 by rw [← hl.out, hl']; simp)
      have HM := Lib.hid hm'
      clear hl hmf hl' hm'
      go_wp2_with (at_builtin; go_loud (refine wpList_append_new rfl _ _ _ rfl w.heap.size _ i0 _ 1 1 Try.underlying22 hi hz0 hz1 hz2 rfl (by decide) u3 l.length (bytesV l) rfl hown hb hb.size _ 1 1 rfl rfl (by intro u hu; simp at hu; subst hu; rfl) ⟨by omega, by omega⟩ ?_); intro v1 w1 hown1 hb1 hg1 hat1)
      go_roundw
      case rel => exact ⟨m / 128, f', l ++ [UInt8.ofNat (m % 128 + 128)], by go_num, by omega, hf', by simp; omega, HM, HL, by rw [H.out] at hown1; simpa [bytesV] using hown1, hb1⟩
      case measure => simp [intOf]; omega
set_option maxRecDepth 100000 in
theorem varText_impl_no (n : Int) (w : World) (h : n < 0 ∨ 1000000000 < n) :
    Calls Try.prog 55 #[.int .i64 n] w fun e w' => e = .returned (.string ⟨#[]⟩) ∧ Below w.heap.size w w' := by
  have H := Lib.hid h
  clear h
  go_enter Try.func55, Try.ntmps55
  go_wp2_with (go_at_call 54; refine (within_f _ _ _ _ H.out).mono ?_; rintro e w' ⟨rfl, rfl⟩)
  go_ret
  exact ⟨rfl, Below.refl _ _⟩

/-- VarText, of whatever number. -/
theorem varText_impl_any (n : Int) (w : World) : Calls Try.prog 55 #[.int .i64 n] w fun e w' => e = .returned (.string (varText n)) ∧ Below w.heap.size w w' := by
  by_cases h : 0 ≤ n ∧ n ≤ 1000000000
  · rw [varText, if_pos h]; exact varText_impl n w h.1 h.2
  · rw [varText, if_neg h]; exact varText_impl_no n w (by omega)
end Go.Proofs.Ythjkmefbjbfonaa

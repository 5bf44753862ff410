/- The reference's Decimal at a size: a short text that is not empty. -/
import Derived.Test.YthjkmefbjbfonaaHex
namespace Go.Proofs.Ythjkmefbjbfonaa
set_option linter.unusedSimpArgs false
set_option linter.unusedVariables false
open Go.RowKit Go.ChangeShapes Go.Deep

def DecS (w0 : World) (e : Ending) (w' : World) : Prop := ∃ s : ByteArray, e = .returned (.string s) ∧ 1 ≤ s.size ∧ s.size ≤ 20 ∧ Below w0.heap.size w0 w'
theorem ten_le {m k : Nat} (hm : m ≠ 0) (h : m * 10 ^ k ≤ 10000000) : k ≤ 7 := by
  refine Decidable.byContradiction fun hk => ?_
  have h1 : 10 ^ 8 ≤ 10 ^ k := Nat.pow_le_pow_right (by omega) (by omega)
  have h2 : 1 * 10 ^ k ≤ m * 10 ^ k := Nat.mul_le_mul_right _ (by omega)
  omega
theorem ten_next {m k : Nat} (h : m * 10 ^ k ≤ 10000000) : (m / 10) * 10 ^ (k + 1) ≤ 10000000 := by
  rw [Nat.pow_succ, ← Nat.mul_assoc, Nat.mul_right_comm]
  exact Nat.le_trans (Nat.mul_le_mul_right _ (by omega)) h
set_option maxHeartbeats 2000000 in
set_option maxRecDepth 100000 in
theorem decimal_small (n : Nat) (w : World) (hn : n ≤ 1048576) : Calls Try.prog 31 #[.int .i64 (n : Int)] w (DecS w) := by
  by_cases h0 : n = 0
  · subst h0
    go_enter Try.func31, Try.ntmps31
    go_wp2
    go_ret
    exact ⟨⟨#[48]⟩, rfl, by decide, by decide, Below.refl _ _⟩
  · have t0 : ((n : Int) == 0) = false := beq_eq_false_iff_ne.2 (by omega)
    have t1 : decide ((n : Int) < 0) = false := decide_eq_false (by omega)
    have HN := Lib.hid h0
    clear h0
    go_enter Try.func31, Try.ntmps31
    go_wp2_with fail
    go_loopw [0, 4] (fun a b wr => ∃ (m : Nat) (s : ByteArray), a = .int .i64 m ∧ b = .string s ∧ s.size ≤ 8 ∧ m ≤ 10000000 ∧ Hid (m = 0 → 1 ≤ s.size) ∧ Hid (m ≠ 0 → m * 10 ^ s.size ≤ 10000000) ∧ Hid (Below w.heap.size w wr)) (fun a _ _ => (intOf a).toNat)
    case atStart => exact ⟨n, ⟨#[]⟩, rfl, rfl, by decide, by omega, Lib.hid (fun h => absurd h HN.out), Lib.hid (fun _ => by show n * 10 ^ 0 ≤ _; omega), Lib.hid (Below.refl _ _)⟩
    case round =>
      obtain ⟨m, s, rfl, rfl, hs, hm, H1, H2, HB⟩ := hrel
      have hb := HB.out.size
      by_cases hm0 : m = 0
      · have tm : ((m : Int) != 0) = false := by rw [hm0]; rfl
        have hs1 := H1.out hm0
        clear hm0
        go_wp2_with fail
        go_ret
        exact ⟨s, rfl, hs1, by omega, HB.out⟩
      · have tm : ((m : Int) != 0) = true := by rw [bne_iff_ne]; omega
        have h2 := H2.out hm0
        have h7 := ten_le hm0 h2
        have H3 := Lib.hid (ten_next h2)
        obtain ⟨y, hy⟩ : ∃ y : Nat, (y : Int) = (m : Int) % 10 := ⟨m % 10, by omega⟩
        have hy0 : ¬ ((y : Int) < 0) := by omega
        have hy1 : y < 10 := by omega
        have CF := Lib.hid (fun w => l01Figure_any (y : Int) w (by omega) (by omega))
        obtain ⟨f, hf⟩ : ∃ f : Nat, (f : Int) = fig (y : Int) ∧ f < 256 := by
          have hb := fig_bd (y := (y : Int)) (by omega) (by omega)
          exact ⟨(fig (y : Int)).toNat, by omega, by omega⟩
        obtain ⟨hf, hf2⟩ := hf
        rw [← hf] at CF
        have y1 : (m : Int) % 10 = (y : Int) := hy.symm
        have y2 : (m : Int).tmod 10 = (y : Int) := by rw [Int.tmod_eq_emod_of_nonneg (by omega)]; exact y1
        have y3 : (m : Int).tdiv 10 = ((m / 10 : Nat) : Int) := by rw [Int.tdiv_eq_ediv_of_nonneg (by omega)]; rfl
        have z1 : ¬ 9223372036854775807 < 1 + s.size := by omega
        clear hf h2 hy
        go_wp2_with fail
        refine (CF.out _).mono ?_
        rintro e w1 ⟨rfl, rfl⟩
        have hcv : (convert 22 9 (.slice (some ⟨wr.heap.size, 0, none⟩) 1 1)).run Try.prog (wr.alloc (.cells #[.int .u8 (f : Int)] 5)) = .ok (.string ⟨#[UInt8.ofNat f]⟩) (wr.alloc (.cells #[.int .u8 (f : Int)] 5)) :=
          run_convert_bytes_arg _ 22 5 Try.underlying22 Try.underlying5 _ 0 1 1 [(f : Int)] rfl (fun i hi => by
            have : i = 0 := by omega
            subst this
            rw [World.cell?_alloc_at _ _ _ _ rfl]
            rfl) 9 Try.underlying9
        go_wp2_with fail
        go_roundw
        case rel =>
          have hsz : ((⟨#[UInt8.ofNat f]⟩ : ByteArray) ++ s).size = s.size + 1 := by rw [ByteArray.size_append]; show 1 + s.size = _; omega
          exact ⟨m / 10, ⟨#[UInt8.ofNat f]⟩ ++ s, by first | rfl | go_num, rfl, by rw [hsz]; omega, by omega, Lib.hid (fun _ => by rw [hsz]; omega), Lib.hid (fun _ => by rw [hsz]; exact H3.out), Lib.hid (HB.out.alloc hb _)⟩
        case measure => simp [intOf]; omega
end Go.Proofs.Ythjkmefbjbfonaa

/- Plain laws of the words: a number comes back from its bytes; one turned byte turns the sum. No program in sight. -/
import Derived.Test.YthjkmefbjbfonaaVarAtPlain
import Derived.Test.YthjkmefbjbfonaaSumPlain
namespace Go.Proofs.Ythjkmefbjbfonaa
open Go.RowKit

/-! ### A number comes back from its bytes -/
theorem vt_back (s : ByteArray) : ∀ (f p n : Nat), n < 128 ^ f → 1 ≤ f → p + (vtL f n).length ≤ s.size → from_ s p (vtL f n).length = vtL f n →
    ∃ k, (vtL f n).length = k + 1 ∧ k < f ∧ (∀ j, j < k → 128 ≤ byteAt s (p + j)) ∧ byteAt s (p + k) < 128 ∧ vacc s p (k + 1) = n
  | 0, _, _, _, hf, _, _ => by omega
  | f + 1, p, n, hn, _, hp, he => by
    by_cases h : n < 128
    · have e1 : vtL (f + 1) n = [UInt8.ofNat n] := by rw [vtL, if_pos h]
      rw [e1] at he hp ⊢
      simp only [List.length_cons, List.length_nil] at he hp ⊢
      rw [from_succ s p 0 (by omega)] at he
      have hb : byteAt s p = n := by
        have h1 := congrArg (fun l : List UInt8 => (l.headD 0).toNat) he
        simp only [List.headD_cons, UInt8.toNat_ofNat'] at h1
        rwa [Nat.mod_eq_of_lt (byteAt_lt s p), Nat.mod_eq_of_lt (by omega)] at h1
      exact ⟨0, rfl, by omega, fun j hj => by omega, by rw [Nat.add_zero, hb]; exact h, by simp [vacc, hb]; omega⟩
    · have e1 : vtL (f + 1) n = UInt8.ofNat (n % 128 + 128) :: vtL f (n / 128) := by rw [vtL, if_neg h]
      rw [e1] at he hp ⊢
      simp only [List.length_cons] at he hp ⊢
      rw [from_succ s p _ (by omega)] at he
      have hb : byteAt s p = n % 128 + 128 := by
        have h1 := congrArg (fun l : List UInt8 => (l.headD 0).toNat) he
        simp only [List.headD_cons, UInt8.toNat_ofNat'] at h1
        rwa [Nat.mod_eq_of_lt (byteAt_lt s p), Nat.mod_eq_of_lt (by omega)] at h1
      have hf1 : 1 ≤ f := by
        rcases Nat.eq_zero_or_pos f with rfl | h0
        · simp at hn; omega
        · exact h0
      obtain ⟨k, h1, h2, h3, h4, h5⟩ := vt_back s f (p + 1) (n / 128) (by rw [Nat.pow_succ] at hn; exact Nat.div_lt_of_lt_mul (by rw [Nat.mul_comm]; exact hn)) hf1 (by omega) (by injection he)
      refine ⟨k + 1, by omega, by omega, fun j hj => ?_, by rw [show p + (k + 1) = p + 1 + k by omega]; exact h4, ?_⟩
      · rcases j with _ | j
        · rw [Nat.add_zero, hb]; omega
        · rw [show p + (j + 1) = p + 1 + j by omega]; exact h3 j (by omega)
      · rw [vacc_head, h5, hb]; omega
theorem vaGo_walk (s : ByteArray) (p k : Nat) : ∀ (d r : Nat), (∀ j, j < k → 128 ≤ byteAt s (p + j)) → byteAt s (p + k) < 128 → p + k < s.size → (varText (vacc s p (k + 1))).size = k + 1 → d ≤ k → k - d < r →
    vaGo s p r d = ((vacc s p (k + 1) : Int), ((p + k + 1 : Nat) : Int))
  | _, 0, _, _, _, _, _, hr => by omega
  | d, r + 1, hb, hl, hp, hv, hd, hr => by
    rw [vaGo, if_pos (by omega)]
    by_cases e : d = k
    · subst e
      rw [if_pos hl, if_pos hv]
    · rw [if_neg (by have := hb d (by omega); omega)]
      exact vaGo_walk s p k (d + 1) r hb hl hp hv (by omega) (by omega)
  termination_by _ r => r
/-- The bytes of n stand in s from place p on: VarAt reads n, and the place behind. -/
theorem varAt_back (s : ByteArray) (p n : Nat) (hn : n ≤ 1000000000) (hp : p + (vtL 5 n).length ≤ s.size) (he : from_ s p (vtL 5 n).length = vtL 5 n) :
    varAt s p = ((n : Int), ((p + (vtL 5 n).length : Nat) : Int)) := by
  obtain ⟨k, h1, h2, h3, h4, h5⟩ := vt_back s 5 p n (by omega) (by omega) hp he
  rw [varAt, if_pos (by omega), Int.toNat_natCast]
  rw [vaGo_walk s p k 0 5 h3 h4 (by omega) (by rw [h5]; unfold varText; rw [if_pos (by omega), size_mk, Int.toNat_natCast, h1]) (by omega) (by omega), h5, h1]
  rfl

/-! ### One turned byte turns the sum -/
theorem xor_cancel {a b c : Nat} (h : a ^^^ c = b ^^^ c) : a = b := by
  have := congrArg (· ^^^ c) h
  simpa [Nat.xor_assoc] using this
theorem testBit31_lt {a : Nat} (h : a < 2147483648) : a.testBit 31 = false := Nat.testBit_lt_two_pow h
theorem crcBit_inj {x y : Nat} (hx : x < 4294967296) (hy : y < 4294967296) (h : crcBit x = crcBit y) : x = y := by
  have key : ∀ a b : Nat, a < 2147483648 → b < 2147483648 → a ^^^ 3988292384 ≠ b := fun a b ha hb e => by
    have h1 : (a ^^^ 3988292384).testBit 31 = b.testBit 31 := by rw [e]
    rw [Nat.testBit_xor, testBit31_lt ha, testBit31_lt hb] at h1
    revert h1
    decide
  unfold crcBit at h
  by_cases h1 : x % 2 = 1 <;> by_cases h2 : y % 2 = 1
  · rw [if_pos h1, if_pos h2] at h
    have := xor_cancel h
    omega
  · rw [if_pos h1, if_neg h2] at h
    exact absurd h (key _ _ (by omega) (by omega))
  · rw [if_neg h1, if_pos h2] at h
    exact absurd h.symm (key _ _ (by omega) (by omega))
  · rw [if_neg h1, if_neg h2] at h
    omega
theorem crcBits_inj {x y : Nat} (hx : x < 4294967296) (hy : y < 4294967296) : ∀ k, crcBits k x = crcBits k y → x = y
  | 0, h => h
  | k + 1, h => crcBits_inj hx hy k (crcBit_inj (crcBits_lt hx k) (crcBits_lt hy k) h)
/-- Two strings of one length that differ at one byte alone have two sums. -/
theorem sum_turned {s t : ByteArray} (hsz : s.size = t.size) {k : Nat} (hk : k < s.size) (hne : byteAt s k ≠ byteAt t k) (heq : ∀ j, j ≠ k → byteAt s j = byteAt t j) : sumOf s ≠ sumOf t := by
  have h1 : ∀ j, j ≤ k → crcTo s j = crcTo t j := by
    intro j
    induction j with
    | zero => intro _; rfl
    | succ j ih => intro hj; rw [crcTo, crcTo, ih (by omega), heq j (by omega)]
  have h2 : ∀ d, crcTo s (k + 1 + d) ≠ crcTo t (k + 1 + d) := by
    intro d
    induction d with
    | zero =>
      intro e
      rw [Nat.add_zero, crcTo, crcTo, h1 k (Nat.le_refl _)] at e
      have hb := byteAt_lt s k
      have hb' := byteAt_lt t k
      have := crcBits_inj (xor_lt (crcTo_lt t k) (by omega)) (xor_lt (crcTo_lt t k) (by omega)) 8 e
      rw [Nat.xor_comm _ (byteAt s k), Nat.xor_comm _ (byteAt t k)] at this
      exact hne (xor_cancel this)
    | succ d ih =>
      intro e
      rw [show k + 1 + (d + 1) = (k + 1 + d) + 1 by omega, crcTo, crcTo, heq (k + 1 + d) (by omega)] at e
      have hb' := byteAt_lt t (k + 1 + d)
      have := crcBits_inj (xor_lt (crcTo_lt s _) (by omega)) (xor_lt (crcTo_lt t _) (by omega)) 8 e
      exact ih (xor_cancel this)
  intro e
  unfold sumOf at e
  have := xor_cancel e
  rw [hsz] at this
  obtain ⟨d, hd⟩ : ∃ d, t.size = k + 1 + d := ⟨t.size - (k + 1), by omega⟩
  rw [hd] at this
  exact h2 d this
end Go.Proofs.Ythjkmefbjbfonaa

/- Plain facts of VarAt: a number read from its bytes. No program in sight. -/
import Derived.Test.YthjkmefbjbfonaaHexPlain
namespace Go.Proofs.Ythjkmefbjbfonaa
open Go.RowKit

/-- What the first k bytes from place p on are worth. -/
def vacc (s : ByteArray) (p : Nat) : Nat → Nat
  | 0 => 0
  | k + 1 => vacc s p k + byteAt s (p + k) % 128 * 128 ^ k
/-- The reading, r rounds before its end, at the byte p + k. -/
def vaGo (s : ByteArray) (p : Nat) : Nat → Nat → Int × Int
  | 0, _ => (0, -1)
  | r + 1, k => if p + k < s.size then
      (if byteAt s (p + k) < 128 then (if (varText (vacc s p (k + 1))).size = k + 1 then ((vacc s p (k + 1) : Int), ((p + k + 1 : Nat) : Int)) else (0, -1)) else vaGo s p r (k + 1))
    else (0, -1)
def varAt (s : ByteArray) (p : Int) : Int × Int := if 0 ≤ p then vaGo s p.toNat 5 0 else (0, -1)

theorem vacc_lt (s : ByteArray) (p : Nat) : ∀ k, vacc s p k < 128 ^ k
  | 0 => by simp [vacc]
  | k + 1 => by
    have h := vacc_lt s p k
    have hd : byteAt s (p + k) % 128 ≤ 127 := by omega
    have hm := Nat.mul_le_mul_right (128 ^ k) hd
    rw [vacc, Nat.pow_succ]
    omega
theorem vacc_head (s : ByteArray) (p : Nat) : ∀ k, vacc s p (k + 1) = byteAt s p % 128 + 128 * vacc s (p + 1) k
  | 0 => by simp [vacc]
  | k + 1 => by
    rw [vacc, vacc_head s p k, vacc, Nat.mul_add, Nat.pow_succ, show p + 1 + k = p + (k + 1) by omega]
    rw [Nat.mul_left_comm 128 _ (128 ^ k), Nat.mul_comm 128 (128 ^ k)]
    omega
/-- The bytes from p on, k of them. -/
def from_ (s : ByteArray) (p k : Nat) : List UInt8 := (s.data.toList.drop p).take k
theorem from_length (s : ByteArray) (p k : Nat) (h : p + k ≤ s.size) : (from_ s p k).length = k := by
  unfold from_
  rw [List.length_take, List.length_drop, Array.length_toList]
  have : s.data.size = s.size := rfl
  omega
theorem from_succ (s : ByteArray) (p k : Nat) (h : p < s.size) : from_ s p (k + 1) = UInt8.ofNat (byteAt s p) :: from_ s (p + 1) k := by
  have h' : p < s.data.toList.length := by rw [Array.length_toList]; exact h
  unfold from_
  rw [List.drop_eq_getElem_cons h', List.take_succ_cons]
  congr 1
  rw [← byteAt_eq h]
  simp only [UInt8.ofNat_toNat]
  simp only [Array.getElem_toList]
  rfl
theorem vt_length (s : ByteArray) : ∀ (k p f : Nat), k + 1 ≤ f → p + k < s.size → (∀ j, j < k → 128 ≤ byteAt s (p + j)) → byteAt s (p + k) < 128 →
    (vtL f (vacc s p (k + 1)) = from_ s p (k + 1) ↔ (vtL f (vacc s p (k + 1))).length = k + 1)
  | 0, p, f, hf, hp, _, hl => by
    have hp' : p < s.size := by omega
    have hl' : byteAt s p < 128 := by simpa using hl
    have e : vacc s p 1 = byteAt s p := by simp [vacc]; omega
    rw [e, vt_last f _ hf hl', from_succ s p 0 hp']
    simp [from_]
  | k + 1, p, f, hf, hp, hb, hl => by
    have hp' : p < s.size := by omega
    have h0 := hb 0 (by omega)
    rw [Nat.add_zero] at h0
    have hlt := byteAt_lt s p
    obtain ⟨f, rfl⟩ : ∃ g, f = g + 1 := ⟨f - 1, by omega⟩
    have ih := vt_length s k (p + 1) f (by omega) (by omega) (fun j hj => by have := hb (j + 1) (by omega); rwa [show p + (j + 1) = p + 1 + j by omega] at this) (by rwa [show p + 1 + k = p + (k + 1) by omega])
    rw [vacc_head, from_succ s p (k + 1) hp']
    by_cases hz : vacc s (p + 1) (k + 1) = 0
    · rw [hz, vtL, if_pos (by omega)]
      constructor
      · intro h
        have := congrArg List.length h
        simp only [List.length_cons, List.length_nil, from_length s (p + 1) (k + 1) (by omega)] at this
        omega
      · intro h
        simp at h
    · rw [vtL, if_neg (by omega), show (byteAt s p % 128 + 128 * vacc s (p + 1) (k + 1)) / 128 = vacc s (p + 1) (k + 1) by omega,
        show (byteAt s p % 128 + 128 * vacc s (p + 1) (k + 1)) % 128 + 128 = byteAt s p by omega]
      rw [List.length_cons, Nat.add_right_cancel_iff, ← ih]
      simp
theorem from_extract (s : ByteArray) (p k : Nat) : s.extract p (p + k) = ⟨(from_ s p k).toArray⟩ := by
  apply ByteArray.ext
  apply Array.toList_inj.1
  rw [ByteArray.data_extract]
  simp [from_, List.take_drop]
theorem mk_inj {a b : List UInt8} : ((⟨a.toArray⟩ : ByteArray) = ⟨b.toArray⟩) ↔ a = b := by
  constructor
  · intro h
    have := congrArg (fun x : ByteArray => x.data.toList) h
    simpa using this
  · rintro rfl; rfl
theorem size_mk (a : List UInt8) : (⟨a.toArray⟩ : ByteArray).size = a.length := by
  show a.toArray.size = _
  simp
/-- The two tests of a number's bytes agree. -/
theorem var_tests (s : ByteArray) (p k : Nat) (hk : k < 5) (hp : p + k < s.size) (hb : ∀ j, j < k → 128 ≤ byteAt s (p + j)) (hl : byteAt s (p + k) < 128) :
    ((varText (vacc s p (k + 1))).size = k + 1) ↔ ((vacc s p (k + 1) : Int) ≤ 1000000000 ∧ s.extract p (p + (k + 1)) = varText (vacc s p (k + 1))) := by
  have hlen := vt_length s k p 5 (by omega) hp hb hl
  unfold varText
  by_cases h : (0 : Int) ≤ (vacc s p (k + 1) : Int) ∧ (vacc s p (k + 1) : Int) ≤ 1000000000
  · rw [if_pos h, size_mk, Int.toNat_natCast, from_extract s p (k + 1), mk_inj, ← hlen]
    constructor
    · intro e; exact ⟨h.2, e.symm⟩
    · intro e; exact e.2.symm
  · rw [if_neg h]
    constructor
    · intro e; exact absurd e (by show ¬ (0 = k + 1); omega)
    · intro e; exact absurd ⟨by omega, e.1⟩ h
end Go.Proofs.Ythjkmefbjbfonaa

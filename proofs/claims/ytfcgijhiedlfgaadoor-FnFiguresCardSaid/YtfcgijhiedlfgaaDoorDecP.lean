/- Decimal numerals: what they spell. Plain. -/
import Derived.Test.YtfcgijhiedlfgaaDoorVarPlain
import Derived.Lib.ItoaNum
import Derived.Lib.AtoiAll
namespace Go.Proofs.YtfcgijhiedlfgaaDoor
set_option linter.unusedSimpArgs false

theorem dec_last {m : Nat} (h : m < 10) : Lib.decDigits m = [UInt8.ofNat (48 + m)] := by rw [Lib.decDigits, dif_pos h]
theorem dec_more {m : Nat} (h : ¬ m < 10) : Lib.decDigits m = Lib.decDigits (m / 10) ++ [UInt8.ofNat (48 + m % 10)] := by rw [Lib.decDigits, dif_neg h]
theorem itoa_nat (n : Nat) : Lib.itoa (n : Int) = Lib.decDigits n := by unfold Lib.itoa; rw [if_neg (by omega), Int.toNat_natCast]
/-- What digits spell, behind a. -/
def spell (a : Nat) (l : List UInt8) : Nat := l.foldl (fun a c => 10 * a + (c.toNat - 48)) a
def IsDig (l : List UInt8) : Prop := ∀ c ∈ l, 48 ≤ c.toNat ∧ c.toNat ≤ 57
theorem spell_snoc (a : Nat) (l : List UInt8) (c : UInt8) : spell a (l ++ [c]) = 10 * spell a l + (c.toNat - 48) := by unfold spell; rw [List.foldl_append]; rfl
theorem spell_le : ∀ (l : List UInt8) (a : Nat), a ≤ spell a l
  | [], a => Nat.le_refl _
  | c :: l, a => by
    have := spell_le l (10 * a + (c.toNat - 48))
    show a ≤ spell (10 * a + (c.toNat - 48)) l
    omega
theorem u8_dig {y : Nat} (h : y < 10) : (UInt8.ofNat (48 + y)).toNat = 48 + y := by rw [UInt8.toNat_ofNat']; omega
theorem dec_spell : ∀ (k m : Nat), m ≤ k → spell 0 (Lib.decDigits m) = m ∧ IsDig (Lib.decDigits m)
  | k, m, hk => by
    by_cases h : m < 10
    · rw [dec_last h]
      have hu := u8_dig h
      refine ⟨?_, fun c hc => ?_⟩
      · show 10 * 0 + ((UInt8.ofNat (48 + m)).toNat - 48) = m
        rw [hu]; omega
      · rw [List.mem_singleton.1 hc, hu]; omega
    · match k, hk with
      | 0, hk => omega
      | k + 1, hk =>
        obtain ⟨h1, h2⟩ := dec_spell k (m / 10) (by omega)
        have hu := u8_dig (y := m % 10) (by omega)
        rw [dec_more h]
        refine ⟨by rw [spell_snoc, h1, hu]; omega, fun c hc => ?_⟩
        rcases List.mem_append.1 hc with hc | hc
        · exact h2 c hc
        · rw [List.mem_singleton.1 hc, hu]; omega
theorem dec_ne (m : Nat) : Lib.decDigits m ≠ [] := by
  by_cases h : m < 10
  · rw [dec_last h]; simp
  · rw [dec_more h]; simp
theorem dec_len : ∀ (k m : Nat), m < 10 ^ (k + 1) → (Lib.decDigits m).length ≤ k + 1
  | 0, m, h => by rw [dec_last (by omega)]; simp
  | k + 1, m, h => by
    by_cases hm : m < 10
    · rw [dec_last hm]; simp
    · rw [dec_more hm, List.length_append, List.length_singleton]
      have := dec_len k (m / 10) (by rw [Nat.pow_succ] at h; omega)
      omega
theorem dec_inj {a b : Nat} (h : Lib.decDigits a = Lib.decDigits b) : a = b := by
  have h1 := (dec_spell a a (Nat.le_refl _)).1
  rw [h, (dec_spell b b (Nat.le_refl _)).1] at h1
  exact h1.symm
theorem parse_spell : ∀ (l : List UInt8) (a : Nat), IsDig l → spell a l ≤ 1000000000000 → Lib.parseUint10 a l = .ok (spell a l)
  | [], a, _, _ => rfl
  | c :: l, a, hd, hs => by
    have hc := hd c (List.mem_cons_self ..)
    have e : spell a (c :: l) = spell (a * 10 + (c.toNat - 48)) l := by rw [Nat.mul_comm]; rfl
    have h1 := spell_le l (a * 10 + (c.toNat - 48))
    rw [e] at hs ⊢
    rw [Lib.parseUint10, if_pos hc, if_neg (by omega), if_neg (by omega)]
    exact parse_spell l _ (fun x hx => hd x (List.mem_cons_of_mem _ hx)) hs
theorem atoi_dec {m : Nat} (h : m ≤ 1000000000) : Lib.atoiAll (Lib.decDigits m) = .ok (m : Int) := by
  obtain ⟨h1, h2⟩ := dec_spell m m (Nat.le_refl _)
  have hp := parse_spell _ 0 h2 (by rw [h1]; omega)
  have hne := dec_ne m
  rw [h1] at hp
  generalize Lib.decDigits m = l at h2 hp hne
  match l, hne with
  | c :: r, _ =>
    have hc := h2 c (List.mem_cons_self ..)
    have hm : Lib.parseMag (c :: r) = .ok m := by unfold Lib.parseMag; rw [if_neg (by simp)]; exact hp
    unfold Lib.atoiAll
    simp only
    rw [if_neg (by omega), hm]
    simp only
    rw [if_neg (by omega), if_neg (by omega), if_neg (by omega)]

open Classical in
/-- The number that a text is the numeral of, if one in 0 .. 1000000000. -/
noncomputable def readNum (l : List UInt8) : Option Nat := if h : ∃ n : Nat, n ≤ 1000000000 ∧ Lib.decDigits n = l then some h.choose else none
theorem readNum_some {l : List UInt8} {n : Nat} : readNum l = some n ↔ n ≤ 1000000000 ∧ Lib.decDigits n = l := by
  unfold readNum
  constructor
  · intro h
    split at h
    · rename_i hx
      obtain rfl := Option.some.inj h
      exact hx.choose_spec
    · cases h
  · rintro ⟨h1, h2⟩
    have hx : ∃ n : Nat, n ≤ 1000000000 ∧ Lib.decDigits n = l := ⟨n, h1, h2⟩
    rw [dif_pos hx]
    exact congrArg some (dec_inj (hx.choose_spec.2.trans h2.symm))
def optI : Option Nat → Int
  | some n => n
  | none => 0
noncomputable def readDecR0 (l : List UInt8) : Int := optI (readNum l)
noncomputable def readDecR1 (l : List UInt8) : Bool := (readNum l).isSome
theorem r0_none {l : List UInt8} (h : readNum l = none) : readDecR0 l = 0 := congrArg optI h
theorem r1_none {l : List UInt8} (h : readNum l = none) : readDecR1 l = false := congrArg Option.isSome h
theorem r0_some {l : List UInt8} {n : Nat} (h : readNum l = some n) : readDecR0 l = (n : Int) := congrArg optI h
theorem r1_some {l : List UInt8} {n : Nat} (h : readNum l = some n) : readDecR1 l = true := congrArg Option.isSome h
theorem readNum_none {l : List UInt8} (h : ∀ n : Nat, n ≤ 1000000000 → Lib.decDigits n ≠ l) : readNum l = none := by
  cases hr : readNum l with
  | none => rfl
  | some n => exact absurd (readNum_some.1 hr).2 (h n (readNum_some.1 hr).1)
theorem read_long {l : List UInt8} (h : 10 < l.length) : readNum l = none := readNum_none fun n hn e => by
  have := dec_len 9 n (by omega)
  rw [e] at this
  omega
theorem read_bad {l : List UInt8} {c : UInt8} (hc : c ∈ l) (h : c.toNat < 48 ∨ 57 < c.toNat) : readNum l = none := readNum_none fun n hn e => by
  have := (dec_spell n n (Nat.le_refl _)).2 c (by rw [e]; exact hc)
  omega
theorem read_big {l : List UInt8} {n : Nat} (h : spell 0 l = n) (hn : 1000000000 < n) : readNum l = none := readNum_none fun m hm e => by
  have := (dec_spell m m (Nat.le_refl _)).1
  rw [e] at this
  omega
theorem read_other {l : List UInt8} {n : Nat} (h : spell 0 l = n) (hn : Lib.decDigits n ≠ l) : readNum l = none := readNum_none fun m hm e => by
  have := (dec_spell m m (Nat.le_refl _)).1
  rw [e, h] at this
  rw [this] at hn
  exact hn e
theorem read_it {l : List UInt8} {n : Nat} (hn : n ≤ 1000000000) (h : Lib.decDigits n = l) : readNum l = some n := readNum_some.2 ⟨hn, h⟩
theorem spell_lt : ∀ (k : Nat) (l : List UInt8), l.length ≤ k → IsDig l → spell 0 l < 10 ^ l.length
  | k, l, hk, hd => by
    rcases List.eq_nil_or_concat l with rfl | ⟨r, c, rfl⟩
    · decide
    · rw [List.concat_eq_append] at hk hd ⊢
      rw [List.length_append, List.length_singleton] at hk ⊢
      match k, hk with
      | k + 1, hk =>
        have ih := spell_lt k r (by omega) (fun x hx => hd x (List.mem_append_left _ hx))
        have hc := hd c (by simp)
        rw [spell_snoc, Nat.pow_succ]
        omega
end Go.Proofs.YtfcgijhiedlfgaaDoor

/- The tasks of a plan by their depths. Plain. -/
import Derived.Test.YtbbjkldkjndfaaaDepthP
import Derived.Test.YtbbjkldkjndfaaaIntssK
import Derived.Test.YtbbjkldkjndfaaaContain
namespace Go.Proofs.Ytbbjkldkjndfaaa
set_option linter.unusedSimpArgs false

def rankTo (D : List Int) (r : Int) : Nat → List Int
  | 0 => []
  | k + 1 => if D.getD k 0 = r then rankTo D r k ++ [(k : Int)] else rankTo D r k
def rankAt (D : List Int) (r : Int) : List Int := rankTo D r D.length
def ranksTo (D : List Int) : Nat → List (List Int)
  | 0 => []
  | r + 1 => ranksTo D r ++ [rankAt D r]
def ranksN (D : List Int) : Nat := firstG (fun r => !hasB D (r : Int)) D.length 0
noncomputable def ranksOfR (x : Pln) : List (List Int) := ranksTo (depthOfR x) (ranksN (depthOfR x))
theorem rankTo_le (D : List Int) (r : Int) : ∀ k, (rankTo D r k).length ≤ k
  | 0 => Nat.le_refl _
  | k + 1 => by
    have := rankTo_le D r k
    rw [rankTo]
    split
    · simp; omega
    · omega
theorem rankTo_mem {D : List Int} {r : Int} : ∀ {k : Nat} {y : Int}, y ∈ rankTo D r k ↔ 0 ≤ y ∧ y < k ∧ D.getD y.toNat 0 = r
  | 0, y => by simp [rankTo]; omega
  | k + 1, y => by
    rw [rankTo]
    have ih := rankTo_mem (D := D) (r := r) (k := k) (y := y)
    by_cases h : D.getD k 0 = r
    · rw [if_pos h, List.mem_append, ih]
      simp only [List.mem_singleton]
      constructor
      · rintro (⟨h1, h2, h3⟩ | rfl)
        · exact ⟨h1, by omega, h3⟩
        · exact ⟨by omega, by omega, by simpa using h⟩
      · rintro ⟨h1, h2, h3⟩
        by_cases e : y = k
        · exact .inr e
        · exact .inl ⟨h1, by omega, h3⟩
    · rw [if_neg h, ih]
      constructor
      · rintro ⟨h1, h2, h3⟩
        exact ⟨h1, by omega, h3⟩
      · rintro ⟨h1, h2, h3⟩
        refine ⟨h1, ?_, h3⟩
        by_cases e : y = k
        · subst e; exact absurd (by simpa using h3) h
        · omega
theorem rankAt_mem {D : List Int} {r y : Int} : y ∈ rankAt D r ↔ 0 ≤ y ∧ y < D.length ∧ D.getD y.toNat 0 = r := rankTo_mem
/-- Something is at this depth, or nothing. -/
theorem rankAt_nil {D : List Int} {r : Int} : (rankAt D r).length = 0 ↔ hasB D r = false := by
  rw [hasB_false, List.length_eq_zero_iff]
  constructor
  · intro h hm
    obtain ⟨k, hk, he⟩ := List.mem_iff_getElem.1 hm
    have : (k : Int) ∈ rankAt D r := rankAt_mem.2 ⟨by omega, by omega, by simp [hk, he]⟩
    rw [h] at this
    cases this
  · intro h
    refine List.eq_nil_iff_forall_not_mem.2 fun y hy => h ?_
    obtain ⟨h1, h2, h3⟩ := rankAt_mem.1 hy
    rw [← h3, List.getD_eq_getElem?_getD, List.getElem?_eq_getElem (by omega)]
    exact List.getElem_mem _
theorem firstG_before {p : Nat → Bool} : ∀ {f k m : Nat}, k ≤ m → m < firstG p f k → p m = false
  | 0, k, m, h1, h2 => by rw [firstG] at h2; omega
  | f + 1, k, m, h1, h2 => by
    rw [firstG] at h2
    by_cases h : p k = true
    · rw [if_pos h] at h2; omega
    · rw [if_neg h] at h2
      by_cases e : m = k
      · subst e; simpa using h
      · exact firstG_before (k := k + 1) (by omega) h2
theorem firstG_at {p : Nat → Bool} : ∀ {f k : Nat}, firstG p f k < k + f → p (firstG p f k) = true
  | 0, k, h => by rw [firstG] at h; omega
  | f + 1, k, h => by
    rw [firstG] at h ⊢
    by_cases hp : p k = true
    · rw [if_pos hp]; exact hp
    · rw [if_neg hp] at h ⊢
      exact firstG_at (by omega)
theorem ranksN_le (D : List Int) : ranksN D ≤ D.length := by have := (firstG_le (fun r => !hasB D (r : Int)) D.length 0).2; unfold ranksN; omega
theorem ranksN_lt {D : List Int} {r : Nat} (h : r < ranksN D) : hasB D (r : Int) = true := by simpa using firstG_before (Nat.zero_le r) h
theorem ranksN_not (D : List Int) : hasB D ((ranksN D : Nat) : Int) = false := by
  by_cases h : ranksN D < D.length
  · have := firstG_at (p := fun r => !hasB D (r : Int)) (f := D.length) (k := 0) (by unfold ranksN at h; omega)
    simpa [ranksN] using this
  · have he : ranksN D = D.length := by have := ranksN_le D; omega
    rw [hasB_false]
    intro hm
    have := len_of_all (n := D.length + 1) (l := D) (fun k hk => by
      by_cases e : k = D.length
      · rw [e, ← he]; exact hm
      · exact hasB_true.1 (ranksN_lt (by omega)))
    omega
theorem ranksTo_length (D : List Int) : ∀ r, (ranksTo D r).length = r
  | 0 => rfl
  | r + 1 => by rw [ranksTo, List.length_append, ranksTo_length D r]; rfl
theorem lensTo_append (a b : List (List Int)) : cells_intss (a ++ b) = cells_intss a + cells_intss b := by
  unfold cells_intss lensTo
  rw [List.take_of_length_le (Nat.le_refl _), List.take_of_length_le (Nat.le_refl _), List.take_of_length_le (Nat.le_refl _), List.map_append, List.sum_append]
theorem ranksTo_cells (D : List Int) : ∀ r, cells_intss (ranksTo D r) ≤ r * D.length
  | 0 => Nat.zero_le _
  | r + 1 => by
    have h1 := ranksTo_cells D r
    have h2 : cells_intss [rankAt D r] ≤ D.length := by
      have := rankTo_le D r D.length
      unfold cells_intss lensTo rankAt
      simpa using this
    rw [ranksTo, lensTo_append, Nat.succ_mul]
    omega
theorem ranksOf_cells (x : Pln) : cells_intss (ranksOfR x) ≤ 5000000 := by
  have h1 := depthOf_le x
  have h2 := ranksN_le (depthOfR x)
  have h3 := ranksTo_cells (depthOfR x) (ranksN (depthOfR x))
  have h4 : ranksN (depthOfR x) * (depthOfR x).length ≤ 12 * 12 := Nat.mul_le_mul (by omega) h1
  unfold ranksOfR
  omega
end Go.Proofs.Ytbbjkldkjndfaaa

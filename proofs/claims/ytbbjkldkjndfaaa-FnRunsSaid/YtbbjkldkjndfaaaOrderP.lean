/- The order of a plan: always the first task that is ready; there is one, where nothing waits for itself. Plain. -/
import Derived.Test.YtbbjkldkjndfaaaBeforeP
namespace Go.Proofs.Ytbbjkldkjndfaaa
set_option linter.unusedSimpArgs false

/-- The first number from k on, f tried at most, that has p; else k + f. -/
def firstG (p : Nat → Bool) : Nat → Nat → Nat
  | 0, k => k
  | f + 1, k => if p k = true then k else firstG p f (k + 1)
theorem firstG_le (p : Nat → Bool) : ∀ f k, k ≤ firstG p f k ∧ firstG p f k ≤ k + f
  | 0, k => by simp [firstG]
  | f + 1, k => by
    rw [firstG]
    split
    · omega
    · have := firstG_le p f (k + 1); omega
theorem firstG_lt {p : Nat → Bool} : ∀ {f k m : Nat}, k ≤ m → m < k + f → p m = true → firstG p f k < k + f ∧ p (firstG p f k) = true
  | 0, k, m, h1, h2, _ => absurd h2 (by omega)
  | f + 1, k, m, h1, h2, hp => by
    rw [firstG]
    by_cases h : p k = true
    · rw [if_pos h]; exact ⟨by omega, h⟩
    · rw [if_neg h]
      have hm : k + 1 ≤ m := by
        rcases Nat.lt_or_ge k m with h3 | h3
        · exact h3
        · obtain rfl : k = m := by omega
          exact absurd hp h
      have := firstG_lt (p := p) (f := f) (k := k + 1) hm (by omega) hp
      exact ⟨by omega, this.2⟩

def allB (l out : List Int) : Bool := l.all fun b => hasB out b
theorem allB_nil (out : List Int) : allB [] out = true := rfl
theorem allB_cons (b : Int) (l out : List Int) : allB (b :: l) out = (hasB out b && allB l out) := rfl
theorem allB_true {l out : List Int} : allB l out = true ↔ ∀ b ∈ l, b ∈ out := by simp [allB, hasB]
def readyB (E : List Edg) (n : Nat) (out : List Int) (t : Nat) : Bool := !(hasB out (t : Int)) && allB (beforeTo E t n) out
def nextT (E : List Edg) (n : Nat) (out : List Int) : Nat := firstG (readyB E n out) n 0
def orderAt (E : List Edg) (n : Nat) : Nat → List Int
  | 0 => []
  | j + 1 => orderAt E n j ++ [((nextT E n (orderAt E n j) : Nat) : Int)]
theorem orderAt_length (E : List Edg) (n : Nat) : ∀ j, (orderAt E n j).length = j
  | 0 => rfl
  | j + 1 => by rw [orderAt, List.length_append, orderAt_length E n j]; rfl

/-! ### Drawers -/
theorem erase_len {l : List Int} {x : Int} (h : x ∈ l) : (l.erase x).length + 1 = l.length := by
  rw [List.length_erase_of_mem h]
  have := List.length_pos_of_mem h
  omega
/-- A list that holds 0 .. n - 1 has n elements at least. -/
theorem len_of_all : ∀ {n : Nat} {l : List Int}, (∀ k : Nat, k < n → (k : Int) ∈ l) → n ≤ l.length
  | 0, _, _ => Nat.zero_le _
  | n + 1, l, h => by
    have h1 := h n (by omega)
    have h2 := len_of_all (n := n) (l := l.erase n) (fun k hk => (List.mem_erase_of_ne (by omega)).2 (h k (by omega)))
    have := erase_len h1
    omega
/-- Numbers of 0 .. n - 1, each once, are n at most. -/
theorem nodup_len : ∀ {n : Nat} {l : List Int}, l.Nodup → (∀ x ∈ l, 0 ≤ x ∧ x < n) → l.length ≤ n
  | 0, l, _, hb => by
    cases l with
    | nil => exact Nat.le_refl _
    | cons a r => have := hb a (List.mem_cons_self ..); omega
  | n + 1, l, hd, hb => by
    have h2 := nodup_len (n := n) (l := l.erase n) (hd.erase _) (fun x hx => by
      have h3 := (List.Nodup.mem_erase_iff hd).1 hx
      have := hb x h3.2
      have := h3.1
      omega)
    by_cases h1 : (n : Int) ∈ l
    · have := erase_len h1; omega
    · rw [List.erase_of_not_mem h1] at h2; omega

/-- How many reach t. -/
noncomputable def anc (E : List Edg) (n : Nat) (t : Int) : Nat := (List.range n).countP fun x : Nat => wayB E x t
theorem anc_lt {E : List Edg} {n : Nat} (hi : Inside E n) (hc : cycTo E n = false) {b t : Int} (h : Arc E b t) : anc E n b < anc E n t := by
  obtain ⟨e, he, rfl, rfl⟩ := h
  have hb := hi e he
  have ha : Arc E e.src e.dst := ⟨e, he, rfl, rfl⟩
  obtain ⟨s, hs⟩ : ∃ s : Nat, e.src = s := ⟨e.src.toNat, by omega⟩
  unfold anc
  refine countP_lt _ (fun x _ hx => ?_) ⟨s, by simp; omega, ?_, ?_⟩
  · exact wayB_true.2 ((wayB_true.1 hx).trans (.one ha))
  · rw [hs]; exact wayB_false.2 (cycTo_false hc s (by omega))
  · rw [← hs]; exact wayB_true.2 (.one ha)
theorem beforeTo_iff {E : List Edg} {n : Nat} (hi : Inside E n) {t b : Int} : b ∈ beforeTo E t n ↔ Arc E b t := by
  rw [← List.count_pos_iff, beforeTo_count]
  constructor
  · intro h
    split at h
    · obtain ⟨e, he, rfl⟩ := List.mem_map.1 (List.count_pos_iff.1 h)
      have := List.mem_filter.1 he
      exact ⟨e, this.1, rfl, by simpa using this.2⟩
    · omega
  · rintro ⟨e, he, rfl, rfl⟩
    have := hi e he
    rw [if_pos (by omega)]
    exact List.count_pos_iff.2 (List.mem_map.2 ⟨e, List.mem_filter.2 ⟨he, by simp⟩, rfl⟩)
theorem ready_of_not {E : List Edg} {n : Nat} (hi : Inside E n) (hc : cycTo E n = false) {out : List Int} : ∀ (m : Nat) (t : Nat), anc E n t ≤ m → t < n → (t : Int) ∉ out → ∃ k, k < n ∧ readyB E n out k = true
  | m, t, hm, ht, hn => by
    by_cases hr : readyB E n out t = true
    · exact ⟨t, ht, hr⟩
    · have h1 : hasB out (t : Int) = false := hasB_false.2 hn
      have h2 : ¬ allB (beforeTo E t n) out = true := fun h => hr (by rw [readyB, h1, h]; rfl)
      rw [allB_true] at h2
      have : ∃ b, b ∈ beforeTo E t n ∧ b ∉ out := Classical.byContradiction fun hx => h2 fun b hb => Classical.byContradiction fun hbn => hx ⟨b, hb, hbn⟩
      obtain ⟨b, hb, hbn⟩ := this
      have hbd := beforeTo_mem hb
      obtain ⟨s, rfl⟩ : ∃ s : Nat, b = s := ⟨b.toNat, by omega⟩
      have hlt := anc_lt hi hc ((beforeTo_iff hi).1 hb)
      match m, hm with
      | 0, hm => omega
      | m + 1, hm => exact ready_of_not hi hc m s (by omega) (by omega) hbn
/-- Where not all are told, one is ready. -/
theorem next_ready {E : List Edg} {n : Nat} (hi : Inside E n) (hc : cycTo E n = false) {out : List Int} (hl : out.length < n) : nextT E n out < n ∧ readyB E n out (nextT E n out) = true := by
  have : ∃ t : Nat, t < n ∧ (t : Int) ∉ out := Classical.byContradiction fun hx => by
    have := len_of_all (n := n) (l := out) (fun k hk => Classical.byContradiction fun hn => hx ⟨k, hk, hn⟩)
    omega
  obtain ⟨t, ht, hn⟩ := this
  obtain ⟨k, hk, hr⟩ := ready_of_not hi hc _ t (Nat.le_refl _) ht hn
  have := firstG_lt (f := n) (k := 0) (Nat.zero_le k) (by omega) hr
  exact ⟨by have := this.1; unfold nextT; omega, this.2⟩
theorem orderAt_ready {E : List Edg} {n : Nat} (hi : Inside E n) (hc : cycTo E n = false) {j : Nat} (hj : j < n) : nextT E n (orderAt E n j) < n ∧ readyB E n (orderAt E n j) (nextT E n (orderAt E n j)) = true :=
  next_ready hi hc (by rw [orderAt_length]; exact hj)
theorem orderAt_mem {E : List Edg} {n : Nat} (hi : Inside E n) (hc : cycTo E n = false) : ∀ {j : Nat}, j ≤ n → ∀ y ∈ orderAt E n j, 0 ≤ y ∧ y < n
  | 0, _, _, h => by cases h
  | j + 1, hj, y, h => by
    rw [orderAt] at h
    rcases List.mem_append.1 h with h | h
    · exact orderAt_mem hi hc (by omega) y h
    · have := (orderAt_ready hi hc (j := j) (by omega)).1
      simp at h
      omega
noncomputable def orderOfR (x : Pln) : List Int := if planFaultR x = 0 then orderAt x.edges x.tasks.toNat x.tasks.toNat else []
theorem orderOf_le (x : Pln) : (orderOfR x).length ≤ 12 := by
  unfold orderOfR
  split
  · rename_i h
    have := many_false (fault_zero h).1
    rw [orderAt_length]; omega
  · simp
theorem orderOf_cells (x : Pln) : cells_ints (orderOfR x) ≤ 5000000 := by
  have := orderOf_le x
  unfold cells_ints
  omega
end Go.Proofs.Ytbbjkldkjndfaaa

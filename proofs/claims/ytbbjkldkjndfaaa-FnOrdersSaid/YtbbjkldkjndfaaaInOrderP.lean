/- Is a list an order of a plan? Two ways to tell. Plain. -/
import Derived.Test.YtbbjkldkjndfaaaOrderP
namespace Go.Proofs.Ytbbjkldkjndfaaa
set_option linter.unusedSimpArgs false

/-- Place k of the list: a task that did not stand before. -/
def posA (n : Nat) (l : List Int) (k : Nat) : Bool := inB (l.getD k 0) 0 ((n : Int) - 1) && !hasB (l.take k) (l.getD k 0)
def ioPos (E : List Edg) (n : Nat) (l : List Int) (k : Nat) : Bool := posA n l k && allB (beforeTo E (l.getD k 0) n) (l.take k)
def ioTo (E : List Edg) (n : Nat) (l : List Int) : Nat → Bool
  | 0 => true
  | k + 1 => ioTo E n l k && ioPos E n l k
theorem ioTo_false {E : List Edg} {n : Nat} {l : List Int} {k m : Nat} (hk : k < m) (h : ioPos E n l k = false) : ioTo E n l m = false := by
  induction m with
  | zero => omega
  | succ m ih =>
    rw [ioTo]
    by_cases e : k = m
    · subst e; rw [h, Bool.and_false]
    · rw [ih (by omega), Bool.false_and]
theorem ioTo_iff {E : List Edg} {n : Nat} {l : List Int} : ∀ {m : Nat}, ioTo E n l m = true ↔ ∀ k, k < m → ioPos E n l k = true
  | 0 => by simp [ioTo]
  | m + 1 => by
    rw [ioTo, Bool.and_eq_true, ioTo_iff (m := m)]
    constructor
    · rintro ⟨h1, h2⟩ k hk
      by_cases e : k = m
      · subst e; exact h2
      · exact h1 k (by omega)
    · intro h
      exact ⟨fun k hk => h k (by omega), h m (by omega)⟩
/-- The places, each behind k steps: 0 where there is none. -/
def atTo (n : Nat) (l : List Int) : Nat → List Int
  | 0 => List.replicate n 0
  | k + 1 => (atTo n l k).set (l.getD k 0).toNat ((k : Int) + 1)
theorem atTo_length (n : Nat) (l : List Int) : ∀ k, (atTo n l k).length = n
  | 0 => by simp [atTo]
  | k + 1 => by rw [atTo, List.length_set, atTo_length n l k]
theorem getD_setJ {M : List Int} {i j : Nat} {v : Int} (hi : i < M.length) : (M.set i v).getD j 0 = if j = i then v else M.getD j 0 := by
  simp only [List.getD_eq_getElem?_getD, List.getElem?_set]
  by_cases h : i = j
  · subst h; simp [hi]
  · rw [if_neg h, if_neg (fun e => h e.symm)]
theorem posA_true {n : Nat} {l : List Int} {k : Nat} (h : posA n l k = true) : 0 ≤ l.getD k 0 ∧ l.getD k 0 < n ∧ l.getD k 0 ∉ l.take k := by
  simp only [posA, Bool.and_eq_true, Bool.not_eq_true'] at h
  have h1 := inB_true h.1
  have h2 : hasB (l.take k) (l.getD k 0) = false := h.2
  exact ⟨by omega, by omega, hasB_false.1 h2⟩
theorem take_succ_getD {l : List Int} {k : Nat} (hk : k < l.length) : l.take (k + 1) = l.take k ++ [l.getD k 0] := by
  rw [List.take_succ_eq_append_getElem hk, List.getD_eq_getElem?_getD, List.getElem?_eq_getElem hk]
  rfl
/-- The places are right. -/
theorem atTo_at {n : Nat} {l : List Int} : ∀ {k : Nat}, k ≤ l.length → (∀ i, i < k → posA n l i = true) →
    (∀ i, i < k → (atTo n l k).getD (l.getD i 0).toNat 0 = (i : Int) + 1) ∧ (∀ y : Int, 0 ≤ y → y ∉ l.take k → (atTo n l k).getD y.toNat 0 = 0)
  | 0, _, _ => ⟨fun i hi => absurd hi (by omega), fun y _ _ => by
      rw [atTo, List.getD_eq_getElem?_getD, List.getElem?_replicate]; split <;> rfl⟩
  | k + 1, hk, hp => by
    obtain ⟨h1, h2⟩ := atTo_at (k := k) (by omega) (fun i hi => hp i (by omega))
    obtain ⟨q1, q2, q3⟩ := posA_true (hp k (by omega))
    have hl : (l.getD k 0).toNat < (atTo n l k).length := by rw [atTo_length]; omega
    refine ⟨fun i hi => ?_, fun y hy hn => ?_⟩
    · rw [atTo, getD_setJ hl]
      by_cases e : i = k
      · subst e; rw [if_pos rfl]
      · have hik : i < k := by omega
        rw [if_neg, h1 i hik]
        intro e2
        have h3 := posA_true (hp i (by omega))
        have e3 : l.getD i 0 = l.getD k 0 := by omega
        apply q3
        rw [← e3, List.getD_eq_getElem?_getD, List.getElem?_eq_getElem (by omega), Option.getD_some]
        exact List.mem_take_iff_getElem.2 ⟨i, by omega, rfl⟩
    · rw [take_succ_getD (by omega)] at hn
      simp only [List.mem_append, List.mem_cons, List.not_mem_nil, or_false, not_or] at hn
      rw [atTo, getD_setJ hl, if_neg (by have := hn.2; omega)]
      exact h2 y hy hn.1
def edB (D : List Int) : List Edg → Bool
  | [] => true
  | e :: r => !(decide (D.getD e.dst.toNat 0 < D.getD e.src.toNat 0)) && edB D r
theorem edB_drop {D : List Int} {l : List Edg} {k : Nat} (h : k < l.length) : edB D (l.drop k) = (!(decide (D.getD l[k].dst.toNat 0 < D.getD l[k].src.toNat 0)) && edB D (l.drop (k + 1))) := by rw [List.drop_eq_getElem_cons h, edB]
theorem edB_iff {D : List Int} : ∀ {l : List Edg}, edB D l = true ↔ ∀ e ∈ l, ¬ D.getD e.dst.toNat 0 < D.getD e.src.toNat 0
  | [] => by simp [edB]
  | e :: r => by rw [edB, Bool.and_eq_true, edB_iff (l := r)]; simp
theorem nodup_take {n : Nat} {l : List Int} : ∀ {k : Nat}, k ≤ l.length → (∀ i, i < k → posA n l i = true) → (l.take k).Nodup
  | 0, _, _ => by simp
  | k + 1, hk, hp => by
    rw [take_succ_getD (by omega), List.nodup_append]
    refine ⟨nodup_take (by omega) (fun i hi => hp i (by omega)), by simp, fun a ha b hb e => ?_⟩
    simp only [List.mem_cons, List.not_mem_nil, or_false] at hb
    exact (posA_true (hp k (by omega))).2.2 (by rw [← hb, ← e]; exact ha)
theorem all_in {n : Nat} {l : List Int} (hl : l.length = n) (hp : ∀ i, i < n → posA n l i = true) {y : Int} (h0 : 0 ≤ y) (h1 : y < n) : ∃ i, i < n ∧ l.getD i 0 = y := by
  have hnd := nodup_take (n := n) (l := l) (k := n) (by omega) hp
  rw [List.take_of_length_le (by omega)] at hnd
  have hb : ∀ x ∈ l, 0 ≤ x ∧ x < n := fun x hx => by
    obtain ⟨i, hi, rfl⟩ := List.getElem_of_mem hx
    have := posA_true (hp i (by omega))
    rw [List.getD_eq_getElem?_getD, List.getElem?_eq_getElem hi] at this
    exact ⟨this.1, this.2.1⟩
  have hm : y ∈ l := Classical.byContradiction fun hn => by
    have := nodup_len (n := n) (l := y :: l) (List.nodup_cons.2 ⟨hn, hnd⟩) (fun x hx => by
      rcases List.mem_cons.1 hx with rfl | hx
      · exact ⟨h0, h1⟩
      · exact hb x hx)
    simp at this
    omega
  obtain ⟨i, hi, rfl⟩ := List.getElem_of_mem hm
  exact ⟨i, by omega, by rw [List.getD_eq_getElem?_getD, List.getElem?_eq_getElem hi]; rfl⟩
theorem mem_take_getD {l : List Int} {i k : Nat} (hi : i < k) (hk : k ≤ l.length) : l.getD i 0 ∈ l.take k := by
  rw [List.getD_eq_getElem?_getD, List.getElem?_eq_getElem (by omega), Option.getD_some]
  exact List.mem_take_iff_getElem.2 ⟨i, by omega, rfl⟩
theorem io_eq {E : List Edg} {n : Nat} {l : List Int} (hi : Inside E n) (hc : cycTo E n = false) (hl : l.length = n) (hp : ∀ i, i < n → posA n l i = true) : ioTo E n l n = edB (atTo n l n) E := by
  obtain ⟨h1, _⟩ := atTo_at (n := n) (l := l) (k := n) (by omega) hp
  rw [Bool.eq_iff_iff, ioTo_iff, edB_iff]
  constructor
  · intro h e he
    have hb := hi e he
    obtain ⟨i, hin, hie⟩ := all_in hl hp hb.1 hb.2.1
    obtain ⟨j, hjn, hje⟩ := all_in hl hp hb.2.2.1 hb.2.2.2
    have h2 := h j hjn
    rw [ioPos, Bool.and_eq_true, allB_true] at h2
    have h3 := h2.2 e.src ((beforeTo_iff hi).2 ⟨e, he, rfl, by rw [hje]⟩)
    obtain ⟨q, hq, hqe⟩ := List.mem_take_iff_getElem.1 h3
    have h4 := h1 q (by omega)
    rw [List.getD_eq_getElem?_getD (l := l), List.getElem?_eq_getElem (by omega), Option.getD_some, hqe] at h4
    have h5 := h1 j hjn
    rw [hje] at h5
    rw [h4, h5]
    omega
  · intro h k hk
    rw [ioPos, Bool.and_eq_true, allB_true]
    refine ⟨hp k hk, fun b hb => ?_⟩
    obtain ⟨e, he, rfl, hd⟩ := (beforeTo_iff hi).1 hb
    have hbd := hi e he
    obtain ⟨i, hin, hie⟩ := all_in hl hp hbd.1 hbd.2.1
    have h2 := h e he
    have h4 := h1 i hin
    rw [hie] at h4
    have h5 := h1 k hk
    rw [← hd] at h5
    rw [h4, h5] at h2
    have hik : i ≤ k := by omega
    have hne : i ≠ k := by
      rintro rfl
      have hs : e.src = e.dst := by rw [← hie, hd]
      obtain ⟨s, hs2⟩ : ∃ s : Nat, e.src = s := ⟨e.src.toNat, by omega⟩
      exact cycTo_false hc s (by omega) (.one ⟨e, he, hs2, by rw [← hs, hs2]⟩)
    rw [← hie]
    exact mem_take_getD (by omega) (by omega)
noncomputable def inOrderR (x : Pln) (l : List Int) : Bool := decide (planFaultR x = 0) && (decide ((l.length : Int) = x.tasks) && ioTo x.edges x.tasks.toNat l x.tasks.toNat)
end Go.Proofs.Ytbbjkldkjndfaaa

/- The depths of a plan's tasks. Plain. -/
import Derived.Test.YtbbjkldkjndfaaaOrderP
namespace Go.Proofs.Ytbbjkldkjndfaaa
set_option linter.unusedSimpArgs false

/-- Task t stands behind task b. -/
def depthStep (t : Int) (D : List Int) (b : Int) : List Int := D.set t.toNat (max (D.getD t.toNat 0) (D.getD b.toNat 0 + 1))
def depthIn (E : List Edg) (n : Nat) (D : List Int) (t : Int) (i : Nat) : List Int := ((beforeTo E t n).take i).foldl (depthStep t) D
def depthAt (E : List Edg) (n : Nat) : Nat → List Int
  | 0 => List.replicate n 0
  | j + 1 => depthIn E n (depthAt E n j) ((orderAt E n n).getD j 0) (beforeTo E ((orderAt E n n).getD j 0) n).length
theorem depthStep_length (t : Int) (D : List Int) (b : Int) : (depthStep t D b).length = D.length := by simp [depthStep]
theorem depthIn_length (E : List Edg) (n : Nat) (D : List Int) (t : Int) (i : Nat) : (depthIn E n D t i).length = D.length := by
  unfold depthIn
  generalize (beforeTo E t n).take i = l
  induction l generalizing D with
  | nil => rfl
  | cons b r ih => rw [List.foldl_cons, ih, depthStep_length]
theorem depthAt_length (E : List Edg) (n : Nat) : ∀ j, (depthAt E n j).length = n
  | 0 => by simp [depthAt]
  | j + 1 => by rw [depthAt, depthIn_length, depthAt_length E n j]
theorem depthIn_zero (E : List Edg) (n : Nat) (D : List Int) (t : Int) : depthIn E n D t 0 = D := rfl
theorem depthIn_succ {E : List Edg} {n : Nat} {D : List Int} {t : Int} {i : Nat} (h : i < (beforeTo E t n).length) : depthIn E n D t (i + 1) = depthStep t (depthIn E n D t i) (beforeTo E t n)[i] := by
  unfold depthIn
  rw [List.take_succ_eq_append_getElem h, List.foldl_append]
  rfl
theorem depthIn_full {E : List Edg} {n : Nat} {D : List Int} {t : Int} {i : Nat} (h : (beforeTo E t n).length ≤ i) : depthIn E n D t i = depthIn E n D t (beforeTo E t n).length := by
  unfold depthIn
  rw [List.take_of_length_le h, List.take_of_length_le (Nat.le_refl _)]
theorem getD_setI {M : List Int} {i j : Nat} {v : Int} (hi : i < M.length) : (M.set i v).getD j 0 = if j = i then v else M.getD j 0 := by
  simp only [List.getD_eq_getElem?_getD, List.getElem?_set]
  by_cases h : i = j
  · subst h; simp [hi]
  · rw [if_neg h, if_neg (fun e => h e.symm)]
theorem depthStep_getD {t b : Int} {D : List Int} {j : Nat} (ht : t.toNat < D.length) : (depthStep t D b).getD j 0 = if j = t.toNat then max (D.getD t.toNat 0) (D.getD b.toNat 0 + 1) else D.getD j 0 := by
  unfold depthStep
  rw [getD_setI ht]
/-- All depths lie in 0 .. q. -/
def DepBd (D : List Int) (q : Int) : Prop := ∀ j : Nat, 0 ≤ D.getD j 0 ∧ D.getD j 0 ≤ q
theorem DepBd.step {D : List Int} {q : Int} (h : DepBd D q) {t b : Int} (ht : t.toNat < D.length) : DepBd (depthStep t D b) (q + 1) := fun j => by
  rw [depthStep_getD ht]
  have h1 := h t.toNat
  have h2 := h b.toNat
  have h3 := h j
  split <;> omega
theorem DepBd.mono {D : List Int} {q q' : Int} (h : DepBd D q) (hq : q ≤ q') : DepBd D q' := fun j => ⟨(h j).1, Int.le_trans (h j).2 hq⟩
theorem DepBd.zero (n : Nat) : DepBd (List.replicate n 0) 0 := fun j => by
  rw [List.getD_eq_getElem?_getD, List.getElem?_replicate]
  split <;> simp
noncomputable def depthOfR (x : Pln) : List Int := if planFaultR x = 0 then depthAt x.edges x.tasks.toNat x.tasks.toNat else []
theorem depthOf_le (x : Pln) : (depthOfR x).length ≤ 12 := by
  unfold depthOfR
  split
  · rename_i h
    have := many_false (fault_zero h).1
    rw [depthAt_length]; omega
  · simp
theorem depthOf_cells (x : Pln) : cells_ints (depthOfR x) ≤ 5000000 := by
  have := depthOf_le x
  unfold cells_ints
  omega
end Go.Proofs.Ytbbjkldkjndfaaa

/- For what a task waits, what waits for it: two ways to list it. Plain. -/
import Derived.Test.YtbbjkldkjndfaaaCloseOf
namespace Go.Proofs.Ytbbjkldkjndfaaa
set_option linter.unusedSimpArgs false

def intLe (x y : Int) : Bool := decide (x ≤ y)
theorem mergeSort_intLe (l : List Int) : (l.mergeSort fun x y => decide (x ≤ y)) = l.mergeSort intLe := rfl
/-- A list in its order is one's own sorted one. -/
theorem sorted_unique {a b : List Int} (hs : b.Pairwise (· ≤ ·)) (hc : ∀ y, a.count y = b.count y) : (a.mergeSort fun x y => decide (x ≤ y)) = b := by
  refine List.Perm.eq_of_pairwise (le := fun x y => x ≤ y) (fun x y _ _ h1 h2 => Int.le_antisymm h1 h2) ?_ hs ((List.mergeSort_perm _ _).trans (List.perm_iff_count.2 hc))
  have h := List.pairwise_mergeSort (le := intLe) (fun x y z h1 h2 => by simp [intLe] at *; omega) (fun x y => by simp [intLe]; omega) a
  exact h.imp (fun h => by simpa [intLe] using h)

/-- The program's list, unsorted. -/
def beforeF (E : List Edg) (t : Int) : List Int := (E.filter fun e => decide (e.dst = t)).map (·.src)
theorem beforeF_take {E : List Edg} {t : Int} {k : Nat} (h : k < E.length) : beforeF (E.take (k + 1)) t = if E[k].dst = t then beforeF (E.take k) t ++ [E[k].src] else beforeF (E.take k) t := by
  unfold beforeF
  rw [List.take_succ_eq_append_getElem h, List.filter_append, List.map_append]
  by_cases e : E[k].dst = t <;> simp [e]
theorem beforeF_len (E : List Edg) (t : Int) : (beforeF E t).length ≤ E.length := by
  unfold beforeF
  rw [List.length_map]
  exact List.length_filter_le _ _
/-- The reference's: the edges of node k, the first i of them. -/
def beforeIn (E : List Edg) (t : Int) (k : Int) (i : Nat) : List Int := ((E.take i).filter fun e => decide (e.src = k ∧ e.dst = t)).map fun _ => k
def beforeTo (E : List Edg) (t : Int) : Nat → List Int
  | 0 => []
  | k + 1 => beforeTo E t k ++ beforeIn E t k E.length
theorem beforeIn_succ {E : List Edg} {t k : Int} {i : Nat} (h : i < E.length) : beforeIn E t k (i + 1) = if E[i].src = k ∧ E[i].dst = t then beforeIn E t k i ++ [k] else beforeIn E t k i := by
  unfold beforeIn
  rw [List.take_succ_eq_append_getElem h, List.filter_append, List.map_append]
  by_cases e : E[i].src = k ∧ E[i].dst = t
  · rw [if_pos e]; simp [e]
  · rw [if_neg e, List.filter_cons_of_neg (by simpa using e)]; simp
theorem beforeIn_mem {E : List Edg} {t k : Int} {i : Nat} {y : Int} (h : y ∈ beforeIn E t k i) : y = k := by
  unfold beforeIn at h
  obtain ⟨_, _, rfl⟩ := List.mem_map.1 h
  rfl
theorem beforeTo_mem {E : List Edg} {t : Int} : ∀ {n : Nat} {y : Int}, y ∈ beforeTo E t n → 0 ≤ y ∧ y < n
  | 0, _, h => by cases h
  | n + 1, y, h => by
    rw [beforeTo] at h
    rcases List.mem_append.1 h with h | h
    · have := beforeTo_mem h; omega
    · have := beforeIn_mem h; omega
theorem beforeTo_sorted (E : List Edg) (t : Int) : ∀ n, (beforeTo E t n).Pairwise (· ≤ ·)
  | 0 => List.Pairwise.nil
  | n + 1 => by
    rw [beforeTo, List.pairwise_append]
    refine ⟨beforeTo_sorted E t n, ?_, fun a ha b hb => ?_⟩
    · exact List.pairwise_of_forall_mem_list fun a ha b hb => by rw [beforeIn_mem ha, beforeIn_mem hb]; exact Int.le_refl _
    · have := beforeTo_mem ha; have := beforeIn_mem hb; omega
theorem beforeIn_count (E : List Edg) (t k y : Int) : (beforeIn E t k E.length).count y = if y = k then (beforeF E t).count k else 0 := by
  unfold beforeIn beforeF
  rw [List.take_of_length_le (Nat.le_refl _)]
  by_cases e : y = k
  · subst e
    rw [if_pos rfl]
    induction E with
    | nil => simp
    | cons f r ih =>
      by_cases h1 : f.dst = t <;> by_cases h2 : f.src = y <;> simp_all [List.filter_cons]
  · rw [if_neg e]
    exact List.count_eq_zero.2 fun h => e (by obtain ⟨_, _, rfl⟩ := List.mem_map.1 h; rfl)
theorem beforeTo_count (E : List Edg) (t y : Int) : ∀ n : Nat, (beforeTo E t n).count y = if 0 ≤ y ∧ y < n then (beforeF E t).count y else 0
  | 0 => by rw [if_neg (by omega)]; rfl
  | n + 1 => by
    rw [beforeTo, List.count_append, beforeTo_count E t y n, beforeIn_count]
    by_cases e : y = n
    · subst e; rw [if_neg (by omega), if_pos rfl, if_pos (by omega)]; omega
    · rw [if_neg e]
      by_cases h : 0 ≤ y ∧ y < n
      · rw [if_pos h, if_pos (by omega)]; omega
      · rw [if_neg h, if_neg (by omega)]
theorem before_sorted {E : List Edg} {n : Nat} (hi : Inside E n) (t : Int) : ((beforeF E t).mergeSort fun x y => decide (x ≤ y)) = beforeTo E t n := by
  refine sorted_unique (beforeTo_sorted E t n) fun y => ?_
  rw [beforeTo_count]
  split
  · rfl
  · rename_i h
    refine List.count_eq_zero.2 fun hm => h ?_
    obtain ⟨e, he, rfl⟩ := List.mem_map.1 hm
    have := hi e (List.mem_filter.1 he).1
    omega
theorem before_len {E : List Edg} {n : Nat} (hi : Inside E n) (t : Int) : (beforeTo E t n).length ≤ E.length := by
  rw [← before_sorted hi, List.length_mergeSort]
  exact beforeF_len E t
noncomputable def beforeOfR (x : Pln) (t : Int) : List Int := if planFaultR x = 0 then beforeTo x.edges t x.tasks.toNat else []
theorem beforeOf_le (x : Pln) (t : Int) : (beforeOfR x t).length ≤ 30 := by
  unfold beforeOfR
  split
  · rename_i h
    have hz := fault_zero h
    have hm := many_false hz.1
    have ho : outB (x.tasks.toNat : Int) x.edges = false := by rw [Int.toNat_of_nonneg (by omega)]; exact hz.2.1
    have := before_len (outB_inside ho) t
    omega
  · simp
theorem beforeOf_cells (x : Pln) (t : Int) : cells_ints (beforeOfR x t) ≤ 5000000 := by
  have := beforeOf_le x t
  unfold cells_ints
  omega

/-- The program's list, unsorted. -/
def behindF (E : List Edg) (t : Int) : List Int := (E.filter fun e => decide (e.src = t)).map (·.dst)
theorem behindF_take {E : List Edg} {t : Int} {k : Nat} (h : k < E.length) : behindF (E.take (k + 1)) t = if E[k].src = t then behindF (E.take k) t ++ [E[k].dst] else behindF (E.take k) t := by
  unfold behindF
  rw [List.take_succ_eq_append_getElem h, List.filter_append, List.map_append]
  by_cases e : E[k].src = t <;> simp [e]
theorem behindF_len (E : List Edg) (t : Int) : (behindF E t).length ≤ E.length := by
  unfold behindF
  rw [List.length_map]
  exact List.length_filter_le _ _
/-- The reference's: the edges of node k, the first i of them. -/
def behindIn (E : List Edg) (t : Int) (k : Int) (i : Nat) : List Int := ((E.take i).filter fun e => decide (e.src = t ∧ e.dst = k)).map fun _ => k
def behindTo (E : List Edg) (t : Int) : Nat → List Int
  | 0 => []
  | k + 1 => behindTo E t k ++ behindIn E t k E.length
theorem behindIn_succ {E : List Edg} {t k : Int} {i : Nat} (h : i < E.length) : behindIn E t k (i + 1) = if E[i].src = t ∧ E[i].dst = k then behindIn E t k i ++ [k] else behindIn E t k i := by
  unfold behindIn
  rw [List.take_succ_eq_append_getElem h, List.filter_append, List.map_append]
  by_cases e : E[i].src = t ∧ E[i].dst = k
  · rw [if_pos e]; simp [e]
  · rw [if_neg e, List.filter_cons_of_neg (by simpa using e)]; simp
theorem behindIn_mem {E : List Edg} {t k : Int} {i : Nat} {y : Int} (h : y ∈ behindIn E t k i) : y = k := by
  unfold behindIn at h
  obtain ⟨_, _, rfl⟩ := List.mem_map.1 h
  rfl
theorem behindTo_mem {E : List Edg} {t : Int} : ∀ {n : Nat} {y : Int}, y ∈ behindTo E t n → 0 ≤ y ∧ y < n
  | 0, _, h => by cases h
  | n + 1, y, h => by
    rw [behindTo] at h
    rcases List.mem_append.1 h with h | h
    · have := behindTo_mem h; omega
    · have := behindIn_mem h; omega
theorem behindTo_sorted (E : List Edg) (t : Int) : ∀ n, (behindTo E t n).Pairwise (· ≤ ·)
  | 0 => List.Pairwise.nil
  | n + 1 => by
    rw [behindTo, List.pairwise_append]
    refine ⟨behindTo_sorted E t n, ?_, fun a ha b hb => ?_⟩
    · exact List.pairwise_of_forall_mem_list fun a ha b hb => by rw [behindIn_mem ha, behindIn_mem hb]; exact Int.le_refl _
    · have := behindTo_mem ha; have := behindIn_mem hb; omega
theorem behindIn_count (E : List Edg) (t k y : Int) : (behindIn E t k E.length).count y = if y = k then (behindF E t).count k else 0 := by
  unfold behindIn behindF
  rw [List.take_of_length_le (Nat.le_refl _)]
  by_cases e : y = k
  · subst e
    rw [if_pos rfl]
    induction E with
    | nil => simp
    | cons f r ih =>
      by_cases h1 : f.src = t <;> by_cases h2 : f.dst = y <;> simp_all [List.filter_cons]
  · rw [if_neg e]
    exact List.count_eq_zero.2 fun h => e (by obtain ⟨_, _, rfl⟩ := List.mem_map.1 h; rfl)
theorem behindTo_count (E : List Edg) (t y : Int) : ∀ n : Nat, (behindTo E t n).count y = if 0 ≤ y ∧ y < n then (behindF E t).count y else 0
  | 0 => by rw [if_neg (by omega)]; rfl
  | n + 1 => by
    rw [behindTo, List.count_append, behindTo_count E t y n, behindIn_count]
    by_cases e : y = n
    · subst e; rw [if_neg (by omega), if_pos rfl, if_pos (by omega)]; omega
    · rw [if_neg e]
      by_cases h : 0 ≤ y ∧ y < n
      · rw [if_pos h, if_pos (by omega)]; omega
      · rw [if_neg h, if_neg (by omega)]
theorem behind_sorted {E : List Edg} {n : Nat} (hi : Inside E n) (t : Int) : ((behindF E t).mergeSort fun x y => decide (x ≤ y)) = behindTo E t n := by
  refine sorted_unique (behindTo_sorted E t n) fun y => ?_
  rw [behindTo_count]
  split
  · rfl
  · rename_i h
    refine List.count_eq_zero.2 fun hm => h ?_
    obtain ⟨e, he, rfl⟩ := List.mem_map.1 hm
    have := hi e (List.mem_filter.1 he).1
    omega
theorem behind_len {E : List Edg} {n : Nat} (hi : Inside E n) (t : Int) : (behindTo E t n).length ≤ E.length := by
  rw [← behind_sorted hi, List.length_mergeSort]
  exact behindF_len E t
noncomputable def behindOfR (x : Pln) (t : Int) : List Int := if planFaultR x = 0 then behindTo x.edges t x.tasks.toNat else []
theorem behindOf_le (x : Pln) (t : Int) : (behindOfR x t).length ≤ 30 := by
  unfold behindOfR
  split
  · rename_i h
    have hz := fault_zero h
    have hm := many_false hz.1
    have ho : outB (x.tasks.toNat : Int) x.edges = false := by rw [Int.toNat_of_nonneg (by omega)]; exact hz.2.1
    have := behind_len (outB_inside ho) t
    omega
  · simp
theorem behindOf_cells (x : Pln) (t : Int) : cells_ints (behindOfR x t) ≤ 5000000 := by
  have := behindOf_le x t
  unfold cells_ints
  omega
end Go.Proofs.Ytbbjkldkjndfaaa

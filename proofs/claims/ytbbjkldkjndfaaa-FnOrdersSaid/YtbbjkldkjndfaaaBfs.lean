/- A search through a graph of a few nodes, with marks and a queue: it marks what is reached. Plain: no program in sight. -/
import Derived.Test.YtbbjkldkjndfaaaReach
namespace Go.Proofs.Ytbbjkldkjndfaaa

/-- One edge: its end is marked, and queued, if the edge leaves c and its end was not marked. -/
def bfsEdge (c : Int) (s : List Bool × List Int) (e : Edg) : List Bool × List Int :=
  if e.src = c ∧ s.1.getD e.dst.toNat false = false then (s.1.set e.dst.toNat true, s.2 ++ [e.dst]) else s
def bfsNode (E : List Edg) (c : Int) (s : List Bool × List Int) : List Bool × List Int := E.foldl (bfsEdge c) s
/-- The state behind h nodes of the queue. -/
def bfsAt (E : List Edg) (t : Int) (n : Nat) : Nat → List Bool × List Int
  | 0 => (List.replicate n false, [t])
  | h + 1 => bfsNode E ((bfsAt E t n h).2.getD h 0) (bfsAt E t n h)

theorem getD_setB {M : List Bool} {i j : Nat} {v : Bool} (hi : i < M.length) : (M.set i v).getD j false = if j = i then v else M.getD j false := by
  simp only [List.getD_eq_getElem?_getD, List.getElem?_set]
  by_cases h : i = j
  · subst h; simp [hi]
  · rw [if_neg h, if_neg (fun e => h e.symm)]
theorem count_set_true {M : List Bool} {i : Nat} (hi : i < M.length) (h : M.getD i false = false) : (M.set i true).count true = M.count true + 1 := by
  have h0 : M[i] = false := by rw [List.getD_eq_getElem?_getD, List.getElem?_eq_getElem hi] at h; exact h
  rw [List.count_set hi, h0]
  simp

structure BfsInv (E : List Edg) (n : Nat) (t : Int) (s : List Bool × List Int) (r : List Int) : Prop where
  len : s.1.length = n
  queue : s.2 = t :: r
  mark : ∀ y : Int, 0 ≤ y → (s.1.getD y.toNat false = true ↔ y ∈ r)
  way : ∀ y ∈ r, Way E t y
  count : r.length = s.1.count true
theorem BfsInv.le {E : List Edg} {n : Nat} {t : Int} {s : List Bool × List Int} {r : List Int} (h : BfsInv E n t s r) : r.length ≤ n := by
  rw [h.count, ← h.len]; exact List.count_le_length
theorem BfsInv.start (E : List Edg) (n : Nat) (t : Int) : BfsInv E n t (List.replicate n false, [t]) [] := by
  refine ⟨by simp, rfl, fun y _ => ?_, by simp, ?_⟩
  · simp [List.getD_eq_getElem?_getD, List.getElem?_replicate]
    split <;> rfl
  · simp [List.count_replicate]
theorem BfsInv.edge {E : List Edg} {n : Nat} (hi : Inside E n) {t c : Int} {s : List Bool × List Int} {r : List Int} (h : BfsInv E n t s r) (hc : c = t ∨ Way E t c) {e : Edg} (he : e ∈ E) :
    ∃ r', BfsInv E n t (bfsEdge c s e) (r ++ r') ∧ (e.src = c → e.dst ∈ r ++ r') := by
  have hb := hi e he
  unfold bfsEdge
  by_cases h1 : e.src = c ∧ s.1.getD e.dst.toNat false = false
  · rw [if_pos h1]
    have hd : e.dst.toNat < s.1.length := by rw [h.len]; omega
    refine ⟨[e.dst], ⟨by simpa using h.len, by simp [h.queue], fun y hy => ?_, fun y hy => ?_, ?_⟩, fun _ => by simp⟩
    · simp only
      rw [getD_setB hd]
      by_cases e1 : y = e.dst
      · subst e1; simp
      · rw [if_neg (by omega), h.mark y hy]; simp [e1]
    · rcases List.mem_append.1 hy with hy | hy
      · exact h.way y hy
      · simp at hy
        subst hy
        have ha : Way E c e.dst := .one ⟨e, he, h1.1, rfl⟩
        rcases hc with rfl | hc
        · exact ha
        · exact hc.trans ha
    · simp only [List.length_append, List.length_cons, List.length_nil]
      rw [count_set_true hd h1.2, h.count]
  · rw [if_neg h1]
    refine ⟨[], by simpa using h, fun e1 => ?_⟩
    have h2 : s.1.getD e.dst.toNat false = true := by
      cases h3 : s.1.getD e.dst.toNat false with
      | true => rfl
      | false => exact absurd ⟨e1, h3⟩ h1
    simpa using (h.mark _ hb.2.2.1).1 h2
theorem BfsInv.node {E : List Edg} {n : Nat} (hi : Inside E n) {t c : Int} (hc : c = t ∨ Way E t c) : ∀ (F : List Edg), (∀ e ∈ F, e ∈ E) → ∀ {s : List Bool × List Int} {r : List Int}, BfsInv E n t s r →
    ∃ r', BfsInv E n t (F.foldl (bfsEdge c) s) (r ++ r') ∧ ∀ e ∈ F, e.src = c → e.dst ∈ r ++ r'
  | [], _, s, r, h => ⟨[], by simpa using h, by simp⟩
  | e :: F, hs, s, r, h => by
    obtain ⟨r1, h1, h2⟩ := h.edge hi hc (hs e (List.mem_cons_self ..))
    obtain ⟨r2, h3, h4⟩ := BfsInv.node hi hc F (fun a ha => hs a (List.mem_cons_of_mem _ ha)) h1
    refine ⟨r1 ++ r2, by rw [← List.append_assoc]; exact h3, fun f hf e1 => ?_⟩
    rw [← List.append_assoc]
    rcases List.mem_cons.1 hf with rfl | hf
    · exact List.mem_append_left _ (h2 e1)
    · exact h4 f hf e1
/-- All states are right, as far as the queue goes. -/
theorem bfsAt_inv {E : List Edg} {n : Nat} (hi : Inside E n) (t : Int) : ∀ h : Nat, (∀ j, j < h → j < (bfsAt E t n j).2.length) →
    ∃ r, BfsInv E n t (bfsAt E t n h) r ∧ h ≤ (t :: r).length ∧ ∀ j, j < h → ∀ e ∈ E, e.src = (t :: r).getD j 0 → e.dst ∈ r
  | 0, _ => ⟨[], BfsInv.start E n t, by simp, fun j hj => absurd hj (by omega)⟩
  | h + 1, hh => by
    obtain ⟨r, h1, h2, h3⟩ := bfsAt_inv hi t h (fun j hj => hh j (by omega))
    have hlt := hh h (by omega)
    rw [h1.queue] at hlt
    have hc : (t :: r).getD h 0 = t ∨ Way E t ((t :: r).getD h 0) := by
      rcases Nat.eq_zero_or_pos h with h0 | h0
      · subst h0; left; simp
      · right
        obtain ⟨k, rfl⟩ : ∃ k, h = k + 1 := ⟨h - 1, by omega⟩
        have hk : k < r.length := by simpa using hlt
        refine h1.way _ ?_
        simp [List.getD_eq_getElem?_getD, List.getElem?_eq_getElem hk]
    obtain ⟨r', h4, h5⟩ := BfsInv.node hi hc E (fun _ h => h) h1
    refine ⟨r ++ r', ?_, ?_, fun j hj e he hsrc => ?_⟩
    · rw [bfsAt, h1.queue]; exact h4
    · simp only [List.length_cons, List.length_append] at hlt ⊢; omega
    · have hjr : j < (t :: r).length := by omega
      have hpre : (t :: (r ++ r')).getD j 0 = (t :: r).getD j 0 := by
        rw [← List.cons_append, List.getD_eq_getElem?_getD, List.getD_eq_getElem?_getD, List.getElem?_append_left hjr]
      rw [hpre] at hsrc
      by_cases hjh : j = h
      · subst hjh; exact h5 e he hsrc
      · exact List.mem_append_left _ (h3 j (by omega) e he hsrc)
theorem bfs_len {E : List Edg} {n : Nat} (hi : Inside E n) (t : Int) (h : Nat) (hh : ∀ j, j < h → j < (bfsAt E t n j).2.length) :
    (bfsAt E t n h).1.length = n ∧ 1 ≤ (bfsAt E t n h).2.length ∧ (bfsAt E t n h).2.length ≤ n + 1 ∧ h ≤ (bfsAt E t n h).2.length := by
  obtain ⟨r, h1, h2, _⟩ := bfsAt_inv hi t h hh
  have := h1.le
  refine ⟨h1.len, ?_, ?_, ?_⟩ <;> rw [h1.queue] <;> simp at * <;> omega
/-- All nodes of the queue lie among the nodes, where the first does. -/
theorem bfs_bd {E : List Edg} {n : Nat} (hi : Inside E n) (t : Int) (ht : 0 ≤ t ∧ t < n) (h : Nat) (hh : ∀ j, j < h → j < (bfsAt E t n j).2.length) : ∀ y ∈ (bfsAt E t n h).2, 0 ≤ y ∧ y < n := by
  obtain ⟨r, h1, h2, _⟩ := bfsAt_inv hi t h hh
  intro y hy
  rw [h1.queue] at hy
  rcases List.mem_cons.1 hy with rfl | hy
  · exact ht
  · have := (h1.way y hy).ends hi; omega
/-- At the end of the queue the marks are what is reached. -/
theorem bfs_way {E : List Edg} {n : Nat} (hi : Inside E n) (t : Int) (h : Nat) (hh : ∀ j, j < h → j < (bfsAt E t n j).2.length) (hend : (bfsAt E t n h).2.length ≤ h) {y : Int} (hy : 0 ≤ y) :
    (bfsAt E t n h).1.getD y.toNat false = true ↔ Way E t y := by
  obtain ⟨r, h1, h2, h3⟩ := bfsAt_inv hi t h hh
  rw [h1.mark y hy]
  refine ⟨h1.way y, fun hw => ?_⟩
  have hl : h = (t :: r).length := by rw [h1.queue] at hend; omega
  have key : ∀ {x y : Int}, Way E x y → x ∈ t :: r → y ∈ r := by
    intro x y hw
    induction hw with
    | one a =>
      intro hx
      obtain ⟨e, he, rfl, rfl⟩ := a
      obtain ⟨j, hj, hje⟩ := List.getElem_of_mem hx
      exact h3 j (by omega) e he (by rw [List.getD_eq_getElem?_getD, List.getElem?_eq_getElem hj]; exact hje.symm)
    | more a _ ih =>
      intro hx
      obtain ⟨e, he, rfl, rfl⟩ := a
      obtain ⟨j, hj, hje⟩ := List.getElem_of_mem hx
      exact ih (List.mem_cons_of_mem _ (h3 j (by omega) e he (by rw [List.getD_eq_getElem?_getD, List.getElem?_eq_getElem hj]; exact hje.symm)))
  exact key hw (List.mem_cons_self ..)
end Go.Proofs.Ytbbjkldkjndfaaa

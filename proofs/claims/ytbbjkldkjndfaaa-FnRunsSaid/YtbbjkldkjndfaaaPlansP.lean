/- A drawn plan, as a plain function; and that it is right. Plain. -/
import Derived.Test.YtbbjkldkjndfaaaDraw
import Derived.Test.YtbbjkldkjndfaaaBeforeP
namespace Go.Proofs.Ytbbjkldkjndfaaa
open Go.RowKit Go.ChangeShapes Go.Deep

def newEdge (code : List UInt8) (n : Int) (c : Nat × Int) : Edg × (Nat × Int) :=
  (⟨(curBelow code (1 + (curBelow code (n - 1) c).1) (curBelow code (n - 1) c).2).1, 1 + (curBelow code (n - 1) c).1⟩, (curBelow code (1 + (curBelow code (n - 1) c).1) (curBelow code (n - 1) c).2).2)
def planGo (code : List UInt8) (n : Int) : Nat → Nat → List Edg → Nat × Int → List Edg × (Nat × Int)
  | 0, _, E, c => (E, c)
  | f + 1, i, E, c =>
    if (i : Int) < (curBelow code 9 c).1 ∧ 1 < n then planGo code n f (i + 1) (if hasB E (newEdge code n (curBelow code 9 c).2).1 = true then E else E ++ [(newEdge code n (curBelow code 9 c).2).1]) (newEdge code n (curBelow code 9 c).2).2
    else (E, (curBelow code 9 c).2)
def planOf (code : List UInt8) (p m w n : Int) (c : Nat × Int) : Pln × (Nat × Int) := (⟨p, m, w, n, (planGo code n 9 0 [] c).1⟩, (planGo code n 9 0 [] c).2)
def planDrawn (code : List UInt8) (c : Nat × Int) : Pln × (Nat × Int) :=
  planOf code (curBelow code 4 c).1 (1 + (curBelow code 3 (curBelow code 4 c).2).1) (1 + (curBelow code 4 (curBelow code 3 (curBelow code 4 c).2).2).1)
    (if (curBelow code 10 (curBelow code 6 (curBelow code 4 (curBelow code 3 (curBelow code 4 c).2).2).2).2).1 = 0 then 12 else 1 + (curBelow code 6 (curBelow code 4 (curBelow code 3 (curBelow code 4 c).2).2).2).1)
    (curBelow code 10 (curBelow code 6 (curBelow code 4 (curBelow code 3 (curBelow code 4 c).2).2).2).2).2

/-- An edge as it is drawn. -/
def Rising (n : Int) (e : Edg) : Prop := 0 ≤ e.src ∧ e.src < e.dst ∧ e.dst < n
theorem newEdge_rising (code : List UInt8) {n : Int} (c : Nat × Int) (hn : 1 < n) : Rising n (newEdge code n c).1 := by
  have h1 := curBelow_bd code (n - 1) c (by omega)
  have h2 := curBelow_bd code (1 + (curBelow code (n - 1) c).1) (curBelow code (n - 1) c).2 (by omega)
  unfold Rising newEdge
  simp only
  omega
structure PlanInv (n : Int) (i : Nat) (E : List Edg) : Prop where
  rise : ∀ e ∈ E, Rising n e
  nodup : E.Nodup
  len : E.length ≤ i
theorem planGo_inv (code : List UInt8) (n : Int) : ∀ (f i : Nat) (E : List Edg) (c : Nat × Int), PlanInv n i E → PlanInv n (i + f) (planGo code n f i E c).1
  | 0, _, _, _, h => h
  | f + 1, i, E, c, h => by
    rw [planGo]
    split
    · rename_i hc
      have ih := fun E' h' => planGo_inv code n f (i + 1) E' (newEdge code n (curBelow code 9 c).2).2 h'
      rw [show i + (f + 1) = i + 1 + f by omega]
      refine ih _ ?_
      split
      · exact ⟨h.rise, h.nodup, by have := h.len; omega⟩
      · rename_i hb
        refine ⟨fun e he => ?_, ?_, by rw [List.length_append, List.length_singleton]; have := h.len; omega⟩
        · rcases List.mem_append.1 he with he | he
          · exact h.rise e he
          · rw [List.mem_singleton.1 he]; exact newEdge_rising code _ hc.2
        · rw [List.nodup_append]
          refine ⟨h.nodup, by simp, fun a ha b hb' hab => ?_⟩
          rw [List.mem_singleton.1 hb'] at hab
          subst hab
          exact hb (hasB_true.2 ha)
    · show PlanInv n (i + (f + 1)) E
      exact ⟨h.rise, h.nodup, by have := h.len; omega⟩
/-- What is right of a drawn plan. -/
structure PlanGood (x : Pln) : Prop where
  prio : 0 ≤ x.prio ∧ x.prio < 4
  most : 1 ≤ x.most ∧ x.most ≤ 3
  wait : 1 ≤ x.wait ∧ x.wait ≤ 4
  tasks : 1 ≤ x.tasks ∧ x.tasks ≤ 12
  edges : PlanInv x.tasks 9 x.edges
theorem planDrawn_good (code : List UInt8) (c : Nat × Int) : PlanGood (planDrawn code c).1 := by
  have h1 := curBelow_bd code 4 c (by omega)
  have h2 := curBelow_bd code 3 (curBelow code 4 c).2 (by omega)
  have h3 := curBelow_bd code 4 (curBelow code 3 (curBelow code 4 c).2).2 (by omega)
  have h4 := curBelow_bd code 6 (curBelow code 4 (curBelow code 3 (curBelow code 4 c).2).2).2 (by omega)
  refine ⟨h1, ⟨?_, ?_⟩, ⟨?_, ?_⟩, ?_, planGo_inv code _ 9 0 [] _ ⟨fun _ h => (by cases h), List.nodup_nil, Nat.le_refl _⟩⟩
  · show 1 ≤ 1 + _; omega
  · show 1 + _ ≤ 3; omega
  · show 1 ≤ 1 + _; omega
  · show 1 + _ ≤ 4; omega
  · unfold planDrawn planOf
    simp only
    split <;> omega


/-! ### What is right of it -/
theorem inB_of {n lo hi : Int} (h : lo ≤ n ∧ n ≤ hi) : inB n lo hi = true := by simp [inB]; exact h
theorem good_many {x : Pln} (h : PlanGood x) {E : List Edg} (hE : E.length ≤ 30) : manyB { x with edges := E } = false := by
  obtain ⟨h1, h2, h3, h4, _⟩ := h
  unfold manyB
  simp only
  rw [inB_of (by omega), inB_of (by omega), inB_of (by omega), inB_of (by omega), decide_eq_false (by omega)]
  rfl
theorem outB_of {n : Int} : ∀ {E : List Edg}, (∀ e ∈ E, 0 ≤ e.src ∧ e.src < n ∧ 0 ≤ e.dst ∧ e.dst < n) → outB n E = false
  | [], _ => rfl
  | e :: r, h => by
    have h1 := h e (List.mem_cons_self ..)
    rw [outB, outB_of fun x hx => h x (List.mem_cons_of_mem _ hx), edgeOut, inB_of (by omega), inB_of (by omega)]
    rfl
theorem rising_in {n : Int} {e : Edg} (h : Rising n e) : 0 ≤ e.src ∧ e.src < n ∧ 0 ≤ e.dst ∧ e.dst < n := by unfold Rising at h; omega
theorem twice_of {E : List Edg} (h : E.Nodup) : ∀ k, k ≤ E.length → twiceTo E k = false
  | 0, _ => rfl
  | k + 1, hk => by
    rw [twiceTo, twice_of h k (by omega), Bool.false_or, List.getD_eq_getElem?_getD, List.getElem?_eq_getElem (show k < E.length by omega), Option.getD_some, List.contains_eq_mem, decide_eq_false_iff_not]
    intro hm
    obtain ⟨i, hi, he⟩ := List.getElem_of_mem hm
    rw [List.length_take] at hi
    rw [List.getElem_take] at he
    exact (List.pairwise_iff_getElem.1 h) i k (by omega) (by omega) (by omega) he
theorem way_up {n : Int} {E : List Edg} (h : ∀ e ∈ E, Rising n e) {x y : Int} (hw : Way E x y) : x < y := by
  induction hw with
  | one a =>
    obtain ⟨e, he, rfl, rfl⟩ := a
    exact (h e he).2.1
  | more a _ ih =>
    obtain ⟨e, he, rfl, rfl⟩ := a
    have := (h e he).2.1
    omega
theorem cyc_of {E : List Edg} (h : ∀ x : Int, ¬ Way E x x) : ∀ k, cycTo E k = false
  | 0 => rfl
  | k + 1 => by rw [cycTo, cyc_of h k, wayB_false.2 (h k)]; rfl
theorem good_zero {x : Pln} (h : PlanGood x) : planFaultR x = 0 := by
  have h1 : manyB x = false := good_many h (E := x.edges) (by have := h.edges.len; omega)
  have h2 := outB_of fun e he => rising_in (h.edges.rise e he)
  have h3 := twice_of h.edges.nodup _ (Nat.le_refl _)
  have h4 := cyc_of (E := x.edges) (fun y hy => by have := way_up h.edges.rise hy; omega) x.tasks.toNat
  unfold planFaultR
  rw [h1, h2, h3, h4]
  simp
/-- An edge from a task to itself. -/
theorem good_cycle {x : Pln} (h : PlanGood x) : planFaultR { x with edges := x.edges ++ [⟨0, 0⟩] } = 4 := by
  have ht := h.tasks
  have h1 := good_many h (E := x.edges ++ [⟨0, 0⟩]) (by have := h.edges.len; simp; omega)
  have h2 : outB x.tasks (x.edges ++ [⟨0, 0⟩]) = false := outB_of fun e he => by
    rcases List.mem_append.1 he with he | he
    · exact rising_in (h.edges.rise e he)
    · rw [List.mem_singleton.1 he]; simp only; omega
  have h3 : (x.edges ++ [(⟨0, 0⟩ : Edg)]).Nodup := by
    rw [List.nodup_append]
    refine ⟨h.edges.nodup, by simp, fun a ha b hb hab => ?_⟩
    rw [List.mem_singleton.1 hb] at hab
    subst hab
    have := h.edges.rise _ ha
    unfold Rising at this
    simp only at this
    omega
  have h4 : cycTo (x.edges ++ [(⟨0, 0⟩ : Edg)]) x.tasks.toNat = true := by
    refine cycTo_mono (k := 1) (by omega) ?_
    have hw : Way (x.edges ++ [(⟨0, 0⟩ : Edg)]) ((0 : Nat) : Int) ((0 : Nat) : Int) := .one ⟨⟨0, 0⟩, by simp, rfl, rfl⟩
    rw [cycTo, wayB_true.2 hw, Bool.or_true]
  unfold planFaultR
  simp only
  rw [h1, h2, twice_of h3 _ (Nat.le_refl _), h4]
  simp
end Go.Proofs.Ytbbjkldkjndfaaa

/- What is wrong with a plan, by plain functions. -/
import Derived.Test.YtbbjkldkjndfaaaBfs
import Derived.Test.YtbbjkldkjndfaaaPlanK
import Derived.Test.YtbbjkldkjndfaaaWithin
namespace Go.Proofs.Ytbbjkldkjndfaaa
open Go.RowKit Go.ChangeShapes Go.Deep

def manyB (x : Pln) : Bool := !(inB x.tasks 1 12) || (decide (30 < x.edges.length) || (!(inB x.prio 0 9) || (!(inB x.most 1 5) || !(inB x.wait 1 20))))
def edgeOut (n : Int) (e : Edg) : Bool := !(inB e.src 0 (n - 1)) || !(inB e.dst 0 (n - 1))
def outB (n : Int) : List Edg → Bool
  | [] => false
  | e :: r => edgeOut n e || outB n r
theorem outB_drop {n : Int} {l : List Edg} {k : Nat} (h : k < l.length) : outB n (l.drop k) = (edgeOut n l[k] || outB n (l.drop (k + 1))) := by rw [List.drop_eq_getElem_cons h, outB]
def twiceTo (E : List Edg) : Nat → Bool
  | 0 => false
  | k + 1 => twiceTo E k || (E.take k).contains (E.getD k ⟨0, 0⟩)
theorem twiceTo_mono {E : List Edg} {k m : Nat} (hk : k ≤ m) (h : twiceTo E k = true) : twiceTo E m = true := by
  induction hk with
  | refl => exact h
  | step _ ih => rw [twiceTo, ih]; rfl
/-- Is y reached from x? -/
noncomputable def wayB (E : List Edg) (x y : Int) : Bool := @decide (Way E x y) (Classical.propDecidable _)
theorem wayB_true {E : List Edg} {x y : Int} : wayB E x y = true ↔ Way E x y := by simp [wayB]
theorem wayB_false {E : List Edg} {x y : Int} : wayB E x y = false ↔ ¬ Way E x y := by simp [wayB]
/-- The first k nodes: is one of them reached from itself? -/
noncomputable def cycTo (E : List Edg) : Nat → Bool
  | 0 => false
  | k + 1 => cycTo E k || wayB E k k
theorem cycTo_mono {E : List Edg} {k m : Nat} (hk : k ≤ m) (h : cycTo E k = true) : cycTo E m = true := by
  induction hk with
  | refl => exact h
  | step _ ih => rw [cycTo, ih]; rfl
theorem cycTo_false {E : List Edg} : ∀ {n : Nat}, cycTo E n = false → ∀ t : Nat, t < n → ¬ Way E t t
  | 0, _, t, ht => absurd ht (by omega)
  | n + 1, h, t, ht => by
    rw [cycTo, Bool.or_eq_false_iff] at h
    by_cases e : t = n
    · subst e; exact wayB_false.1 h.2
    · exact cycTo_false h.1 t (by omega)
noncomputable def planFaultR (x : Pln) : Int :=
  if manyB x = true then 1 else if outB x.tasks x.edges = true then 2 else if twiceTo x.edges x.edges.length = true then 3 else if cycTo x.edges x.tasks.toNat = true then 4 else 0
theorem many_false {x : Pln} (h : manyB x = false) : 1 ≤ x.tasks ∧ x.tasks ≤ 12 ∧ x.edges.length ≤ 30 ∧ (0 ≤ x.prio ∧ x.prio ≤ 9) ∧ (1 ≤ x.most ∧ x.most ≤ 5) ∧ (1 ≤ x.wait ∧ x.wait ≤ 20) := by
  simp [manyB, inB] at h
  omega
theorem outB_false {n : Int} : ∀ {E : List Edg}, outB n E = false → ∀ e ∈ E, 0 ≤ e.src ∧ e.src < n ∧ 0 ≤ e.dst ∧ e.dst < n
  | [], _, e, he => by cases he
  | f :: r, h, e, he => by
    rw [outB, Bool.or_eq_false_iff] at h
    rcases List.mem_cons.1 he with rfl | he
    · have := h.1
      simp [edgeOut, inB] at this
      omega
    · exact outB_false h.2 e he
theorem outB_inside {n : Nat} {E : List Edg} (h : outB (n : Int) E = false) : Inside E n := fun e he => outB_false h e he
/-- A right plan. -/
theorem fault_zero {x : Pln} (h : planFaultR x = 0) : manyB x = false ∧ outB x.tasks x.edges = false ∧ twiceTo x.edges x.edges.length = false ∧ cycTo x.edges x.tasks.toNat = false := by
  unfold planFaultR at h
  cases h1 : manyB x <;> cases h2 : outB x.tasks x.edges <;> cases h3 : twiceTo x.edges x.edges.length <;> cases h4 : cycTo x.edges x.tasks.toNat <;> simp [h1, h2, h3, h4] at h ⊢
theorem slice_at_eq {g g' n c : Nat} (h : g = g') : Value.slice (some ⟨g, 0, none⟩) n c = Value.slice (some ⟨g', 0, none⟩) n c := by rw [h]
/-- A row that is made with its elements. -/
theorem own_new {w : World} {g base size m : Nat} {e : TypeId} (news : Array Value) (hg : g = w.heap.size) (hb : base ≤ g) (hn : news.size = m * size) (hm : m ≤ maxLen) :
    (w.alloc (.cells news e)).ownsRow base e size (.slice (some ⟨g, 0, none⟩) m m) m news.toList := by
  subst hg
  exact ⟨by simp [hn], .inr ⟨_, m, news, rfl, hb, heap_alloc_new w _, Nat.le_refl _, hm, hn, by rw [List.take_of_length_le (by simp [hn])]⟩⟩
end Go.Proofs.Ytbbjkldkjndfaaa

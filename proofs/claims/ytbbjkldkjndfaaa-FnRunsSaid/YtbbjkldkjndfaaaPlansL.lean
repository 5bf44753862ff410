/- What the law FnPlans says, of the plain functions. Plain. -/
import Derived.Test.YtbbjkldkjndfaaaPlansP
import Derived.Test.YtbbjkldkjndfaaaOrderP
import Derived.Test.YtbbjkldkjndfaaaReaches
namespace Go.Proofs.Ytbbjkldkjndfaaa
set_option linter.unusedSimpArgs false
open Go.RowKit Go.ChangeShapes Go.Deep

theorem behindTo_arc {E : List Edg} {t : Int} : ∀ {n : Nat} {y : Int}, y ∈ behindTo E t n → Arc E t y
  | 0, _, h => by cases h
  | n + 1, y, h => by
    rw [behindTo] at h
    rcases List.mem_append.1 h with h | h
    · exact behindTo_arc h
    · have hy := behindIn_mem h
      unfold behindIn at h
      obtain ⟨e, he, _⟩ := List.mem_map.1 h
      have h2 := List.mem_filter.1 he
      have h3 : e.src = t ∧ e.dst = (n : Int) := by simpa using h2.2
      exact ⟨e, List.mem_of_mem_take h2.1, h3.1, by rw [hy]; exact h3.2⟩
structure PlanRight (x : Pln) : Prop where
  zero : planFaultR x = 0
  ins : Inside x.edges x.tasks.toNat
  acy : cycTo x.edges x.tasks.toNat = false
  cnt : 1 ≤ x.tasks ∧ x.tasks ≤ 12
theorem good_right {x : Pln} (h : PlanGood x) : PlanRight x := by
  have hz := good_zero h
  have h1 := fault_zero hz
  have ht := h.tasks
  refine ⟨hz, outB_inside (by rw [Int.toNat_of_nonneg (by omega)]; exact h1.2.1), h1.2.2.2, ht⟩
theorem isTask_of {x : Pln} (h : PlanRight x) {t : Int} (h0 : 0 ≤ t) (h1 : t < x.tasks) : isTaskR x t = true := by
  unfold isTaskR
  rw [h.zero, inB_of (by omega)]
  rfl
theorem reaches_iff {x : Pln} (h : PlanRight x) {a b : Int} (ha : 0 ≤ a) (ha' : a < x.tasks) (hb : 0 ≤ b) (hb' : b < x.tasks) : reachesR x a b = wayB x.edges a b := by
  unfold reachesR
  rw [isTask_of h ha ha', isTask_of h hb hb']
  rfl
theorem right_behind {x : Pln} (h : PlanRight x) {a y : Int} (hy : y ∈ behindOfR x a) : 0 ≤ y ∧ y < x.tasks ∧ Arc x.edges a y := by
  unfold behindOfR at hy
  rw [if_pos h.zero] at hy
  have h1 := behindTo_mem hy
  have := h.cnt
  exact ⟨h1.1, by omega, behindTo_arc hy⟩
theorem right_back {x : Pln} (h : PlanRight x) {a y : Int} (hy : y ∈ behindOfR x a) : hasB (beforeOfR x y) a = true := by
  unfold beforeOfR
  rw [if_pos h.zero]
  exact hasB_true.2 ((beforeTo_iff h.ins).2 (right_behind h hy).2.2)
theorem right_reach {x : Pln} (h : PlanRight x) {a y : Int} (ha : 0 ≤ a) (ha' : a < x.tasks) (hy : y ∈ behindOfR x a) : reachesR x a y = true := by
  obtain ⟨h1, h2, h3⟩ := right_behind h hy
  rw [reaches_iff h ha ha' h1 h2]
  exact wayB_true.2 (.one h3)
theorem right_self {x : Pln} (h : PlanRight x) {a : Int} (ha : 0 ≤ a) (ha' : a < x.tasks) : reachesR x a a = false := by
  rw [reaches_iff h ha ha' ha ha']
  obtain ⟨k, rfl⟩ : ∃ k : Nat, a = k := ⟨a.toNat, by omega⟩
  exact wayB_false.2 (cycTo_false h.acy k (by omega))
theorem right_on {x : Pln} (h : PlanRight x) {a b c : Int} (ha : 0 ≤ a ∧ a < x.tasks) (hb : 0 ≤ b ∧ b < x.tasks) (hc : 0 ≤ c ∧ c < x.tasks) (h1 : reachesR x a b = true) (h2 : reachesR x b c = true) : reachesR x a c = true := by
  rw [reaches_iff h ha.1 ha.2 hb.1 hb.2] at h1
  rw [reaches_iff h hb.1 hb.2 hc.1 hc.2] at h2
  rw [reaches_iff h ha.1 ha.2 hc.1 hc.2]
  exact wayB_true.2 ((wayB_true.1 h1).trans (wayB_true.1 h2))
end Go.Proofs.Ytbbjkldkjndfaaa

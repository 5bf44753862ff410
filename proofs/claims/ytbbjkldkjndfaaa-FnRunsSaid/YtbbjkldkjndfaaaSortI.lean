/- slices.Sort at ints of the call's own. -/
import Derived.Test.YtbbjkldkjndfaaaShelf
import Derived.Test.YtbbjkldkjndfaaaBeforeP
import Derived.Sort.OwnSortedInts
namespace Go.Proofs.Ytbbjkldkjndfaaa
open Go.RowKit Go.ChangeShapes Go.Deep Go.Sort

def sortI (l : List Int) : List Int := l.mergeSort fun x y => decide (x ≤ y)
theorem sortInts_any (u : Value) (l : List Int) (n base : Nat) (w : World) (h : w.ownsRow base 3 1 u n (intsV l)) (hn : n ≤ 1000000) :
    Calls Try.prog 68 #[u] w fun e w' => e = .returned (.tuple #[]) ∧ w'.ownsRow base 3 1 u n (intsV (sortI l)) ∧ w.grownBy w' u.ownBlock := by
  have hl : n = l.length := by have := h.1; simpa [intsV] using this.symm
  subst hl
  rcases h.2 with ⟨rfl, h0⟩ | ⟨g, cap, cur, rfl, hbase, hg, hnc, hm, hsz, hx⟩
  · have hl0 : l = [] := List.eq_nil_of_length_eq_zero h0
    subst hl0
    refine (Try.slices_Sort_int_none none 0 w).mono ?_
    rintro e w' ⟨rfl, rfl⟩
    exact ⟨rfl, ⟨by simp [sortI, intsV], .inl ⟨rfl, rfl⟩⟩, World.grownBy.refl _ _⟩
  · have hlt : g < w.heap.size := (Array.getElem?_eq_some_iff.1 hg).1
    have hx' : cur.toList.take l.length = l.map (Value.int .i64) := by rw [Nat.mul_one] at hx; exact hx
    refine (Try.slices_Sort_int g 0 cap l w (holds_of_blockI hg hx') hlt (by omega)).mono ?_
    rintro e w' ⟨rfl, n, os, rfl⟩
    exact ⟨rfl, ownsRow_sortedI (List.length_mergeSort _) hbase hg hnc hm hsz, grownBy_sortedI _⟩
end Go.Proofs.Ytbbjkldkjndfaaa

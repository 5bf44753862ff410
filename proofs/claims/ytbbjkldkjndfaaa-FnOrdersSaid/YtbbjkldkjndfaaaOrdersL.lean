/- What the law FnOrders says, of the plain functions. Plain. -/
import Derived.Test.YtbbjkldkjndfaaaOrdersP
import Derived.Test.YtbbjkldkjndfaaaPlansL
import Derived.Test.YtbbjkldkjndfaaaCloseOf
namespace Go.Proofs.Ytbbjkldkjndfaaa
set_option linter.unusedSimpArgs false
open Go.RowKit Go.ChangeShapes Go.Deep

theorem closeTo_mem {E : List Edg} {t : Int} : ∀ {k : Nat} {y : Int}, y ∈ closeTo E t k ↔ 0 ≤ y ∧ y < k ∧ (y = t ∨ wayB E t y = true)
  | 0, y => by simp [closeTo]; try omega
  | k + 1, y => by
    rw [closeTo]
    by_cases h : (k : Int) = t ∨ wayB E t k = true
    · rw [if_pos h, List.mem_append, closeTo_mem (k := k), List.mem_singleton]
      constructor
      · rintro (⟨h1, h2, h3⟩ | rfl)
        · exact ⟨h1, by omega, h3⟩
        · exact ⟨by omega, by omega, h⟩
      · rintro ⟨h1, h2, h3⟩
        by_cases e : y = k
        · exact .inr e
        · exact .inl ⟨h1, by omega, h3⟩
    · rw [if_neg h, closeTo_mem (k := k)]
      constructor
      · rintro ⟨h1, h2, h3⟩
        exact ⟨h1, by omega, h3⟩
      · rintro ⟨h1, h2, h3⟩
        by_cases e : y = k
        · subst e; exact absurd h3 h
        · exact ⟨h1, by omega, h3⟩
section
variable {x : Pln} (h : PlanRight x)
include h
theorem right_order : orderOfR x = orderAt x.edges x.tasks.toNat x.tasks.toNat := by unfold orderOfR; rw [if_pos h.zero]
theorem right_depth : depthOfR x = depthAt x.edges x.tasks.toNat x.tasks.toNat := by unfold depthOfR; rw [if_pos h.zero]
theorem right_olen : (orderOfR x).length = x.tasks.toNat := by rw [right_order h, orderAt_length]
theorem right_dlen : (depthOfR x).length = x.tasks.toNat := by rw [right_depth h, depthAt_length]
theorem right_oin : inOrderR x (orderOfR x) = true := by
  have hc := h.cnt
  unfold inOrderR
  rw [decide_eq_true h.zero, right_olen h, decide_eq_true (by omega), right_order h, order_in h.ins h.acy]
  rfl
theorem right_all : inOrderR x (allTo (depthOfR x) (ranksN (depthOfR x))) = true := by
  have hc := h.cnt
  have ha := all_order h.ins h.acy
  unfold inOrderR
  rw [right_depth h, decide_eq_true h.zero, ha.1, decide_eq_true (by omega), ha.2]
  rfl
theorem right_cut : inOrderR x ((orderOfR x).drop 1) = false := by
  have hc := h.cnt
  unfold inOrderR
  rw [List.length_drop, right_olen h, show decide (((x.tasks.toNat - 1 : Nat) : Int) = x.tasks) = false from decide_eq_false (by omega), Bool.false_and, Bool.and_false]
theorem right_rank {d : Nat} {y : Int} (hy : y ∈ rankAt (depthOfR x) d) : 0 ≤ y ∧ y < x.tasks ∧ (depthOfR x).getD y.toNat 0 = d := by
  have hc := h.cnt
  have h1 := rankAt_mem.1 hy
  rw [right_dlen h] at h1
  exact ⟨h1.1, by omega, h1.2.2⟩
theorem right_close {t y : Int} (h0 : 0 ≤ t) (h1 : t < x.tasks) (hy : y ∈ closeOfR x t) : 0 ≤ y ∧ y < x.tasks ∧ (y = t ∨ (depthOfR x).getD t.toNat 0 < (depthOfR x).getD y.toNat 0) := by
  have hc := h.cnt
  unfold closeOfR at hy
  rw [if_pos (isTask_of h h0 h1)] at hy
  have h2 := closeTo_mem.1 hy
  refine ⟨h2.1, by omega, h2.2.2.imp id fun h3 => ?_⟩
  rw [right_depth h]
  exact depth_way h.ins h.acy (wayB_true.1 h3)
theorem right_here {t : Int} (h0 : 0 ≤ t) (h1 : t < x.tasks) : hasB (closeOfR x t) t = true := by
  unfold closeOfR
  rw [if_pos (isTask_of h h0 h1)]
  exact hasB_true.2 (closeTo_mem.2 ⟨h0, by omega, .inl rfl⟩)
end
theorem closeOf_len (x : Pln) (t : Int) : (closeOfR x t).length ≤ 12 := by
  unfold closeOfR
  split
  · rename_i h
    have h1 := closeTo_le x.edges t x.tasks.toNat
    have h2 := many_false (isTask_right h).2.1
    omega
  · simp
theorem ranksTo_getD (D : List Int) : ∀ {m d : Nat}, d < m → (ranksTo D m).getD d [] = rankAt D d
  | 0, d, h => absurd h (by omega)
  | m + 1, d, h => by
    rw [ranksTo, List.getD_eq_getElem?_getD]
    by_cases e : d = m
    · subst e
      rw [List.getElem?_append_right (by rw [ranksTo_length]; exact Nat.le_refl _), ranksTo_length]
      simp
    · rw [List.getElem?_append_left (by rw [ranksTo_length]; omega), ← List.getD_eq_getElem?_getD]
      exact ranksTo_getD D (by omega)
theorem rank_len (D : List Int) (d : Int) : (rankAt D d).length ≤ D.length := rankTo_le D d D.length
/-- A row of the rows, read. -/
theorem rank_row {w : World} {A : Option Addr} {c n : Nat} {D : List Int} (h : Rd_intss w (.slice A n c) (ranksTo D n)) {d : Nat} (hd : d < n) :
    ∃ b o v, A = some ⟨b, o, none⟩ ∧ b < w.heap.size ∧ w.cell? ⟨b, o + d, none⟩ = some v ∧ Rd w 1 v (rankAt D d).length (intsV (rankAt D d)) := by
  obtain ⟨vs, h1, h2⟩ := h
  have hl := ranksTo_length D n
  rw [hl] at h1
  obtain ⟨b, o, c', hv, _, _, hb, hc⟩ := h1.form (by omega) (by omega)
  obtain ⟨v, h3, h4⟩ := h2 d (by omega)
  have h5 : (ranksTo D n)[d]'(by omega) = rankAt D d := by rw [← ranksTo_getD D hd, List.getD_eq_getElem?_getD, List.getElem?_eq_getElem (by omega)]; rfl
  rw [h5] at h4
  injection hv with hA
  exact ⟨b, o, v, hA, hb, hc d v h3, h4⟩
theorem Try.infoI64' : (Try.prog.info? 3).map (fun i => (i.zero, i.size, i.bytes)) = some (some (.int .i64 0), 1, 8) := by kernel_rfl
/-- A list cut from behind. -/
theorem cut_loI {w : World} {A : Option Addr} {c : Nat} {l : List Int} (h : Rd w 1 (.slice A l.length c) l.length (intsV l)) {k : Nat} (hk : k ≤ l.length) :
    ∃ u, (∀ W, (Instr.slice 28 (.slice A l.length c) (some (.int .i64 (k : Int))) none none).run Try.prog W = .ok u W) ∧ Rd w 1 u (l.drop k).length (intsV (l.drop k)) := by
  obtain ⟨i0, hi, hz0, hz1, hz2⟩ := info_parts Try.infoI64'
  refine ⟨cutAt A k l.length c 1, fun W => ?_, ?_⟩
  · have := run_cut_l (P := Try.prog) Try.underlying28 hi A l.length c .i64 k hk W
    rwa [hz1] at this
  · have := Rd.drop h hk
    rw [List.length_drop, show intsV (l.drop k) = (intsV l).drop (k * 1) by rw [Nat.mul_one]; exact List.map_drop ..]
    exact this
end Go.Proofs.Ytbbjkldkjndfaaa

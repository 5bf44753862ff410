/- Regions that draw their order and in which two operations that make memory may come up in either order: a walk along a tree of schedules. No program in sight. -/
import Derived.Test.YtfcgijhiedlfgaaDoorSched
namespace Go.Proofs.YtfcgijhiedlfgaaDoor
open Go.RowKit

inductive Sch
  | nil
  | held (i : Nat) (r : Sch)
  | step (i : Nat) (r : Sch)
  | two (i j : Nat) (r s : Sch)
def Sch.depth : Sch → Nat
  | .nil => 0
  | .held _ r => r.depth + 1
  | .step _ r => r.depth + 1
  | .two _ _ r _ => r.depth + 1
section
variable {P : Program} {ops : Array Oper} {S : World → Prop} {Q : Exit → Act → World → Prop}
def treeB (ops : Array Oper) : Sch → Array Bool → Bool
  | .nil, listed => (Region.ready .any ops listed).isEmpty
  | .held i r, listed => (Region.ready .any ops listed).contains i && Region.free .any ops listed i && treeB ops r (listed.setIfInBounds i true)
  | .step i r, listed => (Region.ready .any ops listed == [i]) && treeB ops r (listed.setIfInBounds i true)
  | .two i j r s, listed => (Region.ready .any ops listed == [i, j]) && (s.depth == r.depth) && treeB ops r (listed.setIfInBounds i true) && treeB ops s (listed.setIfInBounds j true)
def wpT (P : Program) (ops : Array Oper) (S : World → Prop) (Q : Exit → Act → World → Prop) : Sch → Act → World → Prop
  | .nil, a, w => Q .normal a w
  | .held i r, a, w => ∃ o, ops[i]? = some o ∧ if Region.wanted o (yielded ops a.tmps) then ∃ v, (∀ W, S W → (execOp a.eval o).run P W = .ok (.value v) W) ∧ wpT P ops S Q r (a.put o.dst v) w else wpT P ops S Q r (a.put o.dst undef) w
  | .step i r, a, w => ∃ o, ops[i]? = some o ∧ if Region.wanted o (yielded ops a.tmps) then o.wp P a w (fun a' w' => S w' ∧ wpT P ops S Q r a' w') Q else wpT P ops S Q r (a.put o.dst undef) w
  | .two i j r s, a, w =>
    (∃ o, ops[i]? = some o ∧ if Region.wanted o (yielded ops a.tmps) then o.wp P a w (fun a' w' => S w' ∧ wpT P ops S Q r a' w') Q else wpT P ops S Q r (a.put o.dst undef) w) ∧
    (∃ o, ops[j]? = some o ∧ if Region.wanted o (yielded ops a.tmps) then o.wp P a w (fun a' w' => S w' ∧ wpT P ops S Q s a' w') Q else wpT P ops S Q s (a.put o.dst undef) w)

theorem wpAnyH_of_tree (hs : Region.noSelect ops = true) : ∀ (r : Sch) (listed : Array Bool) (a : Act) (w : World),
    treeB ops r listed = true → S w → wpT P ops S (NoPanic Q) r a w → wpAnyH P .any ops (NoPanic Q) S r.depth listed a w
  | .nil, listed, a, w, hB, _, h => ⟨by simpa [treeB] using hB, h⟩
  | .held i r, listed, a, w, hB, hS, h => by
    simp only [treeB, Bool.and_eq_true] at hB
    obtain ⟨⟨hr, hf⟩, hB⟩ := hB
    simp only [wpT] at h
    obtain ⟨o, ho, h⟩ := h
    by_cases hw : Region.wanted o (yielded ops a.tmps) = true
    · rw [if_pos hw] at h
      obtain ⟨v, hv, h⟩ := h
      exact wpAnyH_take (oi := o) (v := v) ho hs hf hr (fun _ _ _ h => h) (.inl ⟨hw, hv⟩) hS (wpAnyH_of_tree hs r _ _ _ hB hS h)
    · rw [if_neg hw] at h
      exact wpAnyH_take (oi := o) (v := undef) ho hs hf hr (fun _ _ _ h => h) (.inr ⟨by simpa using hw, rfl⟩) hS (wpAnyH_of_tree hs r _ _ _ hB hS h)
  | .step i r, listed, a, w, hB, hS, h => by
    simp only [treeB, Bool.and_eq_true, beq_iff_eq] at hB
    obtain ⟨hr, hB⟩ := hB
    simp only [wpT] at h
    obtain ⟨o, ho, h⟩ := h
    refine ⟨fun h0 => (by rw [hr] at h0; cases h0), fun j hj => ?_⟩
    rw [hr, List.mem_singleton] at hj
    subst hj
    unfold wpOp
    simp only [ho]
    by_cases hw : Region.wanted o (yielded ops a.tmps) = true
    · rw [if_pos hw] at h
      rw [if_pos hw]
      exact .inl (Oper.wp_mono (fun a' w' ⟨hS', h'⟩ => ⟨hS', wpAnyH_of_tree hs r _ _ _ hB hS' h'⟩) h)
    · rw [if_neg hw] at h
      rw [if_neg hw]
      exact ⟨hS, wpAnyH_of_tree hs r _ _ _ hB hS h⟩
  | .two i j r s, listed, a, w, hB, hS, h => by
    simp only [treeB, Bool.and_eq_true, beq_iff_eq] at hB
    obtain ⟨⟨⟨hr, hd⟩, hB⟩, hC⟩ := hB
    simp only [wpT] at h
    obtain ⟨⟨o, ho, h⟩, ⟨o', ho', h'⟩⟩ := h
    refine ⟨fun h0 => (by rw [hr] at h0; cases h0), fun k hk => ?_⟩
    rw [hr] at hk
    rcases List.mem_cons.1 hk with rfl | hk
    · unfold wpOp
      simp only [ho]
      by_cases hw : Region.wanted o (yielded ops a.tmps) = true
      · rw [if_pos hw] at h
        rw [if_pos hw]
        exact .inl (Oper.wp_mono (fun a' w' ⟨hS', h'⟩ => ⟨hS', wpAnyH_of_tree hs r _ _ _ hB hS' h'⟩) h)
      · rw [if_neg hw] at h
        rw [if_neg hw]
        exact ⟨hS, wpAnyH_of_tree hs r _ _ _ hB hS h⟩
    · rw [List.mem_singleton] at hk
      subst hk
      unfold wpOp
      simp only [ho']
      rw [← hd]
      by_cases hw : Region.wanted o' (yielded ops a.tmps) = true
      · rw [if_pos hw] at h'
        rw [if_pos hw]
        exact .inl (Oper.wp_mono (fun a' w' ⟨hS', h'⟩ => ⟨hS', wpAnyH_of_tree hs s _ _ _ hC hS' h'⟩) h')
      · rw [if_neg hw] at h'
        rw [if_neg hw]
        exact ⟨hS, wpAnyH_of_tree hs s _ _ _ hC hS h'⟩

theorem wp_region_tree {id : Nat} {a : Act} {w : World} (r : Sch)
    (hm : P.follows .mixedOrders = true) (hB : (Region.noSelect ops && treeB ops r (Array.replicate ops.size false) && (r.depth == ops.size)) = true) (S : World → Prop) (hS : S w.drew)
    (h : wpT P ops S (NoPanic Q) r a w.drew) : (Code.region id ops true).wp P Q a w := by
  simp only [Bool.and_eq_true, beq_iff_eq] at hB
  refine wp_region_noPanic (wp_region_held (S := S) hm ?_)
  have h1 := wpAnyH_of_tree hB.1.1 r _ _ _ hB.1.2 hS h
  rw [hB.2] at h1
  exact h1

theorem wpT_nil {a : Act} {w : World} (h : Q .normal a w) : wpT P ops S (NoPanic Q) .nil a w := h
theorem wpT_held {i : Nat} {o : Oper} {r : Sch} {a : Act} {w : World} (ho : ops[i]? = some o) (hw : Region.wanted o (yielded ops a.tmps) = true) (v : Value) (hv : ∀ W, S W → (execOp a.eval o).run P W = .ok (.value v) W) (h : wpT P ops S Q r (a.put o.dst v) w) : wpT P ops S Q (.held i r) a w :=
  ⟨o, ho, by rw [if_pos hw]; exact ⟨v, hv, h⟩⟩
theorem wpT_heldskip {i : Nat} {o : Oper} {r : Sch} {a : Act} {w : World} (ho : ops[i]? = some o) (hw : Region.wanted o (yielded ops a.tmps) = false) (h : wpT P ops S Q r (a.put o.dst undef) w) : wpT P ops S Q (.held i r) a w :=
  ⟨o, ho, by rw [if_neg (by simp [hw])]; exact h⟩
theorem wpT_step {i : Nat} {o : Oper} {r : Sch} {a : Act} {w : World} (ho : ops[i]? = some o) (hw : Region.wanted o (yielded ops a.tmps) = true)
    (h : ∀ K : Act → World → Prop, Hid (∀ a' w', S w' → wpT P ops S Q r a' w' → K a' w') → o.wp P a w K Q) : wpT P ops S Q (.step i r) a w :=
  ⟨o, ho, by rw [if_pos hw]; exact h _ (fun a' w' h1 h2 => ⟨h1, h2⟩)⟩
theorem wpT_stepskip {i : Nat} {o : Oper} {r : Sch} {a : Act} {w : World} (ho : ops[i]? = some o) (hw : Region.wanted o (yielded ops a.tmps) = false) (h : wpT P ops S Q r (a.put o.dst undef) w) : wpT P ops S Q (.step i r) a w :=
  ⟨o, ho, by rw [if_neg (by simp [hw])]; exact h⟩
theorem wpT_call {i : Nat} {o : Oper} {r : Sch} {a : Act} {w : World} (f : FuncId) {fn : Func} {c : Code} {A : Array Operand} {T : Array TypeId} {vs : Array Value} (ho' : ops[i]? = some o) (hw : Region.wanted o (yielded ops a.tmps) = true)
    (ho : o.op = .call { callee := .value (.func f), args := A, argTypes := T }) (hf : P.funcs[f]? = some fn) (hname : (fn.name == "runtime.NumGoroutine") = false) (hb : fn.body = some c) (hv : A.map a.eval = vs)
    (h : Calls P f vs w fun e w' => ∃ v, e = .returned v ∧ S w' ∧ wpT P ops S Q r (a.put o.dst v) w') : wpT P ops S Q (.step i r) a w := by
  refine ⟨o, ho', ?_⟩
  rw [if_pos hw]
  unfold Oper.wp
  rw [run_call_enter f ho hf hname hb hv, Oper.upon_enter]
  refine h.mono ?_
  rintro e w' ⟨v, rfl, h1, h2⟩
  exact ⟨h1, h2⟩
theorem wpT_two {i j : Nat} {r s : Sch} {a : Act} {w : World} (h1 : wpT P ops S Q (.step i r) a w) (h2 : wpT P ops S Q (.step j s) a w) : wpT P ops S Q (.two i j r s) a w := ⟨h1, h2⟩
end
end Go.Proofs.YtfcgijhiedlfgaaDoor

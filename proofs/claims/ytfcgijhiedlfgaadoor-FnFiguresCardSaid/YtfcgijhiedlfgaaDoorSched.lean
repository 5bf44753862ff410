/- Regions that draw their order and that write or make memory: one walk along a schedule serves every order. What only reads is taken first, what makes or writes memory stands in one order. No program in sight. -/
import Derived.Test.YtfcgijhiedlfgaaDoorWords
namespace Go.Proofs.YtfcgijhiedlfgaaDoor
open Go.RowKit

section
variable {P : Program} {ops : Array Oper} {S : World → Prop} {Q : Exit → Act → World → Prop}

/-- The walk along a schedule: 'true': the operation yields one value in every world that meets S; 'false': it is carried out in the world at hand. -/
def wpS (P : Program) (ops : Array Oper) (S : World → Prop) (Q : Exit → Act → World → Prop) : List (Bool × Oper) → Act → World → Prop
  | [], a, w => Q .normal a w
  | (true, o) :: r, a, w => if Region.wanted o (yielded ops a.tmps) then ∃ v, (∀ W, S W → (execOp a.eval o).run P W = .ok (.value v) W) ∧ wpS P ops S Q r (a.put o.dst v) w else wpS P ops S Q r (a.put o.dst undef) w
  | (false, o) :: r, a, w => if Region.wanted o (yielded ops a.tmps) then o.wp P a w (fun a' w' => S w' ∧ wpS P ops S Q r a' w') Q else wpS P ops S Q r (a.put o.dst undef) w

/-- May the region be walked along the schedule? -/
def schedB (ops : Array Oper) : List (Nat × Bool) → Array Bool → Bool
  | [], listed => (Region.ready .any ops listed).isEmpty
  | (i, true) :: r, listed => (Region.ready .any ops listed).contains i && Region.free .any ops listed i && schedB ops r (listed.setIfInBounds i true)
  | (i, false) :: r, listed => (Region.ready .any ops listed == [i]) && schedB ops r (listed.setIfInBounds i true)

theorem wpAnyH_of_sched (hs : Region.noSelect ops = true) : ∀ (r : List (Nat × Bool)) (l : List (Bool × Oper)) (listed : Array Bool) (a : Act) (w : World),
    r.map (fun p => (p.2, ops[p.1]?)) = l.map (fun q => (q.1, some q.2)) → schedB ops r listed = true → S w → wpS P ops S (NoPanic Q) l a w → wpAnyH P .any ops (NoPanic Q) S r.length listed a w
  | [], [], listed, a, w, _, hB, _, h => ⟨by simpa [schedB] using hB, h⟩
  | [], _ :: _, _, _, _, he, _, _, _ => by simp at he
  | (_, true) :: _, [], _, _, _, he, _, _, _ => by simp at he
  | (_, false) :: _, [], _, _, _, he, _, _, _ => by simp at he
  | (i, true) :: r, (b, o) :: l, listed, a, w, he, hB, hS, h => by
    simp only [List.map_cons, List.cons.injEq, Prod.mk.injEq] at he
    obtain ⟨⟨rfl, ho⟩, he⟩ := he
    simp only [schedB, Bool.and_eq_true] at hB
    obtain ⟨⟨hr, hf⟩, hB⟩ := hB
    simp only [wpS] at h
    by_cases hw : Region.wanted o (yielded ops a.tmps) = true
    · rw [if_pos hw] at h
      obtain ⟨v, hv, h⟩ := h
      exact wpAnyH_take (oi := o) (v := v) ho hs hf hr (fun _ _ _ h => h) (.inl ⟨hw, hv⟩) hS (wpAnyH_of_sched hs r l _ _ _ he hB hS h)
    · rw [if_neg hw] at h
      exact wpAnyH_take (oi := o) (v := undef) ho hs hf hr (fun _ _ _ h => h) (.inr ⟨by simpa using hw, rfl⟩) hS (wpAnyH_of_sched hs r l _ _ _ he hB hS h)
  | (i, false) :: r, (b, o) :: l, listed, a, w, he, hB, hS, h => by
    simp only [List.map_cons, List.cons.injEq, Prod.mk.injEq] at he
    obtain ⟨⟨rfl, ho⟩, he⟩ := he
    simp only [schedB, Bool.and_eq_true, beq_iff_eq] at hB
    obtain ⟨hr, hB⟩ := hB
    simp only [wpS] at h
    refine ⟨fun h0 => (by rw [hr] at h0; cases h0), fun j hj => ?_⟩
    rw [hr, List.mem_singleton] at hj
    subst hj
    unfold wpOp
    simp only [ho]
    by_cases hw : Region.wanted o (yielded ops a.tmps) = true
    · rw [if_pos hw] at h
      rw [if_pos hw]
      exact .inl (Oper.wp_mono (fun a' w' ⟨hS', h'⟩ => ⟨hS', wpAnyH_of_sched hs r l _ _ _ he hB hS' h'⟩) h)
    · rw [if_neg hw] at h
      rw [if_neg hw]
      exact ⟨hS, wpAnyH_of_sched hs r l _ _ _ he hB hS h⟩

theorem wp_region_sched {id : Nat} {a : Act} {w : World} (r : List (Nat × Bool)) (l : List (Bool × Oper)) (hl : r.map (fun p => (p.2, ops[p.1]?)) = l.map (fun q => (q.1, some q.2)))
    (hm : P.follows .mixedOrders = true) (hB : (Region.noSelect ops && schedB ops r (Array.replicate ops.size false) && (r.length == ops.size)) = true) (S : World → Prop) (hS : S w.drew)
    (h : wpS P ops S (NoPanic Q) l a w.drew) : (Code.region id ops true).wp P Q a w := by
  simp only [Bool.and_eq_true, beq_iff_eq] at hB
  refine wp_region_noPanic (wp_region_held (S := S) hm ?_)
  have h1 := wpAnyH_of_sched hB.1.1 r l _ _ _ hl hB.1.2 hS h
  rw [hB.2] at h1
  exact h1

/-! ### The steps -/
theorem wpS_nil {a : Act} {w : World} (h : Q .normal a w) : wpS P ops S (NoPanic Q) [] a w := h
theorem wpS_move {o : Oper} {r : List (Bool × Oper)} {a : Act} {w : World} (x : Operand) (ho : o.op = .move x) (hw : Region.wanted o (yielded ops a.tmps) = true) (h : wpS P ops S Q r (a.put o.dst (a.eval x)) w) : wpS P ops S Q ((true, o) :: r) a w := by
  simp only [wpS, if_pos hw]
  exact ⟨_, fun W _ => BigFrame.run_move x ho W, h⟩
theorem wpS_assign {o : Oper} {r : List (Bool × Oper)} {a : Act} {w : World} (x : Operand) (ho : o.op = .assign x) (hw : Region.wanted o (yielded ops a.tmps) = true) (h : wpS P ops S Q r (a.put o.dst (a.eval x)) w) : wpS P ops S Q ((true, o) :: r) a w := by
  simp only [wpS, if_pos hw]
  exact ⟨_, fun W _ => BigFrame.run_assign x ho W, h⟩
theorem wpS_held {o : Oper} {r : List (Bool × Oper)} {a : Act} {w : World} (hw : Region.wanted o (yielded ops a.tmps) = true) (v : Value) (hv : ∀ W, S W → (execOp a.eval o).run P W = .ok (.value v) W) (h : wpS P ops S Q r (a.put o.dst v) w) : wpS P ops S Q ((true, o) :: r) a w := by
  simp only [wpS, if_pos hw]
  exact ⟨v, hv, h⟩
theorem wpS_skip {b : Bool} {o : Oper} {r : List (Bool × Oper)} {a : Act} {w : World} (hw : Region.wanted o (yielded ops a.tmps) = false) (h : wpS P ops S Q r (a.put o.dst undef) w) : wpS P ops S Q ((b, o) :: r) a w := by
  cases b <;> simp only [wpS, hw] <;> exact h
theorem wpS_step {o : Oper} {r : List (Bool × Oper)} {a : Act} {w : World} (hw : Region.wanted o (yielded ops a.tmps) = true)
    (h : ∀ K : Act → World → Prop, Hid (∀ a' w', S w' → wpS P ops S Q r a' w' → K a' w') → o.wp P a w K Q) : wpS P ops S Q ((false, o) :: r) a w := by
  simp only [wpS, if_pos hw]
  exact h _ (fun a' w' h1 h2 => ⟨h1, h2⟩)
/-- A call of a function that has a body. -/
theorem run_call_enter {o : Oper} {a : Act} {w : World} (f : FuncId) {fn : Func} {c : Code} {A : Array Operand} {T : Array TypeId} {vs : Array Value}
    (ho : o.op = .call { callee := .value (.func f), args := A, argTypes := T }) (hf : P.funcs[f]? = some fn) (hname : (fn.name == "runtime.NumGoroutine") = false) (hb : fn.body = some c) (hv : A.map a.eval = vs) :
    (execOp a.eval o).run P w = .ok (.enter f vs) w := by
  have h1 : fn.name ≠ "runtime.NumGoroutine" := by simpa using hname
  have hv' : A.map (fun x => a.eval x) = vs := hv
  simp [execOp, ho, resolve, invoke, Act.eval, Deferred.ofValue, callFunc, hf, h1, hb, go_sem]
  exact hv
theorem wpS_call {o : Oper} {r : List (Bool × Oper)} {a : Act} {w : World} (f : FuncId) {fn : Func} {c : Code} {A : Array Operand} {T : Array TypeId} {vs : Array Value} (hw : Region.wanted o (yielded ops a.tmps) = true)
    (ho : o.op = .call { callee := .value (.func f), args := A, argTypes := T }) (hf : P.funcs[f]? = some fn) (hname : (fn.name == "runtime.NumGoroutine") = false) (hb : fn.body = some c) (hv : A.map a.eval = vs)
    (h : Calls P f vs w fun e w' => ∃ v, e = .returned v ∧ S w' ∧ wpS P ops S Q r (a.put o.dst v) w') : wpS P ops S Q ((false, o) :: r) a w := by
  simp only [wpS, if_pos hw]
  unfold Oper.wp
  rw [run_call_enter f ho hf hname hb hv, Oper.upon_enter]
  refine h.mono ?_
  rintro e w' ⟨v, rfl, h1, h2⟩
  exact ⟨h1, h2⟩
end

/-! ### The class of worlds for loads: as the world at hand, but for one row of the call's own and for new blocks -/
def Kept (w : World) (row : Option Nat) : Type := {W : World // w.grownBy W row}
def Kept.w {w0 : World} {row : Option Nat} (k : Kept w0 row) : World := k.1
theorem Kept.cell {w0 : World} {row : Option Nat} (k : Kept w0 row) (b o : Nat) (h : b < w0.heap.size) (hne : some b ≠ row) : k.w.cell? ⟨b, o, none⟩ = w0.cell? ⟨b, o, none⟩ := World.cell?_of_block (a := ⟨b, o, none⟩) (k.2.block b h hne)
theorem Kept.cell_none {w0 : World} (k : Kept w0 none) (b o : Nat) (h : b < w0.heap.size) : k.w.cell? ⟨b, o, none⟩ = w0.cell? ⟨b, o, none⟩ := k.cell b o h (by simp)
attribute [go_sem] Kept.cell Kept.cell_none
/-- The class. -/
def KeptS (w : World) (row : Option Nat) (W : World) : Prop := ∃ k : Kept w row, W = k.w
theorem KeptS.of {w W : World} {row : Option Nat} (h : w.grownBy W row) : KeptS w row W := ⟨⟨W, h⟩, rfl⟩
theorem KeptS.out {w W : World} {row : Option Nat} (h : KeptS w row W) : w.grownBy W row := by obtain ⟨k, rfl⟩ := h; exact k.2
theorem KeptS.refl (w : World) (row : Option Nat) : KeptS w row w := .of (World.grownBy.refl _ _)
theorem KeptS.drew {w W : World} {row : Option Nat} (h : KeptS w row W) : KeptS w row W.drew := .of (only_drew h.out)
theorem KeptS.alloc {w W : World} {row : Option Nat} (h : KeptS w row W) (o : Obj) : KeptS w row (W.alloc o) := .of (only_alloc h.out o)
theorem KeptS.grown {w W W' : World} {row : Option Nat} (h : KeptS w row W) (hg : W.grownBy W' row) : KeptS w row W' :=
  .of ⟨hg.os.trans h.out.os, hg.tape.trans h.out.tape, hg.output.trans h.out.output, Nat.le_trans h.out.size hg.size, fun i hi hn => (hg.block i (Nat.lt_of_lt_of_le hi h.out.size) hn).trans (h.out.block i hi hn)⟩
theorem KeptS.below {w W W' : World} {row : Option Nat} (h : KeptS w row W) (hb : Below W.heap.size W W') : KeptS w row W' := h.grown (only_of_below hb row)
theorem KeptS.belowAt {w W W' : World} {row : Option Nat} (h : KeptS w row W) (hb : Below w.heap.size W W') : KeptS w row W' :=
  .of ⟨hb.os.trans h.out.os, hb.tape.trans h.out.tape, hb.output.trans h.out.output, Nat.le_trans h.out.size hb.size, fun i hi hn => (hb.block i hi).trans (h.out.block i hi hn)⟩
theorem KeptS.setRow {w W : World} {g : Nat} (h : KeptS w (some g) W) {p : Addr} (hp : p.block = g) (u : Value) : KeptS w (some g) (W.setCell p u) := .of (only_setCell h.out (.inl hp) u)
theorem KeptS.setNew {w W : World} {row : Option Nat} (h : KeptS w row W) {p : Addr} (hp : w.heap.size ≤ p.block) (u : Value) : KeptS w row (W.setCell p u) :=
  .of ⟨h.out.os, h.out.tape, h.out.output, by simpa [World.setCell] using h.out.size, fun i hi hn => (Below.heap_setCell W p u i (by omega)).trans (h.out.block i hi hn)⟩
theorem bcell1 {W w1 : World} {B n : Nat} (hn : n = B) (hb : Below B W w1) : (∀ b o, b < n → w1.cell? ⟨b, o, none⟩ = W.cell? ⟨b, o, none⟩) ∧ (∀ b o, b < n → w1.frozen? ⟨b, o, none⟩ = W.frozen? ⟨b, o, none⟩) :=
  ⟨fun _ _ h => hb.cell (p := ⟨_, _, none⟩) (hn ▸ h), fun _ _ h => hb.frozen (p := ⟨_, _, none⟩) (hn ▸ h)⟩
/-- What is known of the old cells behind a call that makes memory. -/
theorem bcell {W w1 : World} (hb : Below W.heap.size W w1) : (∀ b o, b < W.heap.size → w1.cell? ⟨b, o, none⟩ = W.cell? ⟨b, o, none⟩) ∧ (∀ b o, b < W.heap.size → w1.frozen? ⟨b, o, none⟩ = W.frozen? ⟨b, o, none⟩) :=
  ⟨fun _ _ h => hb.cell (p := ⟨_, _, none⟩) h, fun _ _ h => hb.frozen (p := ⟨_, _, none⟩) h⟩
end Go.Proofs.YtfcgijhiedlfgaaDoor

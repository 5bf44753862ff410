/- Plans: copies, sizes, comparisons and marks of the laws. -/
import Derived.Test.YtbbjkldkjndfaaaEdgK
namespace Go.Proofs.Ytbbjkldkjndfaaa
set_option linter.unusedSimpArgs false
set_option maxRecDepth 100000
open Go.RowKit Go.ChangeShapes Go.WideShapes Go.ChangeAt Go.Deep Go.Joins

structure Pln where
  prio : Int
  most : Int
  wait : Int
  tasks : Int
  edges : List Edg
def cost_plan (x : Pln) : Nat := x.edges.length
def cells_plan (x : Pln) : Nat := x.edges.length * 2
theorem cells_le_plan (x : Pln) : cells_plan x ≤ 4 * cost_plan x := by unfold cells_plan cost_plan; omega
def Rd_plan (w : World) (u : Value) (x : Pln) : Prop := Rd_edgs w u x.edges
def Own_plan (w : World) (lo hi : Nat) (u : Value) (x : Pln) : Prop := Own_edgs w lo hi u x.edges
def Held_plan (w : World) (lo hi : Nat) (u : Value) (x : Pln) (k : Int) : Prop := Held_edgs w lo hi u x.edges.length k
section
variable {w w' : World} {lo hi lo' hi' : Nat} {u : Value} {x : Pln} {k : Int}
theorem Rd_plan.below (h : Rd_plan w u x) (hb : Below w.heap.size w w') : Rd_plan w' u x := Rd.below h hb
theorem Own_plan.rd (h : Own_plan w lo hi u x) : Rd_plan w u x := OwnS.rd h
theorem Own_plan.below (h : Own_plan w lo hi u x) (hb : Below w.heap.size w w') : Own_plan w' lo hi u x := OwnS.below h hb
theorem Own_plan.keep (h : Own_plan w lo hi u x) (hp : Part lo' hi' w w') (ha : hi ≤ lo' ∨ hi' ≤ lo) : Own_plan w' lo hi u x := OwnS.keep h hp ha
theorem Held_plan.below (h : Held_plan w lo hi u x k) (hb : Below w.heap.size w w') : Held_plan w' lo hi u x k := OwnS.below h hb
theorem Held_plan.keep (h : Held_plan w lo hi u x k) (hp : Part lo' hi' w w') (ha : hi ≤ lo' ∨ hi' ≤ lo) : Held_plan w' lo hi u x k := OwnS.keep h hp ha
theorem Rd_plan.form (h : Rd_plan w u x) : ∃ A c, u = .slice A x.edges.length c ∧ x.edges.length ≤ c ∧ c ≤ maxLen := Rd.shape h
theorem Own_plan.form (h : Own_plan w lo hi u x) : ∃ A c, u = .slice A x.edges.length c := by
  obtain ⟨A, c, h, -, -⟩ := h.rd.form
  exact ⟨A, c, h⟩
end
/-- A plan's value. -/
def planV (x : Pln) (u : Value) : Value := .agg #[.int .i64 x.prio, .int .i64 x.most, .int .i64 x.wait, .int .i64 x.tasks, u]
/-- What a call leaves that hands back a plan of its own. -/
def GivesP (x : Pln) (w0 : World) (e : Ending) (w' : World) : Prop := ∃ u, e = .returned (.agg #[.int .i64 x.prio, .int .i64 x.most, .int .i64 x.wait, .int .i64 x.tasks, u]) ∧ Own_plan w' w0.heap.size w'.heap.size u x ∧ Below w0.heap.size w0 w'

set_option maxRecDepth 100000 in
theorem sz_plan (u : Value) (x : Pln) (left : Int) (w : World) (h : Rd_plan w u x) (h0 : 0 ≤ left) (h1 : left ≤ 1048576) :
    Calls Try.prog 28 #[.agg #[.int .i64 x.prio, .int .i64 x.most, .int .i64 x.wait, .int .i64 x.tasks, u], .int .i64 left] w fun e w' => e = .returned (.int .i64 (szv left (cost_plan x))) ∧ Below w.heap.size w w' := by
  obtain ⟨x1, x2, x3, x4, es⟩ := x
  obtain ⟨W0, hW0⟩ : ∃ W0, W0 = w.alloc (.cells #[.int .i64 x1, .int .i64 x2, .int .i64 x3, .int .i64 x4, u] 42) := ⟨_, rfl⟩
  have hb0 : Below w.heap.size w W0 := by rw [hW0]; exact (Below.refl _ _).alloc (Nat.le_refl _) _
  have C := Lib.hid (szEdgeS_any u es left W0 (Rd.below h hb0) h0 h1)
  have HW := Lib.hid hW0
  clear hW0 h
  obtain ⟨q, hq⟩ : ∃ q, q = szv left es.length := ⟨_, rfl⟩
  have HQ := Lib.hid (show szv left (cost_plan ⟨x1, x2, x3, x4, es⟩) = q from hq.symm)
  rw [← hq] at C
  rw [HQ.out]
  have hq2 : q < 0 → q = -1 := fun hn => by
    rw [hq] at hn ⊢
    unfold szv at hn ⊢
    split
    · rfl
    · rename_i hh; rw [if_neg hh] at hn; omega
  clear hq HQ
  by_cases hn : q < 0
  · have := hq2 hn
    subst this
    clear hq2
    go_enter Try.func28, Try.ntmps28
    go_wp2_with fail
    rw [← HW.out]
    refine C.out.mono ?_
    rintro e w1 ⟨rfl, rfl⟩
    go_wp2_with fail
    go_ret
    exact ⟨rfl, hb0⟩
  · clear hq2
    go_enter Try.func28, Try.ntmps28
    go_wp2_with fail
    rw [← HW.out]
    refine C.out.mono ?_
    rintro e w1 ⟨rfl, rfl⟩
    go_wp2_with fail
    go_ret
    exact ⟨rfl, hb0⟩

set_option maxHeartbeats 1000000 in
set_option maxRecDepth 100000 in
theorem to_plan (u : Value) (x : Pln) (w : World) (h : Rd_plan w u x) (hn : cost_plan x ≤ 1048576) :
    Calls Try.prog 30 #[.agg #[.int .i64 x.prio, .int .i64 x.most, .int .i64 x.wait, .int .i64 x.tasks, u]] w (GivesP x w) := by
  obtain ⟨x1, x2, x3, x4, es⟩ := x
  unfold cost_plan at hn
  simp only at hn
  have H := Lib.hid h
  clear h
  go_enter Try.func30, Try.ntmps30
  go_wp2_with fail
  refine (toEdgeS_any u es _ (Rd.below H.out (by exact (by repeat' first | (with_reducible exact Below.refl _ _) | (with_reducible assumption) | (with_reducible refine Below.setCell ?_ ?_ _) | (with_reducible refine Below.alloc ?_ ?_ _) | (with_reducible refine Below.drew ?_) | (with_reducible refine below_drewN ?_ _) | (with_reducible refine Below.calm ?_ ?_) | exact Nat.le_refl _ | (simp; done) | (simp; omega) | omega))) (by omega)).mono ?_
  rintro e w1 ⟨u, rfl, ho, hb1⟩
  obtain ⟨A2, c2, rfl, -, -⟩ := (Rd.of_own ho).shape
  obtain ⟨hcc, hff⟩ := bcell hb1
  have HW := Lib.hid ho
  have hbs := hb1.size
  simp at hbs
  clear ho
  go_wp2_with fail
  have hw1 : Below w.heap.size w w1 := Below.trans (by exact (by repeat' first | (with_reducible exact Below.refl _ _) | (with_reducible assumption) | (with_reducible refine Below.setCell ?_ ?_ _) | (with_reducible refine Below.alloc ?_ ?_ _) | (with_reducible refine Below.drew ?_) | (with_reducible refine below_drewN ?_ _) | (with_reducible refine Below.calm ?_ ?_) | exact Nat.le_refl _ | (simp; done) | (simp; omega) | omega)) (hb1.mono (by simp; omega))
  refine bodyPost_ret (v := .agg #[.int .i64 x1, .int .i64 x2, .int .i64 x3, .int .i64 x4, .slice A2 es.length c2]) (by simp [results, Try.results30, go_sem, hcc]) rfl ⟨_, rfl, ?_, (by repeat' first | (with_reducible exact Below.refl _ _) | (with_reducible assumption) | (with_reducible refine Below.setCell ?_ ?_ _) | (with_reducible refine Below.alloc ?_ ?_ _) | (with_reducible refine Below.drew ?_) | (with_reducible refine below_drewN ?_ _) | (with_reducible refine Below.calm ?_ ?_) | exact Nat.le_refl _ | (simp; done) | (simp; omega) | omega)⟩
  have hp : Part (w.heap.size + 1) (w.heap.size + 3) w1 _ := ((((((Part.refl (w.heap.size + 1) (w.heap.size + 3) w1).setCell (p := ⟨w.heap.size + 1 + 1, 4, none⟩) ⟨by simp, by simp⟩ (.slice A2 es.length c2)).setCell (p := ⟨w.heap.size + 1, 0, none⟩) ⟨by simp, by simp⟩ (.int .i64 x1)).setCell (p := ⟨w.heap.size + 1, 1, none⟩) ⟨by simp, by simp⟩ (.int .i64 x2)).setCell (p := ⟨w.heap.size + 1, 2, none⟩) ⟨by simp, by simp⟩ (.int .i64 x3)).setCell (p := ⟨w.heap.size + 1, 3, none⟩) ⟨by simp, by simp⟩ (.int .i64 x4)).setCell (p := ⟨w.heap.size + 1, 4, none⟩) ⟨by simp, by simp⟩ (.slice A2 es.length c2)
  exact OwnS.mono (OwnS.keep (OwnS.of_own HW.out) hp (.inr (by simp))) (by simp; try omega) (by simp [World.setCell]) (Nat.le_refl _)

set_option maxHeartbeats 1000000 in
set_option maxRecDepth 100000 in
theorem eq_plan (u v : Value) (x : Pln) (w : World) (h1 : Rd_plan w u x) (h2 : Rd_plan w v x) :
    Calls Try.prog 32 #[.agg #[.int .i64 x.prio, .int .i64 x.most, .int .i64 x.wait, .int .i64 x.tasks, u], .agg #[.int .i64 x.prio, .int .i64 x.most, .int .i64 x.wait, .int .i64 x.tasks, v]] w fun e w' => e = .returned (.bool true) ∧ Below w.heap.size w w' := by
  obtain ⟨x1, x2, x3, x4, es⟩ := x
  have H1 := Lib.hid h1
  have H2 := Lib.hid h2
  clear h1 h2
  go_enter Try.func32, Try.ntmps32
  go_wp2_with fail
  refine (eqEdgeS_any u v es _ (Rd.below H1.out (by exact (by repeat' first | (with_reducible exact Below.refl _ _) | (with_reducible assumption) | (with_reducible refine Below.setCell ?_ ?_ _) | (with_reducible refine Below.alloc ?_ ?_ _) | (with_reducible refine Below.drew ?_) | (with_reducible refine below_drewN ?_ _) | (with_reducible refine Below.calm ?_ ?_) | exact Nat.le_refl _ | (simp; done) | (simp; omega) | omega))) (Rd.below H2.out (by exact (by repeat' first | (with_reducible exact Below.refl _ _) | (with_reducible assumption) | (with_reducible refine Below.setCell ?_ ?_ _) | (with_reducible refine Below.alloc ?_ ?_ _) | (with_reducible refine Below.drew ?_) | (with_reducible refine below_drewN ?_ _) | (with_reducible refine Below.calm ?_ ?_) | exact Nat.le_refl _ | (simp; done) | (simp; omega) | omega)))).mono ?_
  rintro e w1 ⟨rfl, hb1⟩
  go_wp2_with fail
  go_ret
  exact ⟨rfl, Below.trans (by exact (by repeat' first | (with_reducible exact Below.refl _ _) | (with_reducible assumption) | (with_reducible refine Below.setCell ?_ ?_ _) | (with_reducible refine Below.alloc ?_ ?_ _) | (with_reducible refine Below.drew ?_) | (with_reducible refine below_drewN ?_ _) | (with_reducible refine Below.calm ?_ ?_) | exact Nat.le_refl _ | (simp; done) | (simp; omega) | omega)) (hb1.mono (by simp; omega))⟩

set_option maxRecDepth 100000 in
theorem mark_plan (u : Value) (x : Pln) (lo hi : Nat) (k : Int) (w : World) (h : Own_plan w lo hi u x) (h0 : 0 ≤ k) (h1 : k ≤ 10000000) (hn : cells_plan x ≤ 10000000) :
    Calls Try.prog 33 #[.agg #[.int .i64 x.prio, .int .i64 x.most, .int .i64 x.wait, .int .i64 x.tasks, u], .int .i64 k] w fun e w' => e = .returned (.int .i64 (k + ((cells_plan x : Nat) : Int))) ∧ Held_plan w' lo hi u x k ∧ Part lo hi w w' := by
  obtain ⟨x1, x2, x3, x4, es⟩ := x
  obtain ⟨ho, hh, hy⟩ := h
  have HO := Lib.hid ho
  have hn' : es.length ≤ 10000000 := by unfold cells_plan at hn; simp only at hn; omega
  have HC := Lib.hid (show cells_plan ⟨x1, x2, x3, x4, es⟩ = es.length * 2 from rfl)
  clear ho
  go_enter Try.func33, Try.ntmps33
  go_wp2_with fail
  refine (markEdgeS_any u es.length lo _ k _ (HO.out.alloc _) h0 (by omega) hn').mono ?_
  rintro e w1 ⟨rfl, ho1, hg1⟩
  go_wp2_with fail
  go_ret
  rw [HC.out]
  have hp : Part lo hi w w1 := (Part.of_below ((Below.refl _ _).alloc (Nat.le_refl _) _)).trans (Part.of_grown hg1 fun g hg => ⟨(HO.out.lt g hg).1, hy g hg⟩)
  exact ⟨rfl, ⟨ho1, Nat.le_trans hh hp.size, hy⟩, hp⟩

set_option maxRecDepth 100000 in
theorem held_plan (u : Value) (x : Pln) (lo hi : Nat) (k : Int) (w : World) (h : Held_plan w lo hi u x k) (h0 : 0 ≤ k) (h1 : k ≤ 10000000) (hn : cells_plan x ≤ 10000000) :
    Calls Try.prog 95 #[.agg #[.int .i64 x.prio, .int .i64 x.most, .int .i64 x.wait, .int .i64 x.tasks, u], .int .i64 k] w fun e w' => e = .returned (.int .i64 (k + ((cells_plan x : Nat) : Int))) ∧ Below w.heap.size w w' := by
  obtain ⟨x1, x2, x3, x4, es⟩ := x
  have HR := Lib.hid (OwnS.rd h)
  have hn' : es.length ≤ 10000000 := by unfold cells_plan at hn; simp only at hn; omega
  have HC := Lib.hid (show cells_plan ⟨x1, x2, x3, x4, es⟩ = es.length * 2 from rfl)
  clear h
  obtain ⟨q, hq⟩ : ∃ q, q = k + ((es.length * 2 : Nat) : Int) := ⟨_, rfl⟩
  have hq0 : 0 ≤ q := by omega
  have HQ := Lib.hid hq
  clear hq
  go_enter Try.func95, Try.ntmps95
  go_wp2_with fail
  refine (heldEdgeS_any u es.length k _ (HR.out.below ((Below.refl _ _).alloc (Nat.le_refl _) _)) h0 (by omega) hn').mono ?_
  rw [← HQ.out]
  rintro e w1 ⟨rfl, rfl⟩
  go_wp2_with fail
  go_ret
  rw [HC.out, ← HQ.out]
  exact ⟨rfl, by exact (by repeat' first | (with_reducible exact Below.refl _ _) | (with_reducible assumption) | (with_reducible refine Below.setCell ?_ ?_ _) | (with_reducible refine Below.alloc ?_ ?_ _) | (with_reducible refine Below.drew ?_) | (with_reducible refine below_drewN ?_ _) | (with_reducible refine Below.calm ?_ ?_) | exact Nat.le_refl _ | (simp; done) | (simp; omega) | omega)⟩

theorem Try.cellsPlan : Try.prog.cellsOf 42 = 5 := by kernel_rfl
section
variable {H : Type} {enc : TypeId × Value → H} {W : World} {base : Nat} {d : DataW H} {p : List MemPlace} {v : Value}
def ArgPlan (w : World) (v : Value) : Prop := ∃ u x, v = .agg #[.int .i64 (Pln.prio x), .int .i64 x.most, .int .i64 x.wait, .int .i64 x.tasks, u] ∧ Rd_plan w u x
theorem arg_plan (hv : Value.okWide Try.prog W .any base 42 v) (h : DataW.Trod enc Try.prog W 0 (fun _ => true) true 42 v d p) : ArgPlan W v := by
  obtain ⟨v0, v1, v2, v3, u, y0, y1, y2, y3, y4, n, rfl, _, _, t0, t1, t2, t3, t4⟩ := open_agg5 Try.underlying42 (by kernel_rfl) Try.cellsPlan hv h
  obtain ⟨n0, e0, _, _⟩ := DataW.trod_int Try.underlying3 t0
  obtain ⟨n1, e1, _, _⟩ := DataW.trod_int Try.underlying3 t1
  obtain ⟨n2, e2, _, _⟩ := DataW.trod_int Try.underlying3 t2
  obtain ⟨n3, e3, _, _⟩ := DataW.trod_int Try.underlying3 t3
  simp at e0 e1 e2 e3
  subst e0 e1 e2 e3
  obtain ⟨l, hl⟩ := edgs_read t4
  exact ⟨u, ⟨n0, n1, n2, n3, l⟩, rfl, hl⟩
end
end Go.Proofs.Ytbbjkldkjndfaaa

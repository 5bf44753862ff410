/- Does a task of a right run run? The program's and the reference's word. -/
import Derived.Test.YtbbjkldkjndfaaaRunOk
import Derived.Test.YtbbjkldkjndfaaaGD
namespace Go.Proofs.Ytbbjkldkjndfaaa
set_option linter.unusedSimpArgs false
open Go.RowKit Go.ChangeShapes Go.Deep

/-- A run's value. -/
def runsB (x : Rn) (t : Int) : Prop := 0 ≤ t ∧ t < x.tasks.length ∧ (x.tasks.getD t.toNat zeroT).state = 3 ∧ runOkR x = true

set_option maxHeartbeats 4000000 in
set_option maxRecDepth 100000 in
/-- .. at a right run and a task that runs. -/
theorem runs_yes (u v : Value) (x : Rn) (t : Nat) (w : World) (h : Rd_run w u v x) (hn : cost_run x ≤ 1048576) (ht : t < x.tasks.length) (hr : (x.tasks.getD t zeroT).state = 3) (hok : runOkR x = true) :
    Calls Try.prog 79 #[.agg #[.int .i64 x.id, .int .i64 x.plan.prio, .int .i64 x.plan.most, .int .i64 x.plan.wait, .int .i64 x.plan.tasks, u, .int .i64 x.state, v], .int .i64 (t : Int)] w fun e w' => e = .returned (.bool true) ∧ Below w.heap.size w w' := by
  have CO := Lib.hid (fun W (hW : Below w.heap.size w W) => runOk_impl u v x W (Rd_run.below h hW) hn)
  rw [hok] at CO
  obtain ⟨h1, h2⟩ := h
  obtain ⟨xi, ⟨x1, x2, x3, x4, E⟩, xs, ts⟩ := x
  obtain ⟨AT, cT, rfl, hncT, hcmT⟩ := Rd.shape h2
  unfold maxLen at hcmT
  simp only at hncT hcmT hr ht CO
  obtain ⟨b1, o1, _, hv1, _, _, hl1, hc1⟩ := Rd.form h2 (by simp only; omega) (by omega)
  have hA1 : AT = some ⟨b1, o1, none⟩ := by injection hv1
  subst hA1
  obtain ⟨g, hg⟩ : ∃ g, g = ts[t] := ⟨_, rfl⟩
  obtain ⟨d0, d1, d2, d3⟩ := tsk_cells (Below.refl _ _) hl1 hc1 ht g hg
  have hgs : g.state = 3 := by rw [← hr, getD_tsk ht g hg]
  rw [hgs] at d0
  have ht0 : (0 : Int) ≤ (t : Int) := by omega
  have ht1 : (t : Int) < (ts.length : Int) := by omega
  have ht2 : (t : Int) ≤ (ts.length : Int) - 1 := by omega
  have CW := Lib.hid (fun W => within_t (t : Int) 0 ((ts.length : Int) - 1) W ht0 ht2)
  have y1 : IntKind.i64.wrap ((ts.length : Int) - 1) = (ts.length : Int) - 1 := IntWalk.i64_in _ (by omega)
  clear hv1 hc1 hg hgs hr d1 d2 d3 h1 h2 hok
  go_enter Try.func79, Try.ntmps79
  go_wp2_with fail
  refine (CW.out _).mono ?_
  rintro e w1 ⟨rfl, rfl⟩
  go_wp2_with fail
  refine (CO.out _ (by exact (by repeat first | exact Below.refl _ _ | assumption | refine Below.drew ?_ | refine below_drewN ?_ _ | refine Below.calm ?_ (by first | exact Nat.le_refl _ | (simp; done) | (simp; omega) | omega) | refine Below.alloc ?_ (by first | exact Nat.le_refl _ | (simp; done) | (simp; omega) | omega) _ | refine Below.setCell ?_ (by first | exact Nat.le_refl _ | (simp; done) | (simp; omega) | omega) _))).mono ?_
  rintro e w2 ⟨rfl, hb2⟩
  go_wp2_with fail
  go_ret
  exact ⟨rfl, Below.trans (by exact (by repeat first | exact Below.refl _ _ | assumption | refine Below.drew ?_ | refine below_drewN ?_ _ | refine Below.calm ?_ (by first | exact Nat.le_refl _ | (simp; done) | (simp; omega) | omega) | refine Below.alloc ?_ (by first | exact Nat.le_refl _ | (simp; done) | (simp; omega) | omega) _ | refine Below.setCell ?_ (by first | exact Nat.le_refl _ | (simp; done) | (simp; omega) | omega) _)) (hb2.mono (by simp))⟩
set_option maxHeartbeats 4000000 in
set_option maxRecDepth 100000 in
theorem l09Runs_yes (u v : Value) (x : Rn) (t : Nat) (w : World) (h : Rd_run w u v x) (hn : cost_run x ≤ 1048576) (ht : t < x.tasks.length) (hr : (x.tasks.getD t zeroT).state = 3) (hok : runOkR x = true) :
    Calls Try.prog 85 #[.agg #[.int .i64 x.id, .int .i64 x.plan.prio, .int .i64 x.plan.most, .int .i64 x.plan.wait, .int .i64 x.plan.tasks, u, .int .i64 x.state, v], .int .i64 (t : Int)] w fun e w' => e = .returned (.bool true) ∧ Below w.heap.size w w' := by
  have CO := Lib.hid (fun W (hW : Below w.heap.size w W) => runOk_spec u v x W (Rd_run.below h hW) hn)
  rw [hok] at CO
  obtain ⟨h1, h2⟩ := h
  obtain ⟨xi, ⟨x1, x2, x3, x4, E⟩, xs, ts⟩ := x
  obtain ⟨AT, cT, rfl, hncT, hcmT⟩ := Rd.shape h2
  unfold maxLen at hcmT
  simp only at hncT hcmT hr ht CO
  obtain ⟨b1, o1, _, hv1, _, _, hl1, hc1⟩ := Rd.form h2 (by simp only; omega) (by omega)
  have hA1 : AT = some ⟨b1, o1, none⟩ := by injection hv1
  subst hA1
  obtain ⟨g, hg⟩ : ∃ g, g = ts[t] := ⟨_, rfl⟩
  obtain ⟨d0, d1, d2, d3⟩ := tsk_cells (Below.refl _ _) hl1 hc1 ht g hg
  have hgs : g.state = 3 := by rw [← hr, getD_tsk ht g hg]
  rw [hgs] at d0
  have ht0 : (0 : Int) ≤ (t : Int) := by omega
  have ht1 : (t : Int) < (ts.length : Int) := by omega
  have ht2 : (t : Int) ≤ (ts.length : Int) - 1 := by omega
  have CW := Lib.hid (fun W => l01In_t (t : Int) 0 ((ts.length : Int) - 1) W ht0 ht2)
  have y1 : IntKind.i64.wrap ((ts.length : Int) - 1) = (ts.length : Int) - 1 := IntWalk.i64_in _ (by omega)
  obtain ⟨W0, hW0⟩ : ∃ W0, W0 = w.alloc (.cells #[.int .i64 xi, .int .i64 x1, .int .i64 x2, .int .i64 x3, .int .i64 x4, u, .int .i64 xs, .slice (some ⟨b1, o1, none⟩) ts.length cT] 52) := ⟨_, rfl⟩
  have hb0 : Below w.heap.size w W0 := by rw [hW0]; exact (Below.refl _ _).alloc (Nat.le_refl _) _
  have HK0 := Lib.hid (show Blk W0 w.heap.size 52 #[.int .i64 xi, .int .i64 x1, .int .i64 x2, .int .i64 x3, .int .i64 x4, u, .int .i64 xs, .slice (some ⟨b1, o1, none⟩) ts.length cT] by rw [hW0]; exact Blk.new _ _ _)
  have HD0 := Lib.hid d0
  have HW0 := Lib.hid hW0
  clear hv1 hc1 hg hgs hr d0 d1 d2 d3 h1 h2 hok hW0
  go_enter Try.func85, Try.ntmps85
  go_wp2_with fail
  rw [← HW0.out]
  refine (CO.out _ hb0).mono ?_
  rintro e w2 ⟨rfl, hb2⟩
  have hw2 := hb0.trans (hb2.mono hb0.size)
  have kp := HK0.out.belowV hb2
  have p7 := kp.cell 7
  simp only [List.getElem?_toArray, List.getElem?_cons_succ, List.getElem?_cons_zero] at p7
  have hpl := kp.lt
  have d0 := (hw2.cell (p := ⟨b1, o1 + t * 4, none⟩) hl1).trans HD0.out
  have hl2 := Nat.lt_of_lt_of_le hl1 hw2.size
  clear kp
  go_wp2_with fail
  refine (CW.out _).mono ?_
  rintro e w3 ⟨rfl, rfl⟩
  go_wp2_with fail
  go_ret
  exact ⟨rfl, hw2⟩
end Go.Proofs.Ytbbjkldkjndfaaa

/- The laws' comparison of runs: at equal runs. -/
import Derived.Test.YtbbjkldkjndfaaaGC
namespace Go.Proofs.Ytbbjkldkjndfaaa
set_option linter.unusedSimpArgs false
open Go.RowKit Go.ChangeShapes Go.Deep

set_option maxHeartbeats 2000000 in
set_option maxRecDepth 100000 in
theorem sameEdges_same (v u : Value) (l : List Edg) (w : World) (h1 : Rd w 2 v l.length (edgV l)) (h2 : Rd w 2 u l.length (edgV l)) :
    Calls Try.prog 111 #[v, u] w fun e w' => e = .returned (.bool true) ∧ Below w.heap.size w w' := by
  obtain ⟨A1, c1, rfl, hnc1, hcm1⟩ := h1.shape
  obtain ⟨A2, c2, rfl, hnc2, hcm2⟩ := h2.shape
  unfold maxLen at hcm1 hcm2
  go_enter Try.func111, Try.ntmps111
  go_wp2
  go_loopw [5] (fun i wr => ∃ k : Nat, k ≤ l.length ∧ i = .int .i64 k ∧ Below w.heap.size w wr) (fun i _ => l.length - (intOf i).toNat)
  case atStart => exact ⟨0, Nat.zero_le _, rfl, Below.refl _ _⟩
  case round =>
    obtain ⟨k, hk, rfl, hb⟩ := hrel
    by_cases hlt : k < l.length
    · obtain ⟨b1, o1, _, hv1, _, _, hl1, hc1⟩ := h1.form (by omega) (by omega)
      obtain ⟨b2, o2, _, hv2, _, _, hl2, hc2⟩ := h2.form (by omega) (by omega)
      have hA1 : A1 = some ⟨b1, o1, none⟩ := by injection hv1
      have hA2 : A2 = some ⟨b2, o2, none⟩ := by injection hv2
      subst hA1 hA2
      have hb1 : b1 < wr.heap.size := Nat.lt_of_lt_of_le hl1 hb.size
      have hb2 : b2 < wr.heap.size := Nat.lt_of_lt_of_le hl2 hb.size
      have hk0 : (0 : Int) ≤ (k : Int) := by omega
      have hk1 : (k : Int) < (l.length : Int) := by omega
      obtain ⟨x, hx⟩ : ∃ x, x = l[k] := ⟨_, rfl⟩
      obtain ⟨d0, d1⟩ := edg_cells hb hl1 hc1 hlt x hx
      obtain ⟨e0, e1⟩ := edg_cells hb hl2 hc2 hlt x hx
      obtain ⟨xs, xd⟩ := x
      simp only at d0 d1 e0 e1
      clear hx hv1 hv2 hc1 hc2
      go_wp2
      first | refine wp_region_calm_on (by kernel_rfl) (by kernel_rfl) ?_ | refine wp_region_calm_lit (by kernel_rfl) (by kernel_rfl) ?_
      repeat (go_big_quiet_step (fail))
      refine wpQuiet_nil ?_
      intro _ hw'
      obtain ⟨k1, hw''⟩ := hw'
      subst hw''
      go_wp2
      go_roundw
      case rel => exact ⟨k + 1, by omega, by go_num, Below.calm hb hb.size⟩
      case measure => simp [intOf]; omega
    · go_wp2
      go_ret
      exact ⟨rfl, hb⟩
set_option maxHeartbeats 2000000 in
set_option maxRecDepth 100000 in
theorem sameTasks_same (v u : Value) (l : List Tsk) (w : World) (h1 : Rd w 4 v l.length (tskV l)) (h2 : Rd w 4 u l.length (tskV l)) :
    Calls Try.prog 83 #[v, u] w fun e w' => e = .returned (.bool true) ∧ Below w.heap.size w w' := by
  obtain ⟨A1, c1, rfl, hnc1, hcm1⟩ := h1.shape
  obtain ⟨A2, c2, rfl, hnc2, hcm2⟩ := h2.shape
  unfold maxLen at hcm1 hcm2
  go_enter Try.func83, Try.ntmps83
  go_wp2
  go_loopw [5] (fun i wr => ∃ k : Nat, k ≤ l.length ∧ i = .int .i64 k ∧ Below w.heap.size w wr) (fun i _ => l.length - (intOf i).toNat)
  case atStart => exact ⟨0, Nat.zero_le _, rfl, Below.refl _ _⟩
  case round =>
    obtain ⟨k, hk, rfl, hb⟩ := hrel
    by_cases hlt : k < l.length
    · obtain ⟨b1, o1, _, hv1, _, _, hl1, hc1⟩ := h1.form (by omega) (by omega)
      obtain ⟨b2, o2, _, hv2, _, _, hl2, hc2⟩ := h2.form (by omega) (by omega)
      have hA1 : A1 = some ⟨b1, o1, none⟩ := by injection hv1
      have hA2 : A2 = some ⟨b2, o2, none⟩ := by injection hv2
      subst hA1 hA2
      have hb1 : b1 < wr.heap.size := Nat.lt_of_lt_of_le hl1 hb.size
      have hb2 : b2 < wr.heap.size := Nat.lt_of_lt_of_le hl2 hb.size
      have hk0 : (0 : Int) ≤ (k : Int) := by omega
      have hk1 : (k : Int) < (l.length : Int) := by omega
      obtain ⟨x, hx⟩ : ∃ x, x = l[k] := ⟨_, rfl⟩
      obtain ⟨d0, d1, d2, d3⟩ := tsk_cells hb hl1 hc1 hlt x hx
      obtain ⟨e0, e1, e2, e3⟩ := tsk_cells hb hl2 hc2 hlt x hx
      obtain ⟨xa, xb, xc, xd⟩ := x
      simp only at d0 d1 d2 d3 e0 e1 e2 e3
      clear hx hv1 hv2 hc1 hc2
      go_wp2
      first | refine wp_region_calm_on (by kernel_rfl) (by kernel_rfl) ?_ | refine wp_region_calm_lit (by kernel_rfl) (by kernel_rfl) ?_
      repeat (go_big_quiet_step (fail))
      refine wpQuiet_nil ?_
      intro _ hw'
      obtain ⟨k1, hw''⟩ := hw'
      subst hw''
      go_wp2
      go_roundw
      case rel => exact ⟨k + 1, by omega, by go_num, Below.calm hb hb.size⟩
      case measure => simp [intOf]; omega
    · go_wp2
      go_ret
      exact ⟨rfl, hb⟩
set_option maxHeartbeats 2000000 in
set_option maxRecDepth 100000 in
theorem samePlan_same (u v : Value) (x : Pln) (w : World) (h1 : Rd_plan w u x) (h2 : Rd_plan w v x) :
    Calls Try.prog 82 #[.agg #[.int .i64 x.prio, .int .i64 x.most, .int .i64 x.wait, .int .i64 x.tasks, u], .agg #[.int .i64 x.prio, .int .i64 x.most, .int .i64 x.wait, .int .i64 x.tasks, v]] w fun e w' => e = .returned (.bool true) ∧ Below w.heap.size w w' := by
  obtain ⟨x1, x2, x3, x4, es⟩ := x
  have H1 := Lib.hid h1
  have H2 := Lib.hid h2
  clear h1 h2
  go_enter Try.func82, Try.ntmps82
  go_wp2_with fail
  refine (sameEdges_same u v es _ (Rd.below H1.out (by exact (by repeat' first | (with_reducible exact Below.refl _ _) | (with_reducible assumption) | (with_reducible refine Below.setCell ?_ ?_ _) | (with_reducible refine Below.alloc ?_ ?_ _) | (with_reducible refine Below.drew ?_) | (with_reducible refine below_drewN ?_ _) | (with_reducible refine Below.calm ?_ ?_) | exact Nat.le_refl _ | (simp; done) | (simp; omega) | omega))) (Rd.below H2.out (by exact (by repeat' first | (with_reducible exact Below.refl _ _) | (with_reducible assumption) | (with_reducible refine Below.setCell ?_ ?_ _) | (with_reducible refine Below.alloc ?_ ?_ _) | (with_reducible refine Below.drew ?_) | (with_reducible refine below_drewN ?_ _) | (with_reducible refine Below.calm ?_ ?_) | exact Nat.le_refl _ | (simp; done) | (simp; omega) | omega)))).mono ?_
  rintro e w1 ⟨rfl, hb1⟩
  go_wp2_with fail
  go_ret
  exact ⟨rfl, Below.trans (by exact (by repeat' first | (with_reducible exact Below.refl _ _) | (with_reducible assumption) | (with_reducible refine Below.setCell ?_ ?_ _) | (with_reducible refine Below.alloc ?_ ?_ _) | (with_reducible refine Below.drew ?_) | (with_reducible refine below_drewN ?_ _) | (with_reducible refine Below.calm ?_ ?_) | exact Nat.le_refl _ | (simp; done) | (simp; omega) | omega)) (hb1.mono (by simp; omega))⟩
set_option maxHeartbeats 2000000 in
set_option maxRecDepth 100000 in
theorem sameRun_same (u v u' v' : Value) (x : Rn) (w : World) (h1 : Rd_run w u v x) (h2 : Rd_run w u' v' x) :
    Calls Try.prog 43 #[.agg #[.int .i64 x.id, .int .i64 x.plan.prio, .int .i64 x.plan.most, .int .i64 x.plan.wait, .int .i64 x.plan.tasks, u, .int .i64 x.state, v], .agg #[.int .i64 x.id, .int .i64 x.plan.prio, .int .i64 x.plan.most, .int .i64 x.plan.wait, .int .i64 x.plan.tasks, u', .int .i64 x.state, v']] w fun e w' => e = .returned (.bool true) ∧ Below w.heap.size w w' := by
  obtain ⟨xi, xp, xs, ts⟩ := x
  have H1 := Lib.hid h1.1
  have H2 := Lib.hid h2.1
  have H3 := Lib.hid h1.2
  have H4 := Lib.hid h2.2
  obtain ⟨W0, hW0⟩ : ∃ W0, W0 = (w.alloc (.cells #[.int .i64 xi, .int .i64 xp.prio, .int .i64 xp.most, .int .i64 xp.wait, .int .i64 xp.tasks, u, .int .i64 xs, v] 52)).alloc (.cells #[.int .i64 xi, .int .i64 xp.prio, .int .i64 xp.most, .int .i64 xp.wait, .int .i64 xp.tasks, u', .int .i64 xs, v'] 52) := ⟨_, rfl⟩
  have hb0 : Below w.heap.size w W0 := by rw [hW0]; exact (by repeat' first | (with_reducible exact Below.refl _ _) | (with_reducible assumption) | (with_reducible refine Below.setCell ?_ ?_ _) | (with_reducible refine Below.alloc ?_ ?_ _) | (with_reducible refine Below.drew ?_) | (with_reducible refine below_drewN ?_ _) | (with_reducible refine Below.calm ?_ ?_) | exact Nat.le_refl _ | (simp; done) | (simp; omega) | omega)
  have ka : Blk W0 w.heap.size 52 #[.int .i64 xi, .int .i64 xp.prio, .int .i64 xp.most, .int .i64 xp.wait, .int .i64 xp.tasks, u, .int .i64 xs, v] := by rw [hW0]; exact (Blk.new _ _ _).alloc _
  have kb : Blk W0 (w.heap.size + 1) 52 #[.int .i64 xi, .int .i64 xp.prio, .int .i64 xp.most, .int .i64 xp.wait, .int .i64 xp.tasks, u', .int .i64 xs, v'] := by
    rw [hW0]
    have q := Blk.new (w.alloc (.cells #[.int .i64 xi, .int .i64 xp.prio, .int .i64 xp.most, .int .i64 xp.wait, .int .i64 xp.tasks, u, .int .i64 xs, v] 52)) 52 #[.int .i64 xi, .int .i64 xp.prio, .int .i64 xp.most, .int .i64 xp.wait, .int .i64 xp.tasks, u', .int .i64 xs, v']
    rwa [show (w.alloc (.cells #[.int .i64 xi, .int .i64 xp.prio, .int .i64 xp.most, .int .i64 xp.wait, .int .i64 xp.tasks, u, .int .i64 xs, v] 52)).heap.size = w.heap.size + 1 by simp] at q
  have HW0 := Lib.hid hW0
  have HKA := Lib.hid ka
  have HKB := Lib.hid kb
  clear h1 h2 hW0 ka kb
  go_enter Try.func43, Try.ntmps43
  go_wp2_with fail
  rw [← HW0.out]
  refine (samePlan_same u u' xp _ (Rd.below H1.out hb0) (Rd.below H2.out hb0)).mono ?_
  rintro e w1 ⟨rfl, hb1⟩
  have hw1 := hb0.trans (hb1.mono hb0.size)
  have ka := HKA.out.belowV hb1
  have kb := HKB.out.belowV hb1
  have p6 := ka.cell 6
  have p7 := ka.cell 7
  have q6 := kb.cell 6
  have q7 := kb.cell 7
  simp only [List.getElem?_toArray, List.getElem?_cons_succ, List.getElem?_cons_zero] at p6 p7 q6 q7
  have hal := ka.lt
  have hbl := kb.lt
  clear ka kb
  go_wp2_with fail
  refine (sameTasks_same v v' ts _ (Rd.below H3.out hw1) (Rd.below H4.out hw1)).mono ?_
  rintro e w2 ⟨rfl, hb2⟩
  go_wp2_with fail
  go_ret
  exact ⟨rfl, hw1.trans (hb2.mono hw1.size)⟩
end Go.Proofs.Ytbbjkldkjndfaaa

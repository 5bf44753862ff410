/- Is a run right? The program's and the reference's. -/
import Derived.Test.YtbbjkldkjndfaaaRunTask
import Derived.Test.YtbbjkldkjndfaaaTasksIn
namespace Go.Proofs.Ytbbjkldkjndfaaa
set_option linter.unusedSimpArgs false
set_option linter.unusedSimpArgs false
open Go.RowKit Go.ChangeShapes Go.Deep

/-- The first k tasks: how many stand so? -/
def cntK (ts : List Tsk) (s : Int) (k : Nat) : Nat := (tasksTo ts s k).length
theorem cntK_succ (ts : List Tsk) (s : Int) (k : Nat) : cntK ts s (k + 1) = cntK ts s k + if (ts.getD k zeroT).state = s then 1 else 0 := by
  unfold cntK
  rw [tasksTo]
  split <;> simp
theorem cntK_le (ts : List Tsk) (s : Int) (k : Nat) : cntK ts s k ≤ k := tasksTo_le ts s k
theorem cntK_sum {ts : List Tsk} : ∀ {k : Nat}, (∀ t, t < k → inB (ts.getD t zeroT).state 1 6 = true) → cntK ts 1 k + cntK ts 2 k + cntK ts 3 k + cntK ts 4 k + cntK ts 5 k + cntK ts 6 k = k
  | 0, _ => rfl
  | k + 1, h => by
    have ih := cntK_sum (k := k) (fun t ht => h t (by omega))
    have hs := inB_true (h k (by omega))
    simp only [cntK_succ]
    have : (ts.getD k zeroT).state = 1 ∨ (ts.getD k zeroT).state = 2 ∨ (ts.getD k zeroT).state = 3 ∨ (ts.getD k zeroT).state = 4 ∨ (ts.getD k zeroT).state = 5 ∨ (ts.getD k zeroT).state = 6 := by omega
    rcases this with e | e | e | e | e | e
    all_goals simp only [e]
    all_goals simp
    all_goals omega
theorem task_state {x : Rn} {t : Nat} (h : taskAt x t = true) : inB (x.tasks.getD t zeroT).state 1 6 = true := by
  unfold taskAt taskB at h
  simp only [Bool.and_eq_true] at h
  exact h.1.1.1.1

set_option maxHeartbeats 16000000 in
set_option maxRecDepth 100000 in
theorem runOk_impl (u v : Value) (x : Rn) (w : World) (h : Rd_run w u v x) (hn : cost_run x ≤ 1048576) :
    Calls Try.prog 38 #[.agg #[.int .i64 x.id, .int .i64 x.plan.prio, .int .i64 x.plan.most, .int .i64 x.plan.wait, .int .i64 x.plan.tasks, u, .int .i64 x.state, v]] w fun e w' => e = .returned (.bool (runOkR x)) ∧ Below w.heap.size w w' := by
  have HRN := Lib.hid h
  obtain ⟨h1, h2⟩ := h
  obtain ⟨R, hR⟩ : ∃ R, R = runOkR x := ⟨_, rfl⟩
  rw [← hR]
  obtain ⟨F, hF⟩ : ∃ F, F = planFaultR x.plan := ⟨_, rfl⟩
  obtain ⟨B, hB⟩ : ∃ B, B = inB x.id 1 9999 := ⟨_, rfl⟩
  unfold cost_run at hn
  obtain ⟨xi, ⟨x1, x2, x3, x4, E⟩, xs, ts⟩ := x
  obtain ⟨AE, cE, rfl, hncE, hcmE⟩ := Rd.shape h1
  obtain ⟨AT, cT, rfl, hncT, hcmT⟩ := Rd.shape h2
  unfold maxLen at hcmE hcmT
  simp only at hncE hncT hcmE hcmT hF hB hn
  have hcp : cost_plan ⟨x1, x2, x3, x4, E⟩ ≤ 1048576 := by unfold cost_plan; simp only; omega
  obtain ⟨W0, hW0⟩ : ∃ W0, W0 = w.alloc (.cells #[.int .i64 xi, .int .i64 x1, .int .i64 x2, .int .i64 x3, .int .i64 x4, .slice AE E.length cE, .int .i64 xs, .slice AT ts.length cT] 52) := ⟨_, rfl⟩
  have hb0 : Below w.heap.size w W0 := by rw [hW0]; exact (Below.refl _ _).alloc (Nat.le_refl _) _
  have k0 : Blk W0 w.heap.size 52 #[.int .i64 xi, .int .i64 x1, .int .i64 x2, .int .i64 x3, .int .i64 x4, .slice AE E.length cE, .int .i64 xs, .slice AT ts.length cT] := by rw [hW0]; exact Blk.new _ _ _
  have HK := Lib.hid k0
  have HW := Lib.hid hW0
  have HR := Lib.hid hR
  clear k0 hW0 hR
  have CI := Lib.hid (fun W => within_b xi 1 9999 W)
  rw [← hB] at CI
  have CP := Lib.hid (planFault_impl _ ⟨x1, x2, x3, x4, E⟩ W0 (Rd_plan.below h1 hb0) hcp)
  rw [← hF] at CP
  have p0 := HK.out.cell 0
  have p1 := HK.out.cell 1
  have p2 := HK.out.cell 2
  have p3 := HK.out.cell 3
  have p4 := HK.out.cell 4
  have p5 := HK.out.cell 5
  have p6 := HK.out.cell 6
  have p7 := HK.out.cell 7
  simp only [List.getElem?_toArray, List.getElem?_cons_succ, List.getElem?_cons_zero] at p0 p1 p2 p3 p4 p5 p6 p7
  have pl := HK.out.lt
  cases B with
  | false =>
    have HG := Lib.hid (show R = false by rw [HR.out, runOkR, ← hB]; rfl)
    clear hF hB CP HR
    go_enter Try.func38, Try.ntmps38
    go_wp2_with (go_at_call 65; rw [← HW.out]; refine (CI.out _).mono ?_; rintro e w1 ⟨rfl, rfl⟩)
    go_ret
    exact ⟨ret_bool HG.out.symm, hb0⟩
  | true =>
    by_cases h0 : F = 0
    rotate_left
    · have HG := Lib.hid (show R = false by rw [HR.out, runOkR, ← hB, ← hF, decide_eq_false h0]; rfl)
      have t0 : (F == 0) = false := by simp [h0]
      have t1 : (F != 0) = true := by simp [h0]
      clear hF hB h0 HR
      go_enter Try.func38, Try.ntmps38
      go_wp2_with (first | (go_at_call 65; rw [← HW.out]; refine (CI.out _).mono ?_; rintro e w1 ⟨rfl, rfl⟩) | (go_at_call 22; refine CP.out.mono ?_; rintro e w1 ⟨rfl, hb1⟩))
      go_ret
      exact ⟨ret_bool HG.out.symm, hb0.trans (hb1.mono hb0.size)⟩
    · have hz := fault_zero (hF.symm.trans h0)
      obtain ⟨hx0, hx1, hE, -⟩ := many_false hz.1
      simp only at hx0 hx1 hE
      obtain ⟨n, rfl⟩ : ∃ n : Nat, x4 = n := ⟨x4.toNat, by omega⟩
      have hf0 : planFaultR ⟨x1, x2, x3, n, E⟩ = 0 := hF.symm.trans h0
      have HF0 := Lib.hid hf0
      rw [h0] at CP
      by_cases hl : ts.length = n
      rotate_left
      · have HG := Lib.hid (show R = false by rw [HR.out, runOkR, ← hB, ← hF, decide_eq_true h0]; simp only; rw [decide_eq_false (by omega)]; rfl)
        have t0 : (ts.length == n) = false := by simp [hl]
        have t1 : (ts.length != n) = true := by simp [hl]
        have t2 : ((ts.length : Int) == (n : Int)) = false := by simp; omega
        have t3 : ((ts.length : Int) != (n : Int)) = true := by simp; omega
        clear hF hB h0 HR hl hf0 hz
        go_enter Try.func38, Try.ntmps38
        go_wp2_with (first | (go_at_call 65; rw [← HW.out]; refine (CI.out _).mono ?_; rintro e w1 ⟨rfl, rfl⟩) | (go_at_call 22; refine CP.out.mono ?_; rintro e w1 ⟨rfl, hb1⟩; clear p0 p1 p2 p3 p4 p5 p6 p7 pl; have kp := HK.out.belowV hb1; have p0 := kp.cell 0; have p4 := kp.cell 4; have p7 := kp.cell 7; simp only [List.getElem?_toArray, List.getElem?_cons_succ, List.getElem?_cons_zero] at p0 p4 p7; have pl := kp.lt; clear kp))
        go_ret
        exact ⟨ret_bool HG.out.symm, hb0.trans (hb1.mono hb0.size)⟩
      · have HRR := Lib.hid (show R = (tasksB ⟨xi, ⟨x1, x2, x3, n, E⟩, xs, ts⟩ ts.length && decide (xs = stateR ts ∧ xs ≠ 0)) by rw [HR.out, runOkR, ← hB, ← hF, decide_eq_true h0]; simp only; rw [decide_eq_true (by omega)]; simp)
        have hlI : (ts.length : Int) = n := by omega
        have HLI := Lib.hid hlI
        obtain rfl : n = ts.length := hl.symm
        clear hF hB h0 HR hf0 hz hlI hl
        go_enter Try.func38, Try.ntmps38
        go_wp2_with (first | (go_at_call 65; rw [← HW.out]; refine (CI.out _).mono ?_; rintro e w1 ⟨rfl, rfl⟩) | (go_at_call 22; refine CP.out.mono ?_; rintro e w1 ⟨rfl, hb1⟩; clear p0 p1 p2 p3 p4 p5 p6 p7 pl; have kp := HK.out.belowV hb1; have p0 := kp.cell 0; have p4 := kp.cell 4; have p7 := kp.cell 7; simp only [List.getElem?_toArray, List.getElem?_cons_succ, List.getElem?_cons_zero] at p0 p4 p7; have pl := kp.lt; clear kp))
        have hw1 := hb0.trans (hb1.mono hb0.size)
        have HW1 := Lib.hid hw1
        have HK1 := Lib.hid (HK.out.belowV hb1)
        obtain ⟨N, hNN⟩ : ∃ N, N = ts.length := ⟨_, rfl⟩
        clear p0 p4 p7 pl hw1 hb1
        have HNN := Lib.hid hNN
        clear hNN
        go_loopw [30] (fun u30 wr => ∃ k : Nat, k ≤ ts.length ∧ u30 = .int .i64 k ∧ Hid (tasksB ⟨xi, ⟨x1, x2, x3, (ts.length : Int), E⟩, xs, ts⟩ k = true) ∧ Hid (Below w1.heap.size w1 wr)) (fun u30 _ => ts.length - (intOf u30).toNat)
        case atStart => exact ⟨0, Nat.zero_le _, rfl, Lib.hid rfl, Lib.hid (Below.refl _ _)⟩
        case round =>
          obtain ⟨k, hk, rfl, HTB, HB⟩ := hrel
          have hwr : Below w.heap.size w wr := HW1.out.trans (HB.out.mono HW1.out.size)
          have HWR := Lib.hid hwr
          have kp := HK1.out.belowV HB.out
          have p0 := kp.cell 0
          have p1 := kp.cell 1
          have p2 := kp.cell 2
          have p3 := kp.cell 3
          have p4 := kp.cell 4
          have p5 := kp.cell 5
          have p6 := kp.cell 6
          have p7 := kp.cell 7
          simp only [List.getElem?_toArray, List.getElem?_cons_succ, List.getElem?_cons_zero] at p0 p1 p2 p3 p4 p5 p6 p7
          have pl := kp.lt
          by_cases hlt : k < ts.length
          · obtain ⟨T, hT⟩ : ∃ T, T = taskAt ⟨xi, ⟨x1, x2, x3, (ts.length : Int), E⟩, xs, ts⟩ k := ⟨_, rfl⟩
            have CT := Lib.hid (taskOk_any _ _ ⟨xi, ⟨x1, x2, x3, (ts.length : Int), E⟩, xs, ts⟩ k wr (HRN.out.below hwr) HF0.out rfl hlt)
            rw [← hT] at CT
            cases T with
            | false =>
              have HG := Lib.hid (show R = false by rw [HRR.out, tasksB_false hlt hT.symm]; rfl)
              clear hT hwr kp
              go_wp2_with fail
              refine CT.out.mono ?_
              rintro e w2 ⟨rfl, hb2⟩
              go_wp2_with fail
              go_ret
              exact ⟨ret_bool HG.out.symm, HWR.out.trans (hb2.mono HWR.out.size)⟩
            | true =>
              have HS := Lib.hid (show tasksB ⟨xi, ⟨x1, x2, x3, (ts.length : Int), E⟩, xs, ts⟩ (k + 1) = true by rw [tasksB, HTB.out, ← hT]; rfl)
              clear hT hwr kp
              go_wp2_with fail
              refine CT.out.mono ?_
              rintro e w2 ⟨rfl, hb2⟩
              go_wp2_with fail
              go_roundw
              case rel => exact ⟨k + 1, by omega, by go_num, HS, Lib.hid (HB.out.trans (hb2.mono HB.out.size))⟩
              case measure => simp [intOf]; omega
          · obtain rfl : k = ts.length := by omega
            have HRX := Lib.hid (show R = decide (xs = stateR ts ∧ xs ≠ 0) by rw [HRR.out, HTB.out, Bool.true_and])
            have HST := Lib.hid (show stateR ts = if cntS ts 4 = ts.length then 2 else if cntS ts 5 = 1 ∧ cntS ts 4 + cntS ts 5 + cntS ts 6 = ts.length then 3 else if cntS ts 5 = 0 ∧ 0 < cntS ts 6 ∧ cntS ts 4 + cntS ts 5 + cntS ts 6 = ts.length then 4 else if cntS ts 5 = 0 ∧ cntS ts 6 = 0 then 1 else 0 from rfl)
            obtain ⟨l4, hl4⟩ : ∃ l, l = tasksTo ts 4 ts.length := ⟨_, rfl⟩
            obtain ⟨l5, hl5⟩ : ∃ l, l = tasksTo ts 5 ts.length := ⟨_, rfl⟩
            obtain ⟨l6, hl6⟩ : ∃ l, l = tasksTo ts 6 ts.length := ⟨_, rfl⟩
            have hle4 := tasksTo_le ts 4 ts.length
            have hle5 := tasksTo_le ts 5 ts.length
            have hle6 := tasksTo_le ts 6 ts.length
            have T4 := Lib.hid (fun W (hW : Below wr.heap.size wr W) => tasksIn_impl _ _ ⟨xi, ⟨x1, x2, x3, (ts.length : Int), E⟩, xs, ts⟩ 4 W (HRN.out.below (hwr.trans (hW.mono hwr.size))) (by unfold cost_run; simp only; omega))
            have T5 := Lib.hid (fun W (hW : Below wr.heap.size wr W) => tasksIn_impl _ _ ⟨xi, ⟨x1, x2, x3, (ts.length : Int), E⟩, xs, ts⟩ 5 W (HRN.out.below (hwr.trans (hW.mono hwr.size))) (by unfold cost_run; simp only; omega))
            have T6 := Lib.hid (fun W (hW : Below wr.heap.size wr W) => tasksIn_impl _ _ ⟨xi, ⟨x1, x2, x3, (ts.length : Int), E⟩, xs, ts⟩ 6 W (HRN.out.below (hwr.trans (hW.mono hwr.size))) (by unfold cost_run; simp only; omega))
            unfold tasksInR at T4 T5 T6
            unfold cntS at HST
            simp only at T4 T5 T6
            rw [← hl4] at T4 HST hle4
            rw [← hl5] at T5 HST hle5
            rw [← hl6] at T6 HST hle6
            obtain ⟨n4, hn4⟩ : ∃ n, n = l4.length := ⟨_, rfl⟩
            obtain ⟨n5, hn5⟩ : ∃ n, n = l5.length := ⟨_, rfl⟩
            obtain ⟨n6, hn6⟩ : ∃ n, n = l6.length := ⟨_, rfl⟩
            rw [← hn4] at HST hle4
            rw [← hn5] at HST hle5
            rw [← hn6] at HST hle6
            have HN4 := Lib.hid hn4
            have HN5 := Lib.hid hn5
            have HN6 := Lib.hid hn6
            have HKR := Lib.hid kp
            have hb00 : Below wr.heap.size wr wr.drew := (Below.refl _ _).drew
            clear hl4 hl5 hl6 hn4 hn5 hn6 hwr kp HRR HTB
            go_wp2_with fail
            refine wp_region_sched [(0, true), (3, true), (6, true), (1, false), (2, true), (4, false), (5, true), (7, false), (8, true), (9, true), (10, true), (11, true)] [(true, _), (true, _), (true, _), (false, _), (true, _), (false, _), (true, _), (false, _), (true, _), (true, _), (true, _), (true, _)] rfl (by kernel_rfl) (by kernel_rfl) (KeptS _ none) (KeptS.refl _ _).drew ?_
            try simp only [List.getElem_toArray, List.getElem_cons_succ, List.getElem_cons_zero]
            (refine wpS_held (by rfl) ?_ (fun W hW => ?_) ?_; rotate_left; (· (obtain ⟨kq, rfl⟩ := hW; go_simp; try with_reducible rfl)); try simp only [Act.put, List.setIfInBounds_toArray, List.set_cons_succ, List.set_cons_zero])
            (refine wpS_held (by rfl) ?_ (fun W hW => ?_) ?_; rotate_left; (· (obtain ⟨kq, rfl⟩ := hW; go_simp; try with_reducible rfl)); try simp only [Act.put, List.setIfInBounds_toArray, List.set_cons_succ, List.set_cons_zero])
            (refine wpS_held (by rfl) ?_ (fun W hW => ?_) ?_; rotate_left; (· (obtain ⟨kq, rfl⟩ := hW; go_simp; try with_reducible rfl)); try simp only [Act.put, List.setIfInBounds_toArray, List.set_cons_succ, List.set_cons_zero])
            (refine wpS_call 39 (by rfl) (by rfl) Try.func39 (by kernel_rfl) (by rfl) (by rfl) ?_; (conv => arg 3; simp [Act.eval]); (first | ((with_reducible refine (T4.out _ hb00).mono ?_); rintro e w4 ⟨v4, rfl, ho4, hb4⟩; obtain ⟨A4, c4, rfl, hnc4, hcm4⟩ := (own_rdB ho4).shape; rw [← HN4.out]; have hb40 : Below wr.heap.size wr w4 := hb00.trans (hb4.mono (Nat.le_refl _)); clear ho4 hb4) | ((with_reducible refine (T5.out _ hb40).mono ?_); rintro e w5 ⟨v5, rfl, ho5, hb5⟩; obtain ⟨A5, c5, rfl, hnc5, hcm5⟩ := (own_rdB ho5).shape; rw [← HN5.out]; have hb50 : Below wr.heap.size wr w5 := hb40.trans (hb5.mono hb40.size); clear ho5 hb5) | ((with_reducible refine (T6.out _ hb50).mono ?_); rintro e w6 ⟨v6, rfl, ho6, hb6⟩; obtain ⟨A6, c6, rfl, hnc6, hcm6⟩ := (own_rdB ho6).shape; rw [← HN6.out]; have hb60 : Below wr.heap.size wr w6 := hb50.trans (hb6.mono hb50.size); clear ho6 hb6)); refine ⟨_, rfl, ?_, ?_⟩; (· (repeat first | exact KeptS.refl _ _ | exact KeptS.of (only_of_below (by assumption) _) | assumption | refine KeptS.drew ?_ | refine KeptS.alloc ?_ _ | refine KeptS.grown ?_ (by assumption) | refine KeptS.below ?_ (by assumption) | refine KeptS.belowAt ?_ (by assumption) | refine KeptS.setRow ?_ (by simp; done) _ | refine KeptS.setNew ?_ (by simp) _)); try simp only [Act.put, List.setIfInBounds_toArray, List.set_cons_succ, List.set_cons_zero])
            (refine wpS_held (by rfl) ?_ (fun W hW => ?_) ?_; rotate_left; (· (obtain ⟨kq, rfl⟩ := hW; go_simp; try with_reducible rfl)); try simp only [Act.put, List.setIfInBounds_toArray, List.set_cons_succ, List.set_cons_zero])
            (refine wpS_call 39 (by rfl) (by rfl) Try.func39 (by kernel_rfl) (by rfl) (by rfl) ?_; (conv => arg 3; simp [Act.eval]); (first | ((with_reducible refine (T4.out _ hb00).mono ?_); rintro e w4 ⟨v4, rfl, ho4, hb4⟩; obtain ⟨A4, c4, rfl, hnc4, hcm4⟩ := (own_rdB ho4).shape; rw [← HN4.out]; have hb40 : Below wr.heap.size wr w4 := hb00.trans (hb4.mono (Nat.le_refl _)); clear ho4 hb4) | ((with_reducible refine (T5.out _ hb40).mono ?_); rintro e w5 ⟨v5, rfl, ho5, hb5⟩; obtain ⟨A5, c5, rfl, hnc5, hcm5⟩ := (own_rdB ho5).shape; rw [← HN5.out]; have hb50 : Below wr.heap.size wr w5 := hb40.trans (hb5.mono hb40.size); clear ho5 hb5) | ((with_reducible refine (T6.out _ hb50).mono ?_); rintro e w6 ⟨v6, rfl, ho6, hb6⟩; obtain ⟨A6, c6, rfl, hnc6, hcm6⟩ := (own_rdB ho6).shape; rw [← HN6.out]; have hb60 : Below wr.heap.size wr w6 := hb50.trans (hb6.mono hb50.size); clear ho6 hb6)); refine ⟨_, rfl, ?_, ?_⟩; (· (repeat first | exact KeptS.refl _ _ | exact KeptS.of (only_of_below (by assumption) _) | assumption | refine KeptS.drew ?_ | refine KeptS.alloc ?_ _ | refine KeptS.grown ?_ (by assumption) | refine KeptS.below ?_ (by assumption) | refine KeptS.belowAt ?_ (by assumption) | refine KeptS.setRow ?_ (by simp; done) _ | refine KeptS.setNew ?_ (by simp) _)); try simp only [Act.put, List.setIfInBounds_toArray, List.set_cons_succ, List.set_cons_zero])
            (refine wpS_held (by rfl) ?_ (fun W hW => ?_) ?_; rotate_left; (· (obtain ⟨kq, rfl⟩ := hW; go_simp; try with_reducible rfl)); try simp only [Act.put, List.setIfInBounds_toArray, List.set_cons_succ, List.set_cons_zero])
            (refine wpS_call 39 (by rfl) (by rfl) Try.func39 (by kernel_rfl) (by rfl) (by rfl) ?_; (conv => arg 3; simp [Act.eval]); (first | ((with_reducible refine (T4.out _ hb00).mono ?_); rintro e w4 ⟨v4, rfl, ho4, hb4⟩; obtain ⟨A4, c4, rfl, hnc4, hcm4⟩ := (own_rdB ho4).shape; rw [← HN4.out]; have hb40 : Below wr.heap.size wr w4 := hb00.trans (hb4.mono (Nat.le_refl _)); clear ho4 hb4) | ((with_reducible refine (T5.out _ hb40).mono ?_); rintro e w5 ⟨v5, rfl, ho5, hb5⟩; obtain ⟨A5, c5, rfl, hnc5, hcm5⟩ := (own_rdB ho5).shape; rw [← HN5.out]; have hb50 : Below wr.heap.size wr w5 := hb40.trans (hb5.mono hb40.size); clear ho5 hb5) | ((with_reducible refine (T6.out _ hb50).mono ?_); rintro e w6 ⟨v6, rfl, ho6, hb6⟩; obtain ⟨A6, c6, rfl, hnc6, hcm6⟩ := (own_rdB ho6).shape; rw [← HN6.out]; have hb60 : Below wr.heap.size wr w6 := hb50.trans (hb6.mono hb50.size); clear ho6 hb6)); refine ⟨_, rfl, ?_, ?_⟩; (· (repeat first | exact KeptS.refl _ _ | exact KeptS.of (only_of_below (by assumption) _) | assumption | refine KeptS.drew ?_ | refine KeptS.alloc ?_ _ | refine KeptS.grown ?_ (by assumption) | refine KeptS.below ?_ (by assumption) | refine KeptS.belowAt ?_ (by assumption) | refine KeptS.setRow ?_ (by simp; done) _ | refine KeptS.setNew ?_ (by simp) _)); try simp only [Act.put, List.setIfInBounds_toArray, List.set_cons_succ, List.set_cons_zero])
            (refine wpS_held (by rfl) ?_ (fun W hW => ?_) ?_; rotate_left; (· (obtain ⟨kq, rfl⟩ := hW; go_simp; try with_reducible rfl)); try simp only [Act.put, List.setIfInBounds_toArray, List.set_cons_succ, List.set_cons_zero])
            (refine wpS_held (by rfl) ?_ (fun W hW => ?_) ?_; rotate_left; (· (obtain ⟨kq, rfl⟩ := hW; go_simp; try with_reducible rfl)); try simp only [Act.put, List.setIfInBounds_toArray, List.set_cons_succ, List.set_cons_zero])
            (refine wpS_held (by rfl) ?_ (fun W hW => ?_) ?_; rotate_left; (· (obtain ⟨kq, rfl⟩ := hW; go_simp; try with_reducible rfl)); try simp only [Act.put, List.setIfInBounds_toArray, List.set_cons_succ, List.set_cons_zero])
            (refine wpS_held (by rfl) ?_ (fun W hW => ?_) ?_; rotate_left; (· (obtain ⟨kq, rfl⟩ := hW; go_simp; try with_reducible rfl)); try simp only [Act.put, List.setIfInBounds_toArray, List.set_cons_succ, List.set_cons_zero])
            refine wpS_nil ?_
            try simp only [List.getElem_toArray, List.getElem_cons_succ, List.getElem_cons_zero]

            have kp := HKR.out.belowV hb60
            have p0 := kp.cell 0
            have p1 := kp.cell 1
            have p2 := kp.cell 2
            have p3 := kp.cell 3
            have p4 := kp.cell 4
            have p5 := kp.cell 5
            have p6 := kp.cell 6
            have p7 := kp.cell 7
            simp only [List.getElem?_toArray, List.getElem?_cons_succ, List.getElem?_cons_zero] at p0 p1 p2 p3 p4 p5 p6 p7
            have pl := kp.lt
            have HWF := Lib.hid (HWR.out.trans (hb60.mono HWR.out.size))
            clear kp T4 T5 T6 HN4 HN5 HN6
            by_cases ao : n4 + n5 + n6 = ts.length
            · skip
              have tO : ((n4 : Int) + (n5 : Int) + (n6 : Int) == (ts.length : Int)) = true := by simp; omega
              by_cases a4 : n4 = ts.length
              · skip
                have tA0 : (n4 == ts.length) = true := by simp; omega
                have tA2 : ((n4 : Int) == (ts.length : Int)) = true := by simp; omega
                have HQ := Lib.hid (show stateR ts = 2 by rw [HST.out]; rw [if_pos a4])
                clear HST a4 ao
                by_cases hx : xs = 2
                · subst hx
                  have HG := Lib.hid (show R = true by rw [HRX.out, HQ.out]; simp)
                  clear HRX HQ
                  go_wp2_with fail
                  go_ret
                  exact ⟨ret_bool HG.out.symm, HWF.out⟩
                · have tx : (xs == 2) = false := by simp [hx]
                  have HG := Lib.hid (show R = false by rw [HRX.out, HQ.out]; simp [hx])
                  clear HRX HQ hx
                  go_wp2_with fail
                  go_ret
                  exact ⟨ret_bool HG.out.symm, HWF.out⟩
              · skip
                have tA0 : (n4 == ts.length) = false := by simp; omega
                have tA2 : ((n4 : Int) == (ts.length : Int)) = false := by simp; omega
                by_cases a5 : n5 = 1
                · skip
                  have tB0 : (n5 == 1) = true := by simp; omega
                  have tB2 : ((n5 : Int) == (1 : Int)) = true := by simp; omega
                  have tC0 : (n5 == 0) = false := by simp; omega
                  have tC2 : ((n5 : Int) == (0 : Int)) = false := by simp; omega
                  have HQ := Lib.hid (show stateR ts = 3 by rw [HST.out]; rw [if_neg a4, if_pos ⟨a5, ao⟩])
                  clear HST a4 ao a5
                  by_cases hx : xs = 3
                  · subst hx
                    have HG := Lib.hid (show R = true by rw [HRX.out, HQ.out]; simp)
                    clear HRX HQ
                    go_wp2_with fail
                    go_ret
                    exact ⟨ret_bool HG.out.symm, HWF.out⟩
                  · have tx : (xs == 3) = false := by simp [hx]
                    have HG := Lib.hid (show R = false by rw [HRX.out, HQ.out]; simp [hx])
                    clear HRX HQ hx
                    go_wp2_with fail
                    go_ret
                    exact ⟨ret_bool HG.out.symm, HWF.out⟩
                · skip
                  have tB0 : (n5 == 1) = false := by simp; omega
                  have tB2 : ((n5 : Int) == (1 : Int)) = false := by simp; omega
                  by_cases b5 : n5 = 0
                  · skip
                    have tC0 : (n5 == 0) = true := by simp; omega
                    have tC2 : ((n5 : Int) == (0 : Int)) = true := by simp; omega
                    by_cases a6 : 0 < n6
                    · skip
                      have tD : decide (0 < n6) = true := by simp; omega
                      have tE : decide ((0 : Int) < (n6 : Int)) = true := by simp; omega
                      have tF0 : (n6 == 0) = false := by simp; omega
                      have tF2 : ((n6 : Int) == (0 : Int)) = false := by simp; omega
                      have HQ := Lib.hid (show stateR ts = 4 by rw [HST.out]; rw [if_neg a4, if_neg (by omega), if_pos ⟨b5, a6, ao⟩])
                      clear HST a4 ao a5 b5 a6
                      by_cases hx : xs = 4
                      · subst hx
                        have HG := Lib.hid (show R = true by rw [HRX.out, HQ.out]; simp)
                        clear HRX HQ
                        go_wp2_with fail
                        go_ret
                        exact ⟨ret_bool HG.out.symm, HWF.out⟩
                      · have tx : (xs == 4) = false := by simp [hx]
                        have HG := Lib.hid (show R = false by rw [HRX.out, HQ.out]; simp [hx])
                        clear HRX HQ hx
                        go_wp2_with fail
                        go_ret
                        exact ⟨ret_bool HG.out.symm, HWF.out⟩
                    · skip
                      have tD : decide (0 < n6) = false := by simp; omega
                      have tE : decide ((0 : Int) < (n6 : Int)) = false := by simp; omega
                      have tF0 : (n6 == 0) = true := by simp; omega
                      have tF2 : ((n6 : Int) == (0 : Int)) = true := by simp; omega
                      have HQ := Lib.hid (show stateR ts = 1 by rw [HST.out]; rw [if_neg a4, if_neg (by omega), if_neg (by omega), if_pos (by omega)])
                      clear HST a4 ao a5 b5 a6
                      by_cases hx : xs = 1
                      · subst hx
                        have HG := Lib.hid (show R = true by rw [HRX.out, HQ.out]; simp)
                        clear HRX HQ
                        go_wp2_with fail
                        go_ret
                        exact ⟨ret_bool HG.out.symm, HWF.out⟩
                      · have tx : (xs == 1) = false := by simp [hx]
                        have HG := Lib.hid (show R = false by rw [HRX.out, HQ.out]; simp [hx])
                        clear HRX HQ hx
                        go_wp2_with fail
                        go_ret
                        exact ⟨ret_bool HG.out.symm, HWF.out⟩
                  · skip
                    have tC0 : (n5 == 0) = false := by simp; omega
                    have tC2 : ((n5 : Int) == (0 : Int)) = false := by simp; omega
                    have HQ := Lib.hid (show stateR ts = 0 by rw [HST.out]; rw [if_neg a4, if_neg (by omega), if_neg (by omega), if_neg (by omega)])
                    clear HST a4 ao a5 b5
                    by_cases hx : xs = 1
                    · subst hx
                      have HG := Lib.hid (show R = false by rw [HRX.out, HQ.out]; simp)
                      clear HRX HQ
                      go_wp2_with fail
                      go_ret
                      exact ⟨ret_bool HG.out.symm, HWF.out⟩
                    · have tx : (xs == 1) = false := by simp [hx]
                      have HG := Lib.hid (show R = false by rw [HRX.out, HQ.out]; simp)
                      clear HRX HQ hx
                      go_wp2_with fail
                      go_ret
                      exact ⟨ret_bool HG.out.symm, HWF.out⟩
            · skip
              have tO : ((n4 : Int) + (n5 : Int) + (n6 : Int) == (ts.length : Int)) = false := by simp; omega
              by_cases a4 : n4 = ts.length
              · skip
                have tA0 : (n4 == ts.length) = true := by simp; omega
                have tA2 : ((n4 : Int) == (ts.length : Int)) = true := by simp; omega
                have HQ := Lib.hid (show stateR ts = 2 by rw [HST.out]; rw [if_pos a4])
                clear HST a4 ao
                by_cases hx : xs = 2
                · subst hx
                  have HG := Lib.hid (show R = true by rw [HRX.out, HQ.out]; simp)
                  clear HRX HQ
                  go_wp2_with fail
                  go_ret
                  exact ⟨ret_bool HG.out.symm, HWF.out⟩
                · have tx : (xs == 2) = false := by simp [hx]
                  have HG := Lib.hid (show R = false by rw [HRX.out, HQ.out]; simp [hx])
                  clear HRX HQ hx
                  go_wp2_with fail
                  go_ret
                  exact ⟨ret_bool HG.out.symm, HWF.out⟩
              · skip
                have tA0 : (n4 == ts.length) = false := by simp; omega
                have tA2 : ((n4 : Int) == (ts.length : Int)) = false := by simp; omega
                by_cases a5 : n5 = 1
                · skip
                  have tB0 : (n5 == 1) = true := by simp; omega
                  have tB2 : ((n5 : Int) == (1 : Int)) = true := by simp; omega
                  have tC0 : (n5 == 0) = false := by simp; omega
                  have tC2 : ((n5 : Int) == (0 : Int)) = false := by simp; omega
                  have HQ := Lib.hid (show stateR ts = 0 by rw [HST.out]; rw [if_neg a4, if_neg (by omega), if_neg (by omega), if_neg (by omega)])
                  clear HST a4 ao a5
                  by_cases hx : xs = 1
                  · subst hx
                    have HG := Lib.hid (show R = false by rw [HRX.out, HQ.out]; simp)
                    clear HRX HQ
                    go_wp2_with fail
                    go_ret
                    exact ⟨ret_bool HG.out.symm, HWF.out⟩
                  · have tx : (xs == 1) = false := by simp [hx]
                    have HG := Lib.hid (show R = false by rw [HRX.out, HQ.out]; simp)
                    clear HRX HQ hx
                    go_wp2_with fail
                    go_ret
                    exact ⟨ret_bool HG.out.symm, HWF.out⟩
                · skip
                  have tB0 : (n5 == 1) = false := by simp; omega
                  have tB2 : ((n5 : Int) == (1 : Int)) = false := by simp; omega
                  by_cases b5 : n5 = 0
                  · skip
                    have tC0 : (n5 == 0) = true := by simp; omega
                    have tC2 : ((n5 : Int) == (0 : Int)) = true := by simp; omega
                    by_cases a6 : 0 < n6
                    · skip
                      have tD : decide (0 < n6) = true := by simp; omega
                      have tE : decide ((0 : Int) < (n6 : Int)) = true := by simp; omega
                      have tF0 : (n6 == 0) = false := by simp; omega
                      have tF2 : ((n6 : Int) == (0 : Int)) = false := by simp; omega
                      have HQ := Lib.hid (show stateR ts = 0 by rw [HST.out]; rw [if_neg a4, if_neg (by omega), if_neg (by omega), if_neg (by omega)])
                      clear HST a4 ao a5 b5 a6
                      by_cases hx : xs = 1
                      · subst hx
                        have HG := Lib.hid (show R = false by rw [HRX.out, HQ.out]; simp)
                        clear HRX HQ
                        go_wp2_with fail
                        go_ret
                        exact ⟨ret_bool HG.out.symm, HWF.out⟩
                      · have tx : (xs == 1) = false := by simp [hx]
                        have HG := Lib.hid (show R = false by rw [HRX.out, HQ.out]; simp)
                        clear HRX HQ hx
                        go_wp2_with fail
                        go_ret
                        exact ⟨ret_bool HG.out.symm, HWF.out⟩
                    · skip
                      have tD : decide (0 < n6) = false := by simp; omega
                      have tE : decide ((0 : Int) < (n6 : Int)) = false := by simp; omega
                      have tF0 : (n6 == 0) = true := by simp; omega
                      have tF2 : ((n6 : Int) == (0 : Int)) = true := by simp; omega
                      have HQ := Lib.hid (show stateR ts = 1 by rw [HST.out]; rw [if_neg a4, if_neg (by omega), if_neg (by omega), if_pos (by omega)])
                      clear HST a4 ao a5 b5 a6
                      by_cases hx : xs = 1
                      · subst hx
                        have HG := Lib.hid (show R = true by rw [HRX.out, HQ.out]; simp)
                        clear HRX HQ
                        go_wp2_with fail
                        go_ret
                        exact ⟨ret_bool HG.out.symm, HWF.out⟩
                      · have tx : (xs == 1) = false := by simp [hx]
                        have HG := Lib.hid (show R = false by rw [HRX.out, HQ.out]; simp [hx])
                        clear HRX HQ hx
                        go_wp2_with fail
                        go_ret
                        exact ⟨ret_bool HG.out.symm, HWF.out⟩
                  · skip
                    have tC0 : (n5 == 0) = false := by simp; omega
                    have tC2 : ((n5 : Int) == (0 : Int)) = false := by simp; omega
                    have HQ := Lib.hid (show stateR ts = 0 by rw [HST.out]; rw [if_neg a4, if_neg (by omega), if_neg (by omega), if_neg (by omega)])
                    clear HST a4 ao a5 b5
                    by_cases hx : xs = 1
                    · subst hx
                      have HG := Lib.hid (show R = false by rw [HRX.out, HQ.out]; simp)
                      clear HRX HQ
                      go_wp2_with fail
                      go_ret
                      exact ⟨ret_bool HG.out.symm, HWF.out⟩
                    · have tx : (xs == 1) = false := by simp [hx]
                      have HG := Lib.hid (show R = false by rw [HRX.out, HQ.out]; simp)
                      clear HRX HQ hx
                      go_wp2_with fail
                      go_ret
                      exact ⟨ret_bool HG.out.symm, HWF.out⟩
set_option maxHeartbeats 8000000 in
set_option maxRecDepth 100000 in
theorem l09State_any (u v : Value) (x : Rn) (w : World) (h : Rd_run w u v x) (hn : cost_run x ≤ 1048576) (hS : ∀ t, t < x.tasks.length → inB (x.tasks.getD t zeroT).state 1 6 = true) :
    Calls Try.prog 87 #[.agg #[.int .i64 x.id, .int .i64 x.plan.prio, .int .i64 x.plan.most, .int .i64 x.plan.wait, .int .i64 x.plan.tasks, u, .int .i64 x.state, v]] w fun e w' => e = .returned (.int .i64 (stateR x.tasks)) ∧ Below w.heap.size w w' := by
  obtain ⟨h1, h2⟩ := h
  unfold cost_run at hn
  obtain ⟨xi, ⟨x1, x2, x3, x4, E⟩, xs, ts⟩ := x
  obtain ⟨AE, cE, rfl, hncE, hcmE⟩ := Rd.shape h1
  obtain ⟨AT, cT, rfl, hncT, hcmT⟩ := Rd.shape h2
  unfold maxLen at hcmE hcmT
  simp only at hncE hncT hcmE hcmT hn hS
  have HT := Lib.hid (show Rd w 4 (.slice AT ts.length cT) ts.length (tskV ts) from h2)
  have HS := Lib.hid hS
  have HSUM := Lib.hid (cntK_sum (ts := ts) (k := ts.length) (fun t ht => hS t ht))
  obtain ⟨W0, hW0⟩ : ∃ W0, W0 = (w.alloc (.cells #[.int .i64 xi, .int .i64 x1, .int .i64 x2, .int .i64 x3, .int .i64 x4, .slice AE E.length cE, .int .i64 xs, .slice AT ts.length cT] 52)).alloc (.cells #[.int .i64 0, .int .i64 0, .int .i64 0, .int .i64 0, .int .i64 0, .int .i64 0, .int .i64 0] 3) := ⟨_, rfl⟩
  have hb0 : Below w.heap.size w W0 := by rw [hW0]; exact ((Below.refl _ _).alloc (Nat.le_refl _) _).alloc (by simp) _
  have k0 : Blk W0 w.heap.size 52 #[.int .i64 xi, .int .i64 x1, .int .i64 x2, .int .i64 x3, .int .i64 x4, .slice AE E.length cE, .int .i64 xs, .slice AT ts.length cT] := by rw [hW0]; exact (Blk.new _ _ _).alloc _
  have k1 : Blk W0 (w.heap.size + 1) 3 #[.int .i64 0, .int .i64 0, .int .i64 0, .int .i64 0, .int .i64 0, .int .i64 0, .int .i64 0] := by rw [hW0]; exact blk_new1 _ _ _ _
  have hrow : W0.rowIs (w.heap.size + 1) 3 7 (fun j => .int .i64 ((cntK ts (j : Int) 0 : Nat) : Int)) := ⟨_, k1, rfl, fun i hi => by
    have : i = 0 ∨ i = 1 ∨ i = 2 ∨ i = 3 ∨ i = 4 ∨ i = 5 ∨ i = 6 := by omega
    rcases this with rfl | rfl | rfl | rfl | rfl | rfl | rfl <;> rfl⟩
  have HK := Lib.hid k0
  have HROW0 := Lib.hid hrow
  have HW := Lib.hid hW0
  clear k0 k1 hW0 h1 h2 hS hrow
  go_enter Try.func87, Try.ntmps87
  go_wp2_with fail
  rw [← HW.out]
  go_loopw [4] (fun u4 wr => ∃ k : Nat, k ≤ ts.length ∧ u4 = .int .i64 k ∧ Hid (wr.rowIs (w.heap.size + 1) 3 7 (fun j => .int .i64 ((cntK ts (j : Int) k : Nat) : Int))) ∧ Hid (W0.grownBy wr (some (w.heap.size + 1)))) (fun u4 _ => ts.length - (intOf u4).toNat)
  case atStart => exact ⟨0, Nat.zero_le _, rfl, HROW0, Lib.hid (World.grownBy.refl _ _)⟩
  case round =>
    clear HROW0
    obtain ⟨k, hk, rfl, HROW, HG⟩ := hrel
    have hw : Below w.heap.size w wr := hb0.grown HG.out hb0.size (fun g hg => by injection hg with hg; omega)
    have kp := HK.out.grown HG.out (by simp)
    have p0 := kp.cell 0
    have p1 := kp.cell 1
    have p2 := kp.cell 2
    have p3 := kp.cell 3
    have p4 := kp.cell 4
    have p5 := kp.cell 5
    have p6 := kp.cell 6
    have p7 := kp.cell 7
    simp only [List.getElem?_toArray, List.getElem?_cons_succ, List.getElem?_cons_zero] at p0 p1 p2 p3 p4 p5 p6 p7
    have pl := kp.lt
    have hrl := HROW.out.lt
    by_cases hlt : k < ts.length
    · obtain ⟨b2, o2, _, hv2, _, _, hl2, hc2⟩ := HT.out.form (by omega) (by omega)
      have hA2 : AT = some ⟨b2, o2, none⟩ := by injection hv2
      subst hA2
      obtain ⟨z, hz⟩ : ∃ z, z = ts[k] := ⟨_, rfl⟩
      obtain ⟨c0, -⟩ := tsk_cells hw hl2 hc2 hlt z hz
      have hb2 : b2 < wr.heap.size := Nat.lt_of_lt_of_le hl2 hw.size
      have hst := HS.out k hlt
      have HC := Lib.hid (fun s => cntK_succ ts s k)
      rw [getD_tsk hlt z hz] at hst HC
      obtain ⟨z0, hz0'⟩ : ∃ z0, z0 = z.state := ⟨_, rfl⟩
      rw [← hz0'] at c0 hst HC
      have hst2 := inB_true hst
      obtain ⟨hs1, hs2⟩ := hst2
      obtain ⟨s, rfl⟩ : ∃ s : Nat, z0 = s := ⟨z0.toNat, by omega⟩
      have e0 := HROW.out.cell (i := s) (by omega)
      have ef := HROW.out.frozen s
      have hcl := cntK_le ts (s : Int) k
      obtain ⟨m, hm⟩ : ∃ m, m = cntK ts (s : Int) k := ⟨_, rfl⟩
      simp only [← hm] at e0
      rw [← hm] at hcl
      have HM := Lib.hid hm
      have hk0 : (0 : Int) ≤ (k : Int) := by omega
      have hk1 : (k : Int) < (ts.length : Int) := by omega
      have hs7 : (s : Int) < 7 := by omega
      have hs8 : s < 7 := by omega
      have hs9 : s ≤ 7 := by omega
      clear hz hz0' hv2 hc2 hst hm kp hw
      go_wp2_with fail
      go_roundw
      case rel =>
        refine ⟨k + 1, by omega, by go_num, Lib.hid ((HROW.out.set s (.int .i64 ((m : Int) + 1))).congr fun j hj => ?_), Lib.hid (only_setCell HG.out (.inl rfl) _)⟩
        have h3 := HC.out (j : Int)
        by_cases e : j = s
        · subst e
          rw [if_pos rfl, h3, if_pos rfl, HM.out]
          rfl
        · rw [if_neg e, h3, if_neg (by omega)]
          rfl
      case measure => simp [intOf]; omega
    · obtain rfl : k = ts.length := by omega
      have e1 := HROW.out.cell (i := 1) (by omega)
      have e2 := HROW.out.cell (i := 2) (by omega)
      have e3 := HROW.out.cell (i := 3) (by omega)
      have e4 := HROW.out.cell (i := 4) (by omega)
      have e5 := HROW.out.cell (i := 5) (by omega)
      have e6 := HROW.out.cell (i := 6) (by omega)
      simp only [show ((1 : Nat) : Int) = 1 from rfl, show ((2 : Nat) : Int) = 2 from rfl, show ((3 : Nat) : Int) = 3 from rfl, show ((4 : Nat) : Int) = 4 from rfl, show ((5 : Nat) : Int) = 5 from rfl, show ((6 : Nat) : Int) = 6 from rfl] at e1 e2 e3 e4 e5 e6
      have hsum := HSUM.out
      have HST := Lib.hid (show stateR ts = if cntK ts 4 ts.length = ts.length then 2 else if cntK ts 5 ts.length = 1 ∧ cntK ts 4 ts.length + cntK ts 5 ts.length + cntK ts 6 ts.length = ts.length then 3 else if cntK ts 5 ts.length = 0 ∧ 0 < cntK ts 6 ts.length ∧ cntK ts 4 ts.length + cntK ts 5 ts.length + cntK ts 6 ts.length = ts.length then 4 else if cntK ts 5 ts.length = 0 ∧ cntK ts 6 ts.length = 0 then 1 else 0 from rfl)
      generalize cntK ts 1 ts.length = n1 at *
      generalize cntK ts 2 ts.length = n2 at *
      generalize cntK ts 3 ts.length = n3 at *
      generalize cntK ts 4 ts.length = n4 at *
      generalize cntK ts 5 ts.length = n5 at *
      generalize cntK ts 6 ts.length = n6 at *
      have hN : ts.length ≤ 1048576 := by omega
      obtain ⟨rs, hrs⟩ : ∃ rs : Int, rs = (n1 : Int) + (n2 : Int) + (n3 : Int) := ⟨_, rfl⟩
      have x1' : IntKind.i64.wrap ((n1 : Int) + (n2 : Int)) = (n1 : Int) + (n2 : Int) := IntWalk.i64_in _ (by omega)
      have x2' : IntKind.i64.wrap ((n1 : Int) + (n2 : Int) + (n3 : Int)) = rs := by rw [hrs]; exact IntWalk.i64_in _ (by omega)
      have HWF := Lib.hid hw
      have hrest : rs = 0 ↔ n4 + n5 + n6 = ts.length := by omega
      clear kp hw

      by_cases a4 : n4 = ts.length
      · skip
        have tA0 : (n4 == ts.length) = true := by simp; omega
        have tA2 : ((n4 : Int) == (ts.length : Int)) = true := by simp; omega
        have HQ := Lib.hid (show stateR ts = 2 by rw [HST.out]; rw [if_pos a4])
        clear HST hsum hrs hrest a4
        go_wp2_with fail
        first | refine wp_region_calm_on (by kernel_rfl) (by kernel_rfl) ?_ | refine wp_region_calm_lit (by kernel_rfl) (by kernel_rfl) ?_
        repeat (go_big_quiet_step (fail))
        refine wpQuiet_nil ?_
        intro _ hw'
        obtain ⟨z1, hw''⟩ := hw'
        subst hw''
        go_wp2_with fail
        first | refine wp_region_calm_on (by kernel_rfl) (by kernel_rfl) ?_ | refine wp_region_calm_lit (by kernel_rfl) (by kernel_rfl) ?_
        repeat (go_big_quiet_step (fail))
        refine wpQuiet_nil ?_
        intro _ hw'
        obtain ⟨z2, hw''⟩ := hw'
        subst hw''
        go_wp2_with fail
        go_ret
        exact ⟨ret_int HQ.out.symm, HWF.out.trans (z2.below.mono HWF.out.size)⟩
      · skip
        have tA0 : (n4 == ts.length) = false := by simp; omega
        have tA2 : ((n4 : Int) == (ts.length : Int)) = false := by simp; omega
        by_cases ao : n4 + n5 + n6 = ts.length
        · skip
          have tO : (rs == 0) = true := by simp; omega
          by_cases a5 : n5 = 1
          · skip
            have tB0 : (n5 == 1) = true := by simp; omega
            have tB2 : ((n5 : Int) == (1 : Int)) = true := by simp; omega
            have tC0 : (n5 == 0) = false := by simp; omega
            have tC2 : ((n5 : Int) == (0 : Int)) = false := by simp; omega
            have HQ := Lib.hid (show stateR ts = 3 by rw [HST.out]; rw [if_neg a4, if_pos ⟨a5, ao⟩])
            clear HST hsum hrs hrest a4 ao a5
            go_wp2_with fail
            first | refine wp_region_calm_on (by kernel_rfl) (by kernel_rfl) ?_ | refine wp_region_calm_lit (by kernel_rfl) (by kernel_rfl) ?_
            repeat (go_big_quiet_step (fail))
            refine wpQuiet_nil ?_
            intro _ hw'
            obtain ⟨z1, hw''⟩ := hw'
            subst hw''
            go_wp2_with fail
            first | refine wp_region_calm_on (by kernel_rfl) (by kernel_rfl) ?_ | refine wp_region_calm_lit (by kernel_rfl) (by kernel_rfl) ?_
            repeat (go_big_quiet_step (fail))
            refine wpQuiet_nil ?_
            intro _ hw'
            obtain ⟨z2, hw''⟩ := hw'
            subst hw''
            go_wp2_with fail
            go_ret
            exact ⟨ret_int HQ.out.symm, HWF.out.trans (z2.below.mono HWF.out.size)⟩
          · skip
            have tB0 : (n5 == 1) = false := by simp; omega
            have tB2 : ((n5 : Int) == (1 : Int)) = false := by simp; omega
            by_cases b5 : n5 = 0
            · skip
              have tC0 : (n5 == 0) = true := by simp; omega
              have tC2 : ((n5 : Int) == (0 : Int)) = true := by simp; omega
              by_cases a6 : 0 < n6
              · skip
                have tD : decide (0 < n6) = true := by simp; omega
                have tE : decide ((0 : Int) < (n6 : Int)) = true := by simp; omega
                have tF0 : (n6 == 0) = false := by simp; omega
                have tF2 : ((n6 : Int) == (0 : Int)) = false := by simp; omega
                have HQ := Lib.hid (show stateR ts = 4 by rw [HST.out]; rw [if_neg a4, if_neg (by omega), if_pos ⟨b5, a6, ao⟩])
                clear HST hsum hrs hrest a4 ao a5 b5 a6
                go_wp2_with fail
                first | refine wp_region_calm_on (by kernel_rfl) (by kernel_rfl) ?_ | refine wp_region_calm_lit (by kernel_rfl) (by kernel_rfl) ?_
                repeat (go_big_quiet_step (fail))
                refine wpQuiet_nil ?_
                intro _ hw'
                obtain ⟨z1, hw''⟩ := hw'
                subst hw''
                go_wp2_with fail
                first | refine wp_region_calm_on (by kernel_rfl) (by kernel_rfl) ?_ | refine wp_region_calm_lit (by kernel_rfl) (by kernel_rfl) ?_
                repeat (go_big_quiet_step (fail))
                refine wpQuiet_nil ?_
                intro _ hw'
                obtain ⟨z2, hw''⟩ := hw'
                subst hw''
                go_wp2_with fail
                go_ret
                exact ⟨ret_int HQ.out.symm, HWF.out.trans (z2.below.mono HWF.out.size)⟩
              · skip
                have tD : decide (0 < n6) = false := by simp; omega
                have tE : decide ((0 : Int) < (n6 : Int)) = false := by simp; omega
                have tF0 : (n6 == 0) = true := by simp; omega
                have tF2 : ((n6 : Int) == (0 : Int)) = true := by simp; omega
                have HQ := Lib.hid (show stateR ts = 1 by rw [HST.out]; rw [if_neg a4, if_neg (by omega), if_neg (by omega), if_pos (by omega)])
                clear HST hsum hrs hrest a4 ao a5 b5 a6
                go_wp2_with fail
                first | refine wp_region_calm_on (by kernel_rfl) (by kernel_rfl) ?_ | refine wp_region_calm_lit (by kernel_rfl) (by kernel_rfl) ?_
                repeat (go_big_quiet_step (fail))
                refine wpQuiet_nil ?_
                intro _ hw'
                obtain ⟨z1, hw''⟩ := hw'
                subst hw''
                go_wp2_with fail
                first | refine wp_region_calm_on (by kernel_rfl) (by kernel_rfl) ?_ | refine wp_region_calm_lit (by kernel_rfl) (by kernel_rfl) ?_
                repeat (go_big_quiet_step (fail))
                refine wpQuiet_nil ?_
                intro _ hw'
                obtain ⟨z2, hw''⟩ := hw'
                subst hw''
                go_wp2_with fail
                go_ret
                exact ⟨ret_int HQ.out.symm, HWF.out.trans (z2.below.mono HWF.out.size)⟩
            · skip
              have tC0 : (n5 == 0) = false := by simp; omega
              have tC2 : ((n5 : Int) == (0 : Int)) = false := by simp; omega
              have HQ := Lib.hid (show stateR ts = 0 by rw [HST.out]; rw [if_neg a4, if_neg (by omega), if_neg (by omega), if_neg (by omega)])
              clear HST hsum hrs hrest a4 ao a5 b5
              go_wp2_with fail
              first | refine wp_region_calm_on (by kernel_rfl) (by kernel_rfl) ?_ | refine wp_region_calm_lit (by kernel_rfl) (by kernel_rfl) ?_
              repeat (go_big_quiet_step (fail))
              refine wpQuiet_nil ?_
              intro _ hw'
              obtain ⟨z1, hw''⟩ := hw'
              subst hw''
              go_wp2_with fail
              first | refine wp_region_calm_on (by kernel_rfl) (by kernel_rfl) ?_ | refine wp_region_calm_lit (by kernel_rfl) (by kernel_rfl) ?_
              repeat (go_big_quiet_step (fail))
              refine wpQuiet_nil ?_
              intro _ hw'
              obtain ⟨z2, hw''⟩ := hw'
              subst hw''
              go_wp2_with fail
              go_ret
              exact ⟨ret_int HQ.out.symm, HWF.out.trans (z2.below.mono HWF.out.size)⟩
        · skip
          have tO : (rs == 0) = false := by simp; omega
          by_cases a5 : n5 = 1
          · skip
            have tB0 : (n5 == 1) = true := by simp; omega
            have tB2 : ((n5 : Int) == (1 : Int)) = true := by simp; omega
            have tC0 : (n5 == 0) = false := by simp; omega
            have tC2 : ((n5 : Int) == (0 : Int)) = false := by simp; omega
            have HQ := Lib.hid (show stateR ts = 0 by rw [HST.out]; rw [if_neg a4, if_neg (by omega), if_neg (by omega), if_neg (by omega)])
            clear HST hsum hrs hrest a4 ao a5
            go_wp2_with fail
            first | refine wp_region_calm_on (by kernel_rfl) (by kernel_rfl) ?_ | refine wp_region_calm_lit (by kernel_rfl) (by kernel_rfl) ?_
            repeat (go_big_quiet_step (fail))
            refine wpQuiet_nil ?_
            intro _ hw'
            obtain ⟨z1, hw''⟩ := hw'
            subst hw''
            go_wp2_with fail
            first | refine wp_region_calm_on (by kernel_rfl) (by kernel_rfl) ?_ | refine wp_region_calm_lit (by kernel_rfl) (by kernel_rfl) ?_
            repeat (go_big_quiet_step (fail))
            refine wpQuiet_nil ?_
            intro _ hw'
            obtain ⟨z2, hw''⟩ := hw'
            subst hw''
            go_wp2_with fail
            go_ret
            exact ⟨ret_int HQ.out.symm, HWF.out.trans (z2.below.mono HWF.out.size)⟩
          · skip
            have tB0 : (n5 == 1) = false := by simp; omega
            have tB2 : ((n5 : Int) == (1 : Int)) = false := by simp; omega
            by_cases b5 : n5 = 0
            · skip
              have tC0 : (n5 == 0) = true := by simp; omega
              have tC2 : ((n5 : Int) == (0 : Int)) = true := by simp; omega
              by_cases a6 : 0 < n6
              · skip
                have tD : decide (0 < n6) = true := by simp; omega
                have tE : decide ((0 : Int) < (n6 : Int)) = true := by simp; omega
                have tF0 : (n6 == 0) = false := by simp; omega
                have tF2 : ((n6 : Int) == (0 : Int)) = false := by simp; omega
                have HQ := Lib.hid (show stateR ts = 0 by rw [HST.out]; rw [if_neg a4, if_neg (by omega), if_neg (by omega), if_neg (by omega)])
                clear HST hsum hrs hrest a4 ao a5 b5 a6
                go_wp2_with fail
                first | refine wp_region_calm_on (by kernel_rfl) (by kernel_rfl) ?_ | refine wp_region_calm_lit (by kernel_rfl) (by kernel_rfl) ?_
                repeat (go_big_quiet_step (fail))
                refine wpQuiet_nil ?_
                intro _ hw'
                obtain ⟨z1, hw''⟩ := hw'
                subst hw''
                go_wp2_with fail
                first | refine wp_region_calm_on (by kernel_rfl) (by kernel_rfl) ?_ | refine wp_region_calm_lit (by kernel_rfl) (by kernel_rfl) ?_
                repeat (go_big_quiet_step (fail))
                refine wpQuiet_nil ?_
                intro _ hw'
                obtain ⟨z2, hw''⟩ := hw'
                subst hw''
                go_wp2_with fail
                go_ret
                exact ⟨ret_int HQ.out.symm, HWF.out.trans (z2.below.mono HWF.out.size)⟩
              · skip
                have tD : decide (0 < n6) = false := by simp; omega
                have tE : decide ((0 : Int) < (n6 : Int)) = false := by simp; omega
                have tF0 : (n6 == 0) = true := by simp; omega
                have tF2 : ((n6 : Int) == (0 : Int)) = true := by simp; omega
                have HQ := Lib.hid (show stateR ts = 1 by rw [HST.out]; rw [if_neg a4, if_neg (by omega), if_neg (by omega), if_pos (by omega)])
                clear HST hsum hrs hrest a4 ao a5 b5 a6
                go_wp2_with fail
                first | refine wp_region_calm_on (by kernel_rfl) (by kernel_rfl) ?_ | refine wp_region_calm_lit (by kernel_rfl) (by kernel_rfl) ?_
                repeat (go_big_quiet_step (fail))
                refine wpQuiet_nil ?_
                intro _ hw'
                obtain ⟨z1, hw''⟩ := hw'
                subst hw''
                go_wp2_with fail
                first | refine wp_region_calm_on (by kernel_rfl) (by kernel_rfl) ?_ | refine wp_region_calm_lit (by kernel_rfl) (by kernel_rfl) ?_
                repeat (go_big_quiet_step (fail))
                refine wpQuiet_nil ?_
                intro _ hw'
                obtain ⟨z2, hw''⟩ := hw'
                subst hw''
                go_wp2_with fail
                go_ret
                exact ⟨ret_int HQ.out.symm, HWF.out.trans (z2.below.mono HWF.out.size)⟩
            · skip
              have tC0 : (n5 == 0) = false := by simp; omega
              have tC2 : ((n5 : Int) == (0 : Int)) = false := by simp; omega
              have HQ := Lib.hid (show stateR ts = 0 by rw [HST.out]; rw [if_neg a4, if_neg (by omega), if_neg (by omega), if_neg (by omega)])
              clear HST hsum hrs hrest a4 ao a5 b5
              go_wp2_with fail
              first | refine wp_region_calm_on (by kernel_rfl) (by kernel_rfl) ?_ | refine wp_region_calm_lit (by kernel_rfl) (by kernel_rfl) ?_
              repeat (go_big_quiet_step (fail))
              refine wpQuiet_nil ?_
              intro _ hw'
              obtain ⟨z1, hw''⟩ := hw'
              subst hw''
              go_wp2_with fail
              first | refine wp_region_calm_on (by kernel_rfl) (by kernel_rfl) ?_ | refine wp_region_calm_lit (by kernel_rfl) (by kernel_rfl) ?_
              repeat (go_big_quiet_step (fail))
              refine wpQuiet_nil ?_
              intro _ hw'
              obtain ⟨z2, hw''⟩ := hw'
              subst hw''
              go_wp2_with fail
              go_ret
              exact ⟨ret_int HQ.out.symm, HWF.out.trans (z2.below.mono HWF.out.size)⟩
set_option maxHeartbeats 16000000 in
set_option maxRecDepth 100000 in
theorem runOk_spec (u v : Value) (x : Rn) (w : World) (h : Rd_run w u v x) (hn : cost_run x ≤ 1048576) :
    Calls Try.prog 57 #[.agg #[.int .i64 x.id, .int .i64 x.plan.prio, .int .i64 x.plan.most, .int .i64 x.plan.wait, .int .i64 x.plan.tasks, u, .int .i64 x.state, v]] w fun e w' => e = .returned (.bool (runOkR x)) ∧ Below w.heap.size w w' := by
  have HRN := Lib.hid h
  obtain ⟨h1, h2⟩ := h
  obtain ⟨R, hR⟩ : ∃ R, R = runOkR x := ⟨_, rfl⟩
  rw [← hR]
  obtain ⟨F, hF⟩ : ∃ F, F = planFaultR x.plan := ⟨_, rfl⟩
  obtain ⟨B, hB⟩ : ∃ B, B = inB x.id 1 9999 := ⟨_, rfl⟩
  unfold cost_run at hn
  obtain ⟨xi, ⟨x1, x2, x3, x4, E⟩, xs, ts⟩ := x
  obtain ⟨AE, cE, rfl, hncE, hcmE⟩ := Rd.shape h1
  obtain ⟨AT, cT, rfl, hncT, hcmT⟩ := Rd.shape h2
  unfold maxLen at hcmE hcmT
  simp only at hncE hncT hcmE hcmT hF hB hn
  have hcp : cost_plan ⟨x1, x2, x3, x4, E⟩ ≤ 1048576 := by unfold cost_plan; simp only; omega
  obtain ⟨W0, hW0⟩ : ∃ W0, W0 = w.alloc (.cells #[.int .i64 xi, .int .i64 x1, .int .i64 x2, .int .i64 x3, .int .i64 x4, .slice AE E.length cE, .int .i64 xs, .slice AT ts.length cT] 52) := ⟨_, rfl⟩
  have hb0 : Below w.heap.size w W0 := by rw [hW0]; exact (Below.refl _ _).alloc (Nat.le_refl _) _
  have k0 : Blk W0 w.heap.size 52 #[.int .i64 xi, .int .i64 x1, .int .i64 x2, .int .i64 x3, .int .i64 x4, .slice AE E.length cE, .int .i64 xs, .slice AT ts.length cT] := by rw [hW0]; exact Blk.new _ _ _
  have HK := Lib.hid k0
  have HW := Lib.hid hW0
  have HR := Lib.hid hR
  clear k0 hW0 hR
  have CI := Lib.hid (fun W => l01In_b xi 1 9999 W)
  rw [← hB] at CI
  have CP := Lib.hid (planFault_spec _ ⟨x1, x2, x3, x4, E⟩ W0 (Rd_plan.below h1 hb0) hcp)
  rw [← hF] at CP
  have p0 := HK.out.cell 0
  have p1 := HK.out.cell 1
  have p2 := HK.out.cell 2
  have p3 := HK.out.cell 3
  have p4 := HK.out.cell 4
  have p5 := HK.out.cell 5
  have p6 := HK.out.cell 6
  have p7 := HK.out.cell 7
  simp only [List.getElem?_toArray, List.getElem?_cons_succ, List.getElem?_cons_zero] at p0 p1 p2 p3 p4 p5 p6 p7
  have pl := HK.out.lt
  cases B with
  | false =>
    have HG := Lib.hid (show R = false by rw [HR.out, runOkR, ← hB]; rfl)
    clear hF hB CP HR
    go_enter Try.func57, Try.ntmps57
    go_wp2_with (go_at_call 69; rw [← HW.out]; refine (CI.out _).mono ?_; rintro e w1 ⟨rfl, rfl⟩)
    go_ret
    exact ⟨ret_bool HG.out.symm, hb0⟩
  | true =>
    by_cases h0 : F = 0
    rotate_left
    · have HG := Lib.hid (show R = false by rw [HR.out, runOkR, ← hB, ← hF, decide_eq_false h0]; rfl)
      have t0 : (F == 0) = false := by simp [h0]
      have t1 : (F != 0) = true := by simp [h0]
      clear hF hB h0 HR
      go_enter Try.func57, Try.ntmps57
      go_wp2_with (first | (go_at_call 69; rw [← HW.out]; refine (CI.out _).mono ?_; rintro e w1 ⟨rfl, rfl⟩) | (go_at_call 62; refine CP.out.mono ?_; rintro e w1 ⟨rfl, hb1⟩))
      go_ret
      exact ⟨ret_bool HG.out.symm, hb0.trans (hb1.mono hb0.size)⟩
    · have hz := fault_zero (hF.symm.trans h0)
      obtain ⟨hx0, hx1, hE, -⟩ := many_false hz.1
      simp only at hx0 hx1 hE
      obtain ⟨n, rfl⟩ : ∃ n : Nat, x4 = n := ⟨x4.toNat, by omega⟩
      have hf0 : planFaultR ⟨x1, x2, x3, n, E⟩ = 0 := hF.symm.trans h0
      have HF0 := Lib.hid hf0
      rw [h0] at CP
      by_cases hl : ts.length = n
      rotate_left
      · have HG := Lib.hid (show R = false by rw [HR.out, runOkR, ← hB, ← hF, decide_eq_true h0]; simp only; rw [decide_eq_false (by omega)]; rfl)
        have t0 : (ts.length == n) = false := by simp [hl]
        have t1 : (ts.length != n) = true := by simp [hl]
        have t2 : ((ts.length : Int) == (n : Int)) = false := by simp; omega
        have t3 : ((ts.length : Int) != (n : Int)) = true := by simp; omega
        clear hF hB h0 HR hl hf0 hz
        go_enter Try.func57, Try.ntmps57
        go_wp2_with (first | (go_at_call 69; rw [← HW.out]; refine (CI.out _).mono ?_; rintro e w1 ⟨rfl, rfl⟩) | (go_at_call 62; refine CP.out.mono ?_; rintro e w1 ⟨rfl, hb1⟩; clear p0 p1 p2 p3 p4 p5 p6 p7 pl; have kp := HK.out.belowV hb1; have p0 := kp.cell 0; have p4 := kp.cell 4; have p7 := kp.cell 7; simp only [List.getElem?_toArray, List.getElem?_cons_succ, List.getElem?_cons_zero] at p0 p4 p7; have pl := kp.lt; clear kp))
        go_ret
        exact ⟨ret_bool HG.out.symm, hb0.trans (hb1.mono hb0.size)⟩
      · have HRR := Lib.hid (show R = (tasksB ⟨xi, ⟨x1, x2, x3, n, E⟩, xs, ts⟩ ts.length && decide (xs = stateR ts ∧ xs ≠ 0)) by rw [HR.out, runOkR, ← hB, ← hF, decide_eq_true h0]; simp only; rw [decide_eq_true (by omega)]; simp)
        have hlI : (ts.length : Int) = n := by omega
        have HLI := Lib.hid hlI
        obtain rfl : n = ts.length := hl.symm
        clear hF hB h0 HR hf0 hz hlI hl
        go_enter Try.func57, Try.ntmps57
        go_wp2_with (first | (go_at_call 69; rw [← HW.out]; refine (CI.out _).mono ?_; rintro e w1 ⟨rfl, rfl⟩) | (go_at_call 62; refine CP.out.mono ?_; rintro e w1 ⟨rfl, hb1⟩; clear p0 p1 p2 p3 p4 p5 p6 p7 pl; have kp := HK.out.belowV hb1; have p0 := kp.cell 0; have p4 := kp.cell 4; have p7 := kp.cell 7; simp only [List.getElem?_toArray, List.getElem?_cons_succ, List.getElem?_cons_zero] at p0 p4 p7; have pl := kp.lt; clear kp))
        have hw1 := hb0.trans (hb1.mono hb0.size)
        have HW1 := Lib.hid hw1
        have HK1 := Lib.hid (HK.out.belowV hb1)
        obtain ⟨N, hNN⟩ : ∃ N, N = ts.length := ⟨_, rfl⟩
        clear p0 p4 p7 pl hw1 hb1
        clear hNN
        have p0 := HK1.out.cell 0
        have p1 := HK1.out.cell 1
        have p2 := HK1.out.cell 2
        have p3 := HK1.out.cell 3
        have p4 := HK1.out.cell 4
        have p5 := HK1.out.cell 5
        have p6 := HK1.out.cell 6
        have p7 := HK1.out.cell 7
        simp only [List.getElem?_toArray, List.getElem?_cons_succ, List.getElem?_cons_zero] at p0 p1 p2 p3 p4 p5 p6 p7
        have pl := HK1.out.lt
        have HT := Lib.hid (show Rd w 4 (.slice AT ts.length cT) ts.length (tskV ts) from h2)
        clear h1 h2
        go_loop [3] (fun u3 => ∃ k : Nat, k ≤ ts.length ∧ u3 = .int .i64 k ∧ Hid (∀ t, t < k → inB (ts.getD t zeroT).state 1 6 = true)) (fun u3 => ts.length - (intOf u3).toNat)
        case atStart => exact ⟨0, Nat.zero_le _, rfl, Lib.hid (fun t ht => absurd ht (by omega))⟩
        case round =>
          obtain ⟨k, hk, rfl, HI⟩ := hrel
          by_cases hlt : k < ts.length
          · obtain ⟨b2, o2, _, hv2, _, _, hl2, hc2⟩ := HT.out.form (by omega) (by omega)
            have hA2 : AT = some ⟨b2, o2, none⟩ := by injection hv2
            subst hA2
            obtain ⟨z, hz⟩ : ∃ z, z = ts[k] := ⟨_, rfl⟩
            obtain ⟨c0, -⟩ := tsk_cells HW1.out hl2 hc2 hlt z hz
            have hb2 : b2 < w1.heap.size := Nat.lt_of_lt_of_le hl2 HW1.out.size
            have hg := getD_tsk hlt z hz
            obtain ⟨z0, hz0⟩ : ∃ z0, z0 = z.state := ⟨_, rfl⟩
            have hgs : (ts.getD k zeroT).state = z0 := by rw [hg, hz0]
            rw [← hz0] at c0
            have CZ := Lib.hid (fun W => l01In_b z0 1 6 W)
            obtain ⟨B, hB⟩ : ∃ B, B = inB z0 1 6 := ⟨_, rfl⟩
            rw [← hB] at CZ
            have hk0 : (0 : Int) ≤ (k : Int) := by omega
            have hk1 : (k : Int) < (ts.length : Int) := by omega
            cases B with
            | false =>
              have HG := Lib.hid (show R = false by
                rw [HRR.out, tasksB_false hlt (Bool.eq_false_iff.2 fun h => by have h3 := task_state h; simp only at h3; rw [hgs, ← hB] at h3; cases h3)]
                rfl)
              clear hz hz0 hg hgs hB hv2 hc2
              go_wp2_with (go_at_call 69; refine (CZ.out _).mono ?_; rintro e w2 ⟨rfl, rfl⟩)
              go_ret
              exact ⟨ret_bool HG.out.symm, HW1.out⟩
            | true =>
              have HI2 := Lib.hid (show ∀ t, t < k + 1 → inB (ts.getD t zeroT).state 1 6 = true from fun t ht => by
                by_cases e : t = k
                · subst e; rw [hgs, ← hB]
                · exact HI.out t (by omega))
              clear hz hz0 hg hgs hB hv2 hc2 HI
              go_wp2_with (go_at_call 69; refine (CZ.out _).mono ?_; rintro e w2 ⟨rfl, rfl⟩)
              go_round
              case rel => exact ⟨k + 1, by omega, by go_num, HI2⟩
              case measure => simp [intOf]; omega
          · obtain rfl : k = ts.length := by omega
            go_wp2_with fail
            clear p0 p1 p2 p3 p4 p5 p6 p7 pl
            go_loopw [4] (fun u4 wr => ∃ k : Nat, k ≤ ts.length ∧ u4 = .int .i64 k ∧ Hid (tasksB ⟨xi, ⟨x1, x2, x3, (ts.length : Int), E⟩, xs, ts⟩ k = true) ∧ Hid (Below w1.heap.size w1 wr)) (fun u4 _ => ts.length - (intOf u4).toNat)
            case atStart => exact ⟨0, Nat.zero_le _, rfl, Lib.hid rfl, Lib.hid (Below.refl _ _)⟩
            case round =>
              obtain ⟨k, hk, rfl, HTB, HB⟩ := hrel
              have hwr : Below w.heap.size w wr := HW1.out.trans (HB.out.mono HW1.out.size)
              have HWR := Lib.hid hwr
              have kp := HK1.out.belowV HB.out
              have p0 := kp.cell 0
              have p1 := kp.cell 1
              have p2 := kp.cell 2
              have p3 := kp.cell 3
              have p4 := kp.cell 4
              have p5 := kp.cell 5
              have p6 := kp.cell 6
              have p7 := kp.cell 7
              simp only [List.getElem?_toArray, List.getElem?_cons_succ, List.getElem?_cons_zero] at p0 p1 p2 p3 p4 p5 p6 p7
              have pl := kp.lt
              by_cases hlt : k < ts.length
              · obtain ⟨T, hT⟩ : ∃ T, T = taskAt ⟨xi, ⟨x1, x2, x3, (ts.length : Int), E⟩, xs, ts⟩ k := ⟨_, rfl⟩
                have CT := Lib.hid (l09Task_any _ _ ⟨xi, ⟨x1, x2, x3, (ts.length : Int), E⟩, xs, ts⟩ k wr (HRN.out.below hwr) HF0.out rfl hlt (HI.out k hlt))
                rw [← hT] at CT
                cases T with
                | false =>
                  have HG := Lib.hid (show R = false by rw [HRR.out, tasksB_false hlt hT.symm]; rfl)
                  clear hT hwr kp
                  go_wp2_with fail
                  refine CT.out.mono ?_
                  rintro e w2 ⟨rfl, hb2⟩
                  go_wp2_with fail
                  go_ret
                  exact ⟨ret_bool HG.out.symm, HWR.out.trans (hb2.mono HWR.out.size)⟩
                | true =>
                  have HS := Lib.hid (show tasksB ⟨xi, ⟨x1, x2, x3, (ts.length : Int), E⟩, xs, ts⟩ (k + 1) = true by rw [tasksB, HTB.out, ← hT]; rfl)
                  clear hT hwr kp
                  go_wp2_with fail
                  refine CT.out.mono ?_
                  rintro e w2 ⟨rfl, hb2⟩
                  go_wp2_with fail
                  go_roundw
                  case rel => exact ⟨k + 1, by omega, by go_num, HS, Lib.hid (HB.out.trans (hb2.mono HB.out.size))⟩
                  case measure => simp [intOf]; omega
              · obtain rfl : k = ts.length := by omega
                have HRX := Lib.hid (show R = decide (xs = stateR ts ∧ xs ≠ 0) by rw [HRR.out, HTB.out, Bool.true_and])
                have CS := Lib.hid (fun (k : Calm wr) => l09State_any _ _ ⟨xi, ⟨x1, x2, x3, (ts.length : Int), E⟩, xs, ts⟩ k.w (HRN.out.below (hwr.trans (k.below.mono hwr.size))) (by unfold cost_run; simp only; omega) HI.out)
                simp only at CS
                obtain ⟨Q, hQ⟩ : ∃ Q, Q = stateR ts := ⟨_, rfl⟩
                rw [← hQ] at CS HRX
                clear hQ hwr kp HRR HTB HI
                by_cases hx : xs = Q
                · by_cases hy : xs = 0
                  · have HG := Lib.hid (show R = false by rw [HRX.out, hy]; simp)
                    subst hx
                    subst hy
                    clear HRX
                    go_wp2_with fail
                    first | refine wp_region_calm_on (by kernel_rfl) (by kernel_rfl) ?_ | refine wp_region_calm_lit (by kernel_rfl) (by kernel_rfl) ?_
                    repeat (go_big_quiet_step ((go_at_call 87; exact calm_of (CS.out _))))
                    refine wpQuiet_nil ?_
                    intro _ hw'
                    obtain ⟨z1, hw''⟩ := hw'
                    subst hw''
                    go_wp2_with fail
                    go_ret
                    exact ⟨ret_bool HG.out.symm, HWR.out.trans (z1.below.mono HWR.out.size)⟩
                  · have HG := Lib.hid (show R = true by rw [HRX.out]; exact decide_eq_true ⟨hx, hy⟩)
                    have t0 : (xs == 0) = false := by simp [hy]
                    have t1 : (xs != 0) = true := by simp [hy]
                    subst hx
                    clear HRX hy
                    go_wp2_with fail
                    first | refine wp_region_calm_on (by kernel_rfl) (by kernel_rfl) ?_ | refine wp_region_calm_lit (by kernel_rfl) (by kernel_rfl) ?_
                    repeat (go_big_quiet_step ((go_at_call 87; exact calm_of (CS.out _))))
                    refine wpQuiet_nil ?_
                    intro _ hw'
                    obtain ⟨z1, hw''⟩ := hw'
                    subst hw''
                    go_wp2_with fail
                    go_ret
                    exact ⟨ret_bool HG.out.symm, HWR.out.trans (z1.below.mono HWR.out.size)⟩
                · have HG := Lib.hid (show R = false by rw [HRX.out]; simp [hx])
                  have t0 : (xs == Q) = false := by simp [hx]
                  clear HRX hx
                  go_wp2_with fail
                  first | refine wp_region_calm_on (by kernel_rfl) (by kernel_rfl) ?_ | refine wp_region_calm_lit (by kernel_rfl) (by kernel_rfl) ?_
                  repeat (go_big_quiet_step ((go_at_call 87; exact calm_of (CS.out _))))
                  refine wpQuiet_nil ?_
                  intro _ hw'
                  obtain ⟨z1, hw''⟩ := hw'
                  subst hw''
                  go_wp2_with fail
                  go_ret
                  exact ⟨ret_bool HG.out.symm, HWR.out.trans (z1.below.mono HWR.out.size)⟩

end Go.Proofs.Ytbbjkldkjndfaaa

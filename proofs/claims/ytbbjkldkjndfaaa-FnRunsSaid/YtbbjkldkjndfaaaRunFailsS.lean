/- RunFails, the reference's. -/
import Derived.Test.YtbbjkldkjndfaaaFails
namespace Go.Proofs.Ytbbjkldkjndfaaa
set_option linter.unusedSimpArgs false
set_option linter.unusedVariables false
open Go.RowKit Go.ChangeShapes Go.Deep

/-- What is left behind a task that failed in a live run. -/
theorem fail_left {x : Rn} (h : RunGood x) {t : Nat} (ht : t < x.tasks.length) (hr : (x.tasks.getD t zeroT).state = 3) :
    mapTo leaveSAt (x.tasks.set t (failT (x.tasks.getD t zeroT))) x.tasks.length = mapTo (leaveAt t) (x.tasks.set t (failT (x.tasks.getD t zeroT))) x.tasks.length :=
  mapTo_congr fun k hk => by
    have hs := live_states h.ok (runs_live h.ok ht hr) k hk
    rw [getD_setT ht]
    by_cases e : k = t
    · subst e
      rw [if_pos rfl]; simp [leaveSAt, leaveAt, failT]
    · rw [if_neg e, leaveSAt, leaveAt, if_neg (show ¬ (k : Int) = t by omega), if_neg hs.1]

set_option maxHeartbeats 8000000 in
set_option maxRecDepth 100000 in
theorem runFails_spec (u v : Value) (x : Rn) (t : Nat) (w : World) (h : Rd_run w u v x) (hgd : RunGood x) (ht : t < x.tasks.length) (hr : (x.tasks.getD t zeroT).state = 3) :
    Calls Try.prog 45 #[.agg #[.int .i64 x.id, .int .i64 x.plan.prio, .int .i64 x.plan.most, .int .i64 x.plan.wait, .int .i64 x.plan.tasks, u, .int .i64 x.state, v], .int .i64 (t : Int)] w (GivesR (failX x t) w) := by
  have HRN := Lib.hid h
  have hE9 := hgd.plan.edges.len
  have htk := many_false (fault_zero hgd.ok.zero).1
  have hgn := hgd.n
  have hn : cost_run x ≤ 1048576 := by unfold cost_run; omega
  have hlive := runs_live hgd.ok ht hr
  obtain ⟨W0, hW0⟩ : ∃ W0, W0 = (w.alloc (.cells #[.int .i64 x.id, .int .i64 x.plan.prio, .int .i64 x.plan.most, .int .i64 x.plan.wait, .int .i64 x.plan.tasks, u, .int .i64 x.state, v] 52)).alloc (.cells #[.int .i64 0, .int .i64 0, .int .i64 0, .int .i64 0, .int .i64 0, .slice none 0 0, .int .i64 0, .slice none 0 0] 52) := ⟨_, rfl⟩
  have hb0 : Below w.heap.size w W0 := by rw [hW0]; exact ((Below.refl _ _).alloc (Nat.le_refl _) _).alloc (by simp) _
  have CP := Lib.hid (l09Copy_any u v x W0 (Rd_run.below h hb0) hn)
  have CO := Lib.hid (fun W (hW : Below w.heap.size w W) => l09Runs_yes u v x t W (Rd_run.below HRN.out hW) hn ht hr (runOk_iff.2 hgd.ok))
  have HFX := Lib.hid (show failX x t = ⟨x.id, x.plan, if (x.tasks.getD t zeroT).try_ < x.plan.most then x.state else 3, if (x.tasks.getD t zeroT).try_ < x.plan.most then x.tasks.set t (retryT (x.tasks.getD t zeroT)) else mapTo (leaveAt t) (x.tasks.set t (failT (x.tasks.getD t zeroT))) x.tasks.length⟩ by unfold failX; split <;> rfl)
  have HLV := Lib.hid (fail_left hgd ht hr)
  have hlen12 : x.tasks.length ≤ 12 := by omega
  have hE10 : x.plan.edges.length ≤ 9 := hE9
  clear hgd hE9 htk hgn
  obtain ⟨h1, h2⟩ := h
  unfold cost_run at hn
  obtain ⟨xi, ⟨x1, x2, x3, x4, E⟩, xs, ts⟩ := x
  obtain ⟨AE, cE, rfl, hncE, hcmE⟩ := Rd.shape h1
  obtain ⟨AT, cT, rfl, hncT, hcmT⟩ := Rd.shape h2
  unfold maxLen at hcmE hcmT
  simp only at hncE hncT hcmE hcmT hn hW0 hlive ht hr HFX HLV hlen12 hE10 CO
  subst hlive
  have k0 : Blk W0 w.heap.size 52 #[.int .i64 xi, .int .i64 x1, .int .i64 x2, .int .i64 x3, .int .i64 x4, .slice AE E.length cE, .int .i64 1, .slice AT ts.length cT] := by rw [hW0]; exact (Blk.new _ _ _).alloc _
  have kr0 : Blk W0 (w.heap.size + 1) 52 #[.int .i64 0, .int .i64 0, .int .i64 0, .int .i64 0, .int .i64 0, .slice none 0 0, .int .i64 0, .slice none 0 0] := by rw [hW0]; exact blk_new1 _ _ _ _
  have hzs : W0.heap.size = w.heap.size + 2 := by rw [hW0]; simp
  have HK := Lib.hid k0
  have HR := Lib.hid kr0
  have HW := Lib.hid hW0
  have HZ := Lib.hid hzs
  clear k0 kr0 hW0 h1 h2 hzs
  go_enter Try.func45, Try.ntmps45
  go_wp2_with fail
  rw [← HW.out]
  refine CP.out.mono ?_
  rintro e w1 ⟨u2, v2, rfl, ho2, hb1⟩
  obtain ⟨A2, c2, A3, c3, rfl, rfl⟩ := Own_run.form ho2
  have HO2 := Lib.hid ho2
  have hw1 := hb0.trans (hb1.mono hb0.size)
  have hs1 : w.heap.size + 2 ≤ w1.heap.size := by rw [← HZ.out]; exact hb1.size
  have HK1 := Lib.hid ((HK.out.belowV hb1).alloc (.cells #[.int .i64 xi, .int .i64 x1, .int .i64 x2, .int .i64 x3, .int .i64 x4, .slice A2 E.length c2, .int .i64 1, .slice A3 ts.length c3] 52))
  have HR1 := Lib.hid ((HR.out.belowV hb1).alloc (.cells #[.int .i64 xi, .int .i64 x1, .int .i64 x2, .int .i64 x3, .int .i64 x4, .slice A2 E.length c2, .int .i64 1, .slice A3 ts.length c3] 52))
  have HT1 := Lib.hid (Blk.new w1 52 #[.int .i64 xi, .int .i64 x1, .int .i64 x2, .int .i64 x3, .int .i64 x4, .slice A2 E.length c2, .int .i64 1, .slice A3 ts.length c3])
  have hwa : Below w.heap.size w (w1.alloc (.cells #[.int .i64 xi, .int .i64 x1, .int .i64 x2, .int .i64 x3, .int .i64 x4, .slice A2 E.length c2, .int .i64 1, .slice A3 ts.length c3] 52)) := hw1.alloc hw1.size _
  have haa : Below w1.heap.size w1 (w1.alloc (.cells #[.int .i64 xi, .int .i64 x1, .int .i64 x2, .int .i64 x3, .int .i64 x4, .slice A2 E.length c2, .int .i64 1, .slice A3 ts.length c3] 52)) := (Below.refl _ _).alloc (Nat.le_refl _) _
  have HO1 := Lib.hid (Own_run.below ho2 haa)
  clear ho2
  have p0 := HK1.out.cell 0
  have p1 := HK1.out.cell 1
  have p2 := HK1.out.cell 2
  have p3 := HK1.out.cell 3
  have p4 := HK1.out.cell 4
  have p5 := HK1.out.cell 5
  have p6 := HK1.out.cell 6
  have p7 := HK1.out.cell 7
  simp only [List.getElem?_toArray, List.getElem?_cons_succ, List.getElem?_cons_zero] at p0 p1 p2 p3 p4 p5 p6 p7
  have pl := HK1.out.lt
  go_wp2_with fail
  refine (CO.out _ hwa).mono ?_
  rintro e w2 ⟨rfl, hb2⟩
  clear p0 p1 p2 p3 p4 p5 p6 p7 pl
  have hw2 := hwa.trans (hb2.mono hwa.size)
  have HK2 := Lib.hid (HK1.out.belowV hb2)
  have HR2 := Lib.hid (HR1.out.belowV hb2)
  have HT2 := Lib.hid (HT1.out.belowV hb2)
  have HO3 := Lib.hid (Own_run.below HO1.out hb2)
  have hs2 : w1.heap.size + 1 ≤ w2.heap.size := by have := hb2.size; simp at this; exact this
  have p0 := HK2.out.cell 0
  have p1 := HK2.out.cell 1
  have p2 := HK2.out.cell 2
  have p3 := HK2.out.cell 3
  have p4 := HK2.out.cell 4
  have p5 := HK2.out.cell 5
  have p6 := HK2.out.cell 6
  have p7 := HK2.out.cell 7
  simp only [List.getElem?_toArray, List.getElem?_cons_succ, List.getElem?_cons_zero] at p0 p1 p2 p3 p4 p5 p6 p7
  have pl := HK2.out.lt
  have t0 := HT2.out.cell 0
  have t1 := HT2.out.cell 1
  have t2 := HT2.out.cell 2
  have t3 := HT2.out.cell 3
  have t4 := HT2.out.cell 4
  have t5 := HT2.out.cell 5
  have t6 := HT2.out.cell 6
  have t7 := HT2.out.cell 7
  simp only [List.getElem?_toArray, List.getElem?_cons_succ, List.getElem?_cons_zero] at t0 t1 t2 t3 t4 t5 t6 t7
  have tf0 := HT2.out.frozen 0
  have tf1 := HT2.out.frozen 1
  have tf2 := HT2.out.frozen 2
  have tf3 := HT2.out.frozen 3
  have tf4 := HT2.out.frozen 4
  have tf5 := HT2.out.frozen 5
  have tf6 := HT2.out.frozen 6
  have tf7 := HT2.out.frozen 7
  have tl := HT2.out.lt
  have r0 := HR2.out.cell 0
  have r1 := HR2.out.cell 1
  have r2 := HR2.out.cell 2
  have r3 := HR2.out.cell 3
  have r4 := HR2.out.cell 4
  have r5 := HR2.out.cell 5
  have r6 := HR2.out.cell 6
  have r7 := HR2.out.cell 7
  simp only [List.getElem?_toArray, List.getElem?_cons_succ, List.getElem?_cons_zero] at r0 r1 r2 r3 r4 r5 r6 r7
  have rf0 := HR2.out.frozen 0
  have rf1 := HR2.out.frozen 1
  have rf2 := HR2.out.frozen 2
  have rf3 := HR2.out.frozen 3
  have rf4 := HR2.out.frozen 4
  have rf5 := HR2.out.frozen 5
  have rf6 := HR2.out.frozen 6
  have rf7 := HR2.out.frozen 7
  have rl := HR2.out.lt
  clear hwa haa hb1 hb2
  obtain ⟨m, ha, hbm, oE, oT⟩ := HO3.out
  obtain ⟨g, cap, hv3, hmg, hcm3, hlc, hrow⟩ := RowTsk.of_own oT.1 (show 0 < ts.length by omega)
  have hg1 : g < w1.heap.size := oT.2.2 g (by rw [hv3]; rfl)
  injection hv3 with hA3 _ hC3
  subst hA3 hC3
  have hmZ : w.heap.size + 2 ≤ m := by rw [HZ.out] at ha; exact ha
  have HOE := Lib.hid (show OwnS w2 (w.heap.size + 2) m 39 2 (.slice A2 E.length c2) E.length (edgV E) by rw [← HZ.out]; exact oE)
  have hgl := hrow.lt
  obtain ⟨y, hy⟩ : ∃ y, y = ts[t] := ⟨_, rfl⟩
  have hyd : ts.getD t zeroT = y := getD_tsk ht y hy
  rw [hyd] at HFX HLV hr
  obtain ⟨s0, s1, s2, s3⟩ := hrow.cell ht y hy
  have z0 := hrow.frozen (t * 4)
  have z3 := hrow.frozen (t * 4 + 3)
  have g1 : ¬ g = w1.heap.size := by omega
  have g2 : ¬ w1.heap.size = g := by omega
  have g3 : ¬ g = w.heap.size := by omega
  have g4 : ¬ w.heap.size = g := by omega
  have g5 : ¬ g = w.heap.size + 1 := by omega
  have g6 : ¬ w.heap.size + 1 = g := by omega
  have ht0 : (0 : Int) ≤ (t : Int) := by omega
  have ht1 : (t : Int) < (ts.length : Int) := by omega
  have hr3 := row_until hrow ht hy
  have hlt1 : t < (ts.set t (⟨y.state, y.need, y.try_, 0⟩ : Tsk)).length := by rw [List.length_set]; exact ht
  have hget1 : (⟨y.state, y.need, y.try_, 0⟩ : Tsk) = (ts.set t (⟨y.state, y.need, y.try_, 0⟩ : Tsk))[t] := by rw [List.getElem_set_self]
  have hr4 := row_state hr3 hlt1 hget1 2
  rw [List.set_set] at hr4
  have p4 : Part g (g + 1) w2 ((w2.setCell ⟨g, t * 4 + 3, none⟩ (.int .i64 0)).setCell ⟨g, t * 4, none⟩ (.int .i64 2)) := ((Part.refl g (g + 1) w2).setCell (p := ⟨g, t * 4 + 3, none⟩) ⟨Nat.le_refl _, Nat.lt_succ_self _⟩ _).setCell (p := ⟨g, t * 4, none⟩) ⟨Nat.le_refl _, Nat.lt_succ_self _⟩ _
  obtain ⟨W4, hW4⟩ : ∃ W, W = (w2.setCell ⟨g, t * 4 + 3, none⟩ (.int .i64 0)).setCell ⟨g, t * 4, none⟩ (.int .i64 2) := ⟨_, rfl⟩
  rw [← hW4] at hr4 p4
  have hlt4 : t < (ts.set t (⟨2, y.need, y.try_, 0⟩ : Tsk)).length := by rw [List.length_set]; exact ht
  have hget4 : (⟨2, y.need, y.try_, 0⟩ : Tsk) = (ts.set t (⟨2, y.need, y.try_, 0⟩ : Tsk))[t] := by rw [List.getElem_set_self]
  have HG4 := Lib.hid hget4
  have HR4 := Lib.hid (HR2.out.keepV p4 (.inl (by omega)))
  have HT4 := Lib.hid (HT2.out.keepV p4 (.inr (by omega)))
  have HK4 := Lib.hid (HK2.out.keepV p4 (.inl (by omega)))
  have HRW4 := Lib.hid hr4
  have HP4 := Lib.hid p4
  have HW4 := Lib.hid hW4
  have hs4 := p4.size
  clear oT oE hrow ha hr hy hyd hr3 hlt1 hget1 hr4 p4 hW4 hget4
  by_cases hm : y.try_ < x2
  · have t0d : decide (y.try_ < x2) = true := decide_eq_true hm
    rw [if_pos hm, if_pos hm] at HFX
    clear hm
    go_wp2_with fail
    rw [← HW4.out]
    clear r0 r1 r2 r3 r4 r5 r6 r7 rf0 rf1 rf2 rf3 rf4 rf5 rf6 rf7 rl
    clear t0 t1 t2 t3 t4 t5 t6 t7 tf0 tf1 tf2 tf3 tf4 tf5 tf6 tf7 tl
    clear p0 p1 p2 p3 p4 p5 p6 p7 pl
    clear z0 z3 s0 s1 s2 s3
    have q2 := HK4.out.cell 2
    simp only [List.getElem?_toArray, List.getElem?_cons_succ, List.getElem?_cons_zero] at q2
    have ql := HK4.out.lt
    have q7 := HT4.out.cell 7
    simp only [List.getElem?_toArray, List.getElem?_cons_succ, List.getElem?_cons_zero] at q7
    have qtl := HT4.out.lt
    obtain ⟨d0, d1, d2, d3⟩ := HRW4.out.cell hlt4 _ HG4.out
    have cl := HRW4.out.lt
    try simp only at d0 d1 d2 d3
    first | refine wp_region_calm_on (by kernel_rfl) (by kernel_rfl) ?_ | refine wp_region_calm_lit (by kernel_rfl) (by kernel_rfl) ?_
    repeat (go_big_quiet_step (fail))
    refine wpQuiet_nil ?_
    intro _ hw'
    obtain ⟨kz, hw''⟩ := hw'
    subst hw''
    have HRz := Lib.hid (HRW4.out.belowV kz.below)
    have HTz := Lib.hid (HT4.out.belowV kz.below)
    have HKz := Lib.hid (HR4.out.belowV kz.below)
    have HPz := Lib.hid (HP4.out.trans (Part.of_below kz.below))
    have hsz := kz.below.size
    clear q2 ql q7 qtl d0 d1 d2 d3 cl
    have t0 := HTz.out.cell 0
    have t1 := HTz.out.cell 1
    have t2 := HTz.out.cell 2
    have t3 := HTz.out.cell 3
    have t4 := HTz.out.cell 4
    have t5 := HTz.out.cell 5
    have t6 := HTz.out.cell 6
    have t7 := HTz.out.cell 7
    simp only [List.getElem?_toArray, List.getElem?_cons_succ, List.getElem?_cons_zero] at t0 t1 t2 t3 t4 t5 t6 t7
    have tl := HTz.out.lt
    have r0 := HKz.out.cell 0
    have r1 := HKz.out.cell 1
    have r2 := HKz.out.cell 2
    have r3 := HKz.out.cell 3
    have r4 := HKz.out.cell 4
    have r5 := HKz.out.cell 5
    have r6 := HKz.out.cell 6
    have r7 := HKz.out.cell 7
    simp only [List.getElem?_toArray, List.getElem?_cons_succ, List.getElem?_cons_zero] at r0 r1 r2 r3 r4 r5 r6 r7
    have rf0 := HKz.out.frozen 0
    have rf1 := HKz.out.frozen 1
    have rf2 := HKz.out.frozen 2
    have rf3 := HKz.out.frozen 3
    have rf4 := HKz.out.frozen 4
    have rf5 := HKz.out.frozen 5
    have rf6 := HKz.out.frozen 6
    have rf7 := HKz.out.frozen 7
    have rl := HKz.out.lt
    go_wp2_with fail
    clear t0 t1 t2 t3 t4 t5 t6 t7 tl
    clear r0 r1 r2 r3 r4 r5 r6 r7 rf0 rf1 rf2 rf3 rf4 rf5 rf6 rf7 rl
    obtain ⟨W9, hW9⟩ : ∃ W, W = ((((((((kz.w.setCell ⟨w.heap.size + 1, 0, none⟩ (.int .i64 xi)).setCell ⟨w.heap.size + 1, 1, none⟩ (.int .i64 x1)).setCell ⟨w.heap.size + 1, 2, none⟩ (.int .i64 x2)).setCell ⟨w.heap.size + 1, 3, none⟩ (.int .i64 x3)).setCell ⟨w.heap.size + 1, 4, none⟩ (.int .i64 x4)).setCell ⟨w.heap.size + 1, 5, none⟩ (.slice A2 E.length c2)).setCell ⟨w.heap.size + 1, 6, none⟩ (.int .i64 1)).setCell ⟨w.heap.size + 1, 7, none⟩ (.slice (some ⟨g, 0, none⟩) ts.length c3)) := ⟨_, rfl⟩
    rw [← hW9]
    have kW9 : Blk W9 (w.heap.size + 1) 52 #[.int .i64 xi, .int .i64 x1, .int .i64 x2, .int .i64 x3, .int .i64 x4, .slice A2 E.length c2, .int .i64 1, .slice (some ⟨g, 0, none⟩) ts.length c3] := by rw [hW9]; have q := (Blk.set_ (Blk.set_ (Blk.set_ (Blk.set_ (Blk.set_ (Blk.set_ (Blk.set_ (Blk.set_ HKz.out 0 (.int .i64 xi)) 1 (.int .i64 x1)) 2 (.int .i64 x2)) 3 (.int .i64 x3)) 4 (.int .i64 x4)) 5 (.slice A2 E.length c2)) 6 (.int .i64 1)) 7 (.slice (some ⟨g, 0, none⟩) ts.length c3)); simpa using q
    have pW9 : Part (w.heap.size + 1) (w.heap.size + 1 + 1) kz.w W9 := by rw [hW9]; exact (Part.setCell (Part.setCell (Part.setCell (Part.setCell (Part.setCell (Part.setCell (Part.setCell (Part.setCell (Part.refl (w.heap.size + 1) (w.heap.size + 1 + 1) kz.w) (p := ⟨w.heap.size + 1, 0, none⟩) ⟨by simp, by simp⟩ (.int .i64 xi)) (p := ⟨w.heap.size + 1, 1, none⟩) ⟨by simp, by simp⟩ (.int .i64 x1)) (p := ⟨w.heap.size + 1, 2, none⟩) ⟨by simp, by simp⟩ (.int .i64 x2)) (p := ⟨w.heap.size + 1, 3, none⟩) ⟨by simp, by simp⟩ (.int .i64 x3)) (p := ⟨w.heap.size + 1, 4, none⟩) ⟨by simp, by simp⟩ (.int .i64 x4)) (p := ⟨w.heap.size + 1, 5, none⟩) ⟨by simp, by simp⟩ (.slice A2 E.length c2)) (p := ⟨w.heap.size + 1, 6, none⟩) ⟨by simp, by simp⟩ (.int .i64 1)) (p := ⟨w.heap.size + 1, 7, none⟩) ⟨by simp, by simp⟩ (.slice (some ⟨g, 0, none⟩) ts.length c3))
    have e0 := kW9.cell 0
    have e1 := kW9.cell 1
    have e2 := kW9.cell 2
    have e3 := kW9.cell 3
    have e4 := kW9.cell 4
    have e5 := kW9.cell 5
    have e6 := kW9.cell 6
    have e7 := kW9.cell 7
    simp only [List.getElem?_toArray, List.getElem?_cons_succ, List.getElem?_cons_zero] at e0 e1 e2 e3 e4 e5 e6 e7
    refine bodyPost_ret (v := .agg #[.int .i64 xi, .int .i64 x1, .int .i64 x2, .int .i64 x3, .int .i64 x4, .slice A2 E.length c2, .int .i64 1, .slice (some ⟨g, 0, none⟩) ts.length c3]) (by simp [results, Try.results45, go_sem, e0, e1, e2, e3, e4, e5, e6, e7]) rfl ?_
    have hs9 := pW9.size
    have hl : (ts.set t (retryT y)).length = ts.length := List.length_set ..
    have hroW9 := RowTsk.own (RowTsk.keepV HRz.out pW9 (.inr (by omega))) (base := m) hmg hcm3
    rw [show (ts.set t (⟨2, y.need, y.try_, 0⟩ : Tsk)) = ts.set t (retryT y) from rfl, hl] at hroW9
    have oE9 := OwnS.keep (OwnS.keep HOE.out HPz.out (.inl (by omega))) pW9 (.inr (by omega))
    rw [HFX.out]
    refine ⟨_, _, rfl, ⟨m, by omega, by omega, ?_, ?_⟩, Part.to_below (Part.to_below hw2 HPz.out (by omega) (Nat.le_refl _)) pW9 (by omega) (Nat.le_refl _)⟩
    · exact OwnS.mono oE9 (by omega) (Nat.le_refl _) (by omega)
    · show OwnS W9 m W9.heap.size 61 4 _ (ts.set t (retryT y)).length _
      rw [hl]
      exact OwnS.of_own hroW9
  · have t0d : decide (y.try_ < x2) = false := decide_eq_false hm
    rw [if_neg hm, if_neg hm] at HFX
    clear hm
    go_wp2_with fail
    rw [← HW4.out]
    clear r0 r1 r2 r3 r4 r5 r6 r7 rf0 rf1 rf2 rf3 rf4 rf5 rf6 rf7 rl
    clear t0 t1 t2 t3 t4 t5 t6 t7 tf0 tf1 tf2 tf3 tf4 tf5 tf6 tf7 tl
    clear p0 p1 p2 p3 p4 p5 p6 p7 pl
    clear z0 z3 s0 s1 s2 s3
    have q2 := HK4.out.cell 2
    simp only [List.getElem?_toArray, List.getElem?_cons_succ, List.getElem?_cons_zero] at q2
    have ql := HK4.out.lt
    have q7 := HT4.out.cell 7
    simp only [List.getElem?_toArray, List.getElem?_cons_succ, List.getElem?_cons_zero] at q7
    have qtl := HT4.out.lt
    obtain ⟨d0, d1, d2, d3⟩ := HRW4.out.cell hlt4 _ HG4.out
    have cl := HRW4.out.lt
    try simp only at d0 d1 d2 d3
    first | refine wp_region_calm_on (by kernel_rfl) (by kernel_rfl) ?_ | refine wp_region_calm_lit (by kernel_rfl) (by kernel_rfl) ?_
    repeat (go_big_quiet_step (fail))
    refine wpQuiet_nil ?_
    intro _ hw'
    obtain ⟨kz, hw''⟩ := hw'
    subst hw''
    have HRz := Lib.hid (HRW4.out.belowV kz.below)
    have HTz := Lib.hid (HT4.out.belowV kz.below)
    have HKz := Lib.hid (HR4.out.belowV kz.below)
    have HPz := Lib.hid (HP4.out.trans (Part.of_below kz.below))
    have hsz := kz.below.size
    clear q2 ql q7 qtl d0 d1 d2 d3 cl
    have hr5 := row_state HRz.out hlt4 HG4.out 5
    rw [List.set_set] at hr5
    have p5 : Part g (g + 1) kz.w (kz.w.setCell ⟨g, t * 4, none⟩ (.int .i64 5)) := (Part.refl g (g + 1) kz.w).setCell (p := ⟨g, t * 4, none⟩) ⟨Nat.le_refl _, Nat.lt_succ_self _⟩ _
    obtain ⟨W5, hW5⟩ : ∃ W, W = kz.w.setCell ⟨g, t * 4, none⟩ (.int .i64 5) := ⟨_, rfl⟩
    rw [← hW5] at hr5 p5
    have HW5 := Lib.hid hW5
    have HR5 := Lib.hid (HKz.out.keepV p5 (.inl (by omega)))
    have HP5 := Lib.hid (HPz.out.trans p5)
    have hs5 := p5.size
    have hlen5 : (ts.set t (⟨5, y.need, y.try_, 0⟩ : Tsk)).length = ts.length := List.length_set ..
    have CL := Lib.hid (l09Leave_any g c3 xi x1 x2 x3 x4 1 A2 E.length c2 (ts.set t (⟨5, y.need, y.try_, 0⟩ : Tsk)) 3 W5 hr5 (by omega))
    rw [hlen5] at CL
    rw [show (⟨5, y.need, y.try_, 0⟩ : Tsk) = failT y from rfl, HLV.out] at CL
    clear hr5 p5 hW5 hlen5
    have z0 := HRz.out.frozen (t * 4)
    have zl := HRz.out.lt
    obtain ⟨d0, d1, d2, d3⟩ := HRz.out.cell hlt4 _ HG4.out
    try simp only at d0 d1 d2 d3
    have t0 := HTz.out.cell 0
    have t1 := HTz.out.cell 1
    have t2 := HTz.out.cell 2
    have t3 := HTz.out.cell 3
    have t4 := HTz.out.cell 4
    have t5 := HTz.out.cell 5
    have t6 := HTz.out.cell 6
    have t7 := HTz.out.cell 7
    simp only [List.getElem?_toArray, List.getElem?_cons_succ, List.getElem?_cons_zero] at t0 t1 t2 t3 t4 t5 t6 t7
    have tl := HTz.out.lt
    go_wp2_with fail
    rw [← HW5.out]
    refine CL.out.mono ?_
    rintro e w6 ⟨rfl, hr6, hg6⟩
    clear t0 t1 t2 t3 t4 t5 t6 t7 tl
    clear z0 zl d0 d1 d2 d3
    have p6 : Part g (g + 1) W5 w6 := Part.of_grown hg6 (fun j hj => by injection hj with hj; omega)
    have HRW6 := Lib.hid hr6
    have HR6 := Lib.hid (HR5.out.keepV p6 (.inl (by omega)))
    have HP6 := Lib.hid (HP5.out.trans p6)
    have hs6 := p6.size
    clear hr6 hg6 p6
    have r0 := HR6.out.cell 0
    have r1 := HR6.out.cell 1
    have r2 := HR6.out.cell 2
    have r3 := HR6.out.cell 3
    have r4 := HR6.out.cell 4
    have r5 := HR6.out.cell 5
    have r6 := HR6.out.cell 6
    have r7 := HR6.out.cell 7
    simp only [List.getElem?_toArray, List.getElem?_cons_succ, List.getElem?_cons_zero] at r0 r1 r2 r3 r4 r5 r6 r7
    have rf0 := HR6.out.frozen 0
    have rf1 := HR6.out.frozen 1
    have rf2 := HR6.out.frozen 2
    have rf3 := HR6.out.frozen 3
    have rf4 := HR6.out.frozen 4
    have rf5 := HR6.out.frozen 5
    have rf6 := HR6.out.frozen 6
    have rf7 := HR6.out.frozen 7
    have rl := HR6.out.lt
    go_wp2_with fail
    clear r0 r1 r2 r3 r4 r5 r6 r7 rf0 rf1 rf2 rf3 rf4 rf5 rf6 rf7 rl
    obtain ⟨W9, hW9⟩ : ∃ W, W = ((((((((w6.setCell ⟨w.heap.size + 1, 0, none⟩ (.int .i64 xi)).setCell ⟨w.heap.size + 1, 1, none⟩ (.int .i64 x1)).setCell ⟨w.heap.size + 1, 2, none⟩ (.int .i64 x2)).setCell ⟨w.heap.size + 1, 3, none⟩ (.int .i64 x3)).setCell ⟨w.heap.size + 1, 4, none⟩ (.int .i64 x4)).setCell ⟨w.heap.size + 1, 5, none⟩ (.slice A2 E.length c2)).setCell ⟨w.heap.size + 1, 6, none⟩ (.int .i64 3)).setCell ⟨w.heap.size + 1, 7, none⟩ (.slice (some ⟨g, 0, none⟩) ts.length c3)) := ⟨_, rfl⟩
    rw [← hW9]
    have kW9 : Blk W9 (w.heap.size + 1) 52 #[.int .i64 xi, .int .i64 x1, .int .i64 x2, .int .i64 x3, .int .i64 x4, .slice A2 E.length c2, .int .i64 3, .slice (some ⟨g, 0, none⟩) ts.length c3] := by rw [hW9]; have q := (Blk.set_ (Blk.set_ (Blk.set_ (Blk.set_ (Blk.set_ (Blk.set_ (Blk.set_ (Blk.set_ HR6.out 0 (.int .i64 xi)) 1 (.int .i64 x1)) 2 (.int .i64 x2)) 3 (.int .i64 x3)) 4 (.int .i64 x4)) 5 (.slice A2 E.length c2)) 6 (.int .i64 3)) 7 (.slice (some ⟨g, 0, none⟩) ts.length c3)); simpa using q
    have pW9 : Part (w.heap.size + 1) (w.heap.size + 1 + 1) w6 W9 := by rw [hW9]; exact (Part.setCell (Part.setCell (Part.setCell (Part.setCell (Part.setCell (Part.setCell (Part.setCell (Part.setCell (Part.refl (w.heap.size + 1) (w.heap.size + 1 + 1) w6) (p := ⟨w.heap.size + 1, 0, none⟩) ⟨by simp, by simp⟩ (.int .i64 xi)) (p := ⟨w.heap.size + 1, 1, none⟩) ⟨by simp, by simp⟩ (.int .i64 x1)) (p := ⟨w.heap.size + 1, 2, none⟩) ⟨by simp, by simp⟩ (.int .i64 x2)) (p := ⟨w.heap.size + 1, 3, none⟩) ⟨by simp, by simp⟩ (.int .i64 x3)) (p := ⟨w.heap.size + 1, 4, none⟩) ⟨by simp, by simp⟩ (.int .i64 x4)) (p := ⟨w.heap.size + 1, 5, none⟩) ⟨by simp, by simp⟩ (.slice A2 E.length c2)) (p := ⟨w.heap.size + 1, 6, none⟩) ⟨by simp, by simp⟩ (.int .i64 3)) (p := ⟨w.heap.size + 1, 7, none⟩) ⟨by simp, by simp⟩ (.slice (some ⟨g, 0, none⟩) ts.length c3))
    have e0 := kW9.cell 0
    have e1 := kW9.cell 1
    have e2 := kW9.cell 2
    have e3 := kW9.cell 3
    have e4 := kW9.cell 4
    have e5 := kW9.cell 5
    have e6 := kW9.cell 6
    have e7 := kW9.cell 7
    simp only [List.getElem?_toArray, List.getElem?_cons_succ, List.getElem?_cons_zero] at e0 e1 e2 e3 e4 e5 e6 e7
    refine bodyPost_ret (v := .agg #[.int .i64 xi, .int .i64 x1, .int .i64 x2, .int .i64 x3, .int .i64 x4, .slice A2 E.length c2, .int .i64 3, .slice (some ⟨g, 0, none⟩) ts.length c3]) (by simp [results, Try.results45, go_sem, e0, e1, e2, e3, e4, e5, e6, e7]) rfl ?_
    have hs9 := pW9.size
    have hl : (mapTo (leaveAt t) (ts.set t (failT y)) ts.length).length = ts.length := by rw [mapTo_length, List.length_set]
    have hroW9 := RowTsk.own (RowTsk.keepV HRW6.out pW9 (.inr (by omega))) (base := m) hmg hcm3
    rw [hl] at hroW9
    have oE9 := OwnS.keep (OwnS.keep HOE.out HP6.out (.inl (by omega))) pW9 (.inr (by omega))
    rw [HFX.out]
    refine ⟨_, _, rfl, ⟨m, by omega, by omega, ?_, ?_⟩, Part.to_below (Part.to_below hw2 HP6.out (by omega) (Nat.le_refl _)) pW9 (by omega) (Nat.le_refl _)⟩
    · exact OwnS.mono oE9 (by omega) (Nat.le_refl _) (by omega)
    · show OwnS W9 m W9.heap.size 61 4 _ (mapTo (leaveAt t) (ts.set t (failT y)) ts.length).length _
      rw [hl]
      exact OwnS.of_own hroW9
end Go.Proofs.Ytbbjkldkjndfaaa

/- A run of which a task was handed out: l09Started. -/
import Derived.Test.YtbbjkldkjndfaaaRunLeft
import Derived.Test.YtbbjkldkjndfaaaRunsW
namespace Go.Proofs.Ytbbjkldkjndfaaa
set_option linter.unusedSimpArgs false
set_option linter.unusedVariables false
open Go.RowKit Go.ChangeShapes Go.Deep
set_option maxHeartbeats 8000000 in
set_option maxRecDepth 100000 in
theorem started_any (u v : Value) (x : Rn) (t : Nat) (now : Int) (w : World) (h : Rd_run w u v x) (hgd : RunGood x) (ht : t < x.tasks.length) (hn0 : 0 ≤ now) (hn1 : now ≤ 1000) :
    Calls Try.prog 109 #[.agg #[.int .i64 x.id, .int .i64 x.plan.prio, .int .i64 x.plan.most, .int .i64 x.plan.wait, .int .i64 x.plan.tasks, u, .int .i64 x.state, v], .int .i64 (t : Int), .int .i64 now] w (GivesR (startX x t now) w) := by
  have HRN := Lib.hid h
  have hE9 := hgd.plan.edges.len
  have htk := many_false (fault_zero hgd.ok.zero).1
  have hgn := hgd.n
  have hn : cost_run x ≤ 1048576 := by unfold cost_run; omega
  have hmst := hgd.plan.most
  have hwt := hgd.plan.wait
  have htr := (hgd.ok.task t ht).tr
  obtain ⟨W0, hW0⟩ : ∃ W0, W0 = (w.alloc (.cells #[.int .i64 x.id, .int .i64 x.plan.prio, .int .i64 x.plan.most, .int .i64 x.plan.wait, .int .i64 x.plan.tasks, u, .int .i64 x.state, v] 52)).alloc (.cells #[.int .i64 0, .int .i64 0, .int .i64 0, .int .i64 0, .int .i64 0, .slice none 0 0, .int .i64 0, .slice none 0 0] 52) := ⟨_, rfl⟩
  have hb0 : Below w.heap.size w W0 := by rw [hW0]; exact ((Below.refl _ _).alloc (Nat.le_refl _) _).alloc (by simp) _
  have CP := Lib.hid (l09Copy_any u v x W0 (Rd_run.below h hb0) hn)
  have HSX := Lib.hid (show startX x t now = ⟨x.id, x.plan, x.state, x.tasks.set t (startT (x.tasks.getD t zeroT) now x.plan.wait)⟩ from rfl)
  have hlen12 : x.tasks.length ≤ 12 := by omega
  have hE10 : x.plan.edges.length ≤ 9 := hE9
  clear hgd hE9 htk hgn
  obtain ⟨h1, h2⟩ := h
  unfold cost_run at hn
  obtain ⟨xi, ⟨x1, x2, x3, x4, E⟩, xs, ts⟩ := x
  obtain ⟨AE, cE, rfl, hncE, hcmE⟩ := Rd.shape h1
  obtain ⟨AT, cT, rfl, hncT, hcmT⟩ := Rd.shape h2
  unfold maxLen at hcmE hcmT
  simp only at hncE hncT hcmE hcmT hn hW0 ht HSX hlen12 hE10 hmst hwt htr
  have k0 : Blk W0 w.heap.size 52 #[.int .i64 xi, .int .i64 x1, .int .i64 x2, .int .i64 x3, .int .i64 x4, .slice AE E.length cE, .int .i64 xs, .slice AT ts.length cT] := by rw [hW0]; exact (Blk.new _ _ _).alloc _
  have kr0 : Blk W0 (w.heap.size + 1) 52 #[.int .i64 0, .int .i64 0, .int .i64 0, .int .i64 0, .int .i64 0, .slice none 0 0, .int .i64 0, .slice none 0 0] := by rw [hW0]; exact blk_new1 _ _ _ _
  have hzs : W0.heap.size = w.heap.size + 2 := by rw [hW0]; simp
  have HK := Lib.hid k0
  have HR := Lib.hid kr0
  have HW := Lib.hid hW0
  have HZ := Lib.hid hzs
  clear k0 kr0 hW0 h1 h2 hzs
  go_enter Try.func109, Try.ntmps109
  go_wp2_with fail
  rw [← HW.out]
  refine CP.out.mono ?_
  rintro e w1 ⟨u2, v2, rfl, ho2, hb1⟩
  obtain ⟨A2, c2, A3, c3, rfl, rfl⟩ := Own_run.form ho2
  have HO2 := Lib.hid ho2
  have hw1 := hb0.trans (hb1.mono hb0.size)
  have hs1 : w.heap.size + 2 ≤ w1.heap.size := by rw [← HZ.out]; exact hb1.size
  have HK1 := Lib.hid ((HK.out.belowV hb1).alloc (.cells #[.int .i64 xi, .int .i64 x1, .int .i64 x2, .int .i64 x3, .int .i64 x4, .slice A2 E.length c2, .int .i64 xs, .slice A3 ts.length c3] 52))
  have HR1 := Lib.hid ((HR.out.belowV hb1).alloc (.cells #[.int .i64 xi, .int .i64 x1, .int .i64 x2, .int .i64 x3, .int .i64 x4, .slice A2 E.length c2, .int .i64 xs, .slice A3 ts.length c3] 52))
  have HT1 := Lib.hid (Blk.new w1 52 #[.int .i64 xi, .int .i64 x1, .int .i64 x2, .int .i64 x3, .int .i64 x4, .slice A2 E.length c2, .int .i64 xs, .slice A3 ts.length c3])
  have hwa : Below w.heap.size w (w1.alloc (.cells #[.int .i64 xi, .int .i64 x1, .int .i64 x2, .int .i64 x3, .int .i64 x4, .slice A2 E.length c2, .int .i64 xs, .slice A3 ts.length c3] 52)) := hw1.alloc hw1.size _
  have haa : Below w1.heap.size w1 (w1.alloc (.cells #[.int .i64 xi, .int .i64 x1, .int .i64 x2, .int .i64 x3, .int .i64 x4, .slice A2 E.length c2, .int .i64 xs, .slice A3 ts.length c3] 52)) := (Below.refl _ _).alloc (Nat.le_refl _) _
  have HO1 := Lib.hid (Own_run.below ho2 haa)
  clear ho2
  have hs2 : w1.heap.size + 1 = (w1.alloc (.cells #[.int .i64 xi, .int .i64 x1, .int .i64 x2, .int .i64 x3, .int .i64 x4, .slice A2 E.length c2, .int .i64 xs, .slice A3 ts.length c3] 52)).heap.size := by simp
  obtain ⟨w2, hw2d⟩ : ∃ W, W = w1.alloc (.cells #[.int .i64 xi, .int .i64 x1, .int .i64 x2, .int .i64 x3, .int .i64 x4, .slice A2 E.length c2, .int .i64 xs, .slice A3 ts.length c3] 52) := ⟨_, rfl⟩
  rw [← hw2d] at HK1 HR1 HT1 hwa haa HO1 hs2
  have HW2 := Lib.hid hw2d
  have hw2 := hwa
  have HK2 := HK1
  have HR2 := HR1
  have HT2 := HT1
  have HO3 := HO1
  clear hwa haa hw2d HK1 HR1 HT1 HO1
  obtain ⟨m, ha, hbm, oE, oT⟩ := HO3.out
  obtain ⟨g, cap, hv3, hmg, hcm3, hlc, hrow⟩ := RowTsk.of_own oT.1 (show 0 < ts.length by omega)
  have hg1 : g < w1.heap.size := oT.2.2 g (by rw [hv3]; rfl)
  injection hv3 with hA3 _ hC3
  subst hA3 hC3
  have hmZ : w.heap.size + 2 ≤ m := by rw [HZ.out] at ha; exact ha
  have HOE := Lib.hid (show OwnS w2 (w.heap.size + 2) m 39 2 (.slice A2 E.length c2) E.length (edgV E) by rw [← HZ.out]; exact oE)
  have hgl := hrow.lt
  obtain ⟨y, hy⟩ : ∃ y, y = ts[t] := ⟨_, rfl⟩
  have hyd : ts.getD t zeroT = y := getD_tsk ht y hy
  rw [hyd] at HSX htr
  have HY := Lib.hid (show startT y now x3 = ⟨3, y.need, y.try_ + 1, now + x3⟩ from rfl)
  obtain ⟨s0, s1, s2, s3⟩ := hrow.cell ht y hy
  have HS9 := Lib.hid (row_put4 hrow ht (startT y now x3))
  have z0 := hrow.frozen (t * 4)
  have z1 := hrow.frozen (t * 4 + 1)
  have z2 := hrow.frozen (t * 4 + 2)
  have z3 := hrow.frozen (t * 4 + 3)
  have g1 : ¬ g = w1.heap.size := by omega
  have g2 : ¬ w1.heap.size = g := by omega
  have g3 : ¬ g = w.heap.size := by omega
  have g4 : ¬ w.heap.size = g := by omega
  have g5 : ¬ g = w.heap.size + 1 := by omega
  have g6 : ¬ w.heap.size + 1 = g := by omega
  have g7 : ¬ g = w2.heap.size := by omega
  have g8 : ¬ w2.heap.size = g := by omega
  have g9 : ¬ w1.heap.size = w2.heap.size := by omega
  have ga : ¬ w2.heap.size = w1.heap.size := by omega
  have gb : ¬ w.heap.size = w2.heap.size := by omega
  have gc : ¬ w2.heap.size = w.heap.size := by omega
  have gd : ¬ w.heap.size + 1 = w2.heap.size := by omega
  have ge : ¬ w2.heap.size = w.heap.size + 1 := by omega
  have ht0 : (0 : Int) ≤ (t : Int) := by omega
  have ht1 : (t : Int) < (ts.length : Int) := by omega
  obtain ⟨sy, ny, ty, uy⟩ := y
  try simp only at s0 s1 s2 s3 htr
  have k1 : IntKind.i64.wrap (ty + 1) = ty + 1 := IntWalk.i64_in _ (by omega)
  have k2 : wrap64 (ty + 1) = ty + 1 := IntWalk.wrap64_in _ (by omega)
  have k3 : IntKind.i64.wrap (now + x3) = now + x3 := IntWalk.i64_in _ (by omega)
  have k4 : wrap64 (now + x3) = now + x3 := IntWalk.wrap64_in _ (by omega)
  have HW2' := HW2.out.symm
  clear oT oE hrow ha hy hyd HO2 HRN HO3 HY
  have p0 := HK2.out.cell 0
  have p1 := HK2.out.cell 1
  have p2 := HK2.out.cell 2
  have p3 := HK2.out.cell 3
  have p4 := HK2.out.cell 4
  have p5 := HK2.out.cell 5
  have p6 := HK2.out.cell 6
  have p7 := HK2.out.cell 7
  simp only [List.getElem?_toArray, List.getElem?_cons_succ, List.getElem?_cons_zero] at p0 p1 p2 p3 p4 p5 p6 p7
  have pl := HK2.out.lt
  have t0 := HT2.out.cell 0
  have t1 := HT2.out.cell 1
  have t2 := HT2.out.cell 2
  have t3 := HT2.out.cell 3
  have t4 := HT2.out.cell 4
  have t5 := HT2.out.cell 5
  have t6 := HT2.out.cell 6
  have t7 := HT2.out.cell 7
  simp only [List.getElem?_toArray, List.getElem?_cons_succ, List.getElem?_cons_zero] at t0 t1 t2 t3 t4 t5 t6 t7
  have tl := HT2.out.lt
  have r0 := HR2.out.cell 0
  have r1 := HR2.out.cell 1
  have r2 := HR2.out.cell 2
  have r3 := HR2.out.cell 3
  have r4 := HR2.out.cell 4
  have r5 := HR2.out.cell 5
  have r6 := HR2.out.cell 6
  have r7 := HR2.out.cell 7
  simp only [List.getElem?_toArray, List.getElem?_cons_succ, List.getElem?_cons_zero] at r0 r1 r2 r3 r4 r5 r6 r7
  have rf0 := HR2.out.frozen 0
  have rf1 := HR2.out.frozen 1
  have rf2 := HR2.out.frozen 2
  have rf3 := HR2.out.frozen 3
  have rf4 := HR2.out.frozen 4
  have rf5 := HR2.out.frozen 5
  have rf6 := HR2.out.frozen 6
  have rf7 := HR2.out.frozen 7
  have rl := HR2.out.lt
  go_upto_region 2 with (fail)
  clear HW2'
  go_wp2_with fail
  clear p0 p1 p2 p3 p4 p5 p6 p7 pl
  clear t0 t1 t2 t3 t4 t5 t6 t7 tl
  clear r0 r1 r2 r3 r4 r5 r6 r7 rf0 rf1 rf2 rf3 rf4 rf5 rf6 rf7 rl
  clear s0 s1 s2 s3 z0 z1 z2 z3 k1 k2 k3 k4
  obtain ⟨W4, hW4⟩ : ∃ W, W = (((w2.setCell ⟨g, t * 4, none⟩ (.int .i64 3)).setCell ⟨g, t * 4 + 1, none⟩ (.int .i64 ny)).setCell ⟨g, t * 4 + 2, none⟩ (.int .i64 (ty + 1))).setCell ⟨g, t * 4 + 3, none⟩ (.int .i64 (now + x3)) := ⟨_, rfl⟩
  have r4 : RowTsk W4 g c3 (ts.set t (startT ⟨sy, ny, ty, uy⟩ now x3)) := by rw [hW4]; exact HS9.out
  have p4 : Part g (g + 1) w2 W4 := by rw [hW4]; exact ((((Part.refl g (g + 1) w2).setCell (p := ⟨g, t * 4, none⟩) ⟨Nat.le_refl _, Nat.lt_succ_self _⟩ _).setCell (p := ⟨g, t * 4 + 1, none⟩) ⟨Nat.le_refl _, Nat.lt_succ_self _⟩ _).setCell (p := ⟨g, t * 4 + 2, none⟩) ⟨Nat.le_refl _, Nat.lt_succ_self _⟩ _).setCell (p := ⟨g, t * 4 + 3, none⟩) ⟨Nat.le_refl _, Nat.lt_succ_self _⟩ _
  rw [← hW4]
  clear hW4 HS9
  have HRW4 := Lib.hid r4
  have HR4 := Lib.hid (HR2.out.keepV p4 (.inl (by omega)))
  have HP4 := Lib.hid p4
  have hs4 := p4.size
  clear r4 p4
  obtain ⟨W9, hW9⟩ : ∃ W, W = ((((((((W4.setCell ⟨w.heap.size + 1, 0, none⟩ (.int .i64 xi)).setCell ⟨w.heap.size + 1, 1, none⟩ (.int .i64 x1)).setCell ⟨w.heap.size + 1, 2, none⟩ (.int .i64 x2)).setCell ⟨w.heap.size + 1, 3, none⟩ (.int .i64 x3)).setCell ⟨w.heap.size + 1, 4, none⟩ (.int .i64 x4)).setCell ⟨w.heap.size + 1, 5, none⟩ (.slice A2 E.length c2)).setCell ⟨w.heap.size + 1, 6, none⟩ (.int .i64 xs)).setCell ⟨w.heap.size + 1, 7, none⟩ (.slice (some ⟨g, 0, none⟩) ts.length c3)) := ⟨_, rfl⟩
  rw [← hW9]
  have kW9 : Blk W9 (w.heap.size + 1) 52 #[.int .i64 xi, .int .i64 x1, .int .i64 x2, .int .i64 x3, .int .i64 x4, .slice A2 E.length c2, .int .i64 xs, .slice (some ⟨g, 0, none⟩) ts.length c3] := by rw [hW9]; have q := (Blk.set_ (Blk.set_ (Blk.set_ (Blk.set_ (Blk.set_ (Blk.set_ (Blk.set_ (Blk.set_ HR4.out 0 (.int .i64 xi)) 1 (.int .i64 x1)) 2 (.int .i64 x2)) 3 (.int .i64 x3)) 4 (.int .i64 x4)) 5 (.slice A2 E.length c2)) 6 (.int .i64 xs)) 7 (.slice (some ⟨g, 0, none⟩) ts.length c3)); simpa using q
  have pW9 : Part (w.heap.size + 1) (w.heap.size + 1 + 1) W4 W9 := by rw [hW9]; exact (Part.setCell (Part.setCell (Part.setCell (Part.setCell (Part.setCell (Part.setCell (Part.setCell (Part.setCell (Part.refl (w.heap.size + 1) (w.heap.size + 1 + 1) W4) (p := ⟨w.heap.size + 1, 0, none⟩) ⟨by simp, by simp⟩ (.int .i64 xi)) (p := ⟨w.heap.size + 1, 1, none⟩) ⟨by simp, by simp⟩ (.int .i64 x1)) (p := ⟨w.heap.size + 1, 2, none⟩) ⟨by simp, by simp⟩ (.int .i64 x2)) (p := ⟨w.heap.size + 1, 3, none⟩) ⟨by simp, by simp⟩ (.int .i64 x3)) (p := ⟨w.heap.size + 1, 4, none⟩) ⟨by simp, by simp⟩ (.int .i64 x4)) (p := ⟨w.heap.size + 1, 5, none⟩) ⟨by simp, by simp⟩ (.slice A2 E.length c2)) (p := ⟨w.heap.size + 1, 6, none⟩) ⟨by simp, by simp⟩ (.int .i64 xs)) (p := ⟨w.heap.size + 1, 7, none⟩) ⟨by simp, by simp⟩ (.slice (some ⟨g, 0, none⟩) ts.length c3))
  obtain ⟨W10, hW10⟩ : ∃ W, W = W9.alloc (.cells #[.int .i64 3, .int .i64 ny, .int .i64 (ty + 1), .int .i64 (now + x3)] 61) := ⟨_, rfl⟩
  rw [← hW10]
  have k10 : Blk W10 (w.heap.size + 1) 52 #[.int .i64 xi, .int .i64 x1, .int .i64 x2, .int .i64 x3, .int .i64 x4, .slice A2 E.length c2, .int .i64 xs, .slice (some ⟨g, 0, none⟩) ts.length c3] := by rw [hW10]; exact kW9.alloc _
  have b10 : Below W9.heap.size W9 W10 := by rw [hW10]; exact (Below.refl _ _).alloc (Nat.le_refl _) _
  clear hW10 hW9
  have e0 := k10.cell 0
  have e1 := k10.cell 1
  have e2 := k10.cell 2
  have e3 := k10.cell 3
  have e4 := k10.cell 4
  have e5 := k10.cell 5
  have e6 := k10.cell 6
  have e7 := k10.cell 7
  simp only [List.getElem?_toArray, List.getElem?_cons_succ, List.getElem?_cons_zero] at e0 e1 e2 e3 e4 e5 e6 e7
  refine bodyPost_ret (v := .agg #[.int .i64 xi, .int .i64 x1, .int .i64 x2, .int .i64 x3, .int .i64 x4, .slice A2 E.length c2, .int .i64 xs, .slice (some ⟨g, 0, none⟩) ts.length c3]) (by simp [results, Try.results109, go_sem, e0, e1, e2, e3, e4, e5, e6, e7]) rfl ?_
  have hs9 := pW9.size
  have hs10 := b10.size
  have hl : (ts.set t (startT ⟨sy, ny, ty, uy⟩ now x3)).length = ts.length := List.length_set ..
  have hroW9 := RowTsk.own ((RowTsk.keepV HRW4.out pW9 (.inr (by omega))).belowV b10) (base := m) hmg hcm3
  rw [hl] at hroW9
  have oE9 := OwnS.below (OwnS.keep (OwnS.keep HOE.out HP4.out (.inl (by omega))) pW9 (.inr (by omega))) b10
  rw [HSX.out]
  refine ⟨_, _, rfl, ⟨m, by omega, by omega, ?_, ?_⟩, (Part.to_below (Part.to_below hw2 HP4.out (by omega) (Nat.le_refl _)) pW9 (by omega) (Nat.le_refl _)).trans (b10.mono (by omega))⟩
  · exact OwnS.mono oE9 (by omega) (Nat.le_refl _) (by omega)
  · show OwnS W10 m W10.heap.size 61 4 _ (ts.set t (startT ⟨sy, ny, ty, uy⟩ now x3)).length _
    rw [hl]
    exact OwnS.of_own hroW9
end Go.Proofs.Ytbbjkldkjndfaaa

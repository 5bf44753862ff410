/- RunLeft, the program's and the reference's. -/
import Derived.Test.YtbbjkldkjndfaaaLeave
import Derived.Test.YtbbjkldkjndfaaaCopyRn
import Derived.Test.YtbbjkldkjndfaaaRunOk
namespace Go.Proofs.Ytbbjkldkjndfaaa
set_option linter.unusedSimpArgs false
open Go.RowKit Go.ChangeShapes Go.Deep

set_option maxHeartbeats 8000000 in
set_option maxRecDepth 100000 in
theorem runLeft_impl (u v : Value) (x : Rn) (w : World) (h : Rd_run w u v x) (hn : cost_run x ≤ 1048576) :
    Calls Try.prog 46 #[.agg #[.int .i64 x.id, .int .i64 x.plan.prio, .int .i64 x.plan.most, .int .i64 x.plan.wait, .int .i64 x.plan.tasks, u, .int .i64 x.state, v]] w (GivesR (runLeftR x) w) := by
  have HRN := Lib.hid h
  obtain ⟨R, hR⟩ : ∃ R, R = runOkR x := ⟨_, rfl⟩
  obtain ⟨W0, hW0⟩ : ∃ W0, W0 = (w.alloc (.cells #[.int .i64 x.id, .int .i64 x.plan.prio, .int .i64 x.plan.most, .int .i64 x.plan.wait, .int .i64 x.plan.tasks, u, .int .i64 x.state, v] 52)).alloc (.cells #[.int .i64 0, .int .i64 0, .int .i64 0, .int .i64 0, .int .i64 0, .slice none 0 0, .int .i64 0, .slice none 0 0] 52) := ⟨_, rfl⟩
  have hb0 : Below w.heap.size w W0 := by rw [hW0]; exact ((Below.refl _ _).alloc (Nat.le_refl _) _).alloc (by simp) _
  have CP := Lib.hid (copyRun_any u v x W0 (Rd_run.below h hb0) hn)
  have CO := Lib.hid (fun W (hW : Below w.heap.size w W) => runOk_impl u v x W (Rd_run.below HRN.out hW) hn)
  rw [← hR] at CO
  have HR0 := Lib.hid hR
  clear hR
  have HLR := Lib.hid (show runLeftR x = if R = true ∧ x.state = 1 then ⟨x.id, x.plan, 4, mapTo (leaveAt (-1)) x.tasks x.tasks.length⟩ else x by rw [HR0.out]; rfl)
  have HLS := Lib.hid (show R = true → x.state = 1 → mapTo leaveSAt x.tasks x.tasks.length = mapTo (leaveAt (-1)) x.tasks x.tasks.length from fun a b => left_spec (HR0.out ▸ a) b)
  have HLN := Lib.hid (show R = true → 0 < x.tasks.length from fun a => by
    have h1 := HR0.out ▸ a
    unfold runOkR at h1
    simp only [Bool.and_eq_true, decide_eq_true_eq] at h1
    have h2 := many_false (fault_zero h1.2.1).1
    have h3 := h1.2.2.1
    omega)
  clear HR0
  obtain ⟨h1, h2⟩ := h
  unfold cost_run at hn
  obtain ⟨xi, ⟨x1, x2, x3, x4, E⟩, xs, ts⟩ := x
  obtain ⟨AE, cE, rfl, hncE, hcmE⟩ := Rd.shape h1
  obtain ⟨AT, cT, rfl, hncT, hcmT⟩ := Rd.shape h2
  unfold maxLen at hcmE hcmT
  simp only at hncE hncT hcmE hcmT hn hW0
  have k0 : Blk W0 w.heap.size 52 #[.int .i64 xi, .int .i64 x1, .int .i64 x2, .int .i64 x3, .int .i64 x4, .slice AE E.length cE, .int .i64 xs, .slice AT ts.length cT] := by rw [hW0]; exact (Blk.new _ _ _).alloc _
  have kr0 : Blk W0 (w.heap.size + 1) 52 #[.int .i64 0, .int .i64 0, .int .i64 0, .int .i64 0, .int .i64 0, .slice none 0 0, .int .i64 0, .slice none 0 0] := by rw [hW0]; exact blk_new1 _ _ _ _
  have hzs : W0.heap.size = w.heap.size + 2 := by rw [hW0]; simp
  have HK := Lib.hid k0
  have HR := Lib.hid kr0
  have HW := Lib.hid hW0
  have HZ := Lib.hid hzs
  clear k0 kr0 hW0 h1 h2 hzs
  go_enter Try.func46, Try.ntmps46
  go_wp2_with fail
  rw [← HW.out]
  refine CP.out.mono ?_
  rintro e w1 ⟨u2, v2, rfl, ho2, hb1⟩
  obtain ⟨A2, c2, A3, c3, rfl, rfl⟩ := Own_run.form ho2
  have HO2 := Lib.hid ho2
  have hw1 := hb0.trans (hb1.mono hb0.size)
  have hs1 : w.heap.size + 2 ≤ w1.heap.size := by rw [← HZ.out]; exact hb1.size
  have HK1 := Lib.hid ((HK.out.belowV hb1).alloc (.cells #[.int .i64 xi, .int .i64 x1, .int .i64 x2, .int .i64 x3, .int .i64 x4, .slice A2 E.length c2, .int .i64 xs, .slice A3 ts.length c3] 52))
  have HR1 := Lib.hid ((HR.out.belowV hb1).alloc (.cells #[.int .i64 xi, .int .i64 x1, .int .i64 x2, .int .i64 x3, .int .i64 x4, .slice A2 E.length c2, .int .i64 xs, .slice A3 ts.length c3] 52))
  have HT1 := Lib.hid (Blk.new w1 52 #[.int .i64 xi, .int .i64 x1, .int .i64 x2, .int .i64 x3, .int .i64 x4, .slice A2 E.length c2, .int .i64 xs, .slice A3 ts.length c3])
  have hwa : Below w.heap.size w (w1.alloc (.cells #[.int .i64 xi, .int .i64 x1, .int .i64 x2, .int .i64 x3, .int .i64 x4, .slice A2 E.length c2, .int .i64 xs, .slice A3 ts.length c3] 52)) := hw1.alloc hw1.size _
  have haa : Below w1.heap.size w1 (w1.alloc (.cells #[.int .i64 xi, .int .i64 x1, .int .i64 x2, .int .i64 x3, .int .i64 x4, .slice A2 E.length c2, .int .i64 xs, .slice A3 ts.length c3] 52)) := (Below.refl _ _).alloc (Nat.le_refl _) _
  have HO1 := Lib.hid (Own_run.below ho2 haa)
  clear ho2
  have p0 := HK1.out.cell 0
  have p1 := HK1.out.cell 1
  have p2 := HK1.out.cell 2
  have p3 := HK1.out.cell 3
  have p4 := HK1.out.cell 4
  have p5 := HK1.out.cell 5
  have p6 := HK1.out.cell 6
  have p7 := HK1.out.cell 7
  simp only [List.getElem?_toArray, List.getElem?_cons_succ, List.getElem?_cons_zero] at p0 p1 p2 p3 p4 p5 p6 p7
  have pl := HK1.out.lt
  go_wp2_with fail
  refine (CO.out _ hwa).mono ?_
  rintro e w2 ⟨rfl, hb2⟩
  clear p0 p1 p2 p3 p4 p5 p6 p7 pl
  have hw2 := hwa.trans (hb2.mono hwa.size)
  have HK2 := Lib.hid (HK1.out.belowV hb2)
  have HR2 := Lib.hid (HR1.out.belowV hb2)
  have HT2 := Lib.hid (HT1.out.belowV hb2)
  have HO3 := Lib.hid (Own_run.below HO1.out hb2)
  have hs2 : w1.heap.size + 1 ≤ w2.heap.size := by have := hb2.size; simp at this; exact this
  have p0 := HK2.out.cell 0
  have p1 := HK2.out.cell 1
  have p2 := HK2.out.cell 2
  have p3 := HK2.out.cell 3
  have p4 := HK2.out.cell 4
  have p5 := HK2.out.cell 5
  have p6 := HK2.out.cell 6
  have p7 := HK2.out.cell 7
  simp only [List.getElem?_toArray, List.getElem?_cons_succ, List.getElem?_cons_zero] at p0 p1 p2 p3 p4 p5 p6 p7
  have pl := HK2.out.lt
  have t0 := HT2.out.cell 0
  have t1 := HT2.out.cell 1
  have t2 := HT2.out.cell 2
  have t3 := HT2.out.cell 3
  have t4 := HT2.out.cell 4
  have t5 := HT2.out.cell 5
  have t6 := HT2.out.cell 6
  have t7 := HT2.out.cell 7
  simp only [List.getElem?_toArray, List.getElem?_cons_succ, List.getElem?_cons_zero] at t0 t1 t2 t3 t4 t5 t6 t7
  have tf0 := HT2.out.frozen 0
  have tf1 := HT2.out.frozen 1
  have tf2 := HT2.out.frozen 2
  have tf3 := HT2.out.frozen 3
  have tf4 := HT2.out.frozen 4
  have tf5 := HT2.out.frozen 5
  have tf6 := HT2.out.frozen 6
  have tf7 := HT2.out.frozen 7
  have tl := HT2.out.lt
  have r0 := HR2.out.cell 0
  have r1 := HR2.out.cell 1
  have r2 := HR2.out.cell 2
  have r3 := HR2.out.cell 3
  have r4 := HR2.out.cell 4
  have r5 := HR2.out.cell 5
  have r6 := HR2.out.cell 6
  have r7 := HR2.out.cell 7
  simp only [List.getElem?_toArray, List.getElem?_cons_succ, List.getElem?_cons_zero] at r0 r1 r2 r3 r4 r5 r6 r7
  have rf0 := HR2.out.frozen 0
  have rf1 := HR2.out.frozen 1
  have rf2 := HR2.out.frozen 2
  have rf3 := HR2.out.frozen 3
  have rf4 := HR2.out.frozen 4
  have rf5 := HR2.out.frozen 5
  have rf6 := HR2.out.frozen 6
  have rf7 := HR2.out.frozen 7
  have rl := HR2.out.lt
  clear hwa haa hb1 hb2
  cases R with
  | false =>
    clear HLS HLN
    go_wp2_with fail
    clear r0 r1 r2 r3 r4 r5 r6 r7 rf0 rf1 rf2 rf3 rf4 rf5 rf6 rf7 rl
    clear t0 t1 t2 t3 t4 t5 t6 t7 tf0 tf1 tf2 tf3 tf4 tf5 tf6 tf7 tl
    clear p0 p1 p2 p3 p4 p5 p6 p7 pl
    obtain ⟨W9, hW9⟩ : ∃ W, W = ((((((((w2.setCell ⟨w.heap.size + 1, 0, none⟩ (.int .i64 xi)).setCell ⟨w.heap.size + 1, 1, none⟩ (.int .i64 x1)).setCell ⟨w.heap.size + 1, 2, none⟩ (.int .i64 x2)).setCell ⟨w.heap.size + 1, 3, none⟩ (.int .i64 x3)).setCell ⟨w.heap.size + 1, 4, none⟩ (.int .i64 x4)).setCell ⟨w.heap.size + 1, 5, none⟩ (.slice A2 E.length c2)).setCell ⟨w.heap.size + 1, 6, none⟩ (.int .i64 xs)).setCell ⟨w.heap.size + 1, 7, none⟩ (.slice A3 ts.length c3)) := ⟨_, rfl⟩
    rw [← hW9]
    have kW9 : Blk W9 (w.heap.size + 1) 52 #[.int .i64 xi, .int .i64 x1, .int .i64 x2, .int .i64 x3, .int .i64 x4, .slice A2 E.length c2, .int .i64 xs, .slice A3 ts.length c3] := by rw [hW9]; have q := (Blk.set_ (Blk.set_ (Blk.set_ (Blk.set_ (Blk.set_ (Blk.set_ (Blk.set_ (Blk.set_ HR2.out 0 (.int .i64 xi)) 1 (.int .i64 x1)) 2 (.int .i64 x2)) 3 (.int .i64 x3)) 4 (.int .i64 x4)) 5 (.slice A2 E.length c2)) 6 (.int .i64 xs)) 7 (.slice A3 ts.length c3)); simpa using q
    have pW9 : Part (w.heap.size + 1) (w.heap.size + 1 + 1) w2 W9 := by rw [hW9]; exact (Part.setCell (Part.setCell (Part.setCell (Part.setCell (Part.setCell (Part.setCell (Part.setCell (Part.setCell (Part.refl (w.heap.size + 1) (w.heap.size + 1 + 1) w2) (p := ⟨w.heap.size + 1, 0, none⟩) ⟨by simp, by simp⟩ (.int .i64 xi)) (p := ⟨w.heap.size + 1, 1, none⟩) ⟨by simp, by simp⟩ (.int .i64 x1)) (p := ⟨w.heap.size + 1, 2, none⟩) ⟨by simp, by simp⟩ (.int .i64 x2)) (p := ⟨w.heap.size + 1, 3, none⟩) ⟨by simp, by simp⟩ (.int .i64 x3)) (p := ⟨w.heap.size + 1, 4, none⟩) ⟨by simp, by simp⟩ (.int .i64 x4)) (p := ⟨w.heap.size + 1, 5, none⟩) ⟨by simp, by simp⟩ (.slice A2 E.length c2)) (p := ⟨w.heap.size + 1, 6, none⟩) ⟨by simp, by simp⟩ (.int .i64 xs)) (p := ⟨w.heap.size + 1, 7, none⟩) ⟨by simp, by simp⟩ (.slice A3 ts.length c3))
    have e0 := kW9.cell 0
    have e1 := kW9.cell 1
    have e2 := kW9.cell 2
    have e3 := kW9.cell 3
    have e4 := kW9.cell 4
    have e5 := kW9.cell 5
    have e6 := kW9.cell 6
    have e7 := kW9.cell 7
    simp only [List.getElem?_toArray, List.getElem?_cons_succ, List.getElem?_cons_zero] at e0 e1 e2 e3 e4 e5 e6 e7
    refine bodyPost_ret (v := .agg #[.int .i64 xi, .int .i64 x1, .int .i64 x2, .int .i64 x3, .int .i64 x4, .slice A2 E.length c2, .int .i64 xs, .slice A3 ts.length c3]) (by simp [results, Try.results46, go_sem, e0, e1, e2, e3, e4, e5, e6, e7]) rfl ?_
    rw [HLR.out, if_neg (by simp)]
    have hs9 := pW9.size
    refine ⟨_, _, rfl, ?_, Part.to_below hw2 pW9 (by omega) (Nat.le_refl _)⟩
    obtain ⟨m, a, b, o1, o2⟩ := Own_run.keep HO3.out pW9 (.inr (by have := HZ.out; omega))
    exact ⟨m, by rw [HZ.out] at a; omega, by omega, OwnS.mono o1 (by rw [HZ.out]; omega) (Nat.le_refl _) (by omega), OwnS.mono o2 (Nat.le_refl _) (by omega) (Nat.le_refl _)⟩
  | true =>
    have HLE := Lib.hid (HLN.out rfl)
    by_cases h1 : xs = 1
    rotate_left
    · have t0 : (xs == 1) = false := by simp [h1]
      have t1 : (xs != 1) = true := by simp [h1]
      have HH1 := Lib.hid h1
      clear h1 HLS HLN
      go_wp2_with fail
      clear r0 r1 r2 r3 r4 r5 r6 r7 rf0 rf1 rf2 rf3 rf4 rf5 rf6 rf7 rl
      clear t0 t1 t2 t3 t4 t5 t6 t7 tf0 tf1 tf2 tf3 tf4 tf5 tf6 tf7 tl
      clear p0 p1 p2 p3 p4 p5 p6 p7 pl
      obtain ⟨W9, hW9⟩ : ∃ W, W = ((((((((w2.setCell ⟨w.heap.size + 1, 0, none⟩ (.int .i64 xi)).setCell ⟨w.heap.size + 1, 1, none⟩ (.int .i64 x1)).setCell ⟨w.heap.size + 1, 2, none⟩ (.int .i64 x2)).setCell ⟨w.heap.size + 1, 3, none⟩ (.int .i64 x3)).setCell ⟨w.heap.size + 1, 4, none⟩ (.int .i64 x4)).setCell ⟨w.heap.size + 1, 5, none⟩ (.slice A2 E.length c2)).setCell ⟨w.heap.size + 1, 6, none⟩ (.int .i64 xs)).setCell ⟨w.heap.size + 1, 7, none⟩ (.slice A3 ts.length c3)) := ⟨_, rfl⟩
      rw [← hW9]
      have kW9 : Blk W9 (w.heap.size + 1) 52 #[.int .i64 xi, .int .i64 x1, .int .i64 x2, .int .i64 x3, .int .i64 x4, .slice A2 E.length c2, .int .i64 xs, .slice A3 ts.length c3] := by rw [hW9]; have q := (Blk.set_ (Blk.set_ (Blk.set_ (Blk.set_ (Blk.set_ (Blk.set_ (Blk.set_ (Blk.set_ HR2.out 0 (.int .i64 xi)) 1 (.int .i64 x1)) 2 (.int .i64 x2)) 3 (.int .i64 x3)) 4 (.int .i64 x4)) 5 (.slice A2 E.length c2)) 6 (.int .i64 xs)) 7 (.slice A3 ts.length c3)); simpa using q
      have pW9 : Part (w.heap.size + 1) (w.heap.size + 1 + 1) w2 W9 := by rw [hW9]; exact (Part.setCell (Part.setCell (Part.setCell (Part.setCell (Part.setCell (Part.setCell (Part.setCell (Part.setCell (Part.refl (w.heap.size + 1) (w.heap.size + 1 + 1) w2) (p := ⟨w.heap.size + 1, 0, none⟩) ⟨by simp, by simp⟩ (.int .i64 xi)) (p := ⟨w.heap.size + 1, 1, none⟩) ⟨by simp, by simp⟩ (.int .i64 x1)) (p := ⟨w.heap.size + 1, 2, none⟩) ⟨by simp, by simp⟩ (.int .i64 x2)) (p := ⟨w.heap.size + 1, 3, none⟩) ⟨by simp, by simp⟩ (.int .i64 x3)) (p := ⟨w.heap.size + 1, 4, none⟩) ⟨by simp, by simp⟩ (.int .i64 x4)) (p := ⟨w.heap.size + 1, 5, none⟩) ⟨by simp, by simp⟩ (.slice A2 E.length c2)) (p := ⟨w.heap.size + 1, 6, none⟩) ⟨by simp, by simp⟩ (.int .i64 xs)) (p := ⟨w.heap.size + 1, 7, none⟩) ⟨by simp, by simp⟩ (.slice A3 ts.length c3))
      have e0 := kW9.cell 0
      have e1 := kW9.cell 1
      have e2 := kW9.cell 2
      have e3 := kW9.cell 3
      have e4 := kW9.cell 4
      have e5 := kW9.cell 5
      have e6 := kW9.cell 6
      have e7 := kW9.cell 7
      simp only [List.getElem?_toArray, List.getElem?_cons_succ, List.getElem?_cons_zero] at e0 e1 e2 e3 e4 e5 e6 e7
      refine bodyPost_ret (v := .agg #[.int .i64 xi, .int .i64 x1, .int .i64 x2, .int .i64 x3, .int .i64 x4, .slice A2 E.length c2, .int .i64 xs, .slice A3 ts.length c3]) (by simp [results, Try.results46, go_sem, e0, e1, e2, e3, e4, e5, e6, e7]) rfl ?_
      rw [HLR.out, if_neg (fun e => HH1.out e.2)]
      have hs9 := pW9.size
      refine ⟨_, _, rfl, ?_, Part.to_below hw2 pW9 (by omega) (Nat.le_refl _)⟩
      obtain ⟨m, a, b, o1, o2⟩ := Own_run.keep HO3.out pW9 (.inr (by have := HZ.out; omega))
      exact ⟨m, by rw [HZ.out] at a; omega, by omega, OwnS.mono o1 (by rw [HZ.out]; omega) (Nat.le_refl _) (by omega), OwnS.mono o2 (Nat.le_refl _) (by omega) (Nat.le_refl _)⟩
    · subst h1
      have HLS2 := Lib.hid (HLS.out rfl rfl)
      clear HLS
      obtain ⟨m, ha, hbm, oE, oT⟩ := HO3.out
      obtain ⟨g, cap, hv3, hmg, hcm3, hlc, hrow⟩ := RowTsk.of_own oT.1 HLE.out
      have hg1 : g < w1.heap.size := oT.2.2 g (by rw [hv3]; rfl)
      injection hv3 with hA3 _ hC3
      subst hA3 hC3
      have hmZ : w.heap.size + 2 ≤ m := by rw [HZ.out] at ha; exact ha
      have HRW := Lib.hid hrow
      have HOE := Lib.hid (show OwnS w2 (w.heap.size + 2) m 39 2 (.slice A2 E.length c2) E.length (edgV E) by rw [← HZ.out]; exact oE)
      have hgl := hrow.lt
      clear oT oE hrow ha
      go_wp2_with fail
      refine (leave_any w1.heap.size g c3 _ _ _ _ _ _ _ ts (-1) w2 HT2.out HRW.out (by omega) (by omega)).mono ?_
      rintro e w3 ⟨rfl, hrow3, hg3⟩
      clear p0 p1 p2 p3 p4 p5 p6 p7 pl
      clear t0 t1 t2 t3 t4 t5 t6 t7 tf0 tf1 tf2 tf3 tf4 tf5 tf6 tf7 tl
      clear r0 r1 r2 r3 r4 r5 r6 r7 rf0 rf1 rf2 rf3 rf4 rf5 rf6 rf7 rl
      have HRW3 := Lib.hid hrow3
      have p3 : Part g (g + 1) w2 w3 := Part.of_grown hg3 (fun j hj => by injection hj with hj; omega)
      have HT3 := Lib.hid (HT2.out.keepV p3 (.inr (by omega)))
      have HR3 := Lib.hid (HR2.out.keepV p3 (.inl (by omega)))
      have HP3 := Lib.hid p3
      have hs3 := p3.size
      clear hrow3 hg3 p3
      have t0 := HT3.out.cell 0
      have t1 := HT3.out.cell 1
      have t2 := HT3.out.cell 2
      have t3 := HT3.out.cell 3
      have t4 := HT3.out.cell 4
      have t5 := HT3.out.cell 5
      have t6 := HT3.out.cell 6
      have t7 := HT3.out.cell 7
      simp only [List.getElem?_toArray, List.getElem?_cons_succ, List.getElem?_cons_zero] at t0 t1 t2 t3 t4 t5 t6 t7
      have tf0 := HT3.out.frozen 0
      have tf1 := HT3.out.frozen 1
      have tf2 := HT3.out.frozen 2
      have tf3 := HT3.out.frozen 3
      have tf4 := HT3.out.frozen 4
      have tf5 := HT3.out.frozen 5
      have tf6 := HT3.out.frozen 6
      have tf7 := HT3.out.frozen 7
      have tl := HT3.out.lt
      have r0 := HR3.out.cell 0
      have r1 := HR3.out.cell 1
      have r2 := HR3.out.cell 2
      have r3 := HR3.out.cell 3
      have r4 := HR3.out.cell 4
      have r5 := HR3.out.cell 5
      have r6 := HR3.out.cell 6
      have r7 := HR3.out.cell 7
      simp only [List.getElem?_toArray, List.getElem?_cons_succ, List.getElem?_cons_zero] at r0 r1 r2 r3 r4 r5 r6 r7
      have rf0 := HR3.out.frozen 0
      have rf1 := HR3.out.frozen 1
      have rf2 := HR3.out.frozen 2
      have rf3 := HR3.out.frozen 3
      have rf4 := HR3.out.frozen 4
      have rf5 := HR3.out.frozen 5
      have rf6 := HR3.out.frozen 6
      have rf7 := HR3.out.frozen 7
      have rl := HR3.out.lt
      go_wp2_with fail
      clear t0 t1 t2 t3 t4 t5 t6 t7 tf0 tf1 tf2 tf3 tf4 tf5 tf6 tf7 tl
      clear r0 r1 r2 r3 r4 r5 r6 r7 rf0 rf1 rf2 rf3 rf4 rf5 rf6 rf7 rl
      obtain ⟨W4, hW4⟩ : ∃ W, W = w3.setCell ⟨w1.heap.size, 6, none⟩ (.int .i64 4) := ⟨_, rfl⟩
      have p4 : Part w1.heap.size (w1.heap.size + 1) w3 W4 := by rw [hW4]; exact (Part.refl _ _ _).setCell (p := ⟨w1.heap.size, 6, none⟩) ⟨Nat.le_refl _, by simp⟩ _
      rw [← hW4]
      clear hW4
      have HR4 := Lib.hid (HR3.out.keepV p4 (.inl (by omega)))
      have hs4 := p4.size
      obtain ⟨W9, hW9⟩ : ∃ W, W = ((((((((W4.setCell ⟨w.heap.size + 1, 0, none⟩ (.int .i64 xi)).setCell ⟨w.heap.size + 1, 1, none⟩ (.int .i64 x1)).setCell ⟨w.heap.size + 1, 2, none⟩ (.int .i64 x2)).setCell ⟨w.heap.size + 1, 3, none⟩ (.int .i64 x3)).setCell ⟨w.heap.size + 1, 4, none⟩ (.int .i64 x4)).setCell ⟨w.heap.size + 1, 5, none⟩ (.slice A2 E.length c2)).setCell ⟨w.heap.size + 1, 6, none⟩ (.int .i64 4)).setCell ⟨w.heap.size + 1, 7, none⟩ (.slice (some ⟨g, 0, none⟩) ts.length c3)) := ⟨_, rfl⟩
      rw [← hW9]
      have kW9 : Blk W9 (w.heap.size + 1) 52 #[.int .i64 xi, .int .i64 x1, .int .i64 x2, .int .i64 x3, .int .i64 x4, .slice A2 E.length c2, .int .i64 4, .slice (some ⟨g, 0, none⟩) ts.length c3] := by rw [hW9]; have q := (Blk.set_ (Blk.set_ (Blk.set_ (Blk.set_ (Blk.set_ (Blk.set_ (Blk.set_ (Blk.set_ HR4.out 0 (.int .i64 xi)) 1 (.int .i64 x1)) 2 (.int .i64 x2)) 3 (.int .i64 x3)) 4 (.int .i64 x4)) 5 (.slice A2 E.length c2)) 6 (.int .i64 4)) 7 (.slice (some ⟨g, 0, none⟩) ts.length c3)); simpa using q
      have pW9 : Part (w.heap.size + 1) (w.heap.size + 1 + 1) W4 W9 := by rw [hW9]; exact (Part.setCell (Part.setCell (Part.setCell (Part.setCell (Part.setCell (Part.setCell (Part.setCell (Part.setCell (Part.refl (w.heap.size + 1) (w.heap.size + 1 + 1) W4) (p := ⟨w.heap.size + 1, 0, none⟩) ⟨by simp, by simp⟩ (.int .i64 xi)) (p := ⟨w.heap.size + 1, 1, none⟩) ⟨by simp, by simp⟩ (.int .i64 x1)) (p := ⟨w.heap.size + 1, 2, none⟩) ⟨by simp, by simp⟩ (.int .i64 x2)) (p := ⟨w.heap.size + 1, 3, none⟩) ⟨by simp, by simp⟩ (.int .i64 x3)) (p := ⟨w.heap.size + 1, 4, none⟩) ⟨by simp, by simp⟩ (.int .i64 x4)) (p := ⟨w.heap.size + 1, 5, none⟩) ⟨by simp, by simp⟩ (.slice A2 E.length c2)) (p := ⟨w.heap.size + 1, 6, none⟩) ⟨by simp, by simp⟩ (.int .i64 4)) (p := ⟨w.heap.size + 1, 7, none⟩) ⟨by simp, by simp⟩ (.slice (some ⟨g, 0, none⟩) ts.length c3))
      have e0 := kW9.cell 0
      have e1 := kW9.cell 1
      have e2 := kW9.cell 2
      have e3 := kW9.cell 3
      have e4 := kW9.cell 4
      have e5 := kW9.cell 5
      have e6 := kW9.cell 6
      have e7 := kW9.cell 7
      simp only [List.getElem?_toArray, List.getElem?_cons_succ, List.getElem?_cons_zero] at e0 e1 e2 e3 e4 e5 e6 e7
      refine bodyPost_ret (v := .agg #[.int .i64 xi, .int .i64 x1, .int .i64 x2, .int .i64 x3, .int .i64 x4, .slice A2 E.length c2, .int .i64 4, .slice (some ⟨g, 0, none⟩) ts.length c3]) (by simp [results, Try.results46, go_sem, e0, e1, e2, e3, e4, e5, e6, e7]) rfl ?_
      rw [HLR.out, if_pos (by simp)]
      have hs9 := pW9.size
      have hl : (mapTo (leaveAt (-1)) ts ts.length).length = ts.length := mapTo_length _ _ _
      have hrow9 := RowTsk.own (RowTsk.keepV (RowTsk.keepV HRW3.out p4 (.inl hg1)) pW9 (.inr (by omega))) (base := m) hmg hcm3
      rw [hl] at hrow9
      have oE9 := OwnS.keep (OwnS.keep (OwnS.keep HOE.out HP3.out (.inl hmg)) p4 (.inl hbm)) pW9 (.inr (by omega))
      refine ⟨_, _, rfl, ⟨m, by omega, by omega, ?_, ?_⟩, Part.to_below (Part.to_below (Part.to_below hw2 HP3.out (by omega) (Nat.le_refl _)) p4 (by omega) (Nat.le_refl _)) pW9 (by omega) (Nat.le_refl _)⟩
      · exact OwnS.mono oE9 (by omega) (Nat.le_refl _) (by omega)
      · show OwnS W9 m W9.heap.size 61 4 _ (mapTo (leaveAt (-1)) ts ts.length).length _
        rw [hl]
        exact OwnS.of_own hrow9

set_option maxHeartbeats 8000000 in
set_option maxRecDepth 100000 in
theorem runLeft_spec (u v : Value) (x : Rn) (w : World) (h : Rd_run w u v x) (hn : cost_run x ≤ 1048576) :
    Calls Try.prog 47 #[.agg #[.int .i64 x.id, .int .i64 x.plan.prio, .int .i64 x.plan.most, .int .i64 x.plan.wait, .int .i64 x.plan.tasks, u, .int .i64 x.state, v]] w (GivesR (runLeftR x) w) := by
  have HRN := Lib.hid h
  obtain ⟨R, hR⟩ : ∃ R, R = runOkR x := ⟨_, rfl⟩
  obtain ⟨W0, hW0⟩ : ∃ W0, W0 = (w.alloc (.cells #[.int .i64 x.id, .int .i64 x.plan.prio, .int .i64 x.plan.most, .int .i64 x.plan.wait, .int .i64 x.plan.tasks, u, .int .i64 x.state, v] 52)).alloc (.cells #[.int .i64 0, .int .i64 0, .int .i64 0, .int .i64 0, .int .i64 0, .slice none 0 0, .int .i64 0, .slice none 0 0] 52) := ⟨_, rfl⟩
  have hb0 : Below w.heap.size w W0 := by rw [hW0]; exact ((Below.refl _ _).alloc (Nat.le_refl _) _).alloc (by simp) _
  have CP := Lib.hid (l09Copy_any u v x W0 (Rd_run.below h hb0) hn)
  have CO := Lib.hid (fun W (hW : Below w.heap.size w W) => runOk_spec u v x W (Rd_run.below HRN.out hW) hn)
  rw [← hR] at CO
  have HR0 := Lib.hid hR
  clear hR
  have HLR := Lib.hid (show runLeftR x = if R = true ∧ x.state = 1 then ⟨x.id, x.plan, 4, mapTo (leaveAt (-1)) x.tasks x.tasks.length⟩ else x by rw [HR0.out]; rfl)
  have HLS := Lib.hid (show R = true → x.state = 1 → mapTo leaveSAt x.tasks x.tasks.length = mapTo (leaveAt (-1)) x.tasks x.tasks.length from fun a b => left_spec (HR0.out ▸ a) b)
  have HLN := Lib.hid (show R = true → 0 < x.tasks.length from fun a => by
    have h1 := HR0.out ▸ a
    unfold runOkR at h1
    simp only [Bool.and_eq_true, decide_eq_true_eq] at h1
    have h2 := many_false (fault_zero h1.2.1).1
    have h3 := h1.2.2.1
    omega)
  clear HR0
  obtain ⟨h1, h2⟩ := h
  unfold cost_run at hn
  obtain ⟨xi, ⟨x1, x2, x3, x4, E⟩, xs, ts⟩ := x
  obtain ⟨AE, cE, rfl, hncE, hcmE⟩ := Rd.shape h1
  obtain ⟨AT, cT, rfl, hncT, hcmT⟩ := Rd.shape h2
  unfold maxLen at hcmE hcmT
  simp only at hncE hncT hcmE hcmT hn hW0
  have k0 : Blk W0 w.heap.size 52 #[.int .i64 xi, .int .i64 x1, .int .i64 x2, .int .i64 x3, .int .i64 x4, .slice AE E.length cE, .int .i64 xs, .slice AT ts.length cT] := by rw [hW0]; exact (Blk.new _ _ _).alloc _
  have kr0 : Blk W0 (w.heap.size + 1) 52 #[.int .i64 0, .int .i64 0, .int .i64 0, .int .i64 0, .int .i64 0, .slice none 0 0, .int .i64 0, .slice none 0 0] := by rw [hW0]; exact blk_new1 _ _ _ _
  have hzs : W0.heap.size = w.heap.size + 2 := by rw [hW0]; simp
  have HK := Lib.hid k0
  have HR := Lib.hid kr0
  have HW := Lib.hid hW0
  have HZ := Lib.hid hzs
  clear k0 kr0 hW0 h1 h2 hzs
  go_enter Try.func47, Try.ntmps47
  go_wp2_with fail
  rw [← HW.out]
  refine CP.out.mono ?_
  rintro e w1 ⟨u2, v2, rfl, ho2, hb1⟩
  obtain ⟨A2, c2, A3, c3, rfl, rfl⟩ := Own_run.form ho2
  have HO2 := Lib.hid ho2
  have hw1 := hb0.trans (hb1.mono hb0.size)
  have hs1 : w.heap.size + 2 ≤ w1.heap.size := by rw [← HZ.out]; exact hb1.size
  have HK1 := Lib.hid ((HK.out.belowV hb1).alloc (.cells #[.int .i64 xi, .int .i64 x1, .int .i64 x2, .int .i64 x3, .int .i64 x4, .slice A2 E.length c2, .int .i64 xs, .slice A3 ts.length c3] 52))
  have HR1 := Lib.hid ((HR.out.belowV hb1).alloc (.cells #[.int .i64 xi, .int .i64 x1, .int .i64 x2, .int .i64 x3, .int .i64 x4, .slice A2 E.length c2, .int .i64 xs, .slice A3 ts.length c3] 52))
  have HT1 := Lib.hid (Blk.new w1 52 #[.int .i64 xi, .int .i64 x1, .int .i64 x2, .int .i64 x3, .int .i64 x4, .slice A2 E.length c2, .int .i64 xs, .slice A3 ts.length c3])
  have hwa : Below w.heap.size w (w1.alloc (.cells #[.int .i64 xi, .int .i64 x1, .int .i64 x2, .int .i64 x3, .int .i64 x4, .slice A2 E.length c2, .int .i64 xs, .slice A3 ts.length c3] 52)) := hw1.alloc hw1.size _
  have haa : Below w1.heap.size w1 (w1.alloc (.cells #[.int .i64 xi, .int .i64 x1, .int .i64 x2, .int .i64 x3, .int .i64 x4, .slice A2 E.length c2, .int .i64 xs, .slice A3 ts.length c3] 52)) := (Below.refl _ _).alloc (Nat.le_refl _) _
  have HO1 := Lib.hid (Own_run.below ho2 haa)
  clear ho2
  have p0 := HK1.out.cell 0
  have p1 := HK1.out.cell 1
  have p2 := HK1.out.cell 2
  have p3 := HK1.out.cell 3
  have p4 := HK1.out.cell 4
  have p5 := HK1.out.cell 5
  have p6 := HK1.out.cell 6
  have p7 := HK1.out.cell 7
  simp only [List.getElem?_toArray, List.getElem?_cons_succ, List.getElem?_cons_zero] at p0 p1 p2 p3 p4 p5 p6 p7
  have pl := HK1.out.lt
  go_wp2_with fail
  refine (CO.out _ hwa).mono ?_
  rintro e w2 ⟨rfl, hb2⟩
  clear p0 p1 p2 p3 p4 p5 p6 p7 pl
  have hw2 := hwa.trans (hb2.mono hwa.size)
  have HK2 := Lib.hid (HK1.out.belowV hb2)
  have HR2 := Lib.hid (HR1.out.belowV hb2)
  have HT2 := Lib.hid (HT1.out.belowV hb2)
  have HO3 := Lib.hid (Own_run.below HO1.out hb2)
  have hs2 : w1.heap.size + 1 ≤ w2.heap.size := by have := hb2.size; simp at this; exact this
  have p0 := HK2.out.cell 0
  have p1 := HK2.out.cell 1
  have p2 := HK2.out.cell 2
  have p3 := HK2.out.cell 3
  have p4 := HK2.out.cell 4
  have p5 := HK2.out.cell 5
  have p6 := HK2.out.cell 6
  have p7 := HK2.out.cell 7
  simp only [List.getElem?_toArray, List.getElem?_cons_succ, List.getElem?_cons_zero] at p0 p1 p2 p3 p4 p5 p6 p7
  have pl := HK2.out.lt
  have t0 := HT2.out.cell 0
  have t1 := HT2.out.cell 1
  have t2 := HT2.out.cell 2
  have t3 := HT2.out.cell 3
  have t4 := HT2.out.cell 4
  have t5 := HT2.out.cell 5
  have t6 := HT2.out.cell 6
  have t7 := HT2.out.cell 7
  simp only [List.getElem?_toArray, List.getElem?_cons_succ, List.getElem?_cons_zero] at t0 t1 t2 t3 t4 t5 t6 t7
  have tf0 := HT2.out.frozen 0
  have tf1 := HT2.out.frozen 1
  have tf2 := HT2.out.frozen 2
  have tf3 := HT2.out.frozen 3
  have tf4 := HT2.out.frozen 4
  have tf5 := HT2.out.frozen 5
  have tf6 := HT2.out.frozen 6
  have tf7 := HT2.out.frozen 7
  have tl := HT2.out.lt
  have r0 := HR2.out.cell 0
  have r1 := HR2.out.cell 1
  have r2 := HR2.out.cell 2
  have r3 := HR2.out.cell 3
  have r4 := HR2.out.cell 4
  have r5 := HR2.out.cell 5
  have r6 := HR2.out.cell 6
  have r7 := HR2.out.cell 7
  simp only [List.getElem?_toArray, List.getElem?_cons_succ, List.getElem?_cons_zero] at r0 r1 r2 r3 r4 r5 r6 r7
  have rf0 := HR2.out.frozen 0
  have rf1 := HR2.out.frozen 1
  have rf2 := HR2.out.frozen 2
  have rf3 := HR2.out.frozen 3
  have rf4 := HR2.out.frozen 4
  have rf5 := HR2.out.frozen 5
  have rf6 := HR2.out.frozen 6
  have rf7 := HR2.out.frozen 7
  have rl := HR2.out.lt
  clear hwa haa hb1 hb2
  cases R with
  | false =>
    clear HLS HLN
    go_wp2_with fail
    clear r0 r1 r2 r3 r4 r5 r6 r7 rf0 rf1 rf2 rf3 rf4 rf5 rf6 rf7 rl
    clear t0 t1 t2 t3 t4 t5 t6 t7 tf0 tf1 tf2 tf3 tf4 tf5 tf6 tf7 tl
    clear p0 p1 p2 p3 p4 p5 p6 p7 pl
    obtain ⟨W9, hW9⟩ : ∃ W, W = ((((((((w2.setCell ⟨w.heap.size + 1, 0, none⟩ (.int .i64 xi)).setCell ⟨w.heap.size + 1, 1, none⟩ (.int .i64 x1)).setCell ⟨w.heap.size + 1, 2, none⟩ (.int .i64 x2)).setCell ⟨w.heap.size + 1, 3, none⟩ (.int .i64 x3)).setCell ⟨w.heap.size + 1, 4, none⟩ (.int .i64 x4)).setCell ⟨w.heap.size + 1, 5, none⟩ (.slice A2 E.length c2)).setCell ⟨w.heap.size + 1, 6, none⟩ (.int .i64 xs)).setCell ⟨w.heap.size + 1, 7, none⟩ (.slice A3 ts.length c3)) := ⟨_, rfl⟩
    rw [← hW9]
    have kW9 : Blk W9 (w.heap.size + 1) 52 #[.int .i64 xi, .int .i64 x1, .int .i64 x2, .int .i64 x3, .int .i64 x4, .slice A2 E.length c2, .int .i64 xs, .slice A3 ts.length c3] := by rw [hW9]; have q := (Blk.set_ (Blk.set_ (Blk.set_ (Blk.set_ (Blk.set_ (Blk.set_ (Blk.set_ (Blk.set_ HR2.out 0 (.int .i64 xi)) 1 (.int .i64 x1)) 2 (.int .i64 x2)) 3 (.int .i64 x3)) 4 (.int .i64 x4)) 5 (.slice A2 E.length c2)) 6 (.int .i64 xs)) 7 (.slice A3 ts.length c3)); simpa using q
    have pW9 : Part (w.heap.size + 1) (w.heap.size + 1 + 1) w2 W9 := by rw [hW9]; exact (Part.setCell (Part.setCell (Part.setCell (Part.setCell (Part.setCell (Part.setCell (Part.setCell (Part.setCell (Part.refl (w.heap.size + 1) (w.heap.size + 1 + 1) w2) (p := ⟨w.heap.size + 1, 0, none⟩) ⟨by simp, by simp⟩ (.int .i64 xi)) (p := ⟨w.heap.size + 1, 1, none⟩) ⟨by simp, by simp⟩ (.int .i64 x1)) (p := ⟨w.heap.size + 1, 2, none⟩) ⟨by simp, by simp⟩ (.int .i64 x2)) (p := ⟨w.heap.size + 1, 3, none⟩) ⟨by simp, by simp⟩ (.int .i64 x3)) (p := ⟨w.heap.size + 1, 4, none⟩) ⟨by simp, by simp⟩ (.int .i64 x4)) (p := ⟨w.heap.size + 1, 5, none⟩) ⟨by simp, by simp⟩ (.slice A2 E.length c2)) (p := ⟨w.heap.size + 1, 6, none⟩) ⟨by simp, by simp⟩ (.int .i64 xs)) (p := ⟨w.heap.size + 1, 7, none⟩) ⟨by simp, by simp⟩ (.slice A3 ts.length c3))
    have e0 := kW9.cell 0
    have e1 := kW9.cell 1
    have e2 := kW9.cell 2
    have e3 := kW9.cell 3
    have e4 := kW9.cell 4
    have e5 := kW9.cell 5
    have e6 := kW9.cell 6
    have e7 := kW9.cell 7
    simp only [List.getElem?_toArray, List.getElem?_cons_succ, List.getElem?_cons_zero] at e0 e1 e2 e3 e4 e5 e6 e7
    refine bodyPost_ret (v := .agg #[.int .i64 xi, .int .i64 x1, .int .i64 x2, .int .i64 x3, .int .i64 x4, .slice A2 E.length c2, .int .i64 xs, .slice A3 ts.length c3]) (by simp [results, Try.results47, go_sem, e0, e1, e2, e3, e4, e5, e6, e7]) rfl ?_
    rw [HLR.out, if_neg (by simp)]
    have hs9 := pW9.size
    refine ⟨_, _, rfl, ?_, Part.to_below hw2 pW9 (by omega) (Nat.le_refl _)⟩
    obtain ⟨m, a, b, o1, o2⟩ := Own_run.keep HO3.out pW9 (.inr (by have := HZ.out; omega))
    exact ⟨m, by rw [HZ.out] at a; omega, by omega, OwnS.mono o1 (by rw [HZ.out]; omega) (Nat.le_refl _) (by omega), OwnS.mono o2 (Nat.le_refl _) (by omega) (Nat.le_refl _)⟩
  | true =>
    have HLE := Lib.hid (HLN.out rfl)
    by_cases h1 : xs = 1
    rotate_left
    · have t0 : (xs == 1) = false := by simp [h1]
      have t1 : (xs != 1) = true := by simp [h1]
      have HH1 := Lib.hid h1
      clear h1 HLS HLN
      go_wp2_with fail
      clear r0 r1 r2 r3 r4 r5 r6 r7 rf0 rf1 rf2 rf3 rf4 rf5 rf6 rf7 rl
      clear t0 t1 t2 t3 t4 t5 t6 t7 tf0 tf1 tf2 tf3 tf4 tf5 tf6 tf7 tl
      clear p0 p1 p2 p3 p4 p5 p6 p7 pl
      obtain ⟨W9, hW9⟩ : ∃ W, W = ((((((((w2.setCell ⟨w.heap.size + 1, 0, none⟩ (.int .i64 xi)).setCell ⟨w.heap.size + 1, 1, none⟩ (.int .i64 x1)).setCell ⟨w.heap.size + 1, 2, none⟩ (.int .i64 x2)).setCell ⟨w.heap.size + 1, 3, none⟩ (.int .i64 x3)).setCell ⟨w.heap.size + 1, 4, none⟩ (.int .i64 x4)).setCell ⟨w.heap.size + 1, 5, none⟩ (.slice A2 E.length c2)).setCell ⟨w.heap.size + 1, 6, none⟩ (.int .i64 xs)).setCell ⟨w.heap.size + 1, 7, none⟩ (.slice A3 ts.length c3)) := ⟨_, rfl⟩
      rw [← hW9]
      have kW9 : Blk W9 (w.heap.size + 1) 52 #[.int .i64 xi, .int .i64 x1, .int .i64 x2, .int .i64 x3, .int .i64 x4, .slice A2 E.length c2, .int .i64 xs, .slice A3 ts.length c3] := by rw [hW9]; have q := (Blk.set_ (Blk.set_ (Blk.set_ (Blk.set_ (Blk.set_ (Blk.set_ (Blk.set_ (Blk.set_ HR2.out 0 (.int .i64 xi)) 1 (.int .i64 x1)) 2 (.int .i64 x2)) 3 (.int .i64 x3)) 4 (.int .i64 x4)) 5 (.slice A2 E.length c2)) 6 (.int .i64 xs)) 7 (.slice A3 ts.length c3)); simpa using q
      have pW9 : Part (w.heap.size + 1) (w.heap.size + 1 + 1) w2 W9 := by rw [hW9]; exact (Part.setCell (Part.setCell (Part.setCell (Part.setCell (Part.setCell (Part.setCell (Part.setCell (Part.setCell (Part.refl (w.heap.size + 1) (w.heap.size + 1 + 1) w2) (p := ⟨w.heap.size + 1, 0, none⟩) ⟨by simp, by simp⟩ (.int .i64 xi)) (p := ⟨w.heap.size + 1, 1, none⟩) ⟨by simp, by simp⟩ (.int .i64 x1)) (p := ⟨w.heap.size + 1, 2, none⟩) ⟨by simp, by simp⟩ (.int .i64 x2)) (p := ⟨w.heap.size + 1, 3, none⟩) ⟨by simp, by simp⟩ (.int .i64 x3)) (p := ⟨w.heap.size + 1, 4, none⟩) ⟨by simp, by simp⟩ (.int .i64 x4)) (p := ⟨w.heap.size + 1, 5, none⟩) ⟨by simp, by simp⟩ (.slice A2 E.length c2)) (p := ⟨w.heap.size + 1, 6, none⟩) ⟨by simp, by simp⟩ (.int .i64 xs)) (p := ⟨w.heap.size + 1, 7, none⟩) ⟨by simp, by simp⟩ (.slice A3 ts.length c3))
      have e0 := kW9.cell 0
      have e1 := kW9.cell 1
      have e2 := kW9.cell 2
      have e3 := kW9.cell 3
      have e4 := kW9.cell 4
      have e5 := kW9.cell 5
      have e6 := kW9.cell 6
      have e7 := kW9.cell 7
      simp only [List.getElem?_toArray, List.getElem?_cons_succ, List.getElem?_cons_zero] at e0 e1 e2 e3 e4 e5 e6 e7
      refine bodyPost_ret (v := .agg #[.int .i64 xi, .int .i64 x1, .int .i64 x2, .int .i64 x3, .int .i64 x4, .slice A2 E.length c2, .int .i64 xs, .slice A3 ts.length c3]) (by simp [results, Try.results47, go_sem, e0, e1, e2, e3, e4, e5, e6, e7]) rfl ?_
      rw [HLR.out, if_neg (fun e => HH1.out e.2)]
      have hs9 := pW9.size
      refine ⟨_, _, rfl, ?_, Part.to_below hw2 pW9 (by omega) (Nat.le_refl _)⟩
      obtain ⟨m, a, b, o1, o2⟩ := Own_run.keep HO3.out pW9 (.inr (by have := HZ.out; omega))
      exact ⟨m, by rw [HZ.out] at a; omega, by omega, OwnS.mono o1 (by rw [HZ.out]; omega) (Nat.le_refl _) (by omega), OwnS.mono o2 (Nat.le_refl _) (by omega) (Nat.le_refl _)⟩
    · subst h1
      have HLS2 := Lib.hid (HLS.out rfl rfl)
      clear HLS
      obtain ⟨m, ha, hbm, oE, oT⟩ := HO3.out
      obtain ⟨g, cap, hv3, hmg, hcm3, hlc, hrow⟩ := RowTsk.of_own oT.1 HLE.out
      have hg1 : g < w1.heap.size := oT.2.2 g (by rw [hv3]; rfl)
      injection hv3 with hA3 _ hC3
      subst hA3 hC3
      have hmZ : w.heap.size + 2 ≤ m := by rw [HZ.out] at ha; exact ha
      have HRW := Lib.hid hrow
      have HOE := Lib.hid (show OwnS w2 (w.heap.size + 2) m 39 2 (.slice A2 E.length c2) E.length (edgV E) by rw [← HZ.out]; exact oE)
      have hgl := hrow.lt
      clear oT oE hrow ha
      go_wp2_with fail
      refine (l09Leave_any g c3 _ _ _ _ _ _ _ _ _ ts 4 w2 HRW.out (by omega)).mono ?_
      rintro e w3 ⟨rfl, hrow3, hg3⟩
      clear p0 p1 p2 p3 p4 p5 p6 p7 pl
      clear t0 t1 t2 t3 t4 t5 t6 t7 tf0 tf1 tf2 tf3 tf4 tf5 tf6 tf7 tl
      clear r0 r1 r2 r3 r4 r5 r6 r7 rf0 rf1 rf2 rf3 rf4 rf5 rf6 rf7 rl
      rw [HLS2.out] at hrow3
      have HRW3 := Lib.hid hrow3
      have p3 : Part g (g + 1) w2 w3 := Part.of_grown hg3 (fun j hj => by injection hj with hj; omega)
      have HR3 := Lib.hid (HR2.out.keepV p3 (.inl (by omega)))
      have HP3 := Lib.hid p3
      have hs3 := p3.size
      clear hrow3 hg3 p3
      have r0 := HR3.out.cell 0
      have r1 := HR3.out.cell 1
      have r2 := HR3.out.cell 2
      have r3 := HR3.out.cell 3
      have r4 := HR3.out.cell 4
      have r5 := HR3.out.cell 5
      have r6 := HR3.out.cell 6
      have r7 := HR3.out.cell 7
      simp only [List.getElem?_toArray, List.getElem?_cons_succ, List.getElem?_cons_zero] at r0 r1 r2 r3 r4 r5 r6 r7
      have rf0 := HR3.out.frozen 0
      have rf1 := HR3.out.frozen 1
      have rf2 := HR3.out.frozen 2
      have rf3 := HR3.out.frozen 3
      have rf4 := HR3.out.frozen 4
      have rf5 := HR3.out.frozen 5
      have rf6 := HR3.out.frozen 6
      have rf7 := HR3.out.frozen 7
      have rl := HR3.out.lt
      go_wp2_with fail
      clear r0 r1 r2 r3 r4 r5 r6 r7 rf0 rf1 rf2 rf3 rf4 rf5 rf6 rf7 rl
      obtain ⟨W9, hW9⟩ : ∃ W, W = ((((((((w3.setCell ⟨w.heap.size + 1, 0, none⟩ (.int .i64 xi)).setCell ⟨w.heap.size + 1, 1, none⟩ (.int .i64 x1)).setCell ⟨w.heap.size + 1, 2, none⟩ (.int .i64 x2)).setCell ⟨w.heap.size + 1, 3, none⟩ (.int .i64 x3)).setCell ⟨w.heap.size + 1, 4, none⟩ (.int .i64 x4)).setCell ⟨w.heap.size + 1, 5, none⟩ (.slice A2 E.length c2)).setCell ⟨w.heap.size + 1, 6, none⟩ (.int .i64 4)).setCell ⟨w.heap.size + 1, 7, none⟩ (.slice (some ⟨g, 0, none⟩) ts.length c3)) := ⟨_, rfl⟩
      rw [← hW9]
      have kW9 : Blk W9 (w.heap.size + 1) 52 #[.int .i64 xi, .int .i64 x1, .int .i64 x2, .int .i64 x3, .int .i64 x4, .slice A2 E.length c2, .int .i64 4, .slice (some ⟨g, 0, none⟩) ts.length c3] := by rw [hW9]; have q := (Blk.set_ (Blk.set_ (Blk.set_ (Blk.set_ (Blk.set_ (Blk.set_ (Blk.set_ (Blk.set_ HR3.out 0 (.int .i64 xi)) 1 (.int .i64 x1)) 2 (.int .i64 x2)) 3 (.int .i64 x3)) 4 (.int .i64 x4)) 5 (.slice A2 E.length c2)) 6 (.int .i64 4)) 7 (.slice (some ⟨g, 0, none⟩) ts.length c3)); simpa using q
      have pW9 : Part (w.heap.size + 1) (w.heap.size + 1 + 1) w3 W9 := by rw [hW9]; exact (Part.setCell (Part.setCell (Part.setCell (Part.setCell (Part.setCell (Part.setCell (Part.setCell (Part.setCell (Part.refl (w.heap.size + 1) (w.heap.size + 1 + 1) w3) (p := ⟨w.heap.size + 1, 0, none⟩) ⟨by simp, by simp⟩ (.int .i64 xi)) (p := ⟨w.heap.size + 1, 1, none⟩) ⟨by simp, by simp⟩ (.int .i64 x1)) (p := ⟨w.heap.size + 1, 2, none⟩) ⟨by simp, by simp⟩ (.int .i64 x2)) (p := ⟨w.heap.size + 1, 3, none⟩) ⟨by simp, by simp⟩ (.int .i64 x3)) (p := ⟨w.heap.size + 1, 4, none⟩) ⟨by simp, by simp⟩ (.int .i64 x4)) (p := ⟨w.heap.size + 1, 5, none⟩) ⟨by simp, by simp⟩ (.slice A2 E.length c2)) (p := ⟨w.heap.size + 1, 6, none⟩) ⟨by simp, by simp⟩ (.int .i64 4)) (p := ⟨w.heap.size + 1, 7, none⟩) ⟨by simp, by simp⟩ (.slice (some ⟨g, 0, none⟩) ts.length c3))
      have e0 := kW9.cell 0
      have e1 := kW9.cell 1
      have e2 := kW9.cell 2
      have e3 := kW9.cell 3
      have e4 := kW9.cell 4
      have e5 := kW9.cell 5
      have e6 := kW9.cell 6
      have e7 := kW9.cell 7
      simp only [List.getElem?_toArray, List.getElem?_cons_succ, List.getElem?_cons_zero] at e0 e1 e2 e3 e4 e5 e6 e7
      refine bodyPost_ret (v := .agg #[.int .i64 xi, .int .i64 x1, .int .i64 x2, .int .i64 x3, .int .i64 x4, .slice A2 E.length c2, .int .i64 4, .slice (some ⟨g, 0, none⟩) ts.length c3]) (by simp [results, Try.results47, go_sem, e0, e1, e2, e3, e4, e5, e6, e7]) rfl ?_
      rw [HLR.out, if_pos (by simp)]
      have hs9 := pW9.size
      have hl : (mapTo (leaveAt (-1)) ts ts.length).length = ts.length := mapTo_length _ _ _
      have hrow9 := RowTsk.own (RowTsk.keepV (HRW3.out) pW9 (.inr (by omega))) (base := m) hmg hcm3
      rw [hl] at hrow9
      have oE9 := OwnS.keep (OwnS.keep HOE.out HP3.out (.inl hmg)) pW9 (.inr (by omega))
      refine ⟨_, _, rfl, ⟨m, by omega, by omega, ?_, ?_⟩, Part.to_below (Part.to_below hw2 HP3.out (by omega) (Nat.le_refl _)) pW9 (by omega) (Nat.le_refl _)⟩
      · exact OwnS.mono oE9 (by omega) (Nat.le_refl _) (by omega)
      · show OwnS W9 m W9.heap.size 61 4 _ (mapTo (leaveAt (-1)) ts ts.length).length _
        rw [hl]
        exact OwnS.of_own hrow9

end Go.Proofs.Ytbbjkldkjndfaaa

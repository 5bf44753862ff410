/- RunDone, the reference's. -/
import Derived.Test.YtbbjkldkjndfaaaRunDone
import Derived.Test.YtbbjkldkjndfaaaGA
namespace Go.Proofs.Ytbbjkldkjndfaaa
set_option linter.unusedSimpArgs false
set_option linter.unusedSimpArgs false
set_option linter.unusedVariables false
open Go.RowKit Go.ChangeShapes Go.Deep
set_option maxHeartbeats 8000000 in
set_option maxRecDepth 100000 in
theorem runDone_spec (u v : Value) (x : Rn) (t : Nat) (w : World) (h : Rd_run w u v x) (hgd : RunGood x) (ht : t < x.tasks.length) (hr : (x.tasks.getD t zeroT).state = 3) :
    Calls Try.prog 44 #[.agg #[.int .i64 x.id, .int .i64 x.plan.prio, .int .i64 x.plan.most, .int .i64 x.plan.wait, .int .i64 x.plan.tasks, u, .int .i64 x.state, v], .int .i64 (t : Int)] w (GivesR (doneX x t) w) := by
  have HRN := Lib.hid h
  have hE9 := hgd.plan.edges.len
  have htk := many_false (fault_zero hgd.ok.zero).1
  have hgn := hgd.n
  have hn : cost_run x ≤ 1048576 := by unfold cost_run; omega
  have hlive := runs_live hgd.ok ht hr
  obtain ⟨W0, hW0⟩ : ∃ W0, W0 = (w.alloc (.cells #[.int .i64 x.id, .int .i64 x.plan.prio, .int .i64 x.plan.most, .int .i64 x.plan.wait, .int .i64 x.plan.tasks, u, .int .i64 x.state, v] 52)).alloc (.cells #[.int .i64 0, .int .i64 0, .int .i64 0, .int .i64 0, .int .i64 0, .slice none 0 0, .int .i64 0, .slice none 0 0] 52) := ⟨_, rfl⟩
  have hb0 : Below w.heap.size w W0 := by rw [hW0]; exact ((Below.refl _ _).alloc (Nat.le_refl _) _).alloc (by simp) _
  have CP := Lib.hid (l09Copy_any u v x W0 (Rd_run.below h hb0) hn)
  have CO := Lib.hid (fun W (hW : Below w.heap.size w W) => l09Runs_yes u v x t W (Rd_run.below HRN.out hW) hn ht hr (runOk_iff.2 hgd.ok))
  have CB := Lib.hid (fun W (hW : Below w.heap.size w W) => l06Behind_any u x.plan t W (Rd.below HRN.out.1 hW) (fault_zero hgd.ok.zero).1)
  have HBSx := Lib.hid (show ∀ b ∈ behindTo x.plan.edges t x.plan.tasks.toNat, 0 ≤ b ∧ b < x.tasks.length ∧ b ≠ t ∧ 1 ≤ (x.tasks.getD b.toNat zeroT).need ∧ (x.tasks.getD b.toNat zeroT).need ≤ 1000 from fun b hb => by
    have hbm := behindTo_mem hb
    obtain ⟨k, rfl⟩ : ∃ k : Nat, b = k := ⟨b.toNat, by omega⟩
    obtain ⟨q1, q2, q3⟩ := behind_waits hgd ht hr hb
    have hT := hgd.ok.task k q1
    have hw := hT.wt q3
    have hnd := hT.nd
    have hle := needTo_le x.tasks (beforeTo x.plan.edges k x.plan.tasks.toNat)
    have hbl := before_len (good_right hgd.plan).ins k
    unfold needOfR at hnd
    rw [Int.toNat_natCast]
    exact ⟨by omega, by omega, by omega, by omega, by omega⟩)
  have HND := Lib.hid (behindTo_nodup hgd.plan.edges.nodup (t : Int) x.plan.tasks.toNat)
  have hbl2 := behind_len (good_right hgd.plan).ins (t : Int)
  have hz := hgd.ok.zero
  have HDX := Lib.hid (show doneX x t = ⟨x.id, x.plan, stateR (doneL x.tasks t (behindTo x.plan.edges t x.plan.tasks.toNat)), doneL x.tasks t (behindTo x.plan.edges t x.plan.tasks.toNat)⟩ from rfl)
  have HIN := Lib.hid (show ∀ k, k < x.tasks.length → inB ((doneL x.tasks t (behindTo x.plan.edges t x.plan.tasks.toNat)).getD k zeroT).state 1 6 = true from fun k hk =>
    inB_iff.2 ((done_good hgd ht hr).1.ok.task k (by rw [show (doneX x t).tasks.length = x.tasks.length from doneL_length _ _ _]; exact hk)).st)
  have hlen12 : x.tasks.length ≤ 12 := by omega
  have hE10 : x.plan.edges.length ≤ 9 := hE9
  clear hgd hE9 htk hgn hz
  obtain ⟨h1, h2⟩ := h
  unfold cost_run at hn
  obtain ⟨xi, ⟨x1, x2, x3, x4, E⟩, xs, ts⟩ := x
  obtain ⟨AE, cE, rfl, hncE, hcmE⟩ := Rd.shape h1
  obtain ⟨AT, cT, rfl, hncT, hcmT⟩ := Rd.shape h2
  unfold maxLen at hcmE hcmT
  simp only at hncE hncT hcmE hcmT hn hW0 hlive ht hr HBSx HND hbl2 hlen12 hE10 CO CB HDX HIN
  subst hlive
  have k0 : Blk W0 w.heap.size 52 #[.int .i64 xi, .int .i64 x1, .int .i64 x2, .int .i64 x3, .int .i64 x4, .slice AE E.length cE, .int .i64 1, .slice AT ts.length cT] := by rw [hW0]; exact (Blk.new _ _ _).alloc _
  have kr0 : Blk W0 (w.heap.size + 1) 52 #[.int .i64 0, .int .i64 0, .int .i64 0, .int .i64 0, .int .i64 0, .slice none 0 0, .int .i64 0, .slice none 0 0] := by rw [hW0]; exact blk_new1 _ _ _ _
  have hzs : W0.heap.size = w.heap.size + 2 := by rw [hW0]; simp
  have HK := Lib.hid k0
  have HR := Lib.hid kr0
  have HW := Lib.hid hW0
  have HZ := Lib.hid hzs
  clear k0 kr0 hW0 h1 h2 hzs
  go_enter Try.func44, Try.ntmps44
  go_wp2_with fail
  rw [← HW.out]
  refine CP.out.mono ?_
  rintro e w1 ⟨u2, v2, rfl, ho2, hb1⟩
  obtain ⟨A2, c2, A3, c3, rfl, rfl⟩ := Own_run.form ho2
  have HO2 := Lib.hid ho2
  have hw1 := hb0.trans (hb1.mono hb0.size)
  have hs1 : w.heap.size + 2 ≤ w1.heap.size := by rw [← HZ.out]; exact hb1.size
  have HK1 := Lib.hid ((HK.out.belowV hb1).alloc (.cells #[.int .i64 xi, .int .i64 x1, .int .i64 x2, .int .i64 x3, .int .i64 x4, .slice A2 E.length c2, .int .i64 1, .slice A3 ts.length c3] 52))
  have HR1 := Lib.hid ((HR.out.belowV hb1).alloc (.cells #[.int .i64 xi, .int .i64 x1, .int .i64 x2, .int .i64 x3, .int .i64 x4, .slice A2 E.length c2, .int .i64 1, .slice A3 ts.length c3] 52))
  have HT1 := Lib.hid (Blk.new w1 52 #[.int .i64 xi, .int .i64 x1, .int .i64 x2, .int .i64 x3, .int .i64 x4, .slice A2 E.length c2, .int .i64 1, .slice A3 ts.length c3])
  have hwa : Below w.heap.size w (w1.alloc (.cells #[.int .i64 xi, .int .i64 x1, .int .i64 x2, .int .i64 x3, .int .i64 x4, .slice A2 E.length c2, .int .i64 1, .slice A3 ts.length c3] 52)) := hw1.alloc hw1.size _
  have haa : Below w1.heap.size w1 (w1.alloc (.cells #[.int .i64 xi, .int .i64 x1, .int .i64 x2, .int .i64 x3, .int .i64 x4, .slice A2 E.length c2, .int .i64 1, .slice A3 ts.length c3] 52)) := (Below.refl _ _).alloc (Nat.le_refl _) _
  have HO1 := Lib.hid (Own_run.below ho2 haa)
  clear ho2
  have p0 := HK1.out.cell 0
  have p1 := HK1.out.cell 1
  have p2 := HK1.out.cell 2
  have p3 := HK1.out.cell 3
  have p4 := HK1.out.cell 4
  have p5 := HK1.out.cell 5
  have p6 := HK1.out.cell 6
  have p7 := HK1.out.cell 7
  simp only [List.getElem?_toArray, List.getElem?_cons_succ, List.getElem?_cons_zero] at p0 p1 p2 p3 p4 p5 p6 p7
  have pl := HK1.out.lt
  go_wp2_with fail
  refine (CO.out _ hwa).mono ?_
  rintro e w2 ⟨rfl, hb2⟩
  clear p0 p1 p2 p3 p4 p5 p6 p7 pl
  have hw2 := hwa.trans (hb2.mono hwa.size)
  have HK2 := Lib.hid (HK1.out.belowV hb2)
  have HR2 := Lib.hid (HR1.out.belowV hb2)
  have HT2 := Lib.hid (HT1.out.belowV hb2)
  have HO3 := Lib.hid (Own_run.below HO1.out hb2)
  have hs2 : w1.heap.size + 1 ≤ w2.heap.size := by have := hb2.size; simp at this; exact this
  have p0 := HK2.out.cell 0
  have p1 := HK2.out.cell 1
  have p2 := HK2.out.cell 2
  have p3 := HK2.out.cell 3
  have p4 := HK2.out.cell 4
  have p5 := HK2.out.cell 5
  have p6 := HK2.out.cell 6
  have p7 := HK2.out.cell 7
  simp only [List.getElem?_toArray, List.getElem?_cons_succ, List.getElem?_cons_zero] at p0 p1 p2 p3 p4 p5 p6 p7
  have pl := HK2.out.lt
  have t0 := HT2.out.cell 0
  have t1 := HT2.out.cell 1
  have t2 := HT2.out.cell 2
  have t3 := HT2.out.cell 3
  have t4 := HT2.out.cell 4
  have t5 := HT2.out.cell 5
  have t6 := HT2.out.cell 6
  have t7 := HT2.out.cell 7
  simp only [List.getElem?_toArray, List.getElem?_cons_succ, List.getElem?_cons_zero] at t0 t1 t2 t3 t4 t5 t6 t7
  have tf0 := HT2.out.frozen 0
  have tf1 := HT2.out.frozen 1
  have tf2 := HT2.out.frozen 2
  have tf3 := HT2.out.frozen 3
  have tf4 := HT2.out.frozen 4
  have tf5 := HT2.out.frozen 5
  have tf6 := HT2.out.frozen 6
  have tf7 := HT2.out.frozen 7
  have tl := HT2.out.lt
  have r0 := HR2.out.cell 0
  have r1 := HR2.out.cell 1
  have r2 := HR2.out.cell 2
  have r3 := HR2.out.cell 3
  have r4 := HR2.out.cell 4
  have r5 := HR2.out.cell 5
  have r6 := HR2.out.cell 6
  have r7 := HR2.out.cell 7
  simp only [List.getElem?_toArray, List.getElem?_cons_succ, List.getElem?_cons_zero] at r0 r1 r2 r3 r4 r5 r6 r7
  have rf0 := HR2.out.frozen 0
  have rf1 := HR2.out.frozen 1
  have rf2 := HR2.out.frozen 2
  have rf3 := HR2.out.frozen 3
  have rf4 := HR2.out.frozen 4
  have rf5 := HR2.out.frozen 5
  have rf6 := HR2.out.frozen 6
  have rf7 := HR2.out.frozen 7
  have rl := HR2.out.lt
  clear hwa haa hb1 hb2
  obtain ⟨m, ha, hbm, oE, oT⟩ := HO3.out
  obtain ⟨g, cap, hv3, hmg, hcm3, hlc, hrow⟩ := RowTsk.of_own oT.1 (show 0 < ts.length by omega)
  have hg1 : g < w1.heap.size := oT.2.2 g (by rw [hv3]; rfl)
  injection hv3 with hA3 _ hC3
  subst hA3 hC3
  have hmZ : w.heap.size + 2 ≤ m := by rw [HZ.out] at ha; exact ha
  have HOE := Lib.hid (show OwnS w2 (w.heap.size + 2) m 39 2 (.slice A2 E.length c2) E.length (edgV E) by rw [← HZ.out]; exact oE)
  have hgl := hrow.lt
  obtain ⟨y, hy⟩ : ∃ y, y = ts[t] := ⟨_, rfl⟩
  have hxd : ts.getD t zeroT = y := getD_tsk ht y hy
  obtain ⟨s0, s1, s2, s3⟩ := hrow.cell ht y hy
  have z0 := hrow.frozen (t * 4)
  have z3 := hrow.frozen (t * 4 + 3)
  have g1 : ¬ g = w1.heap.size := by omega
  have g2 : ¬ w1.heap.size = g := by omega
  have g3 : ¬ g = w.heap.size := by omega
  have g4 : ¬ w.heap.size = g := by omega
  have g5 : ¬ g = w.heap.size + 1 := by omega
  have g6 : ¬ w.heap.size + 1 = g := by omega
  have ht0 : (0 : Int) ≤ (t : Int) := by omega
  have ht1 : (t : Int) < (ts.length : Int) := by omega
  have hr4 := row_done hrow ht hy
  have p4 : Part g (g + 1) w2 ((w2.setCell ⟨g, t * 4, none⟩ (.int .i64 4)).setCell ⟨g, t * 4 + 3, none⟩ (.int .i64 0)) := ((Part.refl g (g + 1) w2).setCell (p := ⟨g, t * 4, none⟩) ⟨Nat.le_refl _, Nat.lt_succ_self _⟩ _).setCell (p := ⟨g, t * 4 + 3, none⟩) ⟨Nat.le_refl _, Nat.lt_succ_self _⟩ _
  obtain ⟨W4, hW4⟩ : ∃ W, W = (w2.setCell ⟨g, t * 4, none⟩ (.int .i64 4)).setCell ⟨g, t * 4 + 3, none⟩ (.int .i64 0) := ⟨_, rfl⟩
  rw [← hW4] at hr4 p4
  obtain ⟨L, hL⟩ : ∃ L, L = ts.set t (doneT y) := ⟨_, rfl⟩
  rw [← hL] at hr4
  have HR4 := Lib.hid (HR2.out.keepV p4 (.inl (by omega)))
  have HT4 := Lib.hid (HT2.out.keepV p4 (.inr (by omega)))
  have HRW4 := Lib.hid hr4
  have HP4 := Lib.hid p4
  have HW4 := Lib.hid hW4
  have hs4 := p4.size
  have hw4 : Below w.heap.size w W4 := Part.to_below hw2 p4 (by omega) (Nat.le_refl _)
  have CB4 := Lib.hid (CB.out W4 hw4)
  obtain ⟨bs, hbsd⟩ : ∃ bs, bs = behindTo E t x4.toNat := ⟨_, rfl⟩
  rw [← hbsd] at HBSx HND hbl2 CB4 HDX HIN
  have HK4 := Lib.hid (HK2.out.keepV p4 (.inl (by omega)))
  have HDL := Lib.hid (show doneL ts t bs = bs.foldl behStep L by unfold doneL; rw [hxd, hL])
  have HAT := Lib.hid (show ∀ (j k : Nat), (k : Int) ∉ bs.take j → k ≠ t → ((bs.take j).foldl behStep L).getD k zeroT = ts.getD k zeroT from fun j k hm hk => by
    rw [fold_beh (HND.out.sublist (List.take_sublist _ _)) (fun b hb => by rw [hL, List.length_set]; have := HBSx.out b (List.mem_of_mem_take hb); omega), if_neg hm, hL, getD_setT ht, if_neg hk])
  have HLL := Lib.hid (show ∀ j, ((bs.take j).foldl behStep L).length = ts.length from fun j => by rw [fold_beh_length, hL, List.length_set])
  clear oT oE hrow ha hr hy hxd hr4 p4 hW4 hL hbsd CB
  go_upto_region 6 with (fail)
  clear r0 r1 r2 r3 r4 r5 r6 r7 rf0 rf1 rf2 rf3 rf4 rf5 rf6 rf7 rl
  clear t0 t1 t2 t3 t4 t5 t6 t7 tf0 tf1 tf2 tf3 tf4 tf5 tf6 tf7 tl
  clear p0 p1 p2 p3 p4 p5 p6 p7 pl
  clear z0 z3 s0 s1 s2 s3
  have p0 := HK4.out.cell 0
  have p1 := HK4.out.cell 1
  have p2 := HK4.out.cell 2
  have p3 := HK4.out.cell 3
  have p4 := HK4.out.cell 4
  have p5 := HK4.out.cell 5
  have p6 := HK4.out.cell 6
  have p7 := HK4.out.cell 7
  simp only [List.getElem?_toArray, List.getElem?_cons_succ, List.getElem?_cons_zero] at p0 p1 p2 p3 p4 p5 p6 p7
  have pl := HK4.out.lt
  rw [← HW4.out]
  go_wp2_with fail
  refine CB4.out.mono ?_
  rintro e w5 ⟨u5, rfl, ho5, hb5⟩
  clear p0 p1 p2 p3 p4 p5 p6 p7 pl
  have hr5 : Rd w5 1 u5 bs.length (intsV bs) := OwnS.rd ho5
  obtain ⟨A5, c5, rfl, hnc5, hcm5⟩ := hr5.shape
  unfold maxLen at hcm5
  have HO5 := Lib.hid ho5
  have HRW5 := Lib.hid (HRW4.out.belowV hb5)
  have HT5 := Lib.hid (HT4.out.belowV hb5)
  have HR5 := Lib.hid (HR4.out.belowV hb5)
  have HP5 := Lib.hid (HP4.out.trans (Part.of_below hb5))
  have hs5 := hb5.size
  clear ho5 hr5 hb5
  go_wp2_with fail
  go_loopw [7] (fun u7 wr => ∃ j : Nat, j ≤ bs.length ∧ u7 = .int .i64 j ∧ Hid (RowTsk wr g c3 ((bs.take j).foldl behStep L)) ∧ Hid (w5.grownBy wr (some g))) (fun u7 _ => bs.length - (intOf u7).toNat)
  case atStart => exact ⟨0, Nat.zero_le _, rfl, HRW5, Lib.hid (World.grownBy.refl _ _)⟩
  case round =>
    obtain ⟨j, hj, rfl, HRj, HGj⟩ := hrel
    have hsz := HGj.out.size
    have HBj := Lib.hid (HT5.out.grown HGj.out (by simp; omega))
    have HO6 := Lib.hid (OwnS.keep HO5.out (Part.of_grown (lo := g) (hi := g + 1) HGj.out (fun j hj => by injection hj with hj; omega)) (.inr (by omega)))
    have p7 := HBj.out.cell 7
    simp only [List.getElem?_toArray, List.getElem?_cons_succ, List.getElem?_cons_zero] at p7
    have pl := HBj.out.lt
    have hgl := HRj.out.lt
    by_cases hlt : j < bs.length
    · obtain ⟨b1, o1, _, hv1, _, _, hl1, hc1⟩ := (OwnS.rd HO6.out).form (by omega) (by omega)
      have hA1 : A5 = some ⟨b1, o1, none⟩ := by injection hv1
      subst hA1
      have hb1m : W4.heap.size ≤ b1 := HO6.out.1.lt b1 rfl |>.1
      obtain ⟨b, hb⟩ : ∃ b, b = bs[j] := ⟨_, rfl⟩
      have d0 := int_cell (Below.refl _ _) hl1 hc1 hlt b hb
      obtain ⟨hb0, hb1, hbt, hn1, hn2⟩ := HBSx.out b (by rw [hb]; exact List.getElem_mem hlt)
      obtain ⟨k, rfl⟩ : ∃ k : Nat, b = k := ⟨b.toNat, by omega⟩
      have hkl : k < ts.length := by omega
      have hkt : k ≠ t := by omega
      have hnm : (k : Int) ∉ bs.take j := fun hm => by
        obtain ⟨i, hi', he⟩ := List.mem_take_iff_getElem.1 hm
        exact (List.pairwise_iff_getElem.1 HND.out) i j (by omega) hlt (by omega) (he.trans hb)
      have hyd := HAT.out j k hnm hkt
      have hkL : k < ((bs.take j).foldl behStep L).length := by rw [HLL.out]; exact hkl
      obtain ⟨y, hy⟩ : ∃ y, y = ((bs.take j).foldl behStep L)[k] := ⟨_, rfl⟩
      have hyg := getD_tsk hkL y hy
      have hny : 1 ≤ y.need ∧ y.need ≤ 1000 := by rw [← hyg, hyd]; exact ⟨by simpa using hn1, by simpa using hn2⟩
      obtain ⟨s0, s1, s2, s3⟩ := HRj.out.cell hkL y hy
      have z0 := HRj.out.frozen (k * 4)
      have z1 := HRj.out.frozen (k * 4 + 1)
      have z2 := HRj.out.frozen (k * 4 + 2)
      have z3 := HRj.out.frozen (k * 4 + 3)
      have HSt := Lib.hid (show (bs.take (j + 1)).foldl behStep L = ((bs.take j).foldl behStep L).set k (turnT y) by rw [List.take_succ_eq_append_getElem hlt, List.foldl_append, ← hb]; show behStep ((bs.take j).foldl behStep L) (k : Int) = _; rw [behStep, Int.toNat_natCast, hyg])
      obtain ⟨n, hn⟩ : ∃ n : Int, n = y.need - 1 := ⟨_, rfl⟩
      have HPUT := Lib.hid (fun z => row_put4 HRj.out hkL z)
      have HTN := Lib.hid (show turnT y = ⟨if n = 0 then 2 else y.state, n, y.try_, y.until_⟩ by unfold turnT; rw [hn])
      obtain ⟨sy, ny, ty, uy⟩ := y
      simp only at s0 s1 s2 s3 hn hny HTN
      have k1 : ny - 1 = n := hn.symm
      have k2 : IntKind.i64.wrap (ny - 1) = n := by rw [hn]; exact IntWalk.i64_in _ (by omega)
      have k3 : wrap64 n = n := IntWalk.wrap64_in _ (by omega)
      have hj0 : (0 : Int) ≤ (j : Int) := by omega
      have hj1 : (j : Int) < (bs.length : Int) := by omega
      have hk0 : (0 : Int) ≤ (k : Int) := by omega
      have hk1 : (k : Int) < (ts.length : Int) := by omega
      have q1 : ¬ g = w1.heap.size := by omega
      have q2 : ¬ w1.heap.size = g := by omega
      have q3 : ¬ g = wr.heap.size := by omega
      have q4 : ¬ wr.heap.size = g := by omega
      have q5 : ¬ w1.heap.size = wr.heap.size := by omega
      have q6 : ¬ wr.heap.size = w1.heap.size := by omega
      have q7 : ¬ b1 = g := by omega
      have q8 : ¬ b1 = wr.heap.size := by omega
      have q9 : ¬ wr.heap.size = b1 := by omega
      clear hn hy hyg hyd hnm hb hv1 hc1 hn1 hn2 hb0 hb1 hbt hny
      by_cases h0 : n = 0
      · have t0 : (n == 0) = true := by simp [h0]
        have HE := Lib.hid (show turnT ⟨sy, ny, ty, uy⟩ = ⟨2, n, ty, uy⟩ by rw [HTN.out, if_pos h0])
        clear h0
        go_wp2_with fail
        refine wp_region_tree (.held 0 (.held 1 (.held 2 (.held 3 (.held 4 (.held 5 (.held 6 (.held 7 (.step 8 (.step 9 .nil)))))))))) (by kernel_rfl) (by kernel_rfl) (KeptS _ none) (KeptS.refl _ _).drew ?_
        (refine wpT_held (by rfl) (by rfl) ?_ (fun W hW => ?_) ?_; rotate_left; (· (obtain ⟨kq, rfl⟩ := hW; go_simp; try with_reducible rfl)); try simp only [Act.put, List.setIfInBounds_toArray, List.set_cons_succ, List.set_cons_zero])
        (refine wpT_held (by rfl) (by rfl) ?_ (fun W hW => ?_) ?_; rotate_left; (· (obtain ⟨kq, rfl⟩ := hW; go_simp; try with_reducible rfl)); try simp only [Act.put, List.setIfInBounds_toArray, List.set_cons_succ, List.set_cons_zero])
        (refine wpT_held (by rfl) (by rfl) ?_ (fun W hW => ?_) ?_; rotate_left; (· (obtain ⟨kq, rfl⟩ := hW; go_simp; try with_reducible rfl)); try simp only [Act.put, List.setIfInBounds_toArray, List.set_cons_succ, List.set_cons_zero])
        (refine wpT_held (by rfl) (by rfl) ?_ (fun W hW => ?_) ?_; rotate_left; (· (obtain ⟨kq, rfl⟩ := hW; go_simp; try with_reducible rfl)); try simp only [Act.put, List.setIfInBounds_toArray, List.set_cons_succ, List.set_cons_zero])
        (refine wpT_held (by rfl) (by rfl) ?_ (fun W hW => ?_) ?_; rotate_left; (· (obtain ⟨kq, rfl⟩ := hW; go_simp; try with_reducible rfl)); try simp only [Act.put, List.setIfInBounds_toArray, List.set_cons_succ, List.set_cons_zero])
        (refine wpT_held (by rfl) (by rfl) ?_ (fun W hW => ?_) ?_; rotate_left; (· (obtain ⟨kq, rfl⟩ := hW; go_simp; try with_reducible rfl)); try simp only [Act.put, List.setIfInBounds_toArray, List.set_cons_succ, List.set_cons_zero])
        (refine wpT_held (by rfl) (by rfl) ?_ (fun W hW => ?_) ?_; rotate_left; (· (obtain ⟨kq, rfl⟩ := hW; go_simp; try with_reducible rfl)); try simp only [Act.put, List.setIfInBounds_toArray, List.set_cons_succ, List.set_cons_zero])
        (refine wpT_held (by rfl) (by rfl) ?_ (fun W hW => ?_) ?_; rotate_left; (· (obtain ⟨kq, rfl⟩ := hW; go_simp; try with_reducible rfl)); try simp only [Act.put, List.setIfInBounds_toArray, List.set_cons_succ, List.set_cons_zero])
        (refine wpT_step (by rfl) (by rfl) (fun K hK => ?_); go_simp; refine hK.out _ _ ?_ ?_; (· (repeat first | exact KeptS.refl _ _ | exact KeptS.of (only_of_below (by assumption) _) | assumption | refine KeptS.drew ?_ | refine KeptS.alloc ?_ _ | refine KeptS.grown ?_ (by assumption) | refine KeptS.below ?_ (by assumption) | refine KeptS.belowAt ?_ (by assumption) | (refine KeptS.setNew ?_ ?_ _; rotate_left; (· (first | (simp; done) | (simp; omega) | omega))) | (refine KeptS.setRow ?_ ?_ _; rotate_left; (· (simp; done))))); clear hK K; try simp only [Act.put, List.setIfInBounds_toArray, List.set_cons_succ, List.set_cons_zero])
        (refine wpT_step (by rfl) (by rfl) (fun K hK => ?_); go_simp; refine hK.out _ _ ?_ ?_; (· (repeat first | exact KeptS.refl _ _ | exact KeptS.of (only_of_below (by assumption) _) | assumption | refine KeptS.drew ?_ | refine KeptS.alloc ?_ _ | refine KeptS.grown ?_ (by assumption) | refine KeptS.below ?_ (by assumption) | refine KeptS.belowAt ?_ (by assumption) | (refine KeptS.setNew ?_ ?_ _; rotate_left; (· (first | (simp; done) | (simp; omega) | omega))) | (refine KeptS.setRow ?_ ?_ _; rotate_left; (· (simp; done))))); clear hK K; try simp only [Act.put])
        refine wpT_nil ?_
        try simp only [List.getElem_toArray, List.getElem_cons_succ, List.getElem_cons_zero]

        go_wp2_with fail
        obtain ⟨wn, hwn⟩ : ∃ W, W = (wr.alloc (.cells #[.int .i64 2, .int .i64 n, .int .i64 ty, .int .i64 uy] 61)).drew := ⟨_, rfl⟩
        rw [← hwn]
        have bn : Below wr.heap.size wr wn := by rw [hwn]; exact ((Below.refl _ _).alloc (Nat.le_refl _) _).drew
        have kn : Blk wn wr.heap.size 61 #[.int .i64 2, .int .i64 n, .int .i64 ty, .int .i64 uy] := by rw [hwn]; exact (Blk.new _ _ _).drew
        have HRn := Lib.hid (HRj.out.belowV bn)
        have HBn := Lib.hid (HBj.out.belowV bn)
        have hsn := bn.size
        have HGn := Lib.hid (only_trans HGj.out (only_of_below bn (some g)))
        have hl2 := Nat.lt_of_lt_of_le hl1 hsn
        have d9 := (bn.cell (p := ⟨b1, o1 + j, none⟩) hl1).trans d0
        have n0 := kn.cell 0
        have n1 := kn.cell 1
        have n2 := kn.cell 2
        have n3 := kn.cell 3
        simp only [List.getElem?_toArray, List.getElem?_cons_succ, List.getElem?_cons_zero] at n0 n1 n2 n3
        have nl := kn.lt
        clear p7 pl hgl s0 s1 s2 s3 z0 z1 z2 z3 d0 k1 k2 k3 t0 hwn kn
        have p7 := HBn.out.cell 7
        simp only [List.getElem?_toArray, List.getElem?_cons_succ, List.getElem?_cons_zero] at p7
        have pl := HBn.out.lt
        have hgl := HRn.out.lt
        obtain ⟨y, hy⟩ : ∃ y, y = ((bs.take j).foldl behStep L)[k] := ⟨_, rfl⟩
        obtain ⟨s0, s1, s2, s3⟩ := HRn.out.cell hkL y hy
        have z0 := HRn.out.frozen (k * 4)
        have z1 := HRn.out.frozen (k * 4 + 1)
        have z2 := HRn.out.frozen (k * 4 + 2)
        have z3 := HRn.out.frozen (k * 4 + 3)
        clear hy
        go_still_tail 8, (by kernel_rfl)
        go_wp2_with fail
        go_roundw
        case rel => exact ⟨j + 1, by omega, by go_num, Lib.hid (by rw [HSt.out, HE.out]; exact (row_put4 HRn.out hkL ⟨2, n, ty, uy⟩).belowV (Below.refl _ _).drew), Lib.hid (only_drew (only_setCell (only_setCell (only_setCell (only_setCell HGn.out (.inl rfl) _) (.inl rfl) _) (.inl rfl) _) (.inl rfl) _))⟩
        case measure => simp [intOf]; omega
      · have t0 : (n == 0) = false := by simp [h0]
        have HE := Lib.hid (show turnT ⟨sy, ny, ty, uy⟩ = ⟨sy, n, ty, uy⟩ by rw [HTN.out, if_neg h0])
        clear h0
        go_wp2_with fail
        refine wp_region_tree (.held 0 (.held 1 (.held 2 (.held 3 (.held 4 (.held 5 (.held 6 (.held 7 (.step 8 (.step 9 .nil)))))))))) (by kernel_rfl) (by kernel_rfl) (KeptS _ none) (KeptS.refl _ _).drew ?_
        (refine wpT_held (by rfl) (by rfl) ?_ (fun W hW => ?_) ?_; rotate_left; (· (obtain ⟨kq, rfl⟩ := hW; go_simp; try with_reducible rfl)); try simp only [Act.put, List.setIfInBounds_toArray, List.set_cons_succ, List.set_cons_zero])
        (refine wpT_held (by rfl) (by rfl) ?_ (fun W hW => ?_) ?_; rotate_left; (· (obtain ⟨kq, rfl⟩ := hW; go_simp; try with_reducible rfl)); try simp only [Act.put, List.setIfInBounds_toArray, List.set_cons_succ, List.set_cons_zero])
        (refine wpT_held (by rfl) (by rfl) ?_ (fun W hW => ?_) ?_; rotate_left; (· (obtain ⟨kq, rfl⟩ := hW; go_simp; try with_reducible rfl)); try simp only [Act.put, List.setIfInBounds_toArray, List.set_cons_succ, List.set_cons_zero])
        (refine wpT_held (by rfl) (by rfl) ?_ (fun W hW => ?_) ?_; rotate_left; (· (obtain ⟨kq, rfl⟩ := hW; go_simp; try with_reducible rfl)); try simp only [Act.put, List.setIfInBounds_toArray, List.set_cons_succ, List.set_cons_zero])
        (refine wpT_held (by rfl) (by rfl) ?_ (fun W hW => ?_) ?_; rotate_left; (· (obtain ⟨kq, rfl⟩ := hW; go_simp; try with_reducible rfl)); try simp only [Act.put, List.setIfInBounds_toArray, List.set_cons_succ, List.set_cons_zero])
        (refine wpT_held (by rfl) (by rfl) ?_ (fun W hW => ?_) ?_; rotate_left; (· (obtain ⟨kq, rfl⟩ := hW; go_simp; try with_reducible rfl)); try simp only [Act.put, List.setIfInBounds_toArray, List.set_cons_succ, List.set_cons_zero])
        (refine wpT_held (by rfl) (by rfl) ?_ (fun W hW => ?_) ?_; rotate_left; (· (obtain ⟨kq, rfl⟩ := hW; go_simp; try with_reducible rfl)); try simp only [Act.put, List.setIfInBounds_toArray, List.set_cons_succ, List.set_cons_zero])
        (refine wpT_held (by rfl) (by rfl) ?_ (fun W hW => ?_) ?_; rotate_left; (· (obtain ⟨kq, rfl⟩ := hW; go_simp; try with_reducible rfl)); try simp only [Act.put, List.setIfInBounds_toArray, List.set_cons_succ, List.set_cons_zero])
        (refine wpT_step (by rfl) (by rfl) (fun K hK => ?_); go_simp; refine hK.out _ _ ?_ ?_; (· (repeat first | exact KeptS.refl _ _ | exact KeptS.of (only_of_below (by assumption) _) | assumption | refine KeptS.drew ?_ | refine KeptS.alloc ?_ _ | refine KeptS.grown ?_ (by assumption) | refine KeptS.below ?_ (by assumption) | refine KeptS.belowAt ?_ (by assumption) | (refine KeptS.setNew ?_ ?_ _; rotate_left; (· (first | (simp; done) | (simp; omega) | omega))) | (refine KeptS.setRow ?_ ?_ _; rotate_left; (· (simp; done))))); clear hK K; try simp only [Act.put, List.setIfInBounds_toArray, List.set_cons_succ, List.set_cons_zero])
        (refine wpT_step (by rfl) (by rfl) (fun K hK => ?_); go_simp; refine hK.out _ _ ?_ ?_; (· (repeat first | exact KeptS.refl _ _ | exact KeptS.of (only_of_below (by assumption) _) | assumption | refine KeptS.drew ?_ | refine KeptS.alloc ?_ _ | refine KeptS.grown ?_ (by assumption) | refine KeptS.below ?_ (by assumption) | refine KeptS.belowAt ?_ (by assumption) | (refine KeptS.setNew ?_ ?_ _; rotate_left; (· (first | (simp; done) | (simp; omega) | omega))) | (refine KeptS.setRow ?_ ?_ _; rotate_left; (· (simp; done))))); clear hK K; try simp only [Act.put])
        refine wpT_nil ?_
        try simp only [List.getElem_toArray, List.getElem_cons_succ, List.getElem_cons_zero]
        go_wp2_with fail
        obtain ⟨wn, hwn⟩ : ∃ W, W = (wr.alloc (.cells #[.int .i64 sy, .int .i64 n, .int .i64 ty, .int .i64 uy] 61)).drew := ⟨_, rfl⟩
        rw [← hwn]
        have bn : Below wr.heap.size wr wn := by rw [hwn]; exact ((Below.refl _ _).alloc (Nat.le_refl _) _).drew
        have kn : Blk wn wr.heap.size 61 #[.int .i64 sy, .int .i64 n, .int .i64 ty, .int .i64 uy] := by rw [hwn]; exact (Blk.new _ _ _).drew
        have HRn := Lib.hid (HRj.out.belowV bn)
        have HBn := Lib.hid (HBj.out.belowV bn)
        have hsn := bn.size
        have HGn := Lib.hid (only_trans HGj.out (only_of_below bn (some g)))
        have hl2 := Nat.lt_of_lt_of_le hl1 hsn
        have d9 := (bn.cell (p := ⟨b1, o1 + j, none⟩) hl1).trans d0
        have n0 := kn.cell 0
        have n1 := kn.cell 1
        have n2 := kn.cell 2
        have n3 := kn.cell 3
        simp only [List.getElem?_toArray, List.getElem?_cons_succ, List.getElem?_cons_zero] at n0 n1 n2 n3
        have nl := kn.lt
        clear p7 pl hgl s0 s1 s2 s3 z0 z1 z2 z3 d0 k1 k2 k3 t0 hwn kn
        have p7 := HBn.out.cell 7
        simp only [List.getElem?_toArray, List.getElem?_cons_succ, List.getElem?_cons_zero] at p7
        have pl := HBn.out.lt
        have hgl := HRn.out.lt
        obtain ⟨y, hy⟩ : ∃ y, y = ((bs.take j).foldl behStep L)[k] := ⟨_, rfl⟩
        obtain ⟨s0, s1, s2, s3⟩ := HRn.out.cell hkL y hy
        have z0 := HRn.out.frozen (k * 4)
        have z1 := HRn.out.frozen (k * 4 + 1)
        have z2 := HRn.out.frozen (k * 4 + 2)
        have z3 := HRn.out.frozen (k * 4 + 3)
        clear hy
        go_still_tail 8, (by kernel_rfl)
        go_wp2_with fail
        go_roundw
        case rel => exact ⟨j + 1, by omega, by go_num, Lib.hid (by rw [HSt.out, HE.out]; exact (row_put4 HRn.out hkL ⟨sy, n, ty, uy⟩).belowV (Below.refl _ _).drew), Lib.hid (only_drew (only_setCell (only_setCell (only_setCell (only_setCell HGn.out (.inl rfl) _) (.inl rfl) _) (.inl rfl) _) (.inl rfl) _))⟩
        case measure => simp [intOf]; omega
    · obtain rfl : j = bs.length := by omega
      rw [List.take_length] at HRj
      obtain ⟨Lf, hLf⟩ : ∃ Lf, Lf = bs.foldl behStep L := ⟨_, rfl⟩
      have hlf : Lf.length = ts.length := by rw [hLf, fold_beh_length]; have := HLL.out 0; simpa using this
      rw [← hLf] at HRj HDL
      have hdl := HDL.out
      rw [hdl] at HDX HIN
      have hpj : Part g (g + 1) w5 wr := Part.of_grown HGj.out (fun j hj => by injection hj with hj; omega)
      have HPj := Lib.hid (HP5.out.trans hpj)
      have hown := HRj.out.own (base := m) hmg hcm3
      rw [hlf] at hown
      have hrd : Rd_run wr (.slice A2 E.length c2) (.slice (some ⟨g, 0, none⟩) ts.length c3) ⟨xi, ⟨x1, x2, x3, x4, E⟩, 1, Lf⟩ := ⟨OwnS.rd (OwnS.keep HOE.out HPj.out (.inl hmg)), by show Rd wr 4 _ Lf.length (tskV Lf); rw [hlf]; exact Rd.of_own hown⟩
      have CS := Lib.hid (l09State_any _ _ ⟨xi, ⟨x1, x2, x3, x4, E⟩, 1, Lf⟩ wr hrd (by unfold cost_run; simp only; omega) (by show ∀ k, k < Lf.length → _; rw [hlf]; exact HIN.out))
      obtain ⟨SV, hSV⟩ : ∃ SV, SV = stateR Lf := ⟨_, rfl⟩
      rw [show (stateR (⟨xi, ⟨x1, x2, x3, x4, E⟩, 1, Lf⟩ : Rn).tasks) = SV from hSV.symm] at CS
      rw [← hSV] at HDX
      simp only at CS
      have HBR := Lib.hid (HR5.out.keepV hpj (.inl (by omega)))
      have HLF := Lib.hid hlf
      clear hdl hpj hown hrd hSV hlf hLf p7 pl
      have t0 := HBj.out.cell 0
      have t1 := HBj.out.cell 1
      have t2 := HBj.out.cell 2
      have t3 := HBj.out.cell 3
      have t4 := HBj.out.cell 4
      have t5 := HBj.out.cell 5
      have t6 := HBj.out.cell 6
      have t7 := HBj.out.cell 7
      simp only [List.getElem?_toArray, List.getElem?_cons_succ, List.getElem?_cons_zero] at t0 t1 t2 t3 t4 t5 t6 t7
      have tl := HBj.out.lt
      go_wp2_with fail
      refine CS.out.mono ?_
      rintro e w6 ⟨rfl, hb6⟩
      clear t0 t1 t2 t3 t4 t5 t6 t7 tl
      have HRW6 := Lib.hid (HRj.out.belowV hb6)
      have HT6 := Lib.hid (HBj.out.belowV hb6)
      have HR6 := Lib.hid (HBR.out.belowV hb6)
      have HP6 := Lib.hid (HPj.out.trans (Part.of_below hb6))
      have hs6 := hb6.size
      clear hb6
      have t0 := HT6.out.cell 0
      have t1 := HT6.out.cell 1
      have t2 := HT6.out.cell 2
      have t3 := HT6.out.cell 3
      have t4 := HT6.out.cell 4
      have t5 := HT6.out.cell 5
      have t6 := HT6.out.cell 6
      have t7 := HT6.out.cell 7
      simp only [List.getElem?_toArray, List.getElem?_cons_succ, List.getElem?_cons_zero] at t0 t1 t2 t3 t4 t5 t6 t7
      have tf0 := HT6.out.frozen 0
      have tf1 := HT6.out.frozen 1
      have tf2 := HT6.out.frozen 2
      have tf3 := HT6.out.frozen 3
      have tf4 := HT6.out.frozen 4
      have tf5 := HT6.out.frozen 5
      have tf6 := HT6.out.frozen 6
      have tf7 := HT6.out.frozen 7
      have tl := HT6.out.lt
      have r0 := HR6.out.cell 0
      have r1 := HR6.out.cell 1
      have r2 := HR6.out.cell 2
      have r3 := HR6.out.cell 3
      have r4 := HR6.out.cell 4
      have r5 := HR6.out.cell 5
      have r6 := HR6.out.cell 6
      have r7 := HR6.out.cell 7
      simp only [List.getElem?_toArray, List.getElem?_cons_succ, List.getElem?_cons_zero] at r0 r1 r2 r3 r4 r5 r6 r7
      have rf0 := HR6.out.frozen 0
      have rf1 := HR6.out.frozen 1
      have rf2 := HR6.out.frozen 2
      have rf3 := HR6.out.frozen 3
      have rf4 := HR6.out.frozen 4
      have rf5 := HR6.out.frozen 5
      have rf6 := HR6.out.frozen 6
      have rf7 := HR6.out.frozen 7
      have rl := HR6.out.lt
      go_wp2_with fail
      clear t0 t1 t2 t3 t4 t5 t6 t7 tf0 tf1 tf2 tf3 tf4 tf5 tf6 tf7 tl
      clear r0 r1 r2 r3 r4 r5 r6 r7 rf0 rf1 rf2 rf3 rf4 rf5 rf6 rf7 rl
      obtain ⟨W7, hW7⟩ : ∃ W, W = w6.setCell ⟨w1.heap.size, 6, none⟩ (.int .i64 SV) := ⟨_, rfl⟩
      have p7 : Part w1.heap.size (w1.heap.size + 1) w6 W7 := by rw [hW7]; exact (Part.refl _ _ _).setCell (p := ⟨w1.heap.size, 6, none⟩) ⟨Nat.le_refl _, by simp⟩ _
      rw [← hW7]
      clear hW7
      have HR7 := Lib.hid (HR6.out.keepV p7 (.inl (by omega)))
      have HRW7 := Lib.hid (HRW6.out.keepV p7 (.inl (by omega)))
      have HP7 := Lib.hid p7
      have hs7 := p7.size
      clear p7
      obtain ⟨W9, hW9⟩ : ∃ W, W = ((((((((W7.setCell ⟨w.heap.size + 1, 0, none⟩ (.int .i64 xi)).setCell ⟨w.heap.size + 1, 1, none⟩ (.int .i64 x1)).setCell ⟨w.heap.size + 1, 2, none⟩ (.int .i64 x2)).setCell ⟨w.heap.size + 1, 3, none⟩ (.int .i64 x3)).setCell ⟨w.heap.size + 1, 4, none⟩ (.int .i64 x4)).setCell ⟨w.heap.size + 1, 5, none⟩ (.slice A2 E.length c2)).setCell ⟨w.heap.size + 1, 6, none⟩ (.int .i64 SV)).setCell ⟨w.heap.size + 1, 7, none⟩ (.slice (some ⟨g, 0, none⟩) ts.length c3)) := ⟨_, rfl⟩
      rw [← hW9]
      have kW9 : Blk W9 (w.heap.size + 1) 52 #[.int .i64 xi, .int .i64 x1, .int .i64 x2, .int .i64 x3, .int .i64 x4, .slice A2 E.length c2, .int .i64 SV, .slice (some ⟨g, 0, none⟩) ts.length c3] := by rw [hW9]; have q := (Blk.set_ (Blk.set_ (Blk.set_ (Blk.set_ (Blk.set_ (Blk.set_ (Blk.set_ (Blk.set_ HR7.out 0 (.int .i64 xi)) 1 (.int .i64 x1)) 2 (.int .i64 x2)) 3 (.int .i64 x3)) 4 (.int .i64 x4)) 5 (.slice A2 E.length c2)) 6 (.int .i64 SV)) 7 (.slice (some ⟨g, 0, none⟩) ts.length c3)); simpa using q
      have pW9 : Part (w.heap.size + 1) (w.heap.size + 1 + 1) W7 W9 := by rw [hW9]; exact (Part.setCell (Part.setCell (Part.setCell (Part.setCell (Part.setCell (Part.setCell (Part.setCell (Part.setCell (Part.refl (w.heap.size + 1) (w.heap.size + 1 + 1) W7) (p := ⟨w.heap.size + 1, 0, none⟩) ⟨by simp, by simp⟩ (.int .i64 xi)) (p := ⟨w.heap.size + 1, 1, none⟩) ⟨by simp, by simp⟩ (.int .i64 x1)) (p := ⟨w.heap.size + 1, 2, none⟩) ⟨by simp, by simp⟩ (.int .i64 x2)) (p := ⟨w.heap.size + 1, 3, none⟩) ⟨by simp, by simp⟩ (.int .i64 x3)) (p := ⟨w.heap.size + 1, 4, none⟩) ⟨by simp, by simp⟩ (.int .i64 x4)) (p := ⟨w.heap.size + 1, 5, none⟩) ⟨by simp, by simp⟩ (.slice A2 E.length c2)) (p := ⟨w.heap.size + 1, 6, none⟩) ⟨by simp, by simp⟩ (.int .i64 SV)) (p := ⟨w.heap.size + 1, 7, none⟩) ⟨by simp, by simp⟩ (.slice (some ⟨g, 0, none⟩) ts.length c3))
      have e0 := kW9.cell 0
      have e1 := kW9.cell 1
      have e2 := kW9.cell 2
      have e3 := kW9.cell 3
      have e4 := kW9.cell 4
      have e5 := kW9.cell 5
      have e6 := kW9.cell 6
      have e7 := kW9.cell 7
      simp only [List.getElem?_toArray, List.getElem?_cons_succ, List.getElem?_cons_zero] at e0 e1 e2 e3 e4 e5 e6 e7
      refine bodyPost_ret (v := .agg #[.int .i64 xi, .int .i64 x1, .int .i64 x2, .int .i64 x3, .int .i64 x4, .slice A2 E.length c2, .int .i64 SV, .slice (some ⟨g, 0, none⟩) ts.length c3]) (by simp [results, Try.results44, go_sem, e0, e1, e2, e3, e4, e5, e6, e7]) rfl ?_
      have hs9 := pW9.size
      have hroW9 := RowTsk.own (RowTsk.keepV HRW7.out pW9 (.inr (by omega))) (base := m) hmg hcm3
      rw [HLF.out] at hroW9
      have oE9 := OwnS.keep (OwnS.keep (OwnS.keep HOE.out HP6.out (.inl (by omega))) HP7.out (.inl (by omega))) pW9 (.inr (by omega))
      rw [HDX.out]
      refine ⟨_, _, rfl, ⟨m, by omega, by omega, ?_, ?_⟩, Part.to_below (Part.to_below (Part.to_below hw2 HP6.out (by omega) (Nat.le_refl _)) HP7.out (by omega) (Nat.le_refl _)) pW9 (by omega) (Nat.le_refl _)⟩
      · exact OwnS.mono oE9 (by omega) (Nat.le_refl _) (by omega)
      · show OwnS W9 m W9.heap.size 61 4 _ Lf.length _
        rw [HLF.out]
        exact OwnS.of_own hroW9
end Go.Proofs.Ytbbjkldkjndfaaa

/- RunDone, the program's. -/
import Derived.Test.YtbbjkldkjndfaaaDone
import Derived.Test.YtbbjkldkjndfaaaRunLeft
namespace Go.Proofs.Ytbbjkldkjndfaaa
set_option linter.unusedSimpArgs false
set_option linter.unusedVariables false
open Go.RowKit Go.ChangeShapes Go.Deep

theorem done_states {x : Rn} (h : RunGood x) {t : Nat} (ht : t < x.tasks.length) (hr : (x.tasks.getD t zeroT).state = 3) : States (doneX x t).tasks fun s => s ≠ 5 ∧ s ≠ 6 := fun k hk => by
  have hk' : k < x.tasks.length := by rw [show (doneX x t).tasks.length = x.tasks.length from doneL_length _ _ _] at hk; exact hk
  have h0 := live_states h.ok (runs_live h.ok ht hr) k hk'
  rw [done_at h ht hr k]
  by_cases e : k = t
  · rw [if_pos e]; unfold doneT; simp
  · rw [if_neg e]
    by_cases hb : (k : Int) ∈ behindTo x.plan.edges t x.plan.tasks.toNat
    · rw [if_pos hb]; unfold turnT; simp only; split <;> omega
    · rw [if_neg hb]; exact h0

set_option maxHeartbeats 8000000 in
set_option maxRecDepth 100000 in
theorem runDone_impl (u v : Value) (x : Rn) (t : Nat) (w : World) (h : Rd_run w u v x) (hgd : RunGood x) (ht : t < x.tasks.length) (hr : (x.tasks.getD t zeroT).state = 3) :
    Calls Try.prog 41 #[.agg #[.int .i64 x.id, .int .i64 x.plan.prio, .int .i64 x.plan.most, .int .i64 x.plan.wait, .int .i64 x.plan.tasks, u, .int .i64 x.state, v], .int .i64 (t : Int)] w (GivesR (doneX x t) w) := by
  have HRN := Lib.hid h
  have hE9 := hgd.plan.edges.len
  have htk := many_false (fault_zero hgd.ok.zero).1
  have hgn := hgd.n
  have hn : cost_run x ≤ 1048576 := by unfold cost_run; omega
  have hlive := runs_live hgd.ok ht hr
  obtain ⟨W0, hW0⟩ : ∃ W0, W0 = (w.alloc (.cells #[.int .i64 x.id, .int .i64 x.plan.prio, .int .i64 x.plan.most, .int .i64 x.plan.wait, .int .i64 x.plan.tasks, u, .int .i64 x.state, v] 52)).alloc (.cells #[.int .i64 0, .int .i64 0, .int .i64 0, .int .i64 0, .int .i64 0, .slice none 0 0, .int .i64 0, .slice none 0 0] 52) := ⟨_, rfl⟩
  have hb0 : Below w.heap.size w W0 := by rw [hW0]; exact ((Below.refl _ _).alloc (Nat.le_refl _) _).alloc (by simp) _
  have CP := Lib.hid (copyRun_any u v x W0 (Rd_run.below h hb0) hn)
  have CO := Lib.hid (fun W (hW : Below w.heap.size w W) => runs_yes u v x t W (Rd_run.below HRN.out hW) hn ht hr (runOk_iff.2 hgd.ok))
  have HBSx := Lib.hid (show ∀ b ∈ behindTo x.plan.edges t x.plan.tasks.toNat, 0 ≤ b ∧ b < x.tasks.length ∧ b ≠ t ∧ 1 ≤ (x.tasks.getD b.toNat zeroT).need ∧ (x.tasks.getD b.toNat zeroT).need ≤ 1000 from fun b hb => by
    have hbm := behindTo_mem hb
    obtain ⟨k, rfl⟩ : ∃ k : Nat, b = k := ⟨b.toNat, by omega⟩
    obtain ⟨q1, q2, q3⟩ := behind_waits hgd ht hr hb
    have hT := hgd.ok.task k q1
    have hw := hT.wt q3
    have hnd := hT.nd
    have hle := needTo_le x.tasks (beforeTo x.plan.edges k x.plan.tasks.toNat)
    have hbl := before_len (good_right hgd.plan).ins k
    unfold needOfR at hnd
    rw [Int.toNat_natCast]
    exact ⟨by omega, by omega, by omega, by omega, by omega⟩)
  have HND := Lib.hid (behindTo_nodup hgd.plan.edges.nodup (t : Int) x.plan.tasks.toNat)
  have hbl2 := behind_len (good_right hgd.plan).ins (t : Int)
  have hz := hgd.ok.zero
  have HST := Lib.hid (show stateR (doneL x.tasks t (behindTo x.plan.edges t x.plan.tasks.toNat)) = if cntS (doneL x.tasks t (behindTo x.plan.edges t x.plan.tasks.toNat)) 4 = x.tasks.length then 2 else 1 by
    have hs := state_live (done_states hgd ht hr)
    rw [show (doneX x t).tasks.length = x.tasks.length from doneL_length _ _ _] at hs
    exact hs)
  have hlen12 : x.tasks.length ≤ 12 := by omega
  have hE10 : x.plan.edges.length ≤ 9 := hE9
  clear hgd hE9 htk hgn
  obtain ⟨h1, h2⟩ := h
  unfold cost_run at hn
  obtain ⟨xi, ⟨x1, x2, x3, x4, E⟩, xs, ts⟩ := x
  obtain ⟨AE, cE, rfl, hncE, hcmE⟩ := Rd.shape h1
  obtain ⟨AT, cT, rfl, hncT, hcmT⟩ := Rd.shape h2
  unfold maxLen at hcmE hcmT
  simp only at hncE hncT hcmE hcmT hn hW0 hlive ht hr HBSx HND hbl2 hz HST hlen12 hE10 CO
  subst hlive
  have k0 : Blk W0 w.heap.size 52 #[.int .i64 xi, .int .i64 x1, .int .i64 x2, .int .i64 x3, .int .i64 x4, .slice AE E.length cE, .int .i64 1, .slice AT ts.length cT] := by rw [hW0]; exact (Blk.new _ _ _).alloc _
  have kr0 : Blk W0 (w.heap.size + 1) 52 #[.int .i64 0, .int .i64 0, .int .i64 0, .int .i64 0, .int .i64 0, .slice none 0 0, .int .i64 0, .slice none 0 0] := by rw [hW0]; exact blk_new1 _ _ _ _
  have hzs : W0.heap.size = w.heap.size + 2 := by rw [hW0]; simp
  have HK := Lib.hid k0
  have HR := Lib.hid kr0
  have HW := Lib.hid hW0
  have HZ := Lib.hid hzs
  clear k0 kr0 hW0 h1 h2 hzs
  go_enter Try.func41, Try.ntmps41
  go_wp2_with fail
  rw [← HW.out]
  refine CP.out.mono ?_
  rintro e w1 ⟨u2, v2, rfl, ho2, hb1⟩
  obtain ⟨A2, c2, A3, c3, rfl, rfl⟩ := Own_run.form ho2
  have HO2 := Lib.hid ho2
  have hw1 := hb0.trans (hb1.mono hb0.size)
  have hs1 : w.heap.size + 2 ≤ w1.heap.size := by rw [← HZ.out]; exact hb1.size
  have HK1 := Lib.hid ((HK.out.belowV hb1).alloc (.cells #[.int .i64 xi, .int .i64 x1, .int .i64 x2, .int .i64 x3, .int .i64 x4, .slice A2 E.length c2, .int .i64 1, .slice A3 ts.length c3] 52))
  have HR1 := Lib.hid ((HR.out.belowV hb1).alloc (.cells #[.int .i64 xi, .int .i64 x1, .int .i64 x2, .int .i64 x3, .int .i64 x4, .slice A2 E.length c2, .int .i64 1, .slice A3 ts.length c3] 52))
  have HT1 := Lib.hid (Blk.new w1 52 #[.int .i64 xi, .int .i64 x1, .int .i64 x2, .int .i64 x3, .int .i64 x4, .slice A2 E.length c2, .int .i64 1, .slice A3 ts.length c3])
  have hwa : Below w.heap.size w (w1.alloc (.cells #[.int .i64 xi, .int .i64 x1, .int .i64 x2, .int .i64 x3, .int .i64 x4, .slice A2 E.length c2, .int .i64 1, .slice A3 ts.length c3] 52)) := hw1.alloc hw1.size _
  have haa : Below w1.heap.size w1 (w1.alloc (.cells #[.int .i64 xi, .int .i64 x1, .int .i64 x2, .int .i64 x3, .int .i64 x4, .slice A2 E.length c2, .int .i64 1, .slice A3 ts.length c3] 52)) := (Below.refl _ _).alloc (Nat.le_refl _) _
  have HO1 := Lib.hid (Own_run.below ho2 haa)
  clear ho2
  have p0 := HK1.out.cell 0
  have p1 := HK1.out.cell 1
  have p2 := HK1.out.cell 2
  have p3 := HK1.out.cell 3
  have p4 := HK1.out.cell 4
  have p5 := HK1.out.cell 5
  have p6 := HK1.out.cell 6
  have p7 := HK1.out.cell 7
  simp only [List.getElem?_toArray, List.getElem?_cons_succ, List.getElem?_cons_zero] at p0 p1 p2 p3 p4 p5 p6 p7
  have pl := HK1.out.lt
  go_wp2_with fail
  refine (CO.out _ hwa).mono ?_
  rintro e w2 ⟨rfl, hb2⟩
  clear p0 p1 p2 p3 p4 p5 p6 p7 pl
  have hw2 := hwa.trans (hb2.mono hwa.size)
  have HK2 := Lib.hid (HK1.out.belowV hb2)
  have HR2 := Lib.hid (HR1.out.belowV hb2)
  have HT2 := Lib.hid (HT1.out.belowV hb2)
  have HO3 := Lib.hid (Own_run.below HO1.out hb2)
  have hs2 : w1.heap.size + 1 ≤ w2.heap.size := by have := hb2.size; simp at this; exact this
  have p0 := HK2.out.cell 0
  have p1 := HK2.out.cell 1
  have p2 := HK2.out.cell 2
  have p3 := HK2.out.cell 3
  have p4 := HK2.out.cell 4
  have p5 := HK2.out.cell 5
  have p6 := HK2.out.cell 6
  have p7 := HK2.out.cell 7
  simp only [List.getElem?_toArray, List.getElem?_cons_succ, List.getElem?_cons_zero] at p0 p1 p2 p3 p4 p5 p6 p7
  have pl := HK2.out.lt
  have t0 := HT2.out.cell 0
  have t1 := HT2.out.cell 1
  have t2 := HT2.out.cell 2
  have t3 := HT2.out.cell 3
  have t4 := HT2.out.cell 4
  have t5 := HT2.out.cell 5
  have t6 := HT2.out.cell 6
  have t7 := HT2.out.cell 7
  simp only [List.getElem?_toArray, List.getElem?_cons_succ, List.getElem?_cons_zero] at t0 t1 t2 t3 t4 t5 t6 t7
  have tf0 := HT2.out.frozen 0
  have tf1 := HT2.out.frozen 1
  have tf2 := HT2.out.frozen 2
  have tf3 := HT2.out.frozen 3
  have tf4 := HT2.out.frozen 4
  have tf5 := HT2.out.frozen 5
  have tf6 := HT2.out.frozen 6
  have tf7 := HT2.out.frozen 7
  have tl := HT2.out.lt
  have r0 := HR2.out.cell 0
  have r1 := HR2.out.cell 1
  have r2 := HR2.out.cell 2
  have r3 := HR2.out.cell 3
  have r4 := HR2.out.cell 4
  have r5 := HR2.out.cell 5
  have r6 := HR2.out.cell 6
  have r7 := HR2.out.cell 7
  simp only [List.getElem?_toArray, List.getElem?_cons_succ, List.getElem?_cons_zero] at r0 r1 r2 r3 r4 r5 r6 r7
  have rf0 := HR2.out.frozen 0
  have rf1 := HR2.out.frozen 1
  have rf2 := HR2.out.frozen 2
  have rf3 := HR2.out.frozen 3
  have rf4 := HR2.out.frozen 4
  have rf5 := HR2.out.frozen 5
  have rf6 := HR2.out.frozen 6
  have rf7 := HR2.out.frozen 7
  have rl := HR2.out.lt
  clear hwa haa hb1 hb2
  obtain ⟨m, ha, hbm, oE, oT⟩ := HO3.out
  obtain ⟨g, cap, hv3, hmg, hcm3, hlc, hrow⟩ := RowTsk.of_own oT.1 (show 0 < ts.length by omega)
  have hg1 : g < w1.heap.size := oT.2.2 g (by rw [hv3]; rfl)
  injection hv3 with hA3 _ hC3
  subst hA3 hC3
  have hmZ : w.heap.size + 2 ≤ m := by rw [HZ.out] at ha; exact ha
  have HRW := Lib.hid hrow
  have HOE := Lib.hid (show OwnS w2 (w.heap.size + 2) m 39 2 (.slice A2 E.length c2) E.length (edgV E) by rw [← HZ.out]; exact oE)
  have hgl := hrow.lt
  clear oT oE hrow ha
  go_wp2_with fail
  refine (done_any w1.heap.size g c3 m (w1.heap.size + 1) (w.heap.size + 2) xi x1 x2 x3 x4 E _ ts t w2 HT2.out HRW.out (by omega) hcm3 (by omega) ⟨hmg, by omega⟩ ⟨by omega, by omega⟩ HOE.out (by omega) (by omega) ht hz HBSx.out HND.out (by omega) _ HST.out).mono ?_
  rintro e w3 ⟨rfl, hrow3, hT3, hP3⟩
  clear p0 p1 p2 p3 p4 p5 p6 p7 pl
  clear t0 t1 t2 t3 t4 t5 t6 t7 tf0 tf1 tf2 tf3 tf4 tf5 tf6 tf7 tl
  clear r0 r1 r2 r3 r4 r5 r6 r7 rf0 rf1 rf2 rf3 rf4 rf5 rf6 rf7 rl
  have HRW3 := Lib.hid hrow3
  have HT3 := Lib.hid hT3
  have p3 := hP3
  have HP3 := Lib.hid hP3
  have HR3 := Lib.hid (HR2.out.keepV hP3 (.inl (by omega)))
  have hs3 := p3.size
  clear hrow3 hT3 hP3 p3
  have t0 := HT3.out.cell 0
  have t1 := HT3.out.cell 1
  have t2 := HT3.out.cell 2
  have t3 := HT3.out.cell 3
  have t4 := HT3.out.cell 4
  have t5 := HT3.out.cell 5
  have t6 := HT3.out.cell 6
  have t7 := HT3.out.cell 7
  simp only [List.getElem?_toArray, List.getElem?_cons_succ, List.getElem?_cons_zero] at t0 t1 t2 t3 t4 t5 t6 t7
  have tf0 := HT3.out.frozen 0
  have tf1 := HT3.out.frozen 1
  have tf2 := HT3.out.frozen 2
  have tf3 := HT3.out.frozen 3
  have tf4 := HT3.out.frozen 4
  have tf5 := HT3.out.frozen 5
  have tf6 := HT3.out.frozen 6
  have tf7 := HT3.out.frozen 7
  have tl := HT3.out.lt
  have r0 := HR3.out.cell 0
  have r1 := HR3.out.cell 1
  have r2 := HR3.out.cell 2
  have r3 := HR3.out.cell 3
  have r4 := HR3.out.cell 4
  have r5 := HR3.out.cell 5
  have r6 := HR3.out.cell 6
  have r7 := HR3.out.cell 7
  simp only [List.getElem?_toArray, List.getElem?_cons_succ, List.getElem?_cons_zero] at r0 r1 r2 r3 r4 r5 r6 r7
  have rf0 := HR3.out.frozen 0
  have rf1 := HR3.out.frozen 1
  have rf2 := HR3.out.frozen 2
  have rf3 := HR3.out.frozen 3
  have rf4 := HR3.out.frozen 4
  have rf5 := HR3.out.frozen 5
  have rf6 := HR3.out.frozen 6
  have rf7 := HR3.out.frozen 7
  have rl := HR3.out.lt
  go_wp2_with fail
  clear t0 t1 t2 t3 t4 t5 t6 t7 tf0 tf1 tf2 tf3 tf4 tf5 tf6 tf7 tl
  clear r0 r1 r2 r3 r4 r5 r6 r7 rf0 rf1 rf2 rf3 rf4 rf5 rf6 rf7 rl
  obtain ⟨W9, hW9⟩ : ∃ W, W = ((((((((w3.setCell ⟨w.heap.size + 1, 0, none⟩ (.int .i64 xi)).setCell ⟨w.heap.size + 1, 1, none⟩ (.int .i64 x1)).setCell ⟨w.heap.size + 1, 2, none⟩ (.int .i64 x2)).setCell ⟨w.heap.size + 1, 3, none⟩ (.int .i64 x3)).setCell ⟨w.heap.size + 1, 4, none⟩ (.int .i64 x4)).setCell ⟨w.heap.size + 1, 5, none⟩ (.slice A2 E.length c2)).setCell ⟨w.heap.size + 1, 6, none⟩ (.int .i64 (stateR (doneL ts t (behindTo E t x4.toNat))))).setCell ⟨w.heap.size + 1, 7, none⟩ (.slice (some ⟨g, 0, none⟩) ts.length c3)) := ⟨_, rfl⟩
  rw [← hW9]
  have kW9 : Blk W9 (w.heap.size + 1) 52 #[.int .i64 xi, .int .i64 x1, .int .i64 x2, .int .i64 x3, .int .i64 x4, .slice A2 E.length c2, .int .i64 (stateR (doneL ts t (behindTo E t x4.toNat))), .slice (some ⟨g, 0, none⟩) ts.length c3] := by rw [hW9]; have q := (Blk.set_ (Blk.set_ (Blk.set_ (Blk.set_ (Blk.set_ (Blk.set_ (Blk.set_ (Blk.set_ HR3.out 0 (.int .i64 xi)) 1 (.int .i64 x1)) 2 (.int .i64 x2)) 3 (.int .i64 x3)) 4 (.int .i64 x4)) 5 (.slice A2 E.length c2)) 6 (.int .i64 (stateR (doneL ts t (behindTo E t x4.toNat))))) 7 (.slice (some ⟨g, 0, none⟩) ts.length c3)); simpa using q
  have pW9 : Part (w.heap.size + 1) (w.heap.size + 1 + 1) w3 W9 := by rw [hW9]; exact (Part.setCell (Part.setCell (Part.setCell (Part.setCell (Part.setCell (Part.setCell (Part.setCell (Part.setCell (Part.refl (w.heap.size + 1) (w.heap.size + 1 + 1) w3) (p := ⟨w.heap.size + 1, 0, none⟩) ⟨by simp, by simp⟩ (.int .i64 xi)) (p := ⟨w.heap.size + 1, 1, none⟩) ⟨by simp, by simp⟩ (.int .i64 x1)) (p := ⟨w.heap.size + 1, 2, none⟩) ⟨by simp, by simp⟩ (.int .i64 x2)) (p := ⟨w.heap.size + 1, 3, none⟩) ⟨by simp, by simp⟩ (.int .i64 x3)) (p := ⟨w.heap.size + 1, 4, none⟩) ⟨by simp, by simp⟩ (.int .i64 x4)) (p := ⟨w.heap.size + 1, 5, none⟩) ⟨by simp, by simp⟩ (.slice A2 E.length c2)) (p := ⟨w.heap.size + 1, 6, none⟩) ⟨by simp, by simp⟩ (.int .i64 (stateR (doneL ts t (behindTo E t x4.toNat))))) (p := ⟨w.heap.size + 1, 7, none⟩) ⟨by simp, by simp⟩ (.slice (some ⟨g, 0, none⟩) ts.length c3))
  have e0 := kW9.cell 0
  have e1 := kW9.cell 1
  have e2 := kW9.cell 2
  have e3 := kW9.cell 3
  have e4 := kW9.cell 4
  have e5 := kW9.cell 5
  have e6 := kW9.cell 6
  have e7 := kW9.cell 7
  simp only [List.getElem?_toArray, List.getElem?_cons_succ, List.getElem?_cons_zero] at e0 e1 e2 e3 e4 e5 e6 e7
  refine bodyPost_ret (v := .agg #[.int .i64 xi, .int .i64 x1, .int .i64 x2, .int .i64 x3, .int .i64 x4, .slice A2 E.length c2, .int .i64 (stateR (doneL ts t (behindTo E t x4.toNat))), .slice (some ⟨g, 0, none⟩) ts.length c3]) (by simp [results, Try.results41, go_sem, e0, e1, e2, e3, e4, e5, e6, e7]) rfl ?_
  have hs9 := pW9.size
  have hl : (doneL ts t (behindTo E t x4.toNat)).length = ts.length := doneL_length _ _ _
  have hroW9 := RowTsk.own (RowTsk.keepV HRW3.out pW9 (.inr (by omega))) (base := m) hmg hcm3
  rw [hl] at hroW9
  have oE9 := OwnS.keep (OwnS.keep HOE.out HP3.out (.inl (Nat.le_refl _))) pW9 (.inr (by omega))
  refine ⟨_, _, rfl, ⟨m, by omega, by omega, ?_, ?_⟩, Part.to_below (Part.to_below hw2 HP3.out (by omega) (Nat.le_refl _)) pW9 (by omega) (Nat.le_refl _)⟩
  · exact OwnS.mono oE9 (by omega) (Nat.le_refl _) (by omega)
  · show OwnS W9 m W9.heap.size 61 4 _ (doneL ts t (behindTo E t x4.toNat)).length _
    rw [hl]
    exact OwnS.of_own hroW9
end Go.Proofs.Ytbbjkldkjndfaaa

/- Copies of runs, the program's and the reference's. -/
import Derived.Test.YtbbjkldkjndfaaaCopyP
import Derived.Test.YtbbjkldkjndfaaaGC
import Derived.Deep.Cut
namespace Go.Proofs.Ytbbjkldkjndfaaa
set_option linter.unusedSimpArgs false
open Go.RowKit Go.ChangeShapes Go.Deep

set_option maxHeartbeats 4000000 in
set_option maxRecDepth 100000 in
theorem copyRun_any (u v : Value) (x : Rn) (w : World) (h : Rd_run w u v x) (hn : cost_run x ≤ 1048576) :
    Calls Try.prog 78 #[.agg #[.int .i64 x.id, .int .i64 x.plan.prio, .int .i64 x.plan.most, .int .i64 x.plan.wait, .int .i64 x.plan.tasks, u, .int .i64 x.state, v]] w (GivesR x w) := by
  obtain ⟨h1, h2⟩ := h
  unfold cost_run at hn
  obtain ⟨i0, hi, hz0, hz1, hz2⟩ := info_parts Try.infoTsk
  obtain ⟨xi, ⟨x1, x2, x3, x4, E⟩, xs, ts⟩ := x
  obtain ⟨AE, cE, rfl, hncE, hcmE⟩ := Rd.shape h1
  obtain ⟨AT, cT, rfl, hncT, hcmT⟩ := Rd.shape h2
  unfold maxLen at hcmE hcmT
  simp only at hncE hncT hcmE hcmT hn
  have HT := Lib.hid (show Rd w 4 (.slice AT ts.length cT) ts.length (tskV ts) from h2)
  have H1 := tskV_one ts
  obtain ⟨W0, hW0⟩ : ∃ W0, W0 = (w.alloc (.cells #[.int .i64 xi, .int .i64 x1, .int .i64 x2, .int .i64 x3, .int .i64 x4, .slice AE E.length cE, .int .i64 xs, .slice AT ts.length cT] 52)).alloc (.cells #[.int .i64 0, .int .i64 0, .int .i64 0, .int .i64 0, .int .i64 0, .slice none 0 0, .int .i64 0, .slice none 0 0] 52) := ⟨_, rfl⟩
  have hb0 : Below w.heap.size w W0 := by rw [hW0]; exact ((Below.refl _ _).alloc (Nat.le_refl _) _).alloc (by simp) _
  have k0 : Blk W0 w.heap.size 52 #[.int .i64 xi, .int .i64 x1, .int .i64 x2, .int .i64 x3, .int .i64 x4, .slice AE E.length cE, .int .i64 xs, .slice AT ts.length cT] := by rw [hW0]; exact (Blk.new _ _ _).alloc _
  have kr0 : Blk W0 (w.heap.size + 1) 52 #[.int .i64 0, .int .i64 0, .int .i64 0, .int .i64 0, .int .i64 0, .slice none 0 0, .int .i64 0, .slice none 0 0] := by rw [hW0]; exact blk_new1 _ _ _ _
  have hzs : W0.heap.size = w.heap.size + 2 := by rw [hW0]; simp
  have HK := Lib.hid k0
  have HR := Lib.hid kr0
  have HW := Lib.hid hW0
  have HZ := Lib.hid hzs
  have CP := Lib.hid (copyPlan_any (.slice AE E.length cE) ⟨x1, x2, x3, x4, E⟩ W0 (Rd_plan.below h1 hb0) (by unfold cost_plan; simp only; omega))
  clear k0 kr0 hW0 h1 h2 hzs
  go_enter Try.func78, Try.ntmps78
  go_wp2_with fail
  rw [← HW.out]
  refine CP.out.mono ?_
  rintro e w1 ⟨u2, rfl, ho2, hb1⟩
  obtain ⟨A2, c2, rfl⟩ := ho2.form
  have HO2 := Lib.hid ho2
  have hw1 := hb0.trans (hb1.mono hb0.size)
  have HW1 := Lib.hid hw1
  have HK1 := Lib.hid (HK.out.belowV hb1)
  have HR1 := Lib.hid (HR.out.belowV hb1)
  have hs1 : w.heap.size + 2 ≤ w1.heap.size := by rw [← HZ.out]; exact hb1.size
  have HHS := Lib.hid hs1
  have HRT := Lib.hid (show Reads w w.heap.size 4 AT ts.length (tskV ts) from (by obtain ⟨A', c', he, _, _, hr⟩ := HT.out; injection he with e1 e2 e3; subst e1; exact hr))
  clear ho2 hb1
  have p0 := HK1.out.cell 0
  have p1 := HK1.out.cell 1
  have p2 := HK1.out.cell 2
  have p3 := HK1.out.cell 3
  have p4 := HK1.out.cell 4
  have p5 := HK1.out.cell 5
  have p6 := HK1.out.cell 6
  have p7 := HK1.out.cell 7
  simp only [List.getElem?_toArray, List.getElem?_cons_succ, List.getElem?_cons_zero] at p0 p1 p2 p3 p4 p5 p6 p7
  have pf0 := HK1.out.frozen 0
  have pf1 := HK1.out.frozen 1
  have pf2 := HK1.out.frozen 2
  have pf3 := HK1.out.frozen 3
  have pf4 := HK1.out.frozen 4
  have pf5 := HK1.out.frozen 5
  have pf6 := HK1.out.frozen 6
  have pf7 := HK1.out.frozen 7
  have pl := HK1.out.lt
  go_wp2_with (at_builtin; refine wpList_append_any _ rfl _ _ _ rfl w1.heap.size _ i0 _ 4 32 Try.underlying50 hi hz0 hz1 hz2 rfl (by decide) (.slice none 0 0) 0 [] rfl ⟨by simp, .inl ⟨rfl, rfl⟩⟩ w.heap.size AT ts.length cT (tskV ts) rfl (Reads.below HRT.out (by exact (by repeat first | exact Below.refl _ _ | assumption | refine Below.drew ?_ | refine below_drewN ?_ _ | refine Below.calm ?_ (by first | exact Nat.le_refl _ | (simp; done) | (simp; omega) | omega) | refine Below.alloc ?_ (by first | exact Nat.le_refl _ | (simp; done) | (simp; omega) | omega) _ | refine Below.setCell ?_ (by first | exact Nat.le_refl _ | (simp; done) | (simp; omega) | omega) _))) H1 (by unfold maxLen; omega) (by omega) (by simp [World.setCell]; try omega) ?_; intro v1 w4 ho1 hg1 hat1; rw [Nat.zero_add, List.nil_append] at ho1; obtain ⟨A3, c3, rfl, -, -⟩ := (Rd.of_own ho1).shape; have kb4 := Blk.grown (cs := #[.int .i64 xi, .int .i64 x1, .int .i64 x2, .int .i64 x3, .int .i64 x4, .slice A2 E.length c2, .int .i64 xs, .slice AT ts.length cT]) (by have q := (Blk.set_ (Blk.set_ (Blk.set_ (Blk.set_ (Blk.set_ HK1.out 1 (.int .i64 x1)) 2 (.int .i64 x2)) 3 (.int .i64 x3)) 4 (.int .i64 x4)) 5 (.slice A2 E.length c2)); simpa using q) hg1 (by first | simp [Value.ownBlock]; done | (simp [Value.ownBlock]; omega)); have kr4 := Blk.grown (cs := #[.int .i64 0, .int .i64 0, .int .i64 0, .int .i64 0, .int .i64 0, .slice none 0 0, .int .i64 0, .slice none 0 0]) (by have q := (Blk.far (Blk.far (Blk.far (Blk.far (Blk.far HR1.out (p := ⟨w.heap.size, 1, none⟩) (by simp) (.int .i64 x1)) (p := ⟨w.heap.size, 2, none⟩) (by simp) (.int .i64 x2)) (p := ⟨w.heap.size, 3, none⟩) (by simp) (.int .i64 x3)) (p := ⟨w.heap.size, 4, none⟩) (by simp) (.int .i64 x4)) (p := ⟨w.heap.size, 5, none⟩) (by simp) (.slice A2 E.length c2)); simpa using q) hg1 (by first | simp [Value.ownBlock]; done | (simp [Value.ownBlock]; omega)); clear p0 p1 p2 p3 p4 p5 p6 p7 pf0 pf1 pf2 pf3 pf4 pf5 pf6 pf7 pl; have p0 := kb4.cell 0; have p1 := kb4.cell 1; have p2 := kb4.cell 2; have p3 := kb4.cell 3; have p4 := kb4.cell 4; have p5 := kb4.cell 5; have p6 := kb4.cell 6; have p7 := kb4.cell 7; have pf7 := kb4.frozen 7; have r0 := kr4.cell 0; have r1 := kr4.cell 1; have r2 := kr4.cell 2; have r3 := kr4.cell 3; have r4 := kr4.cell 4; have r5 := kr4.cell 5; have r6 := kr4.cell 6; have r7 := kr4.cell 7; have rf0 := kr4.frozen 0; have rf1 := kr4.frozen 1; have rf2 := kr4.frozen 2; have rf3 := kr4.frozen 3; have rf4 := kr4.frozen 4; have rf5 := kr4.frozen 5; have rf6 := kr4.frozen 6; have rf7 := kr4.frozen 7; simp only [List.getElem?_toArray, List.getElem?_cons_succ, List.getElem?_cons_zero] at p0 p1 p2 p3 p4 p5 p6 p7 r0 r1 r2 r3 r4 r5 r6 r7; have pl := kb4.lt; have rl := kr4.lt; have HK4 := Lib.hid kb4; have HR4 := Lib.hid kr4; have HO4 := Lib.hid ho1; have HG4 := Lib.hid hg1; clear kb4 kr4 ho1 hg1 hat1)
  clear p0 p1 p2 p3 p4 p5 p6 p7 pf7 pl r0 r1 r2 r3 r4 r5 r6 r7 rf0 rf1 rf2 rf3 rf4 rf5 rf6 rf7 rl
  obtain ⟨W7, hW7⟩ : ∃ W, W = (w4.setCell ⟨w.heap.size, 7, none⟩ (.slice A3 ts.length c3)) := ⟨_, rfl⟩
  have HR7 := Lib.hid (show Blk W7 (w.heap.size + 1) 52 #[.int .i64 0, .int .i64 0, .int .i64 0, .int .i64 0, .int .i64 0, .slice none 0 0, .int .i64 0, .slice none 0 0] by rw [hW7]; exact Blk.far HR4.out (p := ⟨w.heap.size, 7, none⟩) (by simp) _)
  have P7 := Lib.hid (show Part w.heap.size (w.heap.size + 1) w4 W7 by rw [hW7]; exact (Part.refl _ _ _).setCell (p := ⟨w.heap.size, 7, none⟩) ⟨Nat.le_refl _, by simp⟩ _)
  rw [← hW7]
  clear hW7
  obtain ⟨W9, hW9⟩ : ∃ W, W = ((((((((W7.setCell ⟨w.heap.size + 1, 0, none⟩ (.int .i64 xi)).setCell ⟨w.heap.size + 1, 1, none⟩ (.int .i64 x1)).setCell ⟨w.heap.size + 1, 2, none⟩ (.int .i64 x2)).setCell ⟨w.heap.size + 1, 3, none⟩ (.int .i64 x3)).setCell ⟨w.heap.size + 1, 4, none⟩ (.int .i64 x4)).setCell ⟨w.heap.size + 1, 5, none⟩ (.slice A2 E.length c2)).setCell ⟨w.heap.size + 1, 6, none⟩ (.int .i64 xs)).setCell ⟨w.heap.size + 1, 7, none⟩ (.slice A3 ts.length c3)) := ⟨_, rfl⟩
  rw [← hW9]
  have kW9 : Blk W9 (w.heap.size + 1) 52 #[.int .i64 xi, .int .i64 x1, .int .i64 x2, .int .i64 x3, .int .i64 x4, .slice A2 E.length c2, .int .i64 xs, .slice A3 ts.length c3] := by rw [hW9]; have q := (Blk.set_ (Blk.set_ (Blk.set_ (Blk.set_ (Blk.set_ (Blk.set_ (Blk.set_ (Blk.set_ HR7.out 0 (.int .i64 xi)) 1 (.int .i64 x1)) 2 (.int .i64 x2)) 3 (.int .i64 x3)) 4 (.int .i64 x4)) 5 (.slice A2 E.length c2)) 6 (.int .i64 xs)) 7 (.slice A3 ts.length c3)); simpa using q
  have pW9 : Part (w.heap.size + 1) (w.heap.size + 1 + 1) W7 W9 := by rw [hW9]; exact (Part.setCell (Part.setCell (Part.setCell (Part.setCell (Part.setCell (Part.setCell (Part.setCell (Part.setCell (Part.refl (w.heap.size + 1) (w.heap.size + 1 + 1) W7) (p := ⟨w.heap.size + 1, 0, none⟩) ⟨by simp, by simp⟩ (.int .i64 xi)) (p := ⟨w.heap.size + 1, 1, none⟩) ⟨by simp, by simp⟩ (.int .i64 x1)) (p := ⟨w.heap.size + 1, 2, none⟩) ⟨by simp, by simp⟩ (.int .i64 x2)) (p := ⟨w.heap.size + 1, 3, none⟩) ⟨by simp, by simp⟩ (.int .i64 x3)) (p := ⟨w.heap.size + 1, 4, none⟩) ⟨by simp, by simp⟩ (.int .i64 x4)) (p := ⟨w.heap.size + 1, 5, none⟩) ⟨by simp, by simp⟩ (.slice A2 E.length c2)) (p := ⟨w.heap.size + 1, 6, none⟩) ⟨by simp, by simp⟩ (.int .i64 xs)) (p := ⟨w.heap.size + 1, 7, none⟩) ⟨by simp, by simp⟩ (.slice A3 ts.length c3))
  have e0 := kW9.cell 0
  have e1 := kW9.cell 1
  have e2 := kW9.cell 2
  have e3 := kW9.cell 3
  have e4 := kW9.cell 4
  have e5 := kW9.cell 5
  have e6 := kW9.cell 6
  have e7 := kW9.cell 7
  simp only [List.getElem?_toArray, List.getElem?_cons_succ, List.getElem?_cons_zero] at e0 e1 e2 e3 e4 e5 e6 e7
  refine bodyPost_ret (v := .agg #[.int .i64 xi, .int .i64 x1, .int .i64 x2, .int .i64 x3, .int .i64 x4, .slice A2 E.length c2, .int .i64 xs, .slice A3 ts.length c3]) (by simp [results, Try.results78, go_sem, e0, e1, e2, e3, e4, e5, e6, e7]) rfl ?_
  have hw1 : Below w.heap.size w w1 := hw1
  have hs1 := HHS.out
  
  have p5 := (Part.setCell (Part.setCell (Part.setCell (Part.setCell (Part.setCell (Part.refl w.heap.size (w.heap.size + 1) w1) (p := ⟨w.heap.size, 1, none⟩) ⟨by simp, by simp⟩ (.int .i64 x1)) (p := ⟨w.heap.size, 2, none⟩) ⟨by simp, by simp⟩ (.int .i64 x2)) (p := ⟨w.heap.size, 3, none⟩) ⟨by simp, by simp⟩ (.int .i64 x3)) (p := ⟨w.heap.size, 4, none⟩) ⟨by simp, by simp⟩ (.int .i64 x4)) (p := ⟨w.heap.size, 5, none⟩) ⟨by simp, by simp⟩ (.slice A2 E.length c2))
  have hs4 := HG4.out.size
  have hs5 := p5.size
  have pg : Part w1.heap.size (w1.heap.size + 1) _ w4 := Part.of_grown HG4.out (fun g hg => by cases hg)
  have hw4 : Below w.heap.size w w4 := Part.to_below (Part.to_below hw1 p5 (Nat.le_refl _) (Nat.le_refl _)) pg (by omega) (Nat.le_refl _)
  have hsz7 := P7.out.size
  have hsz9 := pW9.size
  refine ⟨_, _, rfl, ⟨w1.heap.size, by omega, by omega, ?_, ?_⟩, Part.to_below (Part.to_below hw4 P7.out (Nat.le_refl _) (Nat.le_refl _)) pW9 (by omega) (Nat.le_refl _)⟩
  · have a1 := Own_plan.keep (Own_plan.keep (Own_plan.keep (Own_plan.keep HO2.out p5 (.inr (by rw [HZ.out]; omega))) pg (.inl (Nat.le_refl _))) P7.out (.inr (by rw [HZ.out]; omega))) pW9 (.inr (by have := HZ.out; omega))
    exact OwnS.mono a1 (by rw [HZ.out]; omega) (Nat.le_refl _) (by omega)
  · have a2 := OwnS.keep (OwnS.keep (OwnS.of_own HO4.out) P7.out (.inr (by omega))) pW9 (.inr (by omega))
    exact OwnS.mono a2 (by omega) (by omega) (Nat.le_refl _)

set_option maxHeartbeats 4000000 in
set_option maxRecDepth 100000 in
theorem l09Copy_any (u v : Value) (x : Rn) (w : World) (h : Rd_run w u v x) (hn : cost_run x ≤ 1048576) :
    Calls Try.prog 84 #[.agg #[.int .i64 x.id, .int .i64 x.plan.prio, .int .i64 x.plan.most, .int .i64 x.plan.wait, .int .i64 x.plan.tasks, u, .int .i64 x.state, v]] w (GivesR x w) := by
  obtain ⟨h1, h2⟩ := h
  unfold cost_run at hn
  obtain ⟨i0, hi, hz0, hz1, hz2⟩ := info_parts Try.infoTsk
  obtain ⟨xi, ⟨x1, x2, x3, x4, E⟩, xs, ts⟩ := x
  obtain ⟨AE, cE, rfl, hncE, hcmE⟩ := Rd.shape h1
  obtain ⟨AT, cT, rfl, hncT, hcmT⟩ := Rd.shape h2
  unfold maxLen at hcmE hcmT
  simp only at hncE hncT hcmE hcmT hn
  have HT := Lib.hid (show Rd w 4 (.slice AT ts.length cT) ts.length (tskV ts) from h2)
  have H1 := tskV_one ts
  obtain ⟨W0, hW0⟩ : ∃ W0, W0 = (w.alloc (.cells #[.int .i64 xi, .int .i64 x1, .int .i64 x2, .int .i64 x3, .int .i64 x4, .slice AE E.length cE, .int .i64 xs, .slice AT ts.length cT] 52)).alloc (.cells #[.int .i64 0, .int .i64 0, .int .i64 0, .int .i64 0, .int .i64 0, .slice none 0 0, .int .i64 0, .slice none 0 0] 52) := ⟨_, rfl⟩
  have hb0 : Below w.heap.size w W0 := by rw [hW0]; exact ((Below.refl _ _).alloc (Nat.le_refl _) _).alloc (by simp) _
  have k0 : Blk W0 w.heap.size 52 #[.int .i64 xi, .int .i64 x1, .int .i64 x2, .int .i64 x3, .int .i64 x4, .slice AE E.length cE, .int .i64 xs, .slice AT ts.length cT] := by rw [hW0]; exact (Blk.new _ _ _).alloc _
  have kr0 : Blk W0 (w.heap.size + 1) 52 #[.int .i64 0, .int .i64 0, .int .i64 0, .int .i64 0, .int .i64 0, .slice none 0 0, .int .i64 0, .slice none 0 0] := by rw [hW0]; exact blk_new1 _ _ _ _
  have hzs : W0.heap.size = w.heap.size + 2 := by rw [hW0]; simp
  have HK := Lib.hid k0
  have HR := Lib.hid kr0
  have HW := Lib.hid hW0
  have HZ := Lib.hid hzs
  have CP := Lib.hid (l06Copy_any (.slice AE E.length cE) ⟨x1, x2, x3, x4, E⟩ W0 (Rd_plan.below h1 hb0) (by unfold cost_plan; simp only; omega))
  clear k0 kr0 hW0 h1 h2 hzs
  go_enter Try.func84, Try.ntmps84
  go_wp2_with fail
  rw [← HW.out]
  refine CP.out.mono ?_
  rintro e w1 ⟨u2, rfl, ho2, hb1⟩
  obtain ⟨A2, c2, rfl⟩ := ho2.form
  have HO2 := Lib.hid ho2
  have hw1 := hb0.trans (hb1.mono hb0.size)
  have HW1 := Lib.hid hw1
  have HK1 := Lib.hid (HK.out.belowV hb1)
  have HR1 := Lib.hid (HR.out.belowV hb1)
  have hs1 : w.heap.size + 2 ≤ w1.heap.size := by rw [← HZ.out]; exact hb1.size
  have HHS := Lib.hid hs1
  have HRT := Lib.hid (show Reads w w.heap.size 4 AT ts.length (tskV ts) from (by obtain ⟨A', c', he, _, _, hr⟩ := HT.out; injection he with e1 e2 e3; subst e1; exact hr))
  clear ho2 hb1
  have p0 := HK1.out.cell 0
  have p1 := HK1.out.cell 1
  have p2 := HK1.out.cell 2
  have p3 := HK1.out.cell 3
  have p4 := HK1.out.cell 4
  have p5 := HK1.out.cell 5
  have p6 := HK1.out.cell 6
  have p7 := HK1.out.cell 7
  simp only [List.getElem?_toArray, List.getElem?_cons_succ, List.getElem?_cons_zero] at p0 p1 p2 p3 p4 p5 p6 p7
  have pf0 := HK1.out.frozen 0
  have pf1 := HK1.out.frozen 1
  have pf2 := HK1.out.frozen 2
  have pf3 := HK1.out.frozen 3
  have pf4 := HK1.out.frozen 4
  have pf5 := HK1.out.frozen 5
  have pf6 := HK1.out.frozen 6
  have pf7 := HK1.out.frozen 7
  have pl := HK1.out.lt
  go_upto_region 2 with (fail)
  obtain ⟨W5, hW5⟩ : ∃ W, W = (((((w1.setCell ⟨w.heap.size, 1, none⟩ (.int .i64 x1)).setCell ⟨w.heap.size, 2, none⟩ (.int .i64 x2)).setCell ⟨w.heap.size, 3, none⟩ (.int .i64 x3)).setCell ⟨w.heap.size, 4, none⟩ (.int .i64 x4)).setCell ⟨w.heap.size, 5, none⟩ (.slice A2 E.length c2)) := ⟨_, rfl⟩
  rw [← hW5]
  have HK5 := Lib.hid (show Blk W5 w.heap.size 52 #[.int .i64 xi, .int .i64 x1, .int .i64 x2, .int .i64 x3, .int .i64 x4, .slice A2 E.length c2, .int .i64 xs, .slice AT ts.length cT] by rw [hW5]; have q := (Blk.set_ (Blk.set_ (Blk.set_ (Blk.set_ (Blk.set_ HK1.out 1 (.int .i64 x1)) 2 (.int .i64 x2)) 3 (.int .i64 x3)) 4 (.int .i64 x4)) 5 (.slice A2 E.length c2)); simpa using q)
  have HR5 := Lib.hid (show Blk W5 (w.heap.size + 1) 52 #[.int .i64 0, .int .i64 0, .int .i64 0, .int .i64 0, .int .i64 0, .slice none 0 0, .int .i64 0, .slice none 0 0] by rw [hW5]; have q := (Blk.far (Blk.far (Blk.far (Blk.far (Blk.far HR1.out (p := ⟨w.heap.size, 1, none⟩) (by simp) (.int .i64 x1)) (p := ⟨w.heap.size, 2, none⟩) (by simp) (.int .i64 x2)) (p := ⟨w.heap.size, 3, none⟩) (by simp) (.int .i64 x3)) (p := ⟨w.heap.size, 4, none⟩) (by simp) (.int .i64 x4)) (p := ⟨w.heap.size, 5, none⟩) (by simp) (.slice A2 E.length c2)); simpa using q)
  have hp5 : Part w.heap.size (w.heap.size + 1) w1 W5 := by rw [hW5]; exact (Part.setCell (Part.setCell (Part.setCell (Part.setCell (Part.setCell (Part.refl w.heap.size (w.heap.size + 1) w1) (p := ⟨w.heap.size, 1, none⟩) ⟨by simp, by simp⟩ (.int .i64 x1)) (p := ⟨w.heap.size, 2, none⟩) ⟨by simp, by simp⟩ (.int .i64 x2)) (p := ⟨w.heap.size, 3, none⟩) ⟨by simp, by simp⟩ (.int .i64 x3)) (p := ⟨w.heap.size, 4, none⟩) ⟨by simp, by simp⟩ (.int .i64 x4)) (p := ⟨w.heap.size, 5, none⟩) ⟨by simp, by simp⟩ (.slice A2 E.length c2))
  have HZ5 := Lib.hid (show W5.heap.size = w1.heap.size by rw [hW5]; simp [World.setCell])
  have HP5 := Lib.hid hp5
  have hw5 : Below w.heap.size w W5 := Part.to_below hw1 hp5 (Nat.le_refl _) (Nat.le_refl _)
  have hs5 : w.heap.size + 2 ≤ W5.heap.size := by rw [HZ5.out]; exact hs1
  clear hW5 hp5 p0 p1 p2 p3 p4 p5 p6 p7 pf0 pf1 pf2 pf3 pf4 pf5 pf6 pf7 pl hw1 hs1
  have p0 := HK5.out.cell 0
  have p1 := HK5.out.cell 1
  have p2 := HK5.out.cell 2
  have p3 := HK5.out.cell 3
  have p4 := HK5.out.cell 4
  have p5 := HK5.out.cell 5
  have p6 := HK5.out.cell 6
  have p7 := HK5.out.cell 7
  simp only [List.getElem?_toArray, List.getElem?_cons_succ, List.getElem?_cons_zero] at p0 p1 p2 p3 p4 p5 p6 p7
  have pf0 := HK5.out.frozen 0
  have pf1 := HK5.out.frozen 1
  have pf2 := HK5.out.frozen 2
  have pf3 := HK5.out.frozen 3
  have pf4 := HK5.out.frozen 4
  have pf5 := HK5.out.frozen 5
  have pf6 := HK5.out.frozen 6
  have pf7 := HK5.out.frozen 7
  have pl := HK5.out.lt
  go_wp2_with (at_builtin; refine wpList_append_any _ rfl _ _ _ rfl W5.heap.size _ i0 _ 4 32 Try.underlying50 hi hz0 hz1 hz2 rfl (by decide) (.slice (some ⟨W5.heap.size, 0, none⟩) 0 0) 0 [] (by rfl) (made0 rfl (Nat.le_refl _)) w.heap.size AT ts.length cT (tskV ts) rfl (Reads.below HRT.out (by exact (by repeat first | exact Below.refl _ _ | assumption | refine Below.drew ?_ | refine below_drewN ?_ _ | refine Below.calm ?_ (by first | exact Nat.le_refl _ | (simp; done) | (simp; omega) | omega) | refine Below.alloc ?_ (by first | exact Nat.le_refl _ | (simp; done) | (simp; omega) | omega) _ | refine Below.setCell ?_ (by first | exact Nat.le_refl _ | (simp; done) | (simp; omega) | omega) _))) H1 (by unfold maxLen; omega) (by omega) (by simp [World.setCell]; try omega) ?_; intro v1 w4 ho1 hg1 hat1; rw [Nat.zero_add, List.nil_append] at ho1; obtain ⟨A3, c3, rfl, -, -⟩ := (Rd.of_own ho1).shape; have kb4 := Blk.grown (cs := #[.int .i64 xi, .int .i64 x1, .int .i64 x2, .int .i64 x3, .int .i64 x4, .slice A2 E.length c2, .int .i64 xs, .slice AT ts.length cT]) (by have q := HK5.out.alloc (.cells #[] 61); simpa using q) hg1 (by first | simp [Value.ownBlock]; done | (simp [Value.ownBlock]; omega)); have kr4 := Blk.grown (cs := #[.int .i64 0, .int .i64 0, .int .i64 0, .int .i64 0, .int .i64 0, .slice none 0 0, .int .i64 0, .slice none 0 0]) (by have q := HR5.out.alloc (.cells #[] 61); simpa using q) hg1 (by first | simp [Value.ownBlock]; done | (simp [Value.ownBlock]; omega)); clear p0 p1 p2 p3 p4 p5 p6 p7 pf0 pf1 pf2 pf3 pf4 pf5 pf6 pf7 pl; have p0 := kb4.cell 0; have p1 := kb4.cell 1; have p2 := kb4.cell 2; have p3 := kb4.cell 3; have p4 := kb4.cell 4; have p5 := kb4.cell 5; have p6 := kb4.cell 6; have p7 := kb4.cell 7; have pf7 := kb4.frozen 7; have r0 := kr4.cell 0; have r1 := kr4.cell 1; have r2 := kr4.cell 2; have r3 := kr4.cell 3; have r4 := kr4.cell 4; have r5 := kr4.cell 5; have r6 := kr4.cell 6; have r7 := kr4.cell 7; have rf0 := kr4.frozen 0; have rf1 := kr4.frozen 1; have rf2 := kr4.frozen 2; have rf3 := kr4.frozen 3; have rf4 := kr4.frozen 4; have rf5 := kr4.frozen 5; have rf6 := kr4.frozen 6; have rf7 := kr4.frozen 7; simp only [List.getElem?_toArray, List.getElem?_cons_succ, List.getElem?_cons_zero] at p0 p1 p2 p3 p4 p5 p6 p7 r0 r1 r2 r3 r4 r5 r6 r7; have pl := kb4.lt; have rl := kr4.lt; have HK4 := Lib.hid kb4; have HR4 := Lib.hid kr4; have HO4 := Lib.hid ho1; have HG4 := Lib.hid hg1; clear kb4 kr4 ho1 hg1 hat1)
  clear p0 p1 p2 p3 p4 p5 p6 p7 pf7 pl r0 r1 r2 r3 r4 r5 r6 r7 rf0 rf1 rf2 rf3 rf4 rf5 rf6 rf7 rl
  obtain ⟨W7, hW7⟩ : ∃ W, W = (w4.setCell ⟨w.heap.size, 7, none⟩ (.slice A3 ts.length c3)) := ⟨_, rfl⟩
  have HR7 := Lib.hid (show Blk W7 (w.heap.size + 1) 52 #[.int .i64 0, .int .i64 0, .int .i64 0, .int .i64 0, .int .i64 0, .slice none 0 0, .int .i64 0, .slice none 0 0] by rw [hW7]; exact Blk.far HR4.out (p := ⟨w.heap.size, 7, none⟩) (by simp) _)
  have P7 := Lib.hid (show Part w.heap.size (w.heap.size + 1) w4 W7 by rw [hW7]; exact (Part.refl _ _ _).setCell (p := ⟨w.heap.size, 7, none⟩) ⟨Nat.le_refl _, by simp⟩ _)
  rw [← hW7]
  clear hW7
  obtain ⟨W9, hW9⟩ : ∃ W, W = ((((((((W7.setCell ⟨w.heap.size + 1, 0, none⟩ (.int .i64 xi)).setCell ⟨w.heap.size + 1, 1, none⟩ (.int .i64 x1)).setCell ⟨w.heap.size + 1, 2, none⟩ (.int .i64 x2)).setCell ⟨w.heap.size + 1, 3, none⟩ (.int .i64 x3)).setCell ⟨w.heap.size + 1, 4, none⟩ (.int .i64 x4)).setCell ⟨w.heap.size + 1, 5, none⟩ (.slice A2 E.length c2)).setCell ⟨w.heap.size + 1, 6, none⟩ (.int .i64 xs)).setCell ⟨w.heap.size + 1, 7, none⟩ (.slice A3 ts.length c3)) := ⟨_, rfl⟩
  rw [← hW9]
  have kW9 : Blk W9 (w.heap.size + 1) 52 #[.int .i64 xi, .int .i64 x1, .int .i64 x2, .int .i64 x3, .int .i64 x4, .slice A2 E.length c2, .int .i64 xs, .slice A3 ts.length c3] := by rw [hW9]; have q := (Blk.set_ (Blk.set_ (Blk.set_ (Blk.set_ (Blk.set_ (Blk.set_ (Blk.set_ (Blk.set_ HR7.out 0 (.int .i64 xi)) 1 (.int .i64 x1)) 2 (.int .i64 x2)) 3 (.int .i64 x3)) 4 (.int .i64 x4)) 5 (.slice A2 E.length c2)) 6 (.int .i64 xs)) 7 (.slice A3 ts.length c3)); simpa using q
  have pW9 : Part (w.heap.size + 1) (w.heap.size + 1 + 1) W7 W9 := by rw [hW9]; exact (Part.setCell (Part.setCell (Part.setCell (Part.setCell (Part.setCell (Part.setCell (Part.setCell (Part.setCell (Part.refl (w.heap.size + 1) (w.heap.size + 1 + 1) W7) (p := ⟨w.heap.size + 1, 0, none⟩) ⟨by simp, by simp⟩ (.int .i64 xi)) (p := ⟨w.heap.size + 1, 1, none⟩) ⟨by simp, by simp⟩ (.int .i64 x1)) (p := ⟨w.heap.size + 1, 2, none⟩) ⟨by simp, by simp⟩ (.int .i64 x2)) (p := ⟨w.heap.size + 1, 3, none⟩) ⟨by simp, by simp⟩ (.int .i64 x3)) (p := ⟨w.heap.size + 1, 4, none⟩) ⟨by simp, by simp⟩ (.int .i64 x4)) (p := ⟨w.heap.size + 1, 5, none⟩) ⟨by simp, by simp⟩ (.slice A2 E.length c2)) (p := ⟨w.heap.size + 1, 6, none⟩) ⟨by simp, by simp⟩ (.int .i64 xs)) (p := ⟨w.heap.size + 1, 7, none⟩) ⟨by simp, by simp⟩ (.slice A3 ts.length c3))
  have e0 := kW9.cell 0
  have e1 := kW9.cell 1
  have e2 := kW9.cell 2
  have e3 := kW9.cell 3
  have e4 := kW9.cell 4
  have e5 := kW9.cell 5
  have e6 := kW9.cell 6
  have e7 := kW9.cell 7
  simp only [List.getElem?_toArray, List.getElem?_cons_succ, List.getElem?_cons_zero] at e0 e1 e2 e3 e4 e5 e6 e7
  refine bodyPost_ret (v := .agg #[.int .i64 xi, .int .i64 x1, .int .i64 x2, .int .i64 x3, .int .i64 x4, .slice A2 E.length c2, .int .i64 xs, .slice A3 ts.length c3]) (by simp [results, Try.results84, go_sem, e0, e1, e2, e3, e4, e5, e6, e7]) rfl ?_
  have hw1 : Below w.heap.size w w1 := HW1.out
  have hs1 := HHS.out
  have hz5 := HZ5.out
  have p5 := HP5.out.alloc (.cells #[] 61)
  have hs4 := HG4.out.size
  have hs5 := p5.size
  have pg : Part w1.heap.size (w1.heap.size + 1) _ w4 := Part.of_grown HG4.out (fun g hg => by have e : some W5.heap.size = some g := hg; injection e with e; omega)
  have hw4 : Below w.heap.size w w4 := Part.to_below (Part.to_below hw1 p5 (Nat.le_refl _) (Nat.le_refl _)) pg (by omega) (Nat.le_refl _)
  have hsz7 := P7.out.size
  have hsz9 := pW9.size
  refine ⟨_, _, rfl, ⟨w1.heap.size, by omega, by omega, ?_, ?_⟩, Part.to_below (Part.to_below hw4 P7.out (Nat.le_refl _) (Nat.le_refl _)) pW9 (by omega) (Nat.le_refl _)⟩
  · have a1 := Own_plan.keep (Own_plan.keep (Own_plan.keep (Own_plan.keep HO2.out p5 (.inr (by rw [HZ.out]; omega))) pg (.inl (Nat.le_refl _))) P7.out (.inr (by rw [HZ.out]; omega))) pW9 (.inr (by have := HZ.out; omega))
    exact OwnS.mono a1 (by rw [HZ.out]; omega) (Nat.le_refl _) (by omega)
  · have a2 := OwnS.keep (OwnS.keep (OwnS.of_own HO4.out) P7.out (.inr (by omega))) pW9 (.inr (by omega))
    exact OwnS.mono a2 (by omega) (by omega) (Nat.le_refl _)

end Go.Proofs.Ytbbjkldkjndfaaa

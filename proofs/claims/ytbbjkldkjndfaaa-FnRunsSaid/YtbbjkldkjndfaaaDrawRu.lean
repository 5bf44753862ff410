/- The drawn run of the laws: DrawRun. -/
import Derived.Test.YtbbjkldkjndfaaaDrawRn
namespace Go.Proofs.Ytbbjkldkjndfaaa
set_option linter.unusedSimpArgs false
set_option linter.unusedVariables false
open Go.RowKit Go.ChangeShapes Go.Deep
set_option maxHeartbeats 8000000 in
set_option maxRecDepth 100000 in
theorem drawRun_any (w : World) (v : Value) (code : List UInt8) (h : Rd w 1 v code.length (bytesV code)) (hn : code.length ≤ 1048576) :
    Calls Try.prog 36 #[v] w (GivesR (runDraw code) w) := by
  obtain ⟨W0, hW0⟩ : ∃ W0, W0 = w.alloc (.cells rnZ 52) := ⟨_, rfl⟩
  have hb0 : Below w.heap.size w W0 := by rw [hW0]; exact (Below.refl _ _).alloc (Nat.le_refl _) _
  have k0 : Blk W0 w.heap.size 52 rnZ := by rw [hW0]; exact Blk.new _ _ _
  have hs0 : W0.heap.size = w.heap.size + 1 := by rw [hW0]; simp
  have hs0' : w.heap.size < W0.heap.size := by omega
  have CN := Lib.hid (l01New_any W0 v code (h.below hb0) hn)
  have HW := Lib.hid (show w.alloc (.cells #[.int .i64 0, .int .i64 0, .int .i64 0, .int .i64 0, .int .i64 0, .slice none 0 0, .int .i64 0, .slice none 0 0] 52) = W0 from hW0.symm)
  have HK0 := Lib.hid k0
  obtain ⟨x, hx⟩ : ∃ x, x = runDraw code := ⟨_, rfl⟩
  have CP := Lib.hid (fun w1 B g => l09Run_any w1 B g v code (newC code))
  rw [show (runDrawn code (newC code)).1 = x from hx.symm] at CP
  rw [← hx]
  clear hW0 k0 h hs0 hx
  go_enter Try.func36, Try.ntmps36
  go_wp2_with fail
  rw [HW.out]
  refine CN.out.mono ?_
  rintro e w1 ⟨g, rfl, hc1, hb1⟩
  have hgl := hc1.blk.lt
  have hgB := hc1.base
  have HK1 := Lib.hid (HK0.out.belowV hb1)
  have hw1 := hb0.trans (hb1.mono hb0.size)
  have hs1 := hw1.size
  clear CN
  go_wp2_with fail
  refine (CP.out w1 W0.heap.size g hc1).mono ?_
  rintro e w2 ⟨u, u', rfl, ho2, hc2, hg2⟩
  have hb2 : Below w.heap.size w w2 := hw1.grown hg2 hw1.size (by intro k hk; injection hk with hk; omega)
  have hl1 : w.heap.size < w1.heap.size := Nat.lt_of_lt_of_le hs0' hb1.size
  obtain ⟨A, ca, A', ca', rfl, rfl⟩ := Own_run.form ho2
  have HO := Lib.hid ho2
  have HK2 := Lib.hid (HK1.out.grown hg2 (by simp; omega))
  clear ho2 hc1 hc2 CP
  have r0 := HK2.out.cell 0
  have r1 := HK2.out.cell 1
  have r2 := HK2.out.cell 2
  have r3 := HK2.out.cell 3
  have r4 := HK2.out.cell 4
  have r5 := HK2.out.cell 5
  have r6 := HK2.out.cell 6
  have r7 := HK2.out.cell 7
  simp only [rnC, rnZ, List.getElem?_toArray, List.getElem?_cons_succ, List.getElem?_cons_zero] at r0 r1 r2 r3 r4 r5 r6 r7
  have rf0 := HK2.out.frozen 0
  have rf1 := HK2.out.frozen 1
  have rf2 := HK2.out.frozen 2
  have rf3 := HK2.out.frozen 3
  have rf4 := HK2.out.frozen 4
  have rf5 := HK2.out.frozen 5
  have rf6 := HK2.out.frozen 6
  have rf7 := HK2.out.frozen 7
  have rl := HK2.out.lt
  go_wp2_with fail
  clear r0 r1 r2 r3 r4 r5 r6 r7 rf0 rf1 rf2 rf3 rf4 rf5 rf6 rf7 rl
  obtain ⟨W9, hW9⟩ : ∃ W, W = ((((((((w2.setCell ⟨w.heap.size, 0, none⟩ (.int .i64 x.id)).setCell ⟨w.heap.size, 1, none⟩ (.int .i64 x.plan.prio)).setCell ⟨w.heap.size, 2, none⟩ (.int .i64 x.plan.most)).setCell ⟨w.heap.size, 3, none⟩ (.int .i64 x.plan.wait)).setCell ⟨w.heap.size, 4, none⟩ (.int .i64 x.plan.tasks)).setCell ⟨w.heap.size, 5, none⟩ (.slice A x.plan.edges.length ca)).setCell ⟨w.heap.size, 6, none⟩ (.int .i64 x.state)).setCell ⟨w.heap.size, 7, none⟩ (.slice A' x.tasks.length ca')) := ⟨_, rfl⟩
  rw [← hW9]
  have kW9 : Blk W9 (w.heap.size) 52 #[.int .i64 x.id, .int .i64 x.plan.prio, .int .i64 x.plan.most, .int .i64 x.plan.wait, .int .i64 x.plan.tasks, .slice A x.plan.edges.length ca, .int .i64 x.state, .slice A' x.tasks.length ca'] := by rw [hW9]; have q := (Blk.set_ (Blk.set_ (Blk.set_ (Blk.set_ (Blk.set_ (Blk.set_ (Blk.set_ (Blk.set_ HK2.out 0 (.int .i64 x.id)) 1 (.int .i64 x.plan.prio)) 2 (.int .i64 x.plan.most)) 3 (.int .i64 x.plan.wait)) 4 (.int .i64 x.plan.tasks)) 5 (.slice A x.plan.edges.length ca)) 6 (.int .i64 x.state)) 7 (.slice A' x.tasks.length ca')); simpa [rnZ] using q
  have pW9 : Part (w.heap.size) (w.heap.size + 1) w2 W9 := by rw [hW9]; exact (Part.setCell (Part.setCell (Part.setCell (Part.setCell (Part.setCell (Part.setCell (Part.setCell (Part.setCell (Part.refl (w.heap.size) (w.heap.size + 1) w2) (p := ⟨w.heap.size, 0, none⟩) ⟨by simp, by simp⟩ (.int .i64 x.id)) (p := ⟨w.heap.size, 1, none⟩) ⟨by simp, by simp⟩ (.int .i64 x.plan.prio)) (p := ⟨w.heap.size, 2, none⟩) ⟨by simp, by simp⟩ (.int .i64 x.plan.most)) (p := ⟨w.heap.size, 3, none⟩) ⟨by simp, by simp⟩ (.int .i64 x.plan.wait)) (p := ⟨w.heap.size, 4, none⟩) ⟨by simp, by simp⟩ (.int .i64 x.plan.tasks)) (p := ⟨w.heap.size, 5, none⟩) ⟨by simp, by simp⟩ (.slice A x.plan.edges.length ca)) (p := ⟨w.heap.size, 6, none⟩) ⟨by simp, by simp⟩ (.int .i64 x.state)) (p := ⟨w.heap.size, 7, none⟩) ⟨by simp, by simp⟩ (.slice A' x.tasks.length ca'))
  have e0 := kW9.cell 0
  have e1 := kW9.cell 1
  have e2 := kW9.cell 2
  have e3 := kW9.cell 3
  have e4 := kW9.cell 4
  have e5 := kW9.cell 5
  have e6 := kW9.cell 6
  have e7 := kW9.cell 7
  simp only [List.getElem?_toArray, List.getElem?_cons_succ, List.getElem?_cons_zero] at e0 e1 e2 e3 e4 e5 e6 e7
  refine bodyPost_ret (v := .agg #[.int .i64 x.id, .int .i64 x.plan.prio, .int .i64 x.plan.most, .int .i64 x.plan.wait, .int .i64 x.plan.tasks, .slice A x.plan.edges.length ca, .int .i64 x.state, .slice A' x.tasks.length ca']) (by simp [results, Try.results36, go_sem, e0, e1, e2, e3, e4, e5, e6, e7]) rfl ?_
  have hs9 := pW9.size
  refine ⟨_, _, rfl, ?_, Part.to_below hb2 pW9 (Nat.le_refl _) (Nat.le_refl _)⟩
  exact Own_run.mono (Own_run.keep HO.out pW9 (.inr (by omega))) (by omega) hs9 (Nat.le_refl _)
end Go.Proofs.Ytbbjkldkjndfaaa

/- The drawn plan of the laws: DrawPlan. -/
import Derived.Test.YtbbjkldkjndfaaaDrawP
namespace Go.Proofs.Ytbbjkldkjndfaaa
set_option linter.unusedSimpArgs false
open Go.RowKit Go.ChangeShapes Go.Deep

/-- The plan that a code draws. -/
def planDraw (code : List UInt8) : Pln := (planDrawn code (newC code)).1
theorem planDraw_good (code : List UInt8) : PlanGood (planDraw code) := planDrawn_good code _

set_option maxHeartbeats 4000000 in
set_option maxRecDepth 100000 in
theorem drawPlan_any (w : World) (v : Value) (code : List UInt8) (h : Rd w 1 v code.length (bytesV code)) (hn : code.length ≤ 1048576) :
    Calls Try.prog 12 #[v] w (GivesP (planDraw code) w) := by
  obtain ⟨W0, hW0⟩ : ∃ W0, W0 = w.alloc (.cells #[.int .i64 0, .int .i64 0, .int .i64 0, .int .i64 0, .slice none 0 0] 26) := ⟨_, rfl⟩
  have hb0 : Below w.heap.size w W0 := by rw [hW0]; exact (Below.refl _ _).alloc (Nat.le_refl _) _
  have k0 : Blk W0 w.heap.size 26 #[.int .i64 0, .int .i64 0, .int .i64 0, .int .i64 0, .slice none 0 0] := by rw [hW0]; exact Blk.new _ _ _
  have hs0 : W0.heap.size = w.heap.size + 1 := by rw [hW0]; simp
  have hs0' : w.heap.size < W0.heap.size := by omega
  have CN := Lib.hid (l01New_any W0 v code (h.below hb0) hn)
  have HW := Lib.hid hW0
  have HK0 := Lib.hid k0
  obtain ⟨x, hx⟩ : ∃ x, x = planDraw code := ⟨_, rfl⟩
  have CP := Lib.hid (fun w1 B g => l06Plan_any w1 B g v code (newC code))
  rw [show (planDrawn code (newC code)).1 = x from hx.symm] at CP
  rw [← hx]
  clear hW0 k0 h hs0 hx
  go_enter Try.func12, Try.ntmps12
  go_wp2_with fail
  rw [← HW.out]
  refine CN.out.mono ?_
  rintro e w1 ⟨g, rfl, hc1, hb1⟩
  have hgl := hc1.blk.lt
  have hgB := hc1.base
  have HK1 := Lib.hid (HK0.out.belowV hb1)
  have hw1 := hb0.trans (hb1.mono hb0.size)
  have hs1 := hw1.size
  clear CN
  go_wp2_with fail
  refine (CP.out w1 W0.heap.size g hc1).mono ?_
  rintro e w2 ⟨u, rfl, ho, hc2, hg2⟩
  have hb2 : Below w.heap.size w w2 := hw1.grown hg2 hw1.size (by intro k hk; injection hk with hk; omega)
  have ho2 : Own_plan w2 w1.heap.size w2.heap.size u x := ho
  have hl1 : w.heap.size < w1.heap.size := Nat.lt_of_lt_of_le hs0' hb1.size
  obtain ⟨A, c, rfl⟩ := ho2.form
  have HO := Lib.hid ho2
  have k2 := HK1.out.grown hg2 (by simp; omega)
  have HK2 := Lib.hid k2
  obtain ⟨x1, x2, x3, x4, E⟩ := x
  have r0 := k2.cell 0
  have r1 := k2.cell 1
  have r2 := k2.cell 2
  have r3 := k2.cell 3
  have r4 := k2.cell 4
  have rl := k2.lt
  simp only [List.getElem?_toArray, List.getElem?_cons_succ, List.getElem?_cons_zero] at r0 r1 r2 r3 r4
  have rf0 := k2.frozen 0
  have rf1 := k2.frozen 1
  have rf2 := k2.frozen 2
  have rf3 := k2.frozen 3
  have rf4 := k2.frozen 4
  clear ho ho2 hc1 hc2 CP k2
  simp only
  go_wp2_with fail
  clear r0 r1 r2 r3 r4 rl rf0 rf1 rf2 rf3 rf4
  obtain ⟨W9, hW9⟩ : ∃ W, W = (((((w2.setCell ⟨w.heap.size, 0, none⟩ (.int .i64 x1)).setCell ⟨w.heap.size, 1, none⟩ (.int .i64 x2)).setCell ⟨w.heap.size, 2, none⟩ (.int .i64 x3)).setCell ⟨w.heap.size, 3, none⟩ (.int .i64 x4)).setCell ⟨w.heap.size, 4, none⟩ (.slice A E.length c)) := ⟨_, rfl⟩
  rw [← hW9]
  have kW9 : Blk W9 w.heap.size 26 #[.int .i64 x1, .int .i64 x2, .int .i64 x3, .int .i64 x4, .slice A E.length c] := by rw [hW9]; have q := (Blk.set_ (Blk.set_ (Blk.set_ (Blk.set_ (Blk.set_ HK2.out 0 (.int .i64 x1)) 1 (.int .i64 x2)) 2 (.int .i64 x3)) 3 (.int .i64 x4)) 4 (.slice A E.length c)); simpa using q
  have pW9 : Part (w.heap.size) (w.heap.size + 1) w2 W9 := by rw [hW9]; exact (Part.setCell (Part.setCell (Part.setCell (Part.setCell (Part.setCell (Part.refl (w.heap.size) (w.heap.size + 1) w2) (p := ⟨w.heap.size, 0, none⟩) ⟨by simp, by simp⟩ (.int .i64 x1)) (p := ⟨w.heap.size, 1, none⟩) ⟨by simp, by simp⟩ (.int .i64 x2)) (p := ⟨w.heap.size, 2, none⟩) ⟨by simp, by simp⟩ (.int .i64 x3)) (p := ⟨w.heap.size, 3, none⟩) ⟨by simp, by simp⟩ (.int .i64 x4)) (p := ⟨w.heap.size, 4, none⟩) ⟨by simp, by simp⟩ (.slice A E.length c))
  have e0 := kW9.cell 0
  have e1 := kW9.cell 1
  have e2 := kW9.cell 2
  have e3 := kW9.cell 3
  have e4 := kW9.cell 4
  simp only [List.getElem?_toArray, List.getElem?_cons_succ, List.getElem?_cons_zero] at e0 e1 e2 e3 e4
  refine bodyPost_ret (v := .agg #[.int .i64 x1, .int .i64 x2, .int .i64 x3, .int .i64 x4, .slice A E.length c]) (by simp [results, Try.results12, go_sem, e0, e1, e2, e3, e4]) rfl ?_
  refine ⟨_, rfl, ?_, Part.to_below hb2 pW9 (Nat.le_refl _) (Nat.le_refl _)⟩
  exact OwnS.mono (OwnS.keep HO.out pW9 (.inr (by omega))) (by omega) pW9.size (Nat.le_refl _)
end Go.Proofs.Ytbbjkldkjndfaaa

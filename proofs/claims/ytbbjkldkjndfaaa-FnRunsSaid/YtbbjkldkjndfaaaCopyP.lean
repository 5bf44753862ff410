/- Copies of plans, the program's and the reference's. -/
import Derived.Test.YtbbjkldkjndfaaaGC
namespace Go.Proofs.Ytbbjkldkjndfaaa
set_option linter.unusedSimpArgs false
open Go.RowKit Go.ChangeShapes Go.Deep
theorem blk_new1 (w : World) (o : Obj) (t : TypeId) (cs : Array Value) : Blk ((w.alloc o).alloc (.cells cs t)) (w.heap.size + 1) t cs := by
  have q := Blk.new (w.alloc o) t cs
  rwa [show (w.alloc o).heap.size = w.heap.size + 1 by simp] at q

set_option maxHeartbeats 2000000 in
set_option maxRecDepth 100000 in
theorem copyPlan_any (u : Value) (x : Pln) (w : World) (h : Rd_plan w u x) (hn : cost_plan x ≤ 2000000) :
    Calls Try.prog 76 #[.agg #[.int .i64 x.prio, .int .i64 x.most, .int .i64 x.wait, .int .i64 x.tasks, u]] w (GivesP x w) := by
  obtain ⟨x1, x2, x3, x4, E⟩ := x
  obtain ⟨A, c, rfl, hnc, hcm, hr⟩ := h
  unfold cost_plan at hn
  simp only at hn hnc hr
  obtain ⟨i0, hi, hz0, hz1, hz2⟩ := info_parts Try.infoEdg
  unfold maxLen at hcm
  have h1 := edgV_one E
  have HR := Lib.hid hr
  clear hr
  simp only
  go_enter Try.func76, Try.ntmps76
  go_wp2_with (at_builtin; refine wpList_append_any _ rfl _ _ _ rfl w.heap.size _ i0 _ 2 16 Try.underlying24 hi hz0 hz1 hz2 rfl (by decide) (.slice none 0 0) 0 [] rfl ⟨by simp, .inl ⟨rfl, rfl⟩⟩ w.heap.size A E.length c (edgV E) rfl (Reads.below HR.out (by exact (by repeat first | exact Below.refl _ _ | assumption | refine Below.drew ?_ | refine below_drewN ?_ _ | refine Below.calm ?_ (by first | exact Nat.le_refl _ | (simp; done) | (simp; omega) | omega) | refine Below.alloc ?_ (by first | exact Nat.le_refl _ | (simp; done) | (simp; omega) | omega) _ | refine Below.setCell ?_ (by first | exact Nat.le_refl _ | (simp; done) | (simp; omega) | omega) _))) h1 (by unfold maxLen; omega) (by omega) (by simp; try omega) ?_; intro v1 w1 ho1 hg1 hat1; rw [Nat.zero_add, List.nil_append] at ho1; obtain ⟨A2, c2, rfl, -, -⟩ := (Rd.of_own ho1).shape; have hk1 := (Below.refl (w.heap.size + 2) _).grown hg1 (by simp; try omega) (fun g hg => by cases hg <;> (simp; try omega)); have hb1 := (Below.refl w.heap.size _).grown hg1 (by simp; try omega) (fun g hg => by cases hg <;> (simp; try omega)); have hsz := hg1.size; simp at hsz; have kp := Blk.below (t := 26) (cs := #[.int .i64 x1, .int .i64 x2, .int .i64 x3, .int .i64 x4, .slice A E.length c]) (by first | exact (Blk.new _ _ _).alloc _ | exact ((Blk.new _ _ _).alloc _).alloc _) hk1 (by omega); have kr := Blk.below (g := w.heap.size + 1) (t := 26) (cs := #[.int .i64 0, .int .i64 0, .int .i64 0, .int .i64 0, .slice none 0 0]) (by first | exact blk_new1 _ _ _ _ | exact (blk_new1 _ _ _ _).alloc _) hk1 (by omega); have p0 := kp.cell 0; have p1 := kp.cell 1; have p2 := kp.cell 2; have p3 := kp.cell 3; have p4 := kp.cell 4; have z4 := kp.frozen 4; have r0 := kr.cell 0; have r1 := kr.cell 1; have r2 := kr.cell 2; have r3 := kr.cell 3; have r4 := kr.cell 4; have f0 := kr.frozen 0; have f1 := kr.frozen 1; have f2 := kr.frozen 2; have f3 := kr.frozen 3; have f4 := kr.frozen 4; simp only [List.getElem?_toArray, List.getElem?_cons_succ, List.getElem?_cons_zero] at p0 p1 p2 p3 p4 r0 r1 r2 r3 r4; clear kp kr; have HOW := Lib.hid ho1; have HAT := Lib.hid hat1; have HB1 := Lib.hid hb1; clear ho1 hat1 hk1 hb1 hg1)
  have hw1 : Below w.heap.size w w1 := Below.trans (by exact (by repeat first | exact Below.refl _ _ | assumption | refine Below.drew ?_ | refine below_drewN ?_ _ | refine Below.calm ?_ (by first | exact Nat.le_refl _ | (simp; done) | (simp; omega) | omega) | refine Below.alloc ?_ (by first | exact Nat.le_refl _ | (simp; done) | (simp; omega) | omega) _ | refine Below.setCell ?_ (by first | exact Nat.le_refl _ | (simp; done) | (simp; omega) | omega) _)) HB1.out
  have hlo : ∀ g, (Value.slice A2 E.length c2).ownBlock = some g → w.heap.size + 2 ≤ g + 0 ∧ g < w1.heap.size := fun g hg => by
    have hlt := HOW.out.lt g hg
    rcases HAT.out with e | e <;> (rw [hg] at e; simp [Value.ownBlock] at e; try omega)
  have ho : w1.ownsRow (w.heap.size + 2) 39 2 (.slice A2 E.length c2) E.length (edgV E) := by
    obtain ⟨e1, e2⟩ := HOW.out
    refine ⟨e1, e2.imp id ?_⟩
    rintro ⟨g, cap, cur, e, hb, hr⟩
    exact ⟨g, cap, cur, e, by have := (hlo g (by rw [e]; rfl)).1; omega, hr⟩
  refine bodyPost_ret (v := .agg #[.int .i64 x1, .int .i64 x2, .int .i64 x3, .int .i64 x4, .slice A2 E.length c2]) (by simp [results, Try.results76, go_sem, p0, p1, p2, p3, p4, r0, r1, r2, r3, r4]) rfl ⟨_, rfl, ?_, (by repeat' first | (with_reducible exact Below.refl _ _) | (with_reducible assumption) | (with_reducible refine Below.setCell ?_ ?_ _) | (with_reducible refine Below.alloc ?_ ?_ _) | (with_reducible refine Below.drew ?_) | (with_reducible refine below_drewN ?_ _) | (with_reducible refine Below.calm ?_ ?_) | exact Nat.le_refl _ | (simp; done) | (simp; omega) | omega)⟩
  have hp : Part w.heap.size (w.heap.size + 2) w1 _ := ((((((Part.refl w.heap.size (w.heap.size + 2) w1).setCell (p := ⟨w.heap.size, 4, none⟩) ⟨by simp, by simp⟩ (.slice A2 E.length c2)).setCell (p := ⟨w.heap.size + 1, 0, none⟩) ⟨by simp, by simp⟩ (.int .i64 x1)).setCell (p := ⟨w.heap.size + 1, 1, none⟩) ⟨by simp, by simp⟩ (.int .i64 x2)).setCell (p := ⟨w.heap.size + 1, 2, none⟩) ⟨by simp, by simp⟩ (.int .i64 x3)).setCell (p := ⟨w.heap.size + 1, 3, none⟩) ⟨by simp, by simp⟩ (.int .i64 x4)).setCell (p := ⟨w.heap.size + 1, 4, none⟩) ⟨by simp, by simp⟩ (.slice A2 E.length c2)
  exact OwnS.mono (OwnS.keep (OwnS.of_own ho) hp (.inr (by simp))) (by simp; try omega) (by simp [World.setCell]) (Nat.le_refl _)

set_option maxHeartbeats 2000000 in
set_option maxRecDepth 100000 in
theorem l06Copy_any (u : Value) (x : Pln) (w : World) (h : Rd_plan w u x) (hn : cost_plan x ≤ 2000000) :
    Calls Try.prog 94 #[.agg #[.int .i64 x.prio, .int .i64 x.most, .int .i64 x.wait, .int .i64 x.tasks, u]] w (GivesP x w) := by
  obtain ⟨x1, x2, x3, x4, E⟩ := x
  obtain ⟨A, c, rfl, hnc, hcm, hr⟩ := h
  unfold cost_plan at hn
  simp only at hn hnc hr
  obtain ⟨i0, hi, hz0, hz1, hz2⟩ := info_parts Try.infoEdg
  unfold maxLen at hcm
  have h1 := edgV_one E
  have HR := Lib.hid hr
  clear hr
  simp only
  go_enter Try.func94, Try.ntmps94
  go_wp2_with (at_builtin; refine wpList_append_any _ rfl _ _ _ rfl w.heap.size _ i0 _ 2 16 Try.underlying24 hi hz0 hz1 hz2 rfl (by decide) (.slice (some ⟨w.heap.size + 1 + 1, 0, none⟩) 0 0) 0 [] (by rfl) (made0 (by simp) (by omega)) w.heap.size A E.length c (edgV E) rfl (Reads.below HR.out (by exact (by repeat first | exact Below.refl _ _ | assumption | refine Below.drew ?_ | refine below_drewN ?_ _ | refine Below.calm ?_ (by first | exact Nat.le_refl _ | (simp; done) | (simp; omega) | omega) | refine Below.alloc ?_ (by first | exact Nat.le_refl _ | (simp; done) | (simp; omega) | omega) _ | refine Below.setCell ?_ (by first | exact Nat.le_refl _ | (simp; done) | (simp; omega) | omega) _))) h1 (by unfold maxLen; omega) (by omega) (by simp; try omega) ?_; intro v1 w1 ho1 hg1 hat1; rw [Nat.zero_add, List.nil_append] at ho1; obtain ⟨A2, c2, rfl, -, -⟩ := (Rd.of_own ho1).shape; have hk1 := (Below.refl (w.heap.size + 2) _).grown hg1 (by simp; try omega) (fun g hg => by cases hg <;> (simp; try omega)); have hb1 := (Below.refl w.heap.size _).grown hg1 (by simp; try omega) (fun g hg => by cases hg <;> (simp; try omega)); have hsz := hg1.size; simp at hsz; have kp := Blk.below (t := 26) (cs := #[.int .i64 x1, .int .i64 x2, .int .i64 x3, .int .i64 x4, .slice A E.length c]) (by first | exact (Blk.new _ _ _).alloc _ | exact ((Blk.new _ _ _).alloc _).alloc _) hk1 (by omega); have kr := Blk.below (g := w.heap.size + 1) (t := 26) (cs := #[.int .i64 0, .int .i64 0, .int .i64 0, .int .i64 0, .slice none 0 0]) (by first | exact blk_new1 _ _ _ _ | exact (blk_new1 _ _ _ _).alloc _) hk1 (by omega); have p0 := kp.cell 0; have p1 := kp.cell 1; have p2 := kp.cell 2; have p3 := kp.cell 3; have p4 := kp.cell 4; have z4 := kp.frozen 4; have r0 := kr.cell 0; have r1 := kr.cell 1; have r2 := kr.cell 2; have r3 := kr.cell 3; have r4 := kr.cell 4; have f0 := kr.frozen 0; have f1 := kr.frozen 1; have f2 := kr.frozen 2; have f3 := kr.frozen 3; have f4 := kr.frozen 4; simp only [List.getElem?_toArray, List.getElem?_cons_succ, List.getElem?_cons_zero] at p0 p1 p2 p3 p4 r0 r1 r2 r3 r4; clear kp kr; have HOW := Lib.hid ho1; have HAT := Lib.hid hat1; have HB1 := Lib.hid hb1; clear ho1 hat1 hk1 hb1 hg1)
  have hw1 : Below w.heap.size w w1 := Below.trans (by exact (by repeat first | exact Below.refl _ _ | assumption | refine Below.drew ?_ | refine below_drewN ?_ _ | refine Below.calm ?_ (by first | exact Nat.le_refl _ | (simp; done) | (simp; omega) | omega) | refine Below.alloc ?_ (by first | exact Nat.le_refl _ | (simp; done) | (simp; omega) | omega) _ | refine Below.setCell ?_ (by first | exact Nat.le_refl _ | (simp; done) | (simp; omega) | omega) _)) HB1.out
  have hlo : ∀ g, (Value.slice A2 E.length c2).ownBlock = some g → w.heap.size + 2 ≤ g + 0 ∧ g < w1.heap.size := fun g hg => by
    have hlt := HOW.out.lt g hg
    rcases HAT.out with e | e <;> (rw [hg] at e; simp [Value.ownBlock] at e; try omega)
  have ho : w1.ownsRow (w.heap.size + 2) 39 2 (.slice A2 E.length c2) E.length (edgV E) := by
    obtain ⟨e1, e2⟩ := HOW.out
    refine ⟨e1, e2.imp id ?_⟩
    rintro ⟨g, cap, cur, e, hb, hr⟩
    exact ⟨g, cap, cur, e, by have := (hlo g (by rw [e]; rfl)).1; omega, hr⟩
  refine bodyPost_ret (v := .agg #[.int .i64 x1, .int .i64 x2, .int .i64 x3, .int .i64 x4, .slice A2 E.length c2]) (by simp [results, Try.results94, go_sem, p0, p1, p2, p3, p4, r0, r1, r2, r3, r4]) rfl ⟨_, rfl, ?_, (by repeat' first | (with_reducible exact Below.refl _ _) | (with_reducible assumption) | (with_reducible refine Below.setCell ?_ ?_ _) | (with_reducible refine Below.alloc ?_ ?_ _) | (with_reducible refine Below.drew ?_) | (with_reducible refine below_drewN ?_ _) | (with_reducible refine Below.calm ?_ ?_) | exact Nat.le_refl _ | (simp; done) | (simp; omega) | omega)⟩
  have hp : Part w.heap.size (w.heap.size + 2) w1 _ := ((((((Part.refl w.heap.size (w.heap.size + 2) w1).setCell (p := ⟨w.heap.size, 4, none⟩) ⟨by simp, by simp⟩ (.slice A2 E.length c2)).setCell (p := ⟨w.heap.size + 1, 0, none⟩) ⟨by simp, by simp⟩ (.int .i64 x1)).setCell (p := ⟨w.heap.size + 1, 1, none⟩) ⟨by simp, by simp⟩ (.int .i64 x2)).setCell (p := ⟨w.heap.size + 1, 2, none⟩) ⟨by simp, by simp⟩ (.int .i64 x3)).setCell (p := ⟨w.heap.size + 1, 3, none⟩) ⟨by simp, by simp⟩ (.int .i64 x4)).setCell (p := ⟨w.heap.size + 1, 4, none⟩) ⟨by simp, by simp⟩ (.slice A2 E.length c2)
  exact OwnS.mono (OwnS.keep (OwnS.of_own ho) hp (.inr (by simp))) (by simp; try omega) (by simp [World.setCell]) (Nat.le_refl _)

end Go.Proofs.Ytbbjkldkjndfaaa

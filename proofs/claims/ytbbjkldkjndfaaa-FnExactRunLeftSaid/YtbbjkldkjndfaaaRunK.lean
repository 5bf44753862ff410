/- Runs: copies, sizes, comparisons and marks of the laws. -/
import Derived.Test.YtbbjkldkjndfaaaPlanK
import Derived.Test.YtbbjkldkjndfaaaTskK
namespace Go.Proofs.Ytbbjkldkjndfaaa
set_option linter.unusedSimpArgs false
set_option maxRecDepth 100000
open Go.RowKit Go.ChangeShapes Go.WideShapes Go.ChangeAt Go.Deep Go.Joins

structure Rn where
  id : Int
  plan : Pln
  state : Int
  tasks : List Tsk
def cost_run (x : Rn) : Nat := x.plan.edges.length + x.tasks.length
def cells_run (x : Rn) : Nat := x.plan.edges.length * 2 + x.tasks.length * 4
theorem cells_le_run (x : Rn) : cells_run x ≤ 4 * cost_run x := by unfold cells_run cost_run; omega
def Rd_run (w : World) (u v : Value) (x : Rn) : Prop := Rd_edgs w u x.plan.edges ∧ Rd_tsks w v x.tasks
def Own_run (w : World) (lo hi : Nat) (u v : Value) (x : Rn) : Prop := ∃ m, lo ≤ m ∧ m ≤ hi ∧ Own_edgs w lo m u x.plan.edges ∧ Own_tsks w m hi v x.tasks
def Held_run (w : World) (lo hi : Nat) (u v : Value) (x : Rn) (k : Int) : Prop := ∃ m, lo ≤ m ∧ m ≤ hi ∧ Held_edgs w lo m u x.plan.edges.length k ∧ Held_tsks w m hi v x.tasks.length (k + ((x.plan.edges.length * 2 : Nat) : Int))
section
variable {w w' : World} {lo hi lo' hi' : Nat} {u v : Value} {x : Rn} {k : Int}
theorem Rd_run.below (h : Rd_run w u v x) (hb : Below w.heap.size w w') : Rd_run w' u v x := ⟨Rd.below h.1 hb, Rd.below h.2 hb⟩
theorem Own_run.rd (h : Own_run w lo hi u v x) : Rd_run w u v x := by obtain ⟨m, _, _, h1, h2⟩ := h; exact ⟨OwnS.rd h1, OwnS.rd h2⟩
theorem Own_run.below (h : Own_run w lo hi u v x) (hb : Below w.heap.size w w') : Own_run w' lo hi u v x := by obtain ⟨m, a, b, h1, h2⟩ := h; exact ⟨m, a, b, OwnS.below h1 hb, OwnS.below h2 hb⟩
theorem Own_run.keep (h : Own_run w lo hi u v x) (hp : Part lo' hi' w w') (ha : hi ≤ lo' ∨ hi' ≤ lo) : Own_run w' lo hi u v x := by obtain ⟨m, a, b, h1, h2⟩ := h; exact ⟨m, a, b, OwnS.keep h1 hp (by omega), OwnS.keep h2 hp (by omega)⟩
theorem Held_run.below (h : Held_run w lo hi u v x k) (hb : Below w.heap.size w w') : Held_run w' lo hi u v x k := by obtain ⟨m, a, b, h1, h2⟩ := h; exact ⟨m, a, b, OwnS.below h1 hb, OwnS.below h2 hb⟩
theorem Held_run.keep (h : Held_run w lo hi u v x k) (hp : Part lo' hi' w w') (ha : hi ≤ lo' ∨ hi' ≤ lo) : Held_run w' lo hi u v x k := by obtain ⟨m, a, b, h1, h2⟩ := h; exact ⟨m, a, b, OwnS.keep h1 hp (by omega), OwnS.keep h2 hp (by omega)⟩
theorem Own_run.form (h : Own_run w lo hi u v x) : ∃ A c A' c', u = .slice A x.plan.edges.length c ∧ v = .slice A' x.tasks.length c' := by
  obtain ⟨h1, h2⟩ := h.rd
  obtain ⟨A, c, e1, -, -⟩ := Rd.shape h1
  obtain ⟨A', c', e2, -, -⟩ := Rd.shape h2
  exact ⟨A, c, A', c', e1, e2⟩
end
/-- What a call leaves that hands back a run of its own. -/
def GivesR (x : Rn) (w0 : World) (e : Ending) (w' : World) : Prop := ∃ u v, e = .returned (.agg #[.int .i64 x.id, .int .i64 x.plan.prio, .int .i64 x.plan.most, .int .i64 x.plan.wait, .int .i64 x.plan.tasks, u, .int .i64 x.state, v]) ∧ Own_run w' w0.heap.size w'.heap.size u v x ∧ Below w0.heap.size w0 w'
def GivesRB (x : Rn) (b : Bool) (w0 : World) (e : Ending) (w' : World) : Prop := ∃ u v, e = .returned (.tuple #[.agg #[.int .i64 x.id, .int .i64 x.plan.prio, .int .i64 x.plan.most, .int .i64 x.plan.wait, .int .i64 x.plan.tasks, u, .int .i64 x.state, v], .bool b]) ∧ Own_run w' w0.heap.size w'.heap.size u v x ∧ Below w0.heap.size w0 w'
def RV (x : Rn) (u v : Value) : Value := .agg #[.int .i64 x.id, .int .i64 x.plan.prio, .int .i64 x.plan.most, .int .i64 x.plan.wait, .int .i64 x.plan.tasks, u, .int .i64 x.state, v]

theorem szv_add {left : Int} {a b : Nat} (h : ¬ szv left a < 0) (_ : 0 ≤ left) : szv left a = left - a ∧ szv (left - a) b = szv left (a + b) := by
  unfold szv at *
  by_cases h1 : left - a < 0
  · rw [if_pos h1] at h; omega
  · rw [if_neg h1]
    refine ⟨rfl, ?_⟩
    by_cases h2 : left - a - b < 0
    · rw [if_pos h2, if_pos (by omega)]
    · rw [if_neg h2, if_neg (by omega)]; omega
theorem szv_neg {left : Int} {a b : Nat} (h : szv left a < 0) (_ : 0 ≤ left) : szv left (a + b) = -1 := by
  unfold szv at *
  by_cases h1 : left - a < 0
  · rw [if_pos (by omega)]
  · rw [if_neg h1] at h; omega
theorem szv_m1 {left : Int} {a : Nat} (h : szv left a < 0) : szv left a = -1 := by
  unfold szv at *
  by_cases h1 : left - a < 0
  · rw [if_pos h1]
  · rw [if_neg h1] at h; omega

set_option maxHeartbeats 1000000 in
theorem sz_run (u v : Value) (x : Rn) (left : Int) (w : World) (h : Rd_run w u v x) (h0 : 0 ≤ left) (h1 : left ≤ 1048576) :
    Calls Try.prog 48 #[.agg #[.int .i64 x.id, .int .i64 x.plan.prio, .int .i64 x.plan.most, .int .i64 x.plan.wait, .int .i64 x.plan.tasks, u, .int .i64 x.state, v], .int .i64 left] w fun e w' => e = .returned (.int .i64 (szv left (cost_run x))) ∧ Below w.heap.size w w' := by
  obtain ⟨xi, xp, xs, ts⟩ := x
  obtain ⟨h2, h3⟩ := h
  simp only at h2 h3
  obtain ⟨W0, hW0⟩ : ∃ W0, W0 = w.alloc (.cells #[.int .i64 xi, .int .i64 xp.prio, .int .i64 xp.most, .int .i64 xp.wait, .int .i64 xp.tasks, u, .int .i64 xs, v] 65) := ⟨_, rfl⟩
  have hb0 : Below w.heap.size w W0 := by rw [hW0]; exact (Below.refl _ _).alloc (Nat.le_refl _) _
  have k0 : Blk W0 w.heap.size 65 #[.int .i64 xi, .int .i64 xp.prio, .int .i64 xp.most, .int .i64 xp.wait, .int .i64 xp.tasks, u, .int .i64 xs, v] := by rw [hW0]; exact Blk.new _ _ _
  have HK := Lib.hid k0
  have C := Lib.hid (sz_plan u xp left W0 (Rd.below h2 hb0) h0 h1)
  have HW := Lib.hid hW0
  have HT := Lib.hid h3
  obtain ⟨q, hq⟩ : ∃ q, q = szv left (cost_plan xp) := ⟨_, rfl⟩
  rw [← hq] at C
  obtain ⟨r, hr⟩ : ∃ r, r = szv left (cost_run ⟨xi, xp, xs, ts⟩) := ⟨_, rfl⟩
  rw [← hr]
  by_cases hn : q < 0
  · have hq1 : q = -1 := by rw [hq] at hn ⊢; exact szv_m1 hn
    have hr1 : r = -1 := by rw [hr]; rw [hq] at hn; exact szv_neg hn h0
    subst hr1
    clear hq hr hn
    subst hq1
    clear h2 h3 k0 hW0
    go_enter Try.func48, Try.ntmps48
    go_wp2_with fail
    rw [← HW.out]
    refine C.out.mono ?_
    rintro e w1 ⟨rfl, hb1⟩
    go_wp2_with fail
    go_ret
    exact ⟨rfl, hb0.trans (hb1.mono hb0.size)⟩
  · obtain ⟨e1, e2⟩ := szv_add (b := ts.length) (show ¬ szv left (cost_plan xp) < 0 by rw [← hq]; exact hn) h0
    have hr1 : szv q ts.length = r := by rw [hr, hq, e1, e2]; rfl
    have hq0 : 0 ≤ q := by omega
    have hq1 : q ≤ left := by rw [hq, e1]; omega
    have CT := Lib.hid (fun (W : World) (hW : Below w.heap.size w W) => szTaskS_any v ts q W (Rd.below HT.out hW) hq0 (by omega))
    rw [hr1] at CT
    have hr2 : r < 0 → r = -1 := fun h => by rw [← hr1] at h ⊢; exact szv_m1 h
    clear h2 h3 k0 hW0 e1 e2 hr1 hr hq
    by_cases hrn : r < 0
    · have hh := hr2 hrn
      subst hh
      clear hr2
      go_enter Try.func48, Try.ntmps48
      go_wp2_with fail
      rw [← HW.out]
      refine C.out.mono ?_
      rintro e w1 ⟨rfl, hb1⟩
      have hw1 := hb0.trans (hb1.mono hb0.size)
      have kp := HK.out.belowV hb1
      have p7 := kp.cell 7
      simp only [List.getElem?_toArray, List.getElem?_cons_succ, List.getElem?_cons_zero] at p7
      have hpl := kp.lt
      clear kp
      go_wp2_with fail
      refine (CT.out _ hw1).mono ?_
      rintro e w2 ⟨rfl, rfl⟩
      go_wp2_with fail
      go_ret
      exact ⟨rfl, hw1⟩
    · clear hr2
      go_enter Try.func48, Try.ntmps48
      go_wp2_with fail
      rw [← HW.out]
      refine C.out.mono ?_
      rintro e w1 ⟨rfl, hb1⟩
      have hw1 := hb0.trans (hb1.mono hb0.size)
      have kp := HK.out.belowV hb1
      have p7 := kp.cell 7
      simp only [List.getElem?_toArray, List.getElem?_cons_succ, List.getElem?_cons_zero] at p7
      have hpl := kp.lt
      clear kp
      go_wp2_with fail
      refine (CT.out _ hw1).mono ?_
      rintro e w2 ⟨rfl, rfl⟩
      go_wp2_with fail
      go_ret
      exact ⟨rfl, hw1⟩

set_option maxHeartbeats 2000000 in
theorem to_run (u v : Value) (x : Rn) (w : World) (h : Rd_run w u v x) (hn : cost_run x ≤ 1048576) :
    Calls Try.prog 49 #[.agg #[.int .i64 x.id, .int .i64 x.plan.prio, .int .i64 x.plan.most, .int .i64 x.plan.wait, .int .i64 x.plan.tasks, u, .int .i64 x.state, v]] w (GivesR x w) := by
  obtain ⟨xi, xp, xs, ts⟩ := x
  obtain ⟨h2, h3⟩ := h
  unfold cost_run at hn
  simp only at h2 h3 hn
  have HP := Lib.hid h2
  have HT := Lib.hid h3
  obtain ⟨W0, hW0⟩ : ∃ W0, W0 = ((w.alloc (.cells #[.int .i64 xi, .int .i64 xp.prio, .int .i64 xp.most, .int .i64 xp.wait, .int .i64 xp.tasks, u, .int .i64 xs, v] 65)).alloc (.cells #[.int .i64 0, .int .i64 0, .int .i64 0, .int .i64 0, .int .i64 0, .slice none 0 0, .int .i64 0, .slice none 0 0] 52)).alloc (.cells #[.int .i64 xi, .int .i64 0, .int .i64 0, .int .i64 0, .int .i64 0, .slice none 0 0, .int .i64 0, .slice none 0 0] 52) := ⟨_, rfl⟩
  have hb0 : Below w.heap.size w W0 := by rw [hW0]; exact (by repeat' first | (with_reducible exact Below.refl _ _) | (with_reducible assumption) | (with_reducible refine Below.setCell ?_ ?_ _) | (with_reducible refine Below.alloc ?_ ?_ _) | (with_reducible refine Below.drew ?_) | (with_reducible refine below_drewN ?_ _) | (with_reducible refine Below.calm ?_ ?_) | exact Nat.le_refl _ | (simp; done) | (simp; omega) | omega)
  have hz0 : W0.heap.size = w.heap.size + 3 := by rw [hW0]; simp
  have ka : Blk W0 w.heap.size 65 #[.int .i64 xi, .int .i64 xp.prio, .int .i64 xp.most, .int .i64 xp.wait, .int .i64 xp.tasks, u, .int .i64 xs, v] := by rw [hW0]; exact ((Blk.new _ _ _).alloc _).alloc _
  have ko : Blk W0 (w.heap.size + 1 + 1) 52 #[.int .i64 xi, .int .i64 0, .int .i64 0, .int .i64 0, .int .i64 0, .slice none 0 0, .int .i64 0, .slice none 0 0] := by
    rw [hW0]
    have q := Blk.new ((w.alloc (.cells #[.int .i64 xi, .int .i64 xp.prio, .int .i64 xp.most, .int .i64 xp.wait, .int .i64 xp.tasks, u, .int .i64 xs, v] 65)).alloc (.cells #[.int .i64 0, .int .i64 0, .int .i64 0, .int .i64 0, .int .i64 0, .slice none 0 0, .int .i64 0, .slice none 0 0] 52)) 52 #[.int .i64 xi, .int .i64 0, .int .i64 0, .int .i64 0, .int .i64 0, .slice none 0 0, .int .i64 0, .slice none 0 0]
    rwa [show ((w.alloc (.cells #[.int .i64 xi, .int .i64 xp.prio, .int .i64 xp.most, .int .i64 xp.wait, .int .i64 xp.tasks, u, .int .i64 xs, v] 65)).alloc (.cells #[.int .i64 0, .int .i64 0, .int .i64 0, .int .i64 0, .int .i64 0, .slice none 0 0, .int .i64 0, .slice none 0 0] 52)).heap.size = w.heap.size + 1 + 1 by simp] at q
  have kr : Blk W0 (w.heap.size + 1) 52 #[.int .i64 0, .int .i64 0, .int .i64 0, .int .i64 0, .int .i64 0, .slice none 0 0, .int .i64 0, .slice none 0 0] := by
    rw [hW0]
    have q := Blk.new (w.alloc (.cells #[.int .i64 xi, .int .i64 xp.prio, .int .i64 xp.most, .int .i64 xp.wait, .int .i64 xp.tasks, u, .int .i64 xs, v] 65)) 52 #[.int .i64 0, .int .i64 0, .int .i64 0, .int .i64 0, .int .i64 0, .slice none 0 0, .int .i64 0, .slice none 0 0]
    rw [show (w.alloc (.cells #[.int .i64 xi, .int .i64 xp.prio, .int .i64 xp.most, .int .i64 xp.wait, .int .i64 xp.tasks, u, .int .i64 xs, v] 65)).heap.size = w.heap.size + 1 by simp] at q
    exact q.alloc _
  have HW0 := Lib.hid hW0
  have HKA := Lib.hid ka
  have HKO := Lib.hid ko
  have HKR := Lib.hid kr
  have HZ0 := Lib.hid hz0
  clear h2 h3 hW0 ka ko kr hz0
  go_enter Try.func49, Try.ntmps49
  go_wp2_with fail
  rw [← HW0.out]
  refine (to_plan u xp _ (Rd.below HP.out hb0) (by unfold cost_plan; omega)).mono ?_
  rintro e w1 ⟨u1, rfl, ho1, hb1⟩
  obtain ⟨A1, c1, rfl⟩ := ho1.form
  have hw1 := hb0.trans (hb1.mono hb0.size)
  have ka := HKA.out.belowV hb1
  have ko := HKO.out.belowV hb1
  have p6 := ka.cell 6
  have p7 := ka.cell 7
  have z1 := ko.frozen 1
  have z2 := ko.frozen 2
  have z3 := ko.frozen 3
  have z4 := ko.frozen 4
  have z5 := ko.frozen 5
  have z6 := ko.frozen 6
  have c1' := ko.cell 1
  have c2' := ko.cell 2
  have c3' := ko.cell 3
  have c4' := ko.cell 4
  have c5' := ko.cell 5
  have c6' := ko.cell 6
  simp only [List.getElem?_toArray, List.getElem?_cons_succ, List.getElem?_cons_zero] at p6 p7 c1' c2' c3' c4' c5' c6'
  have hal := ka.lt
  have hol := ko.lt
  have HO1 := Lib.hid ho1
  have HKA1 := Lib.hid ka
  have HKO1 := Lib.hid ko
  have HKR1 := Lib.hid (HKR.out.belowV hb1)
  clear ka ko ho1
  go_wp2_with fail
  obtain ⟨W2, hW2⟩ : ∃ W2, W2 = ((((((w1.setCell ⟨w.heap.size + 1 + 1, 1, none⟩ (.int .i64 xp.prio)).setCell ⟨w.heap.size + 1 + 1, 2, none⟩ (.int .i64 xp.most)).setCell ⟨w.heap.size + 1 + 1, 3, none⟩ (.int .i64 xp.wait)).setCell ⟨w.heap.size + 1 + 1, 4, none⟩ (.int .i64 xp.tasks)).setCell ⟨w.heap.size + 1 + 1, 5, none⟩ (.slice A1 xp.edges.length c1)).setCell ⟨w.heap.size + 1 + 1, 6, none⟩ (.int .i64 xs)) := ⟨_, rfl⟩
  rw [← hW2]
  have ko2 : Blk W2 (w.heap.size + 1 + 1) 52 #[.int .i64 xi, .int .i64 xp.prio, .int .i64 xp.most, .int .i64 xp.wait, .int .i64 xp.tasks, .slice A1 xp.edges.length c1, .int .i64 xs, .slice none 0 0] := by
    rw [hW2]
    have q := ((((((HKO1.out.set_ 1 (.int .i64 xp.prio)).set_ 2 (.int .i64 xp.most)).set_ 3 (.int .i64 xp.wait)).set_ 4 (.int .i64 xp.tasks)).set_ 5 (.slice A1 xp.edges.length c1)).set_ 6 (.int .i64 xs))
    simpa using q
  have kr2 : Blk W2 (w.heap.size + 1) 52 #[.int .i64 0, .int .i64 0, .int .i64 0, .int .i64 0, .int .i64 0, .slice none 0 0, .int .i64 0, .slice none 0 0] := by
    rw [hW2]; exact (Blk.far (Blk.far (Blk.far (Blk.far (Blk.far (Blk.far HKR1.out (p := ⟨w.heap.size + 1 + 1, 1, none⟩) (by simp) (.int .i64 xp.prio)) (p := ⟨w.heap.size + 1 + 1, 2, none⟩) (by simp) (.int .i64 xp.most)) (p := ⟨w.heap.size + 1 + 1, 3, none⟩) (by simp) (.int .i64 xp.wait)) (p := ⟨w.heap.size + 1 + 1, 4, none⟩) (by simp) (.int .i64 xp.tasks)) (p := ⟨w.heap.size + 1 + 1, 5, none⟩) (by simp) (.slice A1 xp.edges.length c1)) (p := ⟨w.heap.size + 1 + 1, 6, none⟩) (by simp) (.int .i64 xs))
  have hp2 : Part (w.heap.size + 1) (w.heap.size + 3) w1 W2 := by rw [hW2]; exact (Part.setCell ((Part.setCell ((Part.setCell ((Part.setCell ((Part.setCell ((Part.setCell (Part.refl (w.heap.size + 1) (w.heap.size + 3) w1) (p := ⟨w.heap.size + 1 + 1, 1, none⟩) ⟨by simp, by simp⟩ (.int .i64 xp.prio))) (p := ⟨w.heap.size + 1 + 1, 2, none⟩) ⟨by simp, by simp⟩ (.int .i64 xp.most))) (p := ⟨w.heap.size + 1 + 1, 3, none⟩) ⟨by simp, by simp⟩ (.int .i64 xp.wait))) (p := ⟨w.heap.size + 1 + 1, 4, none⟩) ⟨by simp, by simp⟩ (.int .i64 xp.tasks))) (p := ⟨w.heap.size + 1 + 1, 5, none⟩) ⟨by simp, by simp⟩ (.slice A1 xp.edges.length c1))) (p := ⟨w.heap.size + 1 + 1, 6, none⟩) ⟨by simp, by simp⟩ (.int .i64 xs))
  have hw2 : Below w.heap.size w W2 := by rw [hW2]; exact (Below.setCell (Below.setCell (Below.setCell (Below.setCell (Below.setCell (Below.setCell hw1 (p := ⟨w.heap.size + 1 + 1, 1, none⟩) (by simp; omega) (.int .i64 xp.prio)) (p := ⟨w.heap.size + 1 + 1, 2, none⟩) (by simp; omega) (.int .i64 xp.most)) (p := ⟨w.heap.size + 1 + 1, 3, none⟩) (by simp; omega) (.int .i64 xp.wait)) (p := ⟨w.heap.size + 1 + 1, 4, none⟩) (by simp; omega) (.int .i64 xp.tasks)) (p := ⟨w.heap.size + 1 + 1, 5, none⟩) (by simp; omega) (.slice A1 xp.edges.length c1)) (p := ⟨w.heap.size + 1 + 1, 6, none⟩) (by simp; omega) (.int .i64 xs))
  have HO2 := Lib.hid (Own_plan.keep HO1.out hp2 (.inr (by rw [HZ0.out]; exact Nat.le_refl _)))
  have HKO2 := Lib.hid ko2
  have HKR2 := Lib.hid kr2
  clear hW2 ko2 kr2 hp2 p6 p7 z1 z2 z3 z4 z5 z6 c1' c2' c3' c4' c5' c6' hal hol
  refine (toTaskS_any v ts W2 (Rd.below HT.out hw2) (by omega)).mono ?_
  rintro e w3 ⟨v2, rfl, ho3, hb3⟩
  obtain ⟨A2, c2, rfl, -, -⟩ := (Rd.of_own ho3).shape
  have hw3 := hw2.trans (hb3.mono hw2.size)
  have HKO3 := Lib.hid (HKO2.out.belowV hb3)
  have HKR3 := Lib.hid (HKR2.out.belowV hb3)
  have HO3 := Lib.hid (Own_plan.below HO2.out hb3)
  have HOT := Lib.hid ho3
  have k0 := HKO3.out.cell 0
  have k1 := HKO3.out.cell 1
  have k2 := HKO3.out.cell 2
  have k3 := HKO3.out.cell 3
  have k4 := HKO3.out.cell 4
  have k5 := HKO3.out.cell 5
  have k6 := HKO3.out.cell 6
  have k7 := HKO3.out.cell 7
  have z7 := HKO3.out.frozen 7
  have r0 := HKR3.out.cell 0
  have r1 := HKR3.out.cell 1
  have r2 := HKR3.out.cell 2
  have r3 := HKR3.out.cell 3
  have r4 := HKR3.out.cell 4
  have r5 := HKR3.out.cell 5
  have r6 := HKR3.out.cell 6
  have r7 := HKR3.out.cell 7
  have f0 := HKR3.out.frozen 0
  have f1 := HKR3.out.frozen 1
  have f2 := HKR3.out.frozen 2
  have f3 := HKR3.out.frozen 3
  have f4 := HKR3.out.frozen 4
  have f5 := HKR3.out.frozen 5
  have f6 := HKR3.out.frozen 6
  have f7 := HKR3.out.frozen 7
  simp only [List.getElem?_toArray, List.getElem?_cons_succ, List.getElem?_cons_zero] at k0 k1 k2 k3 k4 k5 k6 k7 r0 r1 r2 r3 r4 r5 r6 r7
  have hol := HKO3.out.lt
  have hrl := HKR3.out.lt
  clear ho3
  go_wp2_with fail
  clear k0 k1 k2 k3 k4 k5 k6 k7 r0 r1 r2 r3 r4 r5 r6 r7 f0 f1 f2 f3 f4 f5 f6 f7 z7
  obtain ⟨W4, hW4⟩ : ∃ W4, W4 = (((((((((w3.setCell ⟨w.heap.size + 1 + 1, 7, none⟩ (.slice A2 ts.length c2)).setCell ⟨w.heap.size + 1, 0, none⟩ (.int .i64 xi)).setCell ⟨w.heap.size + 1, 1, none⟩ (.int .i64 xp.prio)).setCell ⟨w.heap.size + 1, 2, none⟩ (.int .i64 xp.most)).setCell ⟨w.heap.size + 1, 3, none⟩ (.int .i64 xp.wait)).setCell ⟨w.heap.size + 1, 4, none⟩ (.int .i64 xp.tasks)).setCell ⟨w.heap.size + 1, 5, none⟩ (.slice A1 xp.edges.length c1)).setCell ⟨w.heap.size + 1, 6, none⟩ (.int .i64 xs)).setCell ⟨w.heap.size + 1, 7, none⟩ (.slice A2 ts.length c2)) := ⟨_, rfl⟩
  rw [← hW4]
  have kr4 : Blk W4 (w.heap.size + 1) 52 #[.int .i64 xi, .int .i64 xp.prio, .int .i64 xp.most, .int .i64 xp.wait, .int .i64 xp.tasks, .slice A1 xp.edges.length c1, .int .i64 xs, .slice A2 ts.length c2] := by
    rw [hW4]
    have q := (Blk.set_ (Blk.set_ (Blk.set_ (Blk.set_ (Blk.set_ (Blk.set_ (Blk.set_ (Blk.set_ (Blk.far HKR3.out (p := ⟨w.heap.size + 1 + 1, 7, none⟩) (by simp) (.slice A2 ts.length c2)) 0 (.int .i64 xi)) 1 (.int .i64 xp.prio)) 2 (.int .i64 xp.most)) 3 (.int .i64 xp.wait)) 4 (.int .i64 xp.tasks)) 5 (.slice A1 xp.edges.length c1)) 6 (.int .i64 xs)) 7 (.slice A2 ts.length c2))
    simpa using q
  have hp4 : Part (w.heap.size + 1) (w.heap.size + 3) w3 W4 := by rw [hW4]; exact (Part.setCell (Part.setCell (Part.setCell (Part.setCell (Part.setCell (Part.setCell (Part.setCell (Part.setCell (Part.setCell (Part.refl (w.heap.size + 1) (w.heap.size + 3) w3) (p := ⟨w.heap.size + 1 + 1, 7, none⟩) ⟨by simp, by simp⟩ (.slice A2 ts.length c2)) (p := ⟨w.heap.size + 1, 0, none⟩) ⟨by simp, by simp⟩ (.int .i64 xi)) (p := ⟨w.heap.size + 1, 1, none⟩) ⟨by simp, by simp⟩ (.int .i64 xp.prio)) (p := ⟨w.heap.size + 1, 2, none⟩) ⟨by simp, by simp⟩ (.int .i64 xp.most)) (p := ⟨w.heap.size + 1, 3, none⟩) ⟨by simp, by simp⟩ (.int .i64 xp.wait)) (p := ⟨w.heap.size + 1, 4, none⟩) ⟨by simp, by simp⟩ (.int .i64 xp.tasks)) (p := ⟨w.heap.size + 1, 5, none⟩) ⟨by simp, by simp⟩ (.slice A1 xp.edges.length c1)) (p := ⟨w.heap.size + 1, 6, none⟩) ⟨by simp, by simp⟩ (.int .i64 xs)) (p := ⟨w.heap.size + 1, 7, none⟩) ⟨by simp, by simp⟩ (.slice A2 ts.length c2))
  have hw4 : Below w.heap.size w W4 := by rw [hW4]; exact (Below.setCell (Below.setCell (Below.setCell (Below.setCell (Below.setCell (Below.setCell (Below.setCell (Below.setCell (Below.setCell hw3 (p := ⟨w.heap.size + 1 + 1, 7, none⟩) (by simp; omega) (.slice A2 ts.length c2)) (p := ⟨w.heap.size + 1, 0, none⟩) (by simp; try omega) (.int .i64 xi)) (p := ⟨w.heap.size + 1, 1, none⟩) (by simp; try omega) (.int .i64 xp.prio)) (p := ⟨w.heap.size + 1, 2, none⟩) (by simp; try omega) (.int .i64 xp.most)) (p := ⟨w.heap.size + 1, 3, none⟩) (by simp; try omega) (.int .i64 xp.wait)) (p := ⟨w.heap.size + 1, 4, none⟩) (by simp; try omega) (.int .i64 xp.tasks)) (p := ⟨w.heap.size + 1, 5, none⟩) (by simp; try omega) (.slice A1 xp.edges.length c1)) (p := ⟨w.heap.size + 1, 6, none⟩) (by simp; try omega) (.int .i64 xs)) (p := ⟨w.heap.size + 1, 7, none⟩) (by simp; try omega) (.slice A2 ts.length c2))
  have r0 := kr4.cell 0
  have r1 := kr4.cell 1
  have r2 := kr4.cell 2
  have r3 := kr4.cell 3
  have r4 := kr4.cell 4
  have r5 := kr4.cell 5
  have r6 := kr4.cell 6
  have r7 := kr4.cell 7
  simp only [List.getElem?_toArray, List.getElem?_cons_succ, List.getElem?_cons_zero] at r0 r1 r2 r3 r4 r5 r6 r7
  refine bodyPost_ret (v := .agg #[.int .i64 xi, .int .i64 xp.prio, .int .i64 xp.most, .int .i64 xp.wait, .int .i64 xp.tasks, .slice A1 xp.edges.length c1, .int .i64 xs, .slice A2 ts.length c2]) (by simp [results, Try.results49, go_sem, r0, r1, r2, r3, r4, r5, r6, r7]) rfl ⟨_, _, rfl, ?_, hw4⟩
  have he := Own_plan.keep HO3.out hp4 (.inr (by rw [HZ0.out]; exact Nat.le_refl _))
  have hl := he.2.1
  have hT := OwnS.keep (OwnS.of_own HOT.out) hp4 (.inr (by have h1 := HO2.out.2.1; have h2 := HZ0.out; have h3 := hb1.size; have h4 : w1.heap.size ≤ W2.heap.size := h1; omega))
  have hs1 : w1.heap.size ≤ W2.heap.size := HO2.out.2.1
  have hs2 := hb3.size
  have hs3 := hp4.size
  have hs0 := hb1.size
  have hz := HZ0.out
  refine ⟨W2.heap.size, by omega, by omega, ?_, ?_⟩
  · exact OwnS.mono he (by omega) hs1 (by omega)
  · exact OwnS.mono hT (Nat.le_refl _) (by omega) (Nat.le_refl _)

set_option maxHeartbeats 2000000 in
theorem eq_run (u v u' v' : Value) (x : Rn) (w : World) (h1 : Rd_run w u v x) (h2 : Rd_run w u' v' x) :
    Calls Try.prog 51 #[.agg #[.int .i64 x.id, .int .i64 x.plan.prio, .int .i64 x.plan.most, .int .i64 x.plan.wait, .int .i64 x.plan.tasks, u, .int .i64 x.state, v], .agg #[.int .i64 x.id, .int .i64 x.plan.prio, .int .i64 x.plan.most, .int .i64 x.plan.wait, .int .i64 x.plan.tasks, u', .int .i64 x.state, v']] w fun e w' => e = .returned (.bool true) ∧ Below w.heap.size w w' := by
  obtain ⟨xi, xp, xs, ts⟩ := x
  have H1 := Lib.hid h1.1
  have H2 := Lib.hid h2.1
  have H3 := Lib.hid h1.2
  have H4 := Lib.hid h2.2
  obtain ⟨W0, hW0⟩ : ∃ W0, W0 = (w.alloc (.cells #[.int .i64 xi, .int .i64 xp.prio, .int .i64 xp.most, .int .i64 xp.wait, .int .i64 xp.tasks, u, .int .i64 xs, v] 52)).alloc (.cells #[.int .i64 xi, .int .i64 xp.prio, .int .i64 xp.most, .int .i64 xp.wait, .int .i64 xp.tasks, u', .int .i64 xs, v'] 52) := ⟨_, rfl⟩
  have hb0 : Below w.heap.size w W0 := by rw [hW0]; exact (by repeat' first | (with_reducible exact Below.refl _ _) | (with_reducible assumption) | (with_reducible refine Below.setCell ?_ ?_ _) | (with_reducible refine Below.alloc ?_ ?_ _) | (with_reducible refine Below.drew ?_) | (with_reducible refine below_drewN ?_ _) | (with_reducible refine Below.calm ?_ ?_) | exact Nat.le_refl _ | (simp; done) | (simp; omega) | omega)
  have ka : Blk W0 w.heap.size 52 #[.int .i64 xi, .int .i64 xp.prio, .int .i64 xp.most, .int .i64 xp.wait, .int .i64 xp.tasks, u, .int .i64 xs, v] := by rw [hW0]; exact (Blk.new _ _ _).alloc _
  have kb : Blk W0 (w.heap.size + 1) 52 #[.int .i64 xi, .int .i64 xp.prio, .int .i64 xp.most, .int .i64 xp.wait, .int .i64 xp.tasks, u', .int .i64 xs, v'] := by
    rw [hW0]
    have q := Blk.new (w.alloc (.cells #[.int .i64 xi, .int .i64 xp.prio, .int .i64 xp.most, .int .i64 xp.wait, .int .i64 xp.tasks, u, .int .i64 xs, v] 52)) 52 #[.int .i64 xi, .int .i64 xp.prio, .int .i64 xp.most, .int .i64 xp.wait, .int .i64 xp.tasks, u', .int .i64 xs, v']
    rwa [show (w.alloc (.cells #[.int .i64 xi, .int .i64 xp.prio, .int .i64 xp.most, .int .i64 xp.wait, .int .i64 xp.tasks, u, .int .i64 xs, v] 52)).heap.size = w.heap.size + 1 by simp] at q
  have HW0 := Lib.hid hW0
  have HKA := Lib.hid ka
  have HKB := Lib.hid kb
  clear h1 h2 hW0 ka kb
  go_enter Try.func51, Try.ntmps51
  go_wp2_with fail
  rw [← HW0.out]
  refine (eq_plan u u' xp _ (Rd.below H1.out hb0) (Rd.below H2.out hb0)).mono ?_
  rintro e w1 ⟨rfl, hb1⟩
  have hw1 := hb0.trans (hb1.mono hb0.size)
  have ka := HKA.out.belowV hb1
  have kb := HKB.out.belowV hb1
  have p6 := ka.cell 6
  have p7 := ka.cell 7
  have q6 := kb.cell 6
  have q7 := kb.cell 7
  simp only [List.getElem?_toArray, List.getElem?_cons_succ, List.getElem?_cons_zero] at p6 p7 q6 q7
  have hal := ka.lt
  have hbl := kb.lt
  clear ka kb
  go_wp2_with fail
  refine (eqTaskS_any v v' ts _ (Rd.below H3.out hw1) (Rd.below H4.out hw1)).mono ?_
  rintro e w2 ⟨rfl, hb2⟩
  go_wp2_with fail
  go_ret
  exact ⟨rfl, hw1.trans (hb2.mono hw1.size)⟩

set_option maxHeartbeats 2000000 in
theorem mark_run (u v : Value) (x : Rn) (lo hi : Nat) (k : Int) (w : World) (h : Own_run w lo hi u v x) (h0 : 0 ≤ k) (h1 : k ≤ 10000000) (hn : cells_run x ≤ 10000000) :
    Calls Try.prog 52 #[.agg #[.int .i64 x.id, .int .i64 x.plan.prio, .int .i64 x.plan.most, .int .i64 x.plan.wait, .int .i64 x.plan.tasks, u, .int .i64 x.state, v], .int .i64 k] w fun e w' => e = .returned (.int .i64 (k + ((cells_run x : Nat) : Int))) ∧ Held_run w' lo hi u v x k ∧ Part lo hi w w' := by
  obtain ⟨xi, xp, xs, ts⟩ := x
  obtain ⟨m, hlm, hmh, he, ht⟩ := h
  simp only at he ht
  have hcl : xp.edges.length * 2 + ts.length * 4 ≤ 10000000 := hn
  obtain ⟨W0, hW0⟩ : ∃ W0, W0 = w.alloc (.cells #[.int .i64 xi, .int .i64 xp.prio, .int .i64 xp.most, .int .i64 xp.wait, .int .i64 xp.tasks, u, .int .i64 xs, v] 52) := ⟨_, rfl⟩
  have hb0 : Below w.heap.size w W0 := by rw [hW0]; exact (by repeat' first | (with_reducible exact Below.refl _ _) | (with_reducible assumption) | (with_reducible refine Below.setCell ?_ ?_ _) | (with_reducible refine Below.alloc ?_ ?_ _) | (with_reducible refine Below.drew ?_) | (with_reducible refine below_drewN ?_ _) | (with_reducible refine Below.calm ?_ ?_) | exact Nat.le_refl _ | (simp; done) | (simp; omega) | omega)
  have ka : Blk W0 w.heap.size 52 #[.int .i64 xi, .int .i64 xp.prio, .int .i64 xp.most, .int .i64 xp.wait, .int .i64 xp.tasks, u, .int .i64 xs, v] := by rw [hW0]; exact Blk.new _ _ _
  have hmw : m ≤ w.heap.size := he.2.1
  have hhw : hi ≤ w.heap.size := ht.2.1
  have C := Lib.hid (mark_plan u xp lo m k W0 (OwnS.below he hb0) h0 h1 (by unfold cells_plan; omega))
  have HW0 := Lib.hid hW0
  have HKA := Lib.hid ka
  have HT := Lib.hid (OwnS.below ht hb0)
  have HB0 := Lib.hid hb0
  have HC := Lib.hid (show cells_run ⟨xi, xp, xs, ts⟩ = xp.edges.length * 2 + ts.length * 4 from rfl)
  have HCP := Lib.hid (show cells_plan xp = xp.edges.length * 2 from rfl)
  clear he ht hW0 ka hb0 hn
  go_enter Try.func52, Try.ntmps52
  go_wp2_with fail
  rw [← HW0.out]
  refine C.out.mono ?_
  rw [HCP.out]
  rintro e w1 ⟨rfl, hh1, hp1⟩
  have ka := HKA.out.keepV hp1 (.inr hmw)
  have p7 := ka.cell 7
  simp only [List.getElem?_toArray, List.getElem?_cons_succ, List.getElem?_cons_zero] at p7
  have hal := ka.lt
  have HH := Lib.hid hh1
  have HP := Lib.hid hp1
  have hT1 := OwnS.keep HT.out hp1 (.inr (Nat.le_refl _))
  have HT1 := Lib.hid hT1
  obtain ⟨q, hq⟩ : ∃ q, q = k + ((xp.edges.length * 2 : Nat) : Int) := ⟨_, rfl⟩
  have HQ := Lib.hid hq
  have hq0 : 0 ≤ q := by omega
  have hq1 : q ≤ 20000000 := by omega
  rw [← hq]
  clear ka hh1 hp1 hT1 hq
  go_wp2_with fail
  refine (markTaskS_any v ts.length m _ q _ HT1.out.1 hq0 hq1 (by omega)).mono ?_
  rintro e w2 hm2
  obtain ⟨rfl, hh2, hp2⟩ := MarkedS.of HT1.out hm2
  have HH2 := Lib.hid hh2
  have HP2 := Lib.hid hp2
  clear hm2 hh2 hp2
  go_wp2_with fail
  go_ret
  refine ⟨ret_int (by rw [HC.out, HQ.out]; omega), ⟨m, hlm, hmh, ?_, ?_⟩, ?_⟩
  · exact OwnS.keep HH.out HP2.out (.inl (Nat.le_refl _))
  · have h := HH2.out; rw [HQ.out] at h; exact h
  · exact ((Part.of_below HB0.out).trans (HP.out.mono (Nat.le_refl _) hmh)).trans (HP2.out.mono hlm (Nat.le_refl _))

set_option maxHeartbeats 2000000 in
theorem held_run (u v : Value) (x : Rn) (lo hi : Nat) (k : Int) (w : World) (h : Held_run w lo hi u v x k) (h0 : 0 ≤ k) (h1 : k ≤ 10000000) (hn : cells_run x ≤ 10000000) :
    Calls Try.prog 56 #[.agg #[.int .i64 x.id, .int .i64 x.plan.prio, .int .i64 x.plan.most, .int .i64 x.plan.wait, .int .i64 x.plan.tasks, u, .int .i64 x.state, v], .int .i64 k] w fun e w' => e = .returned (.int .i64 (k + ((cells_run x : Nat) : Int))) ∧ Below w.heap.size w w' := by
  obtain ⟨xi, xp, xs, ts⟩ := x
  obtain ⟨m, hlm, hmh, he, ht⟩ := h
  simp only at he ht
  have hcl : xp.edges.length * 2 + ts.length * 4 ≤ 10000000 := hn
  obtain ⟨W0, hW0⟩ : ∃ W0, W0 = w.alloc (.cells #[.int .i64 xi, .int .i64 xp.prio, .int .i64 xp.most, .int .i64 xp.wait, .int .i64 xp.tasks, u, .int .i64 xs, v] 52) := ⟨_, rfl⟩
  have hb0 : Below w.heap.size w W0 := by rw [hW0]; exact (by repeat' first | (with_reducible exact Below.refl _ _) | (with_reducible assumption) | (with_reducible refine Below.setCell ?_ ?_ _) | (with_reducible refine Below.alloc ?_ ?_ _) | (with_reducible refine Below.drew ?_) | (with_reducible refine below_drewN ?_ _) | (with_reducible refine Below.calm ?_ ?_) | exact Nat.le_refl _ | (simp; done) | (simp; omega) | omega)
  have ka : Blk W0 w.heap.size 52 #[.int .i64 xi, .int .i64 xp.prio, .int .i64 xp.most, .int .i64 xp.wait, .int .i64 xp.tasks, u, .int .i64 xs, v] := by rw [hW0]; exact Blk.new _ _ _
  have C := Lib.hid (held_plan u xp lo m k W0 (OwnS.below he hb0) h0 h1 (by unfold cells_plan; omega))
  obtain ⟨q, hq⟩ : ∃ q, q = k + ((xp.edges.length * 2 : Nat) : Int) := ⟨_, rfl⟩
  have HQ := Lib.hid hq
  have hq0 : 0 ≤ q := by omega
  have hq1 : q ≤ 20000000 := by omega
  have HCP := Lib.hid (show k + ((cells_plan xp : Nat) : Int) = q from hq.symm)
  rw [HCP.out] at C
  rw [← hq] at ht
  have CT := Lib.hid (fun (W : World) (hW : Below w.heap.size w W) => heldTaskS_any v ts.length q W (OwnS.rd (OwnS.below ht hW)) hq0 hq1 (by omega))
  obtain ⟨r, hr⟩ : ∃ r, r = q + ((ts.length * 4 : Nat) : Int) := ⟨_, rfl⟩
  have hr0 : 0 ≤ r := by omega
  have HR := Lib.hid (show k + ((cells_run ⟨xi, xp, xs, ts⟩ : Nat) : Int) = r by rw [hr, hq]; unfold cells_run; simp only; omega)
  rw [← hr] at CT
  rw [HR.out]
  have HW0 := Lib.hid hW0
  have HKA := Lib.hid ka
  clear he ht hW0 ka hn hq hr
  go_enter Try.func56, Try.ntmps56
  go_wp2_with fail
  rw [← HW0.out]
  refine C.out.mono ?_
  rintro e w1 ⟨rfl, hb1⟩
  have hw1 := hb0.trans (hb1.mono hb0.size)
  have ka := HKA.out.belowV hb1
  have p7 := ka.cell 7
  simp only [List.getElem?_toArray, List.getElem?_cons_succ, List.getElem?_cons_zero] at p7
  have hal := ka.lt
  clear ka
  go_wp2_with fail
  refine (CT.out _ hw1).mono ?_
  rintro e w2 ⟨rfl, rfl⟩
  go_wp2_with fail
  go_ret
  exact ⟨rfl, hw1⟩

theorem Try.cellsRun : Try.prog.cellsOf 65 = 8 := by kernel_rfl
section
variable {H : Type} {enc : TypeId × Value → H} {W : World} {base : Nat} {d : DataW H} {p : List MemPlace} {v : Value}
def ArgRun (w : World) (v : Value) : Prop := ∃ u t x, v = .agg #[.int .i64 (Rn.id x), .int .i64 x.plan.prio, .int .i64 x.plan.most, .int .i64 x.plan.wait, .int .i64 x.plan.tasks, u, .int .i64 x.state, t] ∧ Rd_run w u t x
theorem Try.cellsI1 : Try.prog.cellsOf 3 = 1 := by kernel_rfl
theorem Try.cellsTs : Try.prog.cellsOf 63 = 1 := by kernel_rfl
theorem Try.cellsEs : Try.prog.cellsOf 40 = 1 := by kernel_rfl
theorem plan_read {fuel : Nat} {cs : List Value} {y : DataW H × List MemPlace} (hl : cs.length = 5) (hf : DataW.trod enc Try.prog W 0 (fun _ => true) true fuel 42 cs = some y) : ∃ u x, cs = [.int .i64 (Pln.prio x), .int .i64 x.most, .int .i64 x.wait, .int .i64 x.tasks, u] ∧ Rd_edgs W u x.edges := by
  match cs, hl with
  | [c0, c1, c2, c3, c4], _ =>
    obtain ⟨xs, n, _, hx, _, hlen, hg⟩ := DataW.trod_struct Try.underlying42 hf
    match xs, hlen with
    | [y0, y1, y2, y3, y4], _ =>
      have t0 := hg 0 _ rfl
      have t1 := hg 1 _ rfl
      have t2 := hg 2 _ rfl
      have t3 := hg 3 _ rfl
      have t4 := hg 4 _ rfl
      simp [Try.cellsI1, Try.cellsEs] at t0 t1 t2 t3 t4
      obtain ⟨n0, e0, _, _⟩ := DataW.trod_int Try.underlying3 t0
      obtain ⟨n1, e1, _, _⟩ := DataW.trod_int Try.underlying3 t1
      obtain ⟨n2, e2, _, _⟩ := DataW.trod_int Try.underlying3 t2
      obtain ⟨n3, e3, _, _⟩ := DataW.trod_int Try.underlying3 t3
      simp at e0 e1 e2 e3
      subst e0 e1 e2 e3
      obtain ⟨l, hl⟩ := edgs_read t4
      exact ⟨c4, ⟨n0, n1, n2, n3, l⟩, rfl, hl⟩
theorem arg_run (hv : Value.okWide Try.prog W .any base 65 v) (h : DataW.Trod enc Try.prog W 0 (fun _ => true) true 65 v d p) : ArgRun W v := by
  obtain ⟨cs, rfl, hsz⟩ := okWide_struct Try.underlying65 hv
  obtain ⟨l⟩ := cs
  match l, hsz.trans Try.cellsRun with
  | [c0, c1, c2, c3, c4, c5, c6, c7], _ =>
    obtain ⟨fuel, hf⟩ := h
    obtain ⟨xs, n, _, hx, _, hlen, hg⟩ := DataW.trod_struct Try.underlying65 hf
    match xs, hlen with
    | [y0, y1, y2, y3], _ =>
      have t0 := hg 0 _ rfl
      have t1 := hg 1 _ rfl
      have t2 := hg 2 _ rfl
      have t3 := hg 3 _ rfl
      simp [Value.cells, Try.cellsI1, Try.cellsTs, Try.cellsPlan] at t0 t1 t2 t3
      obtain ⟨n0, e0, _, _⟩ := DataW.trod_int Try.underlying3 t0
      obtain ⟨n2, e2, _, _⟩ := DataW.trod_int Try.underlying3 t2
      simp at e0 e2
      subst e0 e2
      obtain ⟨u, xp, ep, hp⟩ := plan_read rfl t1
      simp at ep
      obtain ⟨rfl, rfl, rfl, rfl, rfl⟩ := ep
      obtain ⟨l, hl⟩ := tsks_read t3
      exact ⟨c5, c7, ⟨n0, xp, n2, l⟩, rfl, hp, hl⟩
end
end Go.Proofs.Ytbbjkldkjndfaaa

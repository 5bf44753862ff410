/- A task of a run of one's own fails: fails, the program's. -/
import Derived.Test.YtbbjkldkjndfaaaRunDone
namespace Go.Proofs.Ytbbjkldkjndfaaa
set_option linter.unusedSimpArgs false
set_option linter.unusedVariables false
open Go.RowKit Go.ChangeShapes Go.Deep

theorem row_until {w : World} {g cap k : Nat} {l : List Tsk} {x : Tsk} (h : RowTsk w g cap l) (hk : k < l.length) (hx : x = l[k]) :
    RowTsk (w.setCell ⟨g, k * 4 + 3, none⟩ (.int .i64 0)) g cap (l.set k ⟨x.state, x.need, x.try_, 0⟩) :=
  RowTsk.put h hk 3 (by omega) ⟨x.state, x.need, x.try_, 0⟩ (.int .i64 0) rfl (fun i hi hn => by
    subst hx
    rcases (show i = 0 ∨ i = 1 ∨ i = 2 by omega) with rfl | rfl | rfl <;> rfl)
theorem row_state {w : World} {g cap k : Nat} {l : List Tsk} {x : Tsk} (h : RowTsk w g cap l) (hk : k < l.length) (hx : x = l[k]) (s : Int) :
    RowTsk (w.setCell ⟨g, k * 4, none⟩ (.int .i64 s)) g cap (l.set k ⟨s, x.need, x.try_, x.until_⟩) :=
  RowTsk.put h hk 0 (by omega) ⟨s, x.need, x.try_, x.until_⟩ (.int .i64 s) rfl (fun i hi hn => by
    subst hx
    rcases (show i = 1 ∨ i = 2 ∨ i = 3 by omega) with rfl | rfl | rfl <;> rfl)

set_option maxHeartbeats 8000000 in
set_option maxRecDepth 100000 in
theorem fails_any (g0 g cap lo hi : Nat) (xi x1 x2 x3 x4 : Int) (u : Value) (l : List Tsk) (t : Nat) (w : World)
    (hb0 : Blk w g0 52 #[.int .i64 xi, .int .i64 x1, .int .i64 x2, .int .i64 x3, .int .i64 x4, u, .int .i64 1, .slice (some ⟨g, 0, none⟩) l.length cap]) (hr : RowTsk w g cap l) (hne : g ≠ g0)
    (hg : lo ≤ g ∧ g < hi) (hg0 : lo ≤ g0 ∧ g0 < hi) (hl : l.length ≤ 1000) (ht : t < l.length) :
    Calls Try.prog 81 #[.pointer (some ⟨g0, 0, none⟩), .int .i64 (t : Int)] w (DoneP w g0 g cap lo hi #[.int .i64 xi, .int .i64 x1, .int .i64 x2, .int .i64 x3, .int .i64 x4, u, .int .i64 (if (l.getD t zeroT).try_ < x2 then 1 else 3), .slice (some ⟨g, 0, none⟩) l.length cap]
      (if (l.getD t zeroT).try_ < x2 then l.set t (retryT (l.getD t zeroT)) else mapTo (leaveAt t) (l.set t (failT (l.getD t zeroT))) l.length)) := by
  obtain ⟨x, hx⟩ : ∃ x, x = l[t] := ⟨_, rfl⟩
  rw [getD_tsk ht x hx]
  obtain ⟨s0, s1, s2, s3⟩ := hr.cell ht x hx
  have z0 := hr.frozen (t * 4)
  have z3 := hr.frozen (t * 4 + 3)
  have hgl := hr.lt
  have p7 := hb0.cell 7
  have p2 := hb0.cell 2
  have p6 := hb0.cell 6
  have pf6 := hb0.frozen 6
  simp only [List.getElem?_toArray, List.getElem?_cons_succ, List.getElem?_cons_zero] at p2 p6 p7
  have pl := hb0.lt
  have ht0 : (0 : Int) ≤ (t : Int) := by omega
  have ht1 : (t : Int) < (l.length : Int) := by omega
  have g1 : ¬ g = g0 := hne
  have g2 : ¬ g0 = g := fun e => hne e.symm
  have hr1 := row_until hr ht hx
  have hlt1 : t < (l.set t (⟨x.state, x.need, x.try_, 0⟩ : Tsk)).length := by rw [List.length_set]; exact ht
  have hget : (⟨x.state, x.need, x.try_, 0⟩ : Tsk) = (l.set t (⟨x.state, x.need, x.try_, 0⟩ : Tsk))[t] := by rw [List.getElem_set_self]
  have hq1 : Part g (g + 1) w (w.setCell ⟨g, t * 4 + 3, none⟩ (.int .i64 0)) := (Part.refl g (g + 1) w).setCell (p := ⟨g, t * 4 + 3, none⟩) ⟨Nat.le_refl _, Nat.lt_succ_self _⟩ _
  have HGET := Lib.hid hget
  have HQ1 := Lib.hid hq1
  have HB0 := Lib.hid hb0
  obtain ⟨W1, hW1⟩ : ∃ W, W = w.setCell ⟨g, t * 4 + 3, none⟩ (.int .i64 0) := ⟨_, rfl⟩
  have k1 := HB0.out.keepV hq1 (by omega)
  obtain ⟨c0, c1, c2, c3⟩ := hr1.cell hlt1 _ hget
  rw [← hW1] at c0 c1 c2 c3 k1 hr1 HQ1
  have HK1 := Lib.hid k1
  have HR1 := Lib.hid hr1
  have HW1 := Lib.hid hW1
  have hgl1 := hr1.lt
  clear hr hb0 hx hW1 hr1 hget k1 hq1
  by_cases hm : x.try_ < x2
  · rw [if_pos hm, if_pos hm]
    have t0 : decide (x.try_ < x2) = true := decide_eq_true hm
    clear hm
    go_enter Try.func81, Try.ntmps81
    go_wp2_with fail
    rw [← HW1.out]
    clear s0 s1 s2 s3 z0 z3 p2 p6 p7 pf6 pl
    have q2 := HK1.out.cell 2
    have q7 := HK1.out.cell 7
    simp only [List.getElem?_toArray, List.getElem?_cons_succ, List.getElem?_cons_zero] at q2 q7
    have ql := HK1.out.lt
    have z0 := HR1.out.frozen (t * 4)
    try simp only at c0 c1 c2 c3
    go_wp2_with fail
    first | refine wp_region_calm_on (by kernel_rfl) (by kernel_rfl) ?_ | refine wp_region_calm_lit (by kernel_rfl) (by kernel_rfl) ?_
    repeat (go_big_quiet_step (fail))
    refine wpQuiet_nil ?_
    intro _ hw'
    obtain ⟨kz, hw''⟩ := hw'
    subst hw''
    have HRz := Lib.hid (HR1.out.belowV kz.below)
    have HKz := Lib.hid (HK1.out.belowV kz.below)
    obtain ⟨d0, d1, d2, d3⟩ := HRz.out.cell hlt1 _ HGET.out
    have y0 := HRz.out.frozen (t * 4)
    have yl := HRz.out.lt
    try simp only at d0 d1 d2 d3
    clear q2 q7 ql z0 c0 c1 c2 c3
    go_wp2_with fail
    refine bodyPost_end (results_none rfl _ _ _) rfl ?_
    have hp := (Part.refl g (g + 1) kz.w).setCell (p := ⟨g, t * 4, none⟩) ⟨Nat.le_refl _, Nat.lt_succ_self _⟩ (.int .i64 2)
    have hrow := row_state HRz.out hlt1 HGET.out 2
    rw [List.set_set] at hrow
    exact ⟨rfl, hrow, HKz.out.keepV hp (by omega), (HQ1.out.mono hg.1 hg.2).trans ((Part.of_below kz.below).trans (hp.mono hg.1 hg.2))⟩
  · rw [if_neg hm, if_neg hm]
    have t0 : decide (x.try_ < x2) = false := decide_eq_false hm
    clear hm
    go_enter Try.func81, Try.ntmps81
    go_wp2_with fail
    rw [← HW1.out]
    clear s0 s1 s2 s3 z0 z3 p2 p6 p7 pf6 pl
    have q2 := HK1.out.cell 2
    have q7 := HK1.out.cell 7
    simp only [List.getElem?_toArray, List.getElem?_cons_succ, List.getElem?_cons_zero] at q2 q7
    have ql := HK1.out.lt
    have z0 := HR1.out.frozen (t * 4)
    try simp only at c0 c1 c2 c3
    go_wp2_with fail
    first | refine wp_region_calm_on (by kernel_rfl) (by kernel_rfl) ?_ | refine wp_region_calm_lit (by kernel_rfl) (by kernel_rfl) ?_
    repeat (go_big_quiet_step (fail))
    refine wpQuiet_nil ?_
    intro _ hw'
    obtain ⟨kz, hw''⟩ := hw'
    subst hw''
    have HRz := Lib.hid (HR1.out.belowV kz.below)
    have HKz := Lib.hid (HK1.out.belowV kz.below)
    obtain ⟨d0, d1, d2, d3⟩ := HRz.out.cell hlt1 _ HGET.out
    have y0 := HRz.out.frozen (t * 4)
    have yl := HRz.out.lt
    try simp only at d0 d1 d2 d3
    clear q2 q7 ql z0 c0 c1 c2 c3
    have hp := (Part.refl g (g + 1) kz.w).setCell (p := ⟨g, t * 4, none⟩) ⟨Nat.le_refl _, Nat.lt_succ_self _⟩ (.int .i64 5)
    have hrow := row_state HRz.out hlt1 HGET.out 5
    rw [List.set_set] at hrow
    have hk5 := HKz.out.keepV hp (by omega)
    have hlen : (l.set t (⟨5, x.need, x.try_, 0⟩ : Tsk)).length = l.length := List.length_set ..
    have CL := Lib.hid (leave_any g0 g cap _ _ _ _ _ _ _ (l.set t (⟨5, x.need, x.try_, 0⟩ : Tsk)) t _ (by rw [hlen]; exact hk5) hrow hne (by omega))
    rw [hlen] at CL
    have HK5 := Lib.hid hk5
    have HPz := Lib.hid hp
    clear hrow hk5 hp hlen
    go_wp2_with fail
    refine CL.out.mono ?_
    rintro e w4 ⟨rfl, hrow4, hg4⟩
    have hp4 : Part g (g + 1) _ w4 := Part.of_grown hg4 (fun j hj => by injection hj with hj; omega)
    have HK4 := Lib.hid (HK5.out.keepV hp4 (by omega))
    have HR4 := Lib.hid hrow4
    have HP4 := Lib.hid hp4
    have r6 := HK4.out.cell 6
    have rf6 := HK4.out.frozen 6
    have rl := HK4.out.lt
    simp only [List.getElem?_toArray, List.getElem?_cons_succ, List.getElem?_cons_zero] at r6
    clear d0 d1 d2 d3 y0 yl hrow4 hg4 hp4
    go_wp2_with fail
    refine bodyPost_end (results_none rfl _ _ _) rfl ?_
    have hp6 : Part g0 (g0 + 1) w4 (w4.setCell ⟨g0, 6, none⟩ (.int .i64 3)) := (Part.refl g0 (g0 + 1) w4).setCell (p := ⟨g0, 6, none⟩) ⟨Nat.le_refl _, Nat.lt_succ_self _⟩ _
    exact ⟨rfl, HR4.out.keepV hp6 (by omega), by have q := Blk.set_ HK4.out 6 (.int .i64 3); simpa using q, (HQ1.out.mono hg.1 hg.2).trans ((Part.of_below kz.below).trans ((HPz.out.mono hg.1 hg.2).trans ((HP4.out.mono hg.1 hg.2).trans (hp6.mono hg0.1 hg0.2))))⟩
end Go.Proofs.Ytbbjkldkjndfaaa

/- TasksIn, the program's and the reference's. -/
import Derived.Test.YtbbjkldkjndfaaaCloseOf
import Derived.Test.YtbbjkldkjndfaaaGC
namespace Go.Proofs.Ytbbjkldkjndfaaa
set_option linter.unusedSimpArgs false
open Go.RowKit Go.ChangeShapes Go.Deep

def zeroT : Tsk := ⟨0, 0, 0, 0⟩
def tasksTo (ts : List Tsk) (s : Int) : Nat → List Int
  | 0 => []
  | k + 1 => if (ts.getD k zeroT).state = s then tasksTo ts s k ++ [(k : Int)] else tasksTo ts s k
theorem tasksTo_le (ts : List Tsk) (s : Int) : ∀ k, (tasksTo ts s k).length ≤ k
  | 0 => Nat.le_refl _
  | k + 1 => by
    have := tasksTo_le ts s k
    rw [tasksTo]
    split
    · simp; omega
    · omega
def tasksInR (x : Rn) (s : Int) : List Int := tasksTo x.tasks s x.tasks.length
theorem tasksIn_cells (x : Rn) (s : Int) (h : cost_run x ≤ 1048576) : cells_ints (tasksInR x s) ≤ 5000000 := by
  unfold cells_ints tasksInR
  have := tasksTo_le x.tasks s x.tasks.length
  unfold cost_run at h
  omega
theorem getD_tsk {ts : List Tsk} {k : Nat} (h : k < ts.length) (x : Tsk) (hx : x = ts[k]) : ts.getD k zeroT = x := by
  rw [List.getD_eq_getElem?_getD, List.getElem?_eq_getElem h, hx]; rfl

set_option maxHeartbeats 4000000 in
set_option maxRecDepth 100000 in
theorem tasksIn_impl (u v : Value) (x : Rn) (s : Int) (w : World) (h : Rd_run w u v x) (hn : cost_run x ≤ 1048576) :
    Calls Try.prog 39 #[.agg #[.int .i64 x.id, .int .i64 x.plan.prio, .int .i64 x.plan.most, .int .i64 x.plan.wait, .int .i64 x.plan.tasks, u, .int .i64 x.state, v], .int .i64 s] w (GivesI (tasksInR x s) w) := by
  have HRR := Lib.hid (show tasksInR x s = tasksTo x.tasks s x.tasks.length from rfl)
  unfold cost_run at hn
  obtain ⟨i0, hii, hz0, hz1, hz2⟩ := info_parts Try.infoI64
  obtain ⟨h1, h2⟩ := h
  obtain ⟨xi, xp, xs, ts⟩ := x
  obtain ⟨AT, cT, rfl, hncT, hcmT⟩ := Rd.shape h2
  unfold maxLen at hcmT
  simp only at hn hncT
  obtain ⟨W0, hW0⟩ : ∃ W0, W0 = w.alloc (.cells #[.int .i64 xi, .int .i64 xp.prio, .int .i64 xp.most, .int .i64 xp.wait, .int .i64 xp.tasks, u, .int .i64 xs, .slice AT ts.length cT] 52) := ⟨_, rfl⟩
  have hb0 : Below w.heap.size w W0 := by rw [hW0]; exact (Below.refl _ _).alloc (Nat.le_refl _) _
  have HW := Lib.hid hW0
  have HT := Lib.hid (show Rd w 4 (.slice AT ts.length cT) ts.length (tskV ts) from h2)
  clear h1 h2 hW0
  go_enter Try.func39, Try.ntmps39
  go_wp2
  rw [← HW.out]
  go_loopw [5, 11] (fun u5 u11 wr => ∃ k m : Nat, k ≤ ts.length ∧ m ≤ k ∧ u11 = .int .i64 k ∧ Hid (wr.ownsRow W0.heap.size 3 1 u5 m (intsV (tasksTo ts s k))) ∧ Hid (Below W0.heap.size W0 wr)) (fun _ u11 _ => ts.length - (intOf u11).toNat)
  case atStart => exact ⟨0, 0, Nat.zero_le _, Nat.le_refl _, rfl, Lib.hid own_nil, Lib.hid (Below.refl _ _)⟩
  case round =>
    obtain ⟨k, m, hk, hmk, rfl, HOWN, HB⟩ := hrel
    have hw : Below w.heap.size w wr := hb0.trans (HB.out.mono hb0.size)
    by_cases hlt : k < ts.length
    · obtain ⟨b1, o1, _, hv1, _, _, hl1, hc1⟩ := HT.out.form (by omega) (by omega)
      have hA1 : AT = some ⟨b1, o1, none⟩ := by injection hv1
      subst hA1
      obtain ⟨y, hy⟩ : ∃ y, y = ts[k] := ⟨_, rfl⟩
      obtain ⟨d0, d1, d2, d3⟩ := tsk_cells hw hl1 hc1 hlt y hy
      have hb1 : b1 < wr.heap.size := Nat.lt_of_lt_of_le hl1 hw.size
      have hk0 : (0 : Int) ≤ (k : Int) := by omega
      have hk1 : (k : Int) < (ts.length : Int) := by omega
      have HS0 := Lib.hid (show tasksTo ts s (k + 1) = if y.state = s then tasksTo ts s k ++ [(k : Int)] else tasksTo ts s k by rw [tasksTo, getD_tsk hlt y hy])
      obtain ⟨y0, y1, y2, y3⟩ := y
      simp only at d0 d1 d2 d3
      have hownE := own_below HOWN.out ((Below.refl wr.heap.size wr).alloc (Nat.le_refl _) (.cells #[.int .i64 y0, .int .i64 y1, .int .i64 y2, .int .i64 y3] 61))
      have hbE := HB.out.alloc HB.out.size (.cells #[.int .i64 y0, .int .i64 y1, .int .i64 y2, .int .i64 y3] 61)
      clear hy hv1 hc1 hw
      by_cases e : y0 = s
      · have HS := Lib.hid (HS0.out.trans (if_pos e))
        have t0 : (y0 == s) = true := by simp [e]
        clear e HS0
        go_wp2_with ((at_builtin; refine wpList_append_new rfl _ _ _ rfl _ _ i0 _ 1 8 Try.underlying28 hii hz0 hz1 hz2 rfl (by decide) u5  m _ rfl ( hownE) ( hbE) (Below.size ( hbE)) _ 1 1 (by first | rfl | (refine slice_at_eq ?_; simp [World.setCell]; done)) rfl (by intro u hu; simp at hu; subst hu; rfl) ⟨by omega, by omega⟩ ?_; intro v1 w1 hown1 hb1 hg1 hat1; have HO1 := Lib.hid hown1; have HB1 := Lib.hid hb1; clear hown1 hb1 hg1 hat1))
        go_roundw
        case rel => exact ⟨k + 1, m + 1, by omega, by omega, by go_num, by rw [HS.out]; exact Lib.hid (own_push HO1.out), HB1⟩
        case measure => simp [intOf]; omega
      · have HS := Lib.hid (HS0.out.trans (if_neg e))
        have t0 : (y0 == s) = false := by simp [e]
        have HOE := Lib.hid hownE
        have HBE := Lib.hid hbE
        clear e HS0 hownE hbE
        go_wp2_with fail
        go_roundw
        case rel => exact ⟨k + 1, m, by omega, by omega, by go_num, by rw [HS.out]; exact HOE, HBE⟩
        case measure => simp [intOf]; omega
    · obtain rfl : k = ts.length := by omega
      go_wp2
      go_ret
      rw [HRR.out]
      exact givesI hb0 HB.out HOWN.out

set_option maxHeartbeats 4000000 in
set_option maxRecDepth 100000 in
theorem tasksIn_spec (u v : Value) (x : Rn) (s : Int) (w : World) (h : Rd_run w u v x) (hn : cost_run x ≤ 1048576) :
    Calls Try.prog 40 #[.agg #[.int .i64 x.id, .int .i64 x.plan.prio, .int .i64 x.plan.most, .int .i64 x.plan.wait, .int .i64 x.plan.tasks, u, .int .i64 x.state, v], .int .i64 s] w (GivesI (tasksInR x s) w) := by
  have HRR := Lib.hid (show tasksInR x s = tasksTo x.tasks s x.tasks.length from rfl)
  unfold cost_run at hn
  obtain ⟨i0, hii, hz0, hz1, hz2⟩ := info_parts Try.infoI64
  obtain ⟨h1, h2⟩ := h
  obtain ⟨xi, xp, xs, ts⟩ := x
  obtain ⟨AT, cT, rfl, hncT, hcmT⟩ := Rd.shape h2
  unfold maxLen at hcmT
  simp only at hn hncT
  obtain ⟨W0, hW0⟩ : ∃ W0, W0 = w.alloc (.cells #[.int .i64 xi, .int .i64 xp.prio, .int .i64 xp.most, .int .i64 xp.wait, .int .i64 xp.tasks, u, .int .i64 xs, .slice AT ts.length cT] 52) := ⟨_, rfl⟩
  have hb0 : Below w.heap.size w W0 := by rw [hW0]; exact (Below.refl _ _).alloc (Nat.le_refl _) _
  have k0 : Blk W0 w.heap.size 52 #[.int .i64 xi, .int .i64 xp.prio, .int .i64 xp.most, .int .i64 xp.wait, .int .i64 xp.tasks, u, .int .i64 xs, .slice AT ts.length cT] := by rw [hW0]; exact Blk.new _ _ _
  obtain ⟨W1, hW1⟩ : ∃ W1, W1 = W0.alloc (.cells #[] 3) := ⟨_, rfl⟩
  have hb1 : Below W0.heap.size W0 W1 := by rw [hW1]; exact (Below.refl _ _).alloc (Nat.le_refl _) _
  have ow1 : W1.ownsRow W0.heap.size 3 1 (.slice (some ⟨w.heap.size + 1, 0, none⟩) 0 0) 0 [] := by rw [hW1]; exact made0 (by rw [hW0]; simp) (by rw [hW0]; simp)
  have HK := Lib.hid k0
  have HOW1 := Lib.hid ow1
  have HW := Lib.hid hW0
  have HW1 := Lib.hid hW1
  have HB0 := Lib.hid hb1
  have HT := Lib.hid (show Rd w 4 (.slice AT ts.length cT) ts.length (tskV ts) from h2)
  clear h1 h2 hW0 hW1 k0 ow1 hb1
  go_enter Try.func40, Try.ntmps40
  go_wp2
  rw [← HW.out, ← HW1.out]
  go_loopw [5, 6] (fun u5 u6 wr => ∃ k m : Nat, k ≤ ts.length ∧ m ≤ k ∧ u6 = .int .i64 k ∧ Hid (wr.ownsRow W0.heap.size 3 1 u5 m (intsV (tasksTo ts s k))) ∧ Hid (Below W0.heap.size W0 wr)) (fun _ u6 _ => ts.length - (intOf u6).toNat)
  case atStart => exact ⟨0, 0, Nat.zero_le _, Nat.le_refl _, rfl, HOW1, HB0⟩
  case round =>
    clear HOW1 HB0
    obtain ⟨k, m, hk, hmk, rfl, HOWN, HB⟩ := hrel
    have hw : Below w.heap.size w wr := hb0.trans (HB.out.mono hb0.size)
    have kp := HK.out.belowV HB.out
    have p7 := kp.cell 7
    simp only [List.getElem?_toArray, List.getElem?_cons_succ, List.getElem?_cons_zero] at p7
    have hpl := kp.lt
    clear kp
    by_cases hlt : k < ts.length
    · obtain ⟨b1, o1, _, hv1, _, _, hl1, hc1⟩ := HT.out.form (by omega) (by omega)
      have hA1 : AT = some ⟨b1, o1, none⟩ := by injection hv1
      subst hA1
      obtain ⟨y, hy⟩ : ∃ y, y = ts[k] := ⟨_, rfl⟩
      obtain ⟨d0, d1, d2, d3⟩ := tsk_cells hw hl1 hc1 hlt y hy
      have hb1 : b1 < wr.heap.size := Nat.lt_of_lt_of_le hl1 hw.size
      have hk0 : (0 : Int) ≤ (k : Int) := by omega
      have hk1 : (k : Int) < (ts.length : Int) := by omega
      have HS0 := Lib.hid (show tasksTo ts s (k + 1) = if y.state = s then tasksTo ts s k ++ [(k : Int)] else tasksTo ts s k by rw [tasksTo, getD_tsk hlt y hy])
      obtain ⟨y0, y1, y2, y3⟩ := y
      simp only at d0 d1 d2 d3
      clear hy hv1 hc1 hw
      by_cases e : y0 = s
      · have HS := Lib.hid (HS0.out.trans (if_pos e))
        have t0 : (y0 == s) = true := by simp [e]
        clear e HS0
        go_wp2_with ((at_builtin; refine wpList_append_new rfl _ _ _ rfl _ _ i0 _ 1 8 Try.underlying28 hii hz0 hz1 hz2 rfl (by decide) u5  m _ rfl ( HOWN.out) ( HB.out) (Below.size ( HB.out)) _ 1 1 (by first | rfl | (refine slice_at_eq ?_; simp [World.setCell]; done)) rfl (by intro u hu; simp at hu; subst hu; rfl) ⟨by omega, by omega⟩ ?_; intro v1 w1 hown1 hb1 hg1 hat1; have HO1 := Lib.hid hown1; have HB1 := Lib.hid hb1; clear hown1 hb1 hg1 hat1))
        go_roundw
        case rel => exact ⟨k + 1, m + 1, by omega, by omega, by go_num, by rw [HS.out]; exact Lib.hid (own_push HO1.out), HB1⟩
        case measure => simp [intOf]; omega
      · have HS := Lib.hid (HS0.out.trans (if_neg e))
        have t0 : (y0 == s) = false := by simp [e]
        clear e HS0
        go_wp2_with fail
        go_roundw
        case rel => exact ⟨k + 1, m, by omega, by omega, by go_num, by rw [HS.out]; exact HOWN, HB⟩
        case measure => simp [intOf]; omega
    · obtain rfl : k = ts.length := by omega
      go_wp2
      go_ret
      rw [HRR.out]
      exact givesI hb0 HB.out HOWN.out
end Go.Proofs.Ytbbjkldkjndfaaa

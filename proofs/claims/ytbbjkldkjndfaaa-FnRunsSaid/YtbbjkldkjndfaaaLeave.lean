/- All that is not done is left: leave, the program's, and l09Leave, the reference's. -/
import Derived.Test.YtbbjkldkjndfaaaLeftP
import Derived.Test.YtbbjkldkjndfaaaGC
import Derived.Test.YtbbjkldkjndfaaaCopyP
namespace Go.Proofs.Ytbbjkldkjndfaaa
set_option linter.unusedSimpArgs false
open Go.RowKit Go.ChangeShapes Go.Deep

def LeaveP (w0 : World) (g cap : Nat) (l : List Tsk) (e : Ending) (w' : World) : Prop := e = .returned (.tuple #[]) ∧ RowTsk w' g cap l ∧ w0.grownBy w' (some g)
theorem row_left {w : World} {g cap k : Nat} {l : List Tsk} {x : Tsk} (h : RowTsk w g cap l) (hk : k < l.length) (hx : x = l[k]) :
    RowTsk ((w.setCell ⟨g, k * 4, none⟩ (.int .i64 6)).setCell ⟨g, k * 4 + 3, none⟩ (.int .i64 0)) g cap (l.set k (leftT x)) := by
  have h1 := RowTsk.put h hk 0 (by omega) ⟨6, x.need, x.try_, x.until_⟩ (.int .i64 6) rfl (fun i hi hn => by
    subst hx
    rcases (show i = 1 ∨ i = 2 ∨ i = 3 by omega) with rfl | rfl | rfl <;> rfl)
  have h2 := RowTsk.put h1 (k := k) (by rw [List.length_set]; exact hk) 3 (by omega) (leftT x) (.int .i64 0) rfl (fun i hi hn => by
    rw [List.getElem_set_self]
    rcases (show i = 0 ∨ i = 1 ∨ i = 2 by omega) with rfl | rfl | rfl <;> rfl)
  rw [List.set_set] at h2
  exact h2
theorem row_same {w : World} {g cap k : Nat} {l : List Tsk} {x : Tsk} (h : RowTsk w g cap l) (hk : k < l.length) (hx : x = l[k]) : RowTsk w g cap (l.set k x) := by
  subst hx
  rw [List.set_getElem_self]
  exact h

set_option maxHeartbeats 4000000 in
set_option maxRecDepth 100000 in
theorem leave_any (g0 g cap : Nat) (c0 c1 c2 c3 c4 c5 c6 : Value) (l : List Tsk) (but : Int) (w : World) (hb0 : Blk w g0 52 #[c0, c1, c2, c3, c4, c5, c6, .slice (some ⟨g, 0, none⟩) l.length cap]) (hr : RowTsk w g cap l) (hne : g ≠ g0) (hl : l.length ≤ 1048576) :
    Calls Try.prog 89 #[.pointer (some ⟨g0, 0, none⟩), .int .i64 but] w (LeaveP w g cap (mapTo (leaveAt but) l l.length)) := by
  have HB := Lib.hid hb0
  have p7 := hb0.cell 7
  simp only [List.getElem?_toArray, List.getElem?_cons_succ, List.getElem?_cons_zero] at p7
  have pl := hb0.lt
  have HR0 := Lib.hid hr
  clear hb0 hr
  go_enter Try.func89, Try.ntmps89
  go_wp2
  go_loopw [11] (fun u11 wr => ∃ k : Nat, k ≤ l.length ∧ u11 = .int .i64 k ∧ RowTsk wr g cap (mapTo (leaveAt but) l k) ∧ w.grownBy wr (some g)) (fun u11 _ => l.length - (intOf u11).toNat)
  case atStart => exact ⟨0, Nat.zero_le _, rfl, HR0.out, World.grownBy.refl _ _⟩
  case round =>
    obtain ⟨k, hk, rfl, hrow, hgr⟩ := hrel
    have hB := Blk.grown HB.out hgr (by simp; omega)
    have q7 := hB.cell 7
    simp only [List.getElem?_toArray, List.getElem?_cons_succ, List.getElem?_cons_zero] at q7
    have ql := hB.lt
    by_cases hlt : k < l.length
    · have hlk : k < (mapTo (leaveAt but) l k).length := by rw [mapTo_length]; exact hlt
      obtain ⟨x, hx⟩ : ∃ x, x = l.getD k zeroT := ⟨_, rfl⟩
      have hxk : x = (mapTo (leaveAt but) l k)[k] := by rw [mapTo_at]; exact hx
      obtain ⟨s0, s1, s2, s3⟩ := hrow.cell hlk x hxk
      have z0 := hrow.frozen (k * 4)
      have z3 := hrow.frozen (k * 4 + 3)
      have hgl := hrow.lt
      have HS := Lib.hid (show mapTo (leaveAt but) l (k + 1) = (mapTo (leaveAt but) l k).set k (leaveAt but k x) by rw [mapTo, ← hx])
      have HN := Lib.hid (row_same hrow hlk hxk)
      have HY := Lib.hid (row_left hrow hlk hxk)
      obtain ⟨sx, hsx⟩ : ∃ sx, sx = x.state := ⟨_, rfl⟩
      rw [← hsx] at s0
      have g1 : ¬ g = g0 := hne
      have g2 : ¬ g0 = g := fun e => hne e.symm
      clear hrow hx hxk hB
      by_cases hbt : (k : Int) = but
      · have HE := Lib.hid (show leaveAt but k x = x by rw [leaveAt, if_pos hbt])
        have t0 : ((k : Int) == but) = true := by simp [hbt]
        have t1 : ((k : Int) != but) = false := by simp [hbt]
        clear hbt hsx
        go_wp2
        go_roundw
        case rel => exact ⟨k + 1, by omega, by go_num, by rw [HS.out, HE.out]; exact HN.out, hgr⟩
        case measure => simp [intOf]; omega
      · by_cases h4 : sx = 4
        · have HE := Lib.hid (show leaveAt but k x = x by rw [leaveAt, if_neg hbt, if_pos (hsx ▸ h4)])
          have t0 : ((k : Int) == but) = false := by simp [hbt]
          have t1 : ((k : Int) != but) = true := by simp [hbt]
          subst h4
          clear hbt hsx
          go_wp2
          go_roundw
          case rel => exact ⟨k + 1, by omega, by go_num, by rw [HS.out, HE.out]; exact HN.out, hgr⟩
          case measure => simp [intOf]; omega
        · have HE := Lib.hid (show leaveAt but k x = leftT x by rw [leaveAt, if_neg hbt, if_neg (hsx ▸ h4)])
          have t0 : ((k : Int) == but) = false := by simp [hbt]
          have t1 : ((k : Int) != but) = true := by simp [hbt]
          have t2 : (sx == 4) = false := by simp [h4]
          have t3 : (sx != 4) = true := by simp [h4]
          clear hbt hsx h4
          go_wp2
          go_roundw
          case rel => exact ⟨k + 1, by omega, by go_num, by rw [HS.out, HE.out]; exact HY.out, only_setCell (only_setCell hgr (.inl rfl) _) (.inl rfl) _⟩
          case measure => simp [intOf]; omega
    · obtain rfl : k = l.length := by omega
      have HRW := Lib.hid hrow
      clear hrow
      go_wp2
      refine bodyPost_end (results_none rfl _ _ _) rfl ?_
      exact ⟨rfl, HRW.out, hgr⟩
theorem row_put4 {w : World} {g cap k : Nat} {l : List Tsk} (h : RowTsk w g cap l) (hk : k < l.length) (y : Tsk) :
    RowTsk ((((w.setCell ⟨g, k * 4, none⟩ (.int .i64 y.state)).setCell ⟨g, k * 4 + 1, none⟩ (.int .i64 y.need)).setCell ⟨g, k * 4 + 2, none⟩ (.int .i64 y.try_)).setCell ⟨g, k * 4 + 3, none⟩ (.int .i64 y.until_)) g cap (l.set k y) := by
  obtain ⟨x, hx⟩ : ∃ x, x = l[k] := ⟨_, rfl⟩
  have h1 := RowTsk.put h hk 0 (by omega) ⟨y.state, x.need, x.try_, x.until_⟩ (.int .i64 y.state) rfl (fun i hi hn => by
    rw [← hx]
    rcases (show i = 1 ∨ i = 2 ∨ i = 3 by omega) with rfl | rfl | rfl <;> rfl)
  have h2 := RowTsk.put h1 (k := k) (by rw [List.length_set]; exact hk) 1 (by omega) ⟨y.state, y.need, x.try_, x.until_⟩ (.int .i64 y.need) rfl (fun i hi hn => by
    rw [List.getElem_set_self]
    rcases (show i = 0 ∨ i = 2 ∨ i = 3 by omega) with rfl | rfl | rfl <;> rfl)
  rw [List.set_set] at h2
  have h3 := RowTsk.put h2 (k := k) (by rw [List.length_set]; exact hk) 2 (by omega) ⟨y.state, y.need, y.try_, x.until_⟩ (.int .i64 y.try_) rfl (fun i hi hn => by
    rw [List.getElem_set_self]
    rcases (show i = 0 ∨ i = 1 ∨ i = 3 by omega) with rfl | rfl | rfl <;> rfl)
  rw [List.set_set] at h3
  have h4 := RowTsk.put h3 (k := k) (by rw [List.length_set]; exact hk) 3 (by omega) y (.int .i64 y.until_) rfl (fun i hi hn => by
    rw [List.getElem_set_self]
    rcases (show i = 0 ∨ i = 1 ∨ i = 2 by omega) with rfl | rfl | rfl <;> rfl)
  rw [List.set_set] at h4
  exact h4

def LeaveS (w0 : World) (g cap : Nat) (l : List Tsk) (v : Value) (e : Ending) (w' : World) : Prop := e = .returned v ∧ RowTsk w' g cap l ∧ w0.grownBy w' (some g)
set_option maxHeartbeats 4000000 in
set_option maxRecDepth 100000 in
theorem l09Leave_any (g cap : Nat) (xi x1 x2 x3 x4 xs : Int) (A2 : Option Addr) (n2 c2 : Nat) (l : List Tsk) (st : Int) (w : World) (hr : RowTsk w g cap l) (hl : l.length ≤ 1048576) :
    Calls Try.prog 88 #[.agg #[.int .i64 xi, .int .i64 x1, .int .i64 x2, .int .i64 x3, .int .i64 x4, .slice A2 n2 c2, .int .i64 xs, .slice (some ⟨g, 0, none⟩) l.length cap], .int .i64 st] w (LeaveS w g cap (mapTo leaveSAt l l.length) (.agg #[.int .i64 xi, .int .i64 x1, .int .i64 x2, .int .i64 x3, .int .i64 x4, .slice A2 n2 c2, .int .i64 st, .slice (some ⟨g, 0, none⟩) l.length cap])) := by
  have hgl := hr.lt
  obtain ⟨W0, hW0⟩ : ∃ W0, W0 = (w.alloc (.cells #[.int .i64 xi, .int .i64 x1, .int .i64 x2, .int .i64 x3, .int .i64 x4, .slice A2 n2 c2, .int .i64 xs, .slice (some ⟨g, 0, none⟩) l.length cap] 52)).alloc (.cells #[.int .i64 0, .int .i64 0, .int .i64 0, .int .i64 0, .int .i64 0, .slice none 0 0, .int .i64 0, .slice none 0 0] 52) := ⟨_, rfl⟩
  have hb0 : Below w.heap.size w W0 := by rw [hW0]; exact ((Below.refl _ _).alloc (Nat.le_refl _) _).alloc (by simp) _
  have k0 : Blk W0 w.heap.size 52 #[.int .i64 xi, .int .i64 x1, .int .i64 x2, .int .i64 x3, .int .i64 x4, .slice A2 n2 c2, .int .i64 xs, .slice (some ⟨g, 0, none⟩) l.length cap] := by rw [hW0]; exact (Blk.new _ _ _).alloc _
  have kr0 : Blk W0 (w.heap.size + 1) 52 #[.int .i64 0, .int .i64 0, .int .i64 0, .int .i64 0, .int .i64 0, .slice none 0 0, .int .i64 0, .slice none 0 0] := by rw [hW0]; exact blk_new1 _ _ _ _
  have hr0 := hr.belowV hb0
  have hs0 : W0.heap.size = w.heap.size + 2 := by rw [hW0]; simp
  have HK := Lib.hid k0
  have HKR := Lib.hid kr0
  have HW := Lib.hid hW0
  have HR0 := Lib.hid hr0
  have HS0 := Lib.hid hs0
  clear k0 kr0 hW0 hr hr0 hs0
  go_enter Try.func88, Try.ntmps88
  go_wp2
  rw [← HW.out]
  go_loopw [5] (fun u5 wr => ∃ k : Nat, k ≤ l.length ∧ u5 = .int .i64 k ∧ RowTsk wr g cap (mapTo leaveSAt l k) ∧ W0.grownBy wr (some g)) (fun u5 _ => l.length - (intOf u5).toNat)
  case atStart => exact ⟨0, Nat.zero_le _, rfl, HR0.out, World.grownBy.refl _ _⟩
  case round =>
    obtain ⟨k, hk, rfl, hrow, hgr⟩ := hrel
    have hB := Blk.grown HK.out hgr (by simp; omega)
    have hBR := Blk.grown HKR.out hgr (by simp; omega)
    have hzz := hgr.size
    rw [HS0.out] at hzz
    have q7 := hB.cell 7
    simp only [List.getElem?_toArray, List.getElem?_cons_succ, List.getElem?_cons_zero] at q7
    have ql := hB.lt
    by_cases hlt : k < l.length
    · have hlk : k < (mapTo leaveSAt l k).length := by rw [mapTo_length]; exact hlt
      obtain ⟨x, hx⟩ : ∃ x, x = l.getD k zeroT := ⟨_, rfl⟩
      have hxk : x = (mapTo leaveSAt l k)[k] := by rw [mapTo_at]; exact hx
      obtain ⟨s0, s1, s2, s3⟩ := hrow.cell hlk x hxk
      have z0 := hrow.frozen (k * 4)
      have z1 := hrow.frozen (k * 4 + 1)
      have z2 := hrow.frozen (k * 4 + 2)
      have z3 := hrow.frozen (k * 4 + 3)
      have hgw := hrow.lt
      have HS := Lib.hid (show mapTo leaveSAt l (k + 1) = (mapTo leaveSAt l k).set k (leaveSAt k x) by rw [mapTo, ← hx])
      have HRW := Lib.hid hrow
      obtain ⟨sx, nx, tx, ux⟩ := x
      simp only at s0 s1 s2 s3
      have g1 : ¬ g = w.heap.size := by omega
      have g2 : ¬ w.heap.size = g := by omega
      have g3 : ¬ g = wr.heap.size := by omega
      have g4 : ¬ wr.heap.size = g := by omega
      have g5 : ¬ w.heap.size = wr.heap.size := by omega
      have g6 : ¬ wr.heap.size = w.heap.size := by omega
      clear hrow hx hxk hB hBR
      by_cases h4 : sx = 4
      · have HE := Lib.hid (show leaveSAt k ⟨sx, nx, tx, ux⟩ = ⟨4, nx, tx, ux⟩ by rw [leaveSAt, if_pos h4, h4])
        subst h4
        go_wp2
        go_roundw
        case rel =>
          refine ⟨k + 1, by omega, by go_num, ?_, only_alloc (only_setCell (only_setCell (only_setCell (only_setCell hgr (.inl rfl) _) (.inl rfl) _) (.inl rfl) _) (.inl rfl) _) _⟩
          rw [HS.out, HE.out]
          exact (row_put4 HRW.out hlk ⟨4, nx, tx, ux⟩).belowV ((Below.refl _ _).alloc (Nat.le_refl _) _)
        case measure => simp [intOf]; omega
      · by_cases h5 : sx = 5
        · have HE := Lib.hid (show leaveSAt k ⟨sx, nx, tx, ux⟩ = ⟨5, nx, tx, ux⟩ by rw [leaveSAt, if_neg h4, if_pos h5, h5])
          subst h5
          clear h4
          go_wp2
          go_roundw
          case rel =>
            refine ⟨k + 1, by omega, by go_num, ?_, only_alloc (only_setCell (only_setCell (only_setCell (only_setCell hgr (.inl rfl) _) (.inl rfl) _) (.inl rfl) _) (.inl rfl) _) _⟩
            rw [HS.out, HE.out]
            exact (row_put4 HRW.out hlk ⟨5, nx, tx, ux⟩).belowV ((Below.refl _ _).alloc (Nat.le_refl _) _)
          case measure => simp [intOf]; omega
        · have HE := Lib.hid (show leaveSAt k ⟨sx, nx, tx, ux⟩ = ⟨6, nx, tx, 0⟩ by rw [leaveSAt, if_neg h4, if_neg h5]; rfl)
          have t2 : (sx == 4) = false := by simp [h4]
          have t3 : (sx != 4) = true := by simp [h4]
          have t4 : (sx == 5) = false := by simp [h5]
          have t5 : (sx != 5) = true := by simp [h5]
          clear h4 h5
          go_wp2
          go_roundw
          case rel =>
            refine ⟨k + 1, by omega, by go_num, ?_, only_alloc (only_setCell (only_setCell (only_setCell (only_setCell hgr (.inl rfl) _) (.inl rfl) _) (.inl rfl) _) (.inl rfl) _) _⟩
            rw [HS.out, HE.out]
            exact (row_put4 HRW.out hlk ⟨6, nx, tx, 0⟩).belowV ((Below.refl _ _).alloc (Nat.le_refl _) _)
          case measure => simp [intOf]; omega
    · obtain rfl : k = l.length := by omega
      have HRW := Lib.hid hrow
      have HB := Lib.hid hB
      have HBR := Lib.hid hBR
      clear q7 ql
      have p0 := hB.cell 0
      have p1 := hB.cell 1
      have p2 := hB.cell 2
      have p3 := hB.cell 3
      have p4 := hB.cell 4
      have p5 := hB.cell 5
      have p6 := hB.cell 6
      have p7 := hB.cell 7
      simp only [List.getElem?_toArray, List.getElem?_cons_succ, List.getElem?_cons_zero] at p0 p1 p2 p3 p4 p5 p6 p7
      have pf0 := hB.frozen 0
      have pf1 := hB.frozen 1
      have pf2 := hB.frozen 2
      have pf3 := hB.frozen 3
      have pf4 := hB.frozen 4
      have pf5 := hB.frozen 5
      have pf6 := hB.frozen 6
      have pf7 := hB.frozen 7
      have pl := hB.lt
      have r0 := hBR.cell 0
      have r1 := hBR.cell 1
      have r2 := hBR.cell 2
      have r3 := hBR.cell 3
      have r4 := hBR.cell 4
      have r5 := hBR.cell 5
      have r6 := hBR.cell 6
      have r7 := hBR.cell 7
      simp only [List.getElem?_toArray, List.getElem?_cons_succ, List.getElem?_cons_zero] at r0 r1 r2 r3 r4 r5 r6 r7
      have rf0 := hBR.frozen 0
      have rf1 := hBR.frozen 1
      have rf2 := hBR.frozen 2
      have rf3 := hBR.frozen 3
      have rf4 := hBR.frozen 4
      have rf5 := hBR.frozen 5
      have rf6 := hBR.frozen 6
      have rf7 := hBR.frozen 7
      have rl := hBR.lt
      clear hrow hB hBR
      go_wp2
      clear p0 pf0 r0 rf0 p1 pf1 r1 rf1 p2 pf2 r2 rf2 p3 pf3 r3 rf3 p4 pf4 r4 rf4 p5 pf5 r5 rf5 p6 pf6 r6 rf6 p7 pf7 r7 rf7 pl rl
      obtain ⟨W4, hW4⟩ : ∃ W, W = wr.setCell ⟨w.heap.size, 6, none⟩ (.int .i64 st) := ⟨_, rfl⟩
      have p4 : Part w.heap.size (w.heap.size + 1) wr W4 := by rw [hW4]; exact (Part.refl _ _ _).setCell (p := ⟨w.heap.size, 6, none⟩) ⟨Nat.le_refl _, by simp⟩ _
      rw [← hW4]
      have HG4 := Lib.hid (show W0.grownBy W4 (some g) → w.grownBy W4 (some g) from fun h => only_trans (only_of_below hb0 _) h)
      have hBR4 := HBR.out.keepV p4 (.inr (Nat.le_refl _))
      have hr4 := HRW.out.keepV p4 (.inl hgl)
      clear hW4
      obtain ⟨W9, hW9⟩ : ∃ W, W = ((((((((W4.setCell ⟨w.heap.size + 1, 0, none⟩ (.int .i64 xi)).setCell ⟨w.heap.size + 1, 1, none⟩ (.int .i64 x1)).setCell ⟨w.heap.size + 1, 2, none⟩ (.int .i64 x2)).setCell ⟨w.heap.size + 1, 3, none⟩ (.int .i64 x3)).setCell ⟨w.heap.size + 1, 4, none⟩ (.int .i64 x4)).setCell ⟨w.heap.size + 1, 5, none⟩ (.slice A2 n2 c2)).setCell ⟨w.heap.size + 1, 6, none⟩ (.int .i64 st)).setCell ⟨w.heap.size + 1, 7, none⟩ (.slice (some ⟨g, 0, none⟩) l.length cap)) := ⟨_, rfl⟩
      rw [← hW9]
      have kW9 : Blk W9 (w.heap.size + 1) 52 #[.int .i64 xi, .int .i64 x1, .int .i64 x2, .int .i64 x3, .int .i64 x4, .slice A2 n2 c2, .int .i64 st, .slice (some ⟨g, 0, none⟩) l.length cap] := by rw [hW9]; have q := (Blk.set_ (Blk.set_ (Blk.set_ (Blk.set_ (Blk.set_ (Blk.set_ (Blk.set_ (Blk.set_ hBR4 0 (.int .i64 xi)) 1 (.int .i64 x1)) 2 (.int .i64 x2)) 3 (.int .i64 x3)) 4 (.int .i64 x4)) 5 (.slice A2 n2 c2)) 6 (.int .i64 st)) 7 (.slice (some ⟨g, 0, none⟩) l.length cap)); simpa using q
      have pW9 : Part (w.heap.size + 1) (w.heap.size + 1 + 1) W4 W9 := by rw [hW9]; exact (Part.setCell (Part.setCell (Part.setCell (Part.setCell (Part.setCell (Part.setCell (Part.setCell (Part.setCell (Part.refl (w.heap.size + 1) (w.heap.size + 1 + 1) W4) (p := ⟨w.heap.size + 1, 0, none⟩) ⟨by simp, by simp⟩ (.int .i64 xi)) (p := ⟨w.heap.size + 1, 1, none⟩) ⟨by simp, by simp⟩ (.int .i64 x1)) (p := ⟨w.heap.size + 1, 2, none⟩) ⟨by simp, by simp⟩ (.int .i64 x2)) (p := ⟨w.heap.size + 1, 3, none⟩) ⟨by simp, by simp⟩ (.int .i64 x3)) (p := ⟨w.heap.size + 1, 4, none⟩) ⟨by simp, by simp⟩ (.int .i64 x4)) (p := ⟨w.heap.size + 1, 5, none⟩) ⟨by simp, by simp⟩ (.slice A2 n2 c2)) (p := ⟨w.heap.size + 1, 6, none⟩) ⟨by simp, by simp⟩ (.int .i64 st)) (p := ⟨w.heap.size + 1, 7, none⟩) ⟨by simp, by simp⟩ (.slice (some ⟨g, 0, none⟩) l.length cap))
      have e0 := kW9.cell 0
      have e1 := kW9.cell 1
      have e2 := kW9.cell 2
      have e3 := kW9.cell 3
      have e4 := kW9.cell 4
      have e5 := kW9.cell 5
      have e6 := kW9.cell 6
      have e7 := kW9.cell 7
      simp only [List.getElem?_toArray, List.getElem?_cons_succ, List.getElem?_cons_zero] at e0 e1 e2 e3 e4 e5 e6 e7
      refine bodyPost_ret (v := .agg #[.int .i64 xi, .int .i64 x1, .int .i64 x2, .int .i64 x3, .int .i64 x4, .slice A2 n2 c2, .int .i64 st, .slice (some ⟨g, 0, none⟩) l.length cap]) (by simp [results, Try.results88, go_sem, e0, e1, e2, e3, e4, e5, e6, e7]) rfl ?_
      have pall : Part w.heap.size (w.heap.size + 2) wr W9 := (p4.mono (Nat.le_refl _) (by omega)).trans (pW9.mono (by omega) (by omega))
      refine ⟨rfl, hr4.keepV pW9 (.inl (by omega)), ?_⟩
      exact ⟨pall.os.trans (hgr.os.trans hb0.os), pall.tape.trans (hgr.tape.trans hb0.tape), pall.output.trans (hgr.output.trans hb0.output), by have := pall.size; omega, fun i hi hn => (pall.block i (by omega) (.inl hi)).trans ((hgr.block i (by rw [HS0.out]; omega) hn).trans (hb0.block i hi))⟩
end Go.Proofs.Ytbbjkldkjndfaaa

/- RunNew, the program's and the reference's. -/
import Derived.Test.YtbbjkldkjndfaaaRunP
import Derived.Test.YtbbjkldkjndfaaaCopyP
import Derived.Test.YtbbjkldkjndfaaaOrder
namespace Go.Proofs.Ytbbjkldkjndfaaa
set_option linter.unusedSimpArgs false
open Go.RowKit Go.ChangeShapes Go.Deep

set_option maxHeartbeats 8000000 in
set_option maxRecDepth 100000 in
theorem runNew_impl (t : Int) (u : Value) (x : Pln) (w : World) (h : Rd_plan w u x) (hn : cost_plan x ≤ 1048576) :
    Calls Try.prog 37 #[.int .i64 t, .agg #[.int .i64 x.prio, .int .i64 x.most, .int .i64 x.wait, .int .i64 x.tasks, u]] w (GivesRB (runNewR0 t x) (runNewR1 t x) w) := by
  have HPL := Lib.hid h
  obtain ⟨F, hF⟩ : ∃ F, F = planFaultR x := ⟨_, rfl⟩
  obtain ⟨B, hB⟩ : ∃ B, B = inB t 1 9999 := ⟨_, rfl⟩
  obtain ⟨i0, hii, hz0, hz1, hz2⟩ := info_parts Try.infoTsk
  obtain ⟨x1, x2, x3, x4, E⟩ := x
  obtain ⟨A, c, rfl, hnc, hcm⟩ := h.form
  simp only at hnc
  unfold maxLen at hcm
  obtain ⟨W0, hW0⟩ : ∃ W0, W0 = (w.alloc (.cells #[.int .i64 x1, .int .i64 x2, .int .i64 x3, .int .i64 x4, .slice A E.length c] 26)).alloc (.cells #[.int .i64 0, .int .i64 0, .int .i64 0, .int .i64 0, .int .i64 0, .slice none 0 0, .int .i64 0, .slice none 0 0] 52) := ⟨_, rfl⟩
  have hb0 : Below w.heap.size w W0 := by rw [hW0]; exact ((Below.refl _ _).alloc (Nat.le_refl _) _).alloc (by simp) _
  have k0 : Blk W0 w.heap.size 26 #[.int .i64 x1, .int .i64 x2, .int .i64 x3, .int .i64 x4, .slice A E.length c] := by rw [hW0]; exact (Blk.new _ _ _).alloc _
  have kr0 : Blk W0 (w.heap.size + 1) 52 #[.int .i64 0, .int .i64 0, .int .i64 0, .int .i64 0, .int .i64 0, .slice none 0 0, .int .i64 0, .slice none 0 0] := by rw [hW0]; exact blk_new1 _ _ _ _
  have hz : W0.heap.size = w.heap.size + 2 := by rw [hW0]; simp
  have HK := Lib.hid k0
  have HKR := Lib.hid kr0
  have HW := Lib.hid hW0
  have HZ := Lib.hid hz
  have CW := Lib.hid (fun W => within_b t 1 9999 W)
  rw [← hB] at CW
  have CP := Lib.hid (planFault_impl _ ⟨x1, x2, x3, x4, E⟩ W0 (HPL.out.below hb0) hn)
  rw [← hF] at CP
  clear k0 kr0 hW0 h hz
  have HEND := Lib.hid (fun (W W9 : World) (hb : Below w.heap.size w W) (hs : w.heap.size + 2 ≤ W.heap.size) (hp : Part (w.heap.size + 1) (w.heap.size + 1 + 1) W W9) => show GivesRB zeroRn false w (.returned (.tuple #[.agg #[.int .i64 0, .int .i64 0, .int .i64 0, .int .i64 0, .int .i64 0, .slice none 0 0, .int .i64 0, .slice none 0 0], .bool false])) W9 from
    ⟨_, _, rfl, ⟨w.heap.size, Nat.le_refl _, by have := hp.size; omega, OwnS.nil (by have := hp.size; omega), OwnS.nil (Nat.le_refl _)⟩, Part.to_below hb hp (by omega) (Nat.le_refl _)⟩)
  cases B with
  | false =>
    have HR0 := Lib.hid (show runNewR0 t ⟨x1, x2, x3, x4, E⟩ = zeroRn by rw [runNewR0, ← hB, if_neg (by simp)])
    have HR1 := Lib.hid (show runNewR1 t ⟨x1, x2, x3, x4, E⟩ = false by rw [runNewR1, ← hB]; rfl)
    clear hF hB CP
    go_enter Try.func37, Try.ntmps37
    go_wp2_with fail
    rw [← HW.out]
    refine (CW.out _).mono ?_
    rintro e w1 ⟨rfl, rfl⟩
    have r0 := HKR.out.cell 0
    have r1 := HKR.out.cell 1
    have r2 := HKR.out.cell 2
    have r3 := HKR.out.cell 3
    have r4 := HKR.out.cell 4
    have r5 := HKR.out.cell 5
    have r6 := HKR.out.cell 6
    have r7 := HKR.out.cell 7
    simp only [List.getElem?_toArray, List.getElem?_cons_succ, List.getElem?_cons_zero] at r0 r1 r2 r3 r4 r5 r6 r7
    have rf0 := HKR.out.frozen 0
    have rf1 := HKR.out.frozen 1
    have rf2 := HKR.out.frozen 2
    have rf3 := HKR.out.frozen 3
    have rf4 := HKR.out.frozen 4
    have rf5 := HKR.out.frozen 5
    have rf6 := HKR.out.frozen 6
    have rf7 := HKR.out.frozen 7
    have rl := HKR.out.lt
    go_wp2_with fail
    clear r0 r1 r2 r3 r4 r5 r6 r7 rf0 rf1 rf2 rf3 rf4 rf5 rf6 rf7 rl
    obtain ⟨W9, hW9⟩ : ∃ W, W = ((((((((W0.setCell ⟨w.heap.size + 1, 0, none⟩ (.int .i64 0)).setCell ⟨w.heap.size + 1, 1, none⟩ (.int .i64 0)).setCell ⟨w.heap.size + 1, 2, none⟩ (.int .i64 0)).setCell ⟨w.heap.size + 1, 3, none⟩ (.int .i64 0)).setCell ⟨w.heap.size + 1, 4, none⟩ (.int .i64 0)).setCell ⟨w.heap.size + 1, 5, none⟩ (.slice none 0 0)).setCell ⟨w.heap.size + 1, 6, none⟩ (.int .i64 0)).setCell ⟨w.heap.size + 1, 7, none⟩ (.slice none 0 0)) := ⟨_, rfl⟩
    rw [← hW9]
    have kW9 : Blk W9 (w.heap.size + 1) 52 #[.int .i64 0, .int .i64 0, .int .i64 0, .int .i64 0, .int .i64 0, .slice none 0 0, .int .i64 0, .slice none 0 0] := by rw [hW9]; have q := (Blk.set_ (Blk.set_ (Blk.set_ (Blk.set_ (Blk.set_ (Blk.set_ (Blk.set_ (Blk.set_ HKR.out 0 (.int .i64 0)) 1 (.int .i64 0)) 2 (.int .i64 0)) 3 (.int .i64 0)) 4 (.int .i64 0)) 5 (.slice none 0 0)) 6 (.int .i64 0)) 7 (.slice none 0 0)); simpa using q
    have pW9 : Part (w.heap.size + 1) (w.heap.size + 1 + 1) W0 W9 := by rw [hW9]; exact (Part.setCell (Part.setCell (Part.setCell (Part.setCell (Part.setCell (Part.setCell (Part.setCell (Part.setCell (Part.refl (w.heap.size + 1) (w.heap.size + 1 + 1) W0) (p := ⟨w.heap.size + 1, 0, none⟩) ⟨by simp, by simp⟩ (.int .i64 0)) (p := ⟨w.heap.size + 1, 1, none⟩) ⟨by simp, by simp⟩ (.int .i64 0)) (p := ⟨w.heap.size + 1, 2, none⟩) ⟨by simp, by simp⟩ (.int .i64 0)) (p := ⟨w.heap.size + 1, 3, none⟩) ⟨by simp, by simp⟩ (.int .i64 0)) (p := ⟨w.heap.size + 1, 4, none⟩) ⟨by simp, by simp⟩ (.int .i64 0)) (p := ⟨w.heap.size + 1, 5, none⟩) ⟨by simp, by simp⟩ (.slice none 0 0)) (p := ⟨w.heap.size + 1, 6, none⟩) ⟨by simp, by simp⟩ (.int .i64 0)) (p := ⟨w.heap.size + 1, 7, none⟩) ⟨by simp, by simp⟩ (.slice none 0 0))
    have e0 := kW9.cell 0
    have e1 := kW9.cell 1
    have e2 := kW9.cell 2
    have e3 := kW9.cell 3
    have e4 := kW9.cell 4
    have e5 := kW9.cell 5
    have e6 := kW9.cell 6
    have e7 := kW9.cell 7
    simp only [List.getElem?_toArray, List.getElem?_cons_succ, List.getElem?_cons_zero] at e0 e1 e2 e3 e4 e5 e6 e7
    rw [HR0.out, HR1.out]
    refine bodyPost_ret (v := .tuple #[.agg #[.int .i64 0, .int .i64 0, .int .i64 0, .int .i64 0, .int .i64 0, .slice none 0 0, .int .i64 0, .slice none 0 0], .bool false]) (by simp [results, Try.results37, go_sem, e0, e1, e2, e3, e4, e5, e6, e7]) rfl ?_
    exact HEND.out W0 W9 hb0 (by rw [HZ.out]; exact Nat.le_refl _) pW9
  | true =>
    by_cases h0 : F = 0
    rotate_left
    · have HR0 := Lib.hid (show runNewR0 t ⟨x1, x2, x3, x4, E⟩ = zeroRn by rw [runNewR0, ← hB, if_pos rfl, ← hF, if_neg h0])
      have HR1 := Lib.hid (show runNewR1 t ⟨x1, x2, x3, x4, E⟩ = false by rw [runNewR1, ← hB, ← hF]; simp [h0])
      have t0 : (F == 0) = false := by simp [h0]
      have t1 : (F != 0) = true := by simp [h0]
      clear hF hB h0
      go_enter Try.func37, Try.ntmps37
      go_wp2_with fail
      rw [← HW.out]
      refine (CW.out _).mono ?_
      rintro e w1 ⟨rfl, rfl⟩
      have p0 := HK.out.cell 0
      have p1 := HK.out.cell 1
      have p2 := HK.out.cell 2
      have p3 := HK.out.cell 3
      have p4 := HK.out.cell 4
      simp only [List.getElem?_toArray, List.getElem?_cons_succ, List.getElem?_cons_zero] at p0 p1 p2 p3 p4
      have pl := HK.out.lt
      go_wp2_with fail
      refine CP.out.mono ?_
      rintro e w1 ⟨rfl, hb1⟩
      clear p0 p1 p2 p3 p4 pl
      have kr1 := HKR.out.belowV hb1
      have r0 := kr1.cell 0
      have r1 := kr1.cell 1
      have r2 := kr1.cell 2
      have r3 := kr1.cell 3
      have r4 := kr1.cell 4
      have r5 := kr1.cell 5
      have r6 := kr1.cell 6
      have r7 := kr1.cell 7
      simp only [List.getElem?_toArray, List.getElem?_cons_succ, List.getElem?_cons_zero] at r0 r1 r2 r3 r4 r5 r6 r7
      have rf0 := kr1.frozen 0
      have rf1 := kr1.frozen 1
      have rf2 := kr1.frozen 2
      have rf3 := kr1.frozen 3
      have rf4 := kr1.frozen 4
      have rf5 := kr1.frozen 5
      have rf6 := kr1.frozen 6
      have rf7 := kr1.frozen 7
      have rl := kr1.lt
      go_wp2_with fail
      clear r0 r1 r2 r3 r4 r5 r6 r7 rf0 rf1 rf2 rf3 rf4 rf5 rf6 rf7 rl
      obtain ⟨W9, hW9⟩ : ∃ W, W = ((((((((w1.setCell ⟨w.heap.size + 1, 0, none⟩ (.int .i64 0)).setCell ⟨w.heap.size + 1, 1, none⟩ (.int .i64 0)).setCell ⟨w.heap.size + 1, 2, none⟩ (.int .i64 0)).setCell ⟨w.heap.size + 1, 3, none⟩ (.int .i64 0)).setCell ⟨w.heap.size + 1, 4, none⟩ (.int .i64 0)).setCell ⟨w.heap.size + 1, 5, none⟩ (.slice none 0 0)).setCell ⟨w.heap.size + 1, 6, none⟩ (.int .i64 0)).setCell ⟨w.heap.size + 1, 7, none⟩ (.slice none 0 0)) := ⟨_, rfl⟩
      rw [← hW9]
      have kW9 : Blk W9 (w.heap.size + 1) 52 #[.int .i64 0, .int .i64 0, .int .i64 0, .int .i64 0, .int .i64 0, .slice none 0 0, .int .i64 0, .slice none 0 0] := by rw [hW9]; have q := (Blk.set_ (Blk.set_ (Blk.set_ (Blk.set_ (Blk.set_ (Blk.set_ (Blk.set_ (Blk.set_ kr1 0 (.int .i64 0)) 1 (.int .i64 0)) 2 (.int .i64 0)) 3 (.int .i64 0)) 4 (.int .i64 0)) 5 (.slice none 0 0)) 6 (.int .i64 0)) 7 (.slice none 0 0)); simpa using q
      have pW9 : Part (w.heap.size + 1) (w.heap.size + 1 + 1) w1 W9 := by rw [hW9]; exact (Part.setCell (Part.setCell (Part.setCell (Part.setCell (Part.setCell (Part.setCell (Part.setCell (Part.setCell (Part.refl (w.heap.size + 1) (w.heap.size + 1 + 1) w1) (p := ⟨w.heap.size + 1, 0, none⟩) ⟨by simp, by simp⟩ (.int .i64 0)) (p := ⟨w.heap.size + 1, 1, none⟩) ⟨by simp, by simp⟩ (.int .i64 0)) (p := ⟨w.heap.size + 1, 2, none⟩) ⟨by simp, by simp⟩ (.int .i64 0)) (p := ⟨w.heap.size + 1, 3, none⟩) ⟨by simp, by simp⟩ (.int .i64 0)) (p := ⟨w.heap.size + 1, 4, none⟩) ⟨by simp, by simp⟩ (.int .i64 0)) (p := ⟨w.heap.size + 1, 5, none⟩) ⟨by simp, by simp⟩ (.slice none 0 0)) (p := ⟨w.heap.size + 1, 6, none⟩) ⟨by simp, by simp⟩ (.int .i64 0)) (p := ⟨w.heap.size + 1, 7, none⟩) ⟨by simp, by simp⟩ (.slice none 0 0))
      have e0 := kW9.cell 0
      have e1 := kW9.cell 1
      have e2 := kW9.cell 2
      have e3 := kW9.cell 3
      have e4 := kW9.cell 4
      have e5 := kW9.cell 5
      have e6 := kW9.cell 6
      have e7 := kW9.cell 7
      simp only [List.getElem?_toArray, List.getElem?_cons_succ, List.getElem?_cons_zero] at e0 e1 e2 e3 e4 e5 e6 e7
      rw [HR0.out, HR1.out]
      refine bodyPost_ret (v := .tuple #[.agg #[.int .i64 0, .int .i64 0, .int .i64 0, .int .i64 0, .int .i64 0, .slice none 0 0, .int .i64 0, .slice none 0 0], .bool false]) (by simp [results, Try.results37, go_sem, e0, e1, e2, e3, e4, e5, e6, e7]) rfl ?_
      exact HEND.out w1 W9 (hb0.trans (hb1.mono hb0.size)) (by rw [← HZ.out]; exact hb1.size) pW9
    · have hz := fault_zero (hF.symm.trans h0)
      have hmm := many_false hz.1
      obtain ⟨hx0, hx1, hE, -⟩ := hmm
      have ho := hz.2.1
      simp only at hx0 hx1 hE ho
      obtain ⟨n, rfl⟩ : ∃ n : Nat, x4 = n := ⟨x4.toNat, by omega⟩
      have HR0 := Lib.hid (show runNewR0 t ⟨x1, x2, x3, n, E⟩ = ⟨t, ⟨x1, x2, x3, n, E⟩, 1, newTasks E n n⟩ by rw [runNewR0, ← hB, if_pos rfl, ← hF, if_pos h0]; rfl)
      have HR1 := Lib.hid (show runNewR1 t ⟨x1, x2, x3, n, E⟩ = true by rw [runNewR1, ← hB, ← hF]; simp [h0])
      have HB4 := Lib.hid (fun (t : Int) => show beforeOfR ⟨x1, x2, x3, n, E⟩ t = beforeTo E t n by rw [beforeOfR, ← hF, h0, if_pos rfl]; rfl)
      have CB := Lib.hid (fun (t : Int) W (hW : Below w.heap.size w W) => beforeOf_impl _ ⟨x1, x2, x3, n, E⟩ t W (HPL.out.below hW) hn)
      simp only [HB4.out] at CB
      have HBL := Lib.hid (fun t => before_len (outB_inside ho) t)
      rw [h0] at CP
      clear hF hB h0 hz ho HEND
      go_enter Try.func37, Try.ntmps37
      go_wp2_with fail
      rw [← HW.out]
      refine (CW.out _).mono ?_
      rintro e w1 ⟨rfl, rfl⟩
      have p0 := HK.out.cell 0
      have p1 := HK.out.cell 1
      have p2 := HK.out.cell 2
      have p3 := HK.out.cell 3
      have p4 := HK.out.cell 4
      simp only [List.getElem?_toArray, List.getElem?_cons_succ, List.getElem?_cons_zero] at p0 p1 p2 p3 p4
      have pl := HK.out.lt
      go_wp2_with fail
      refine CP.out.mono ?_
      rintro e w1 ⟨rfl, hb1⟩
      clear p0 p1 p2 p3 p4 pl
      have kp1 := HK.out.belowV hb1
      have p0 := kp1.cell 0
      have p1 := kp1.cell 1
      have p2 := kp1.cell 2
      have p3 := kp1.cell 3
      have p4 := kp1.cell 4
      simp only [List.getElem?_toArray, List.getElem?_cons_succ, List.getElem?_cons_zero] at p0 p1 p2 p3 p4
      have pl := kp1.lt
      have hw1 := hb0.trans (hb1.mono hb0.size)
      have HS1 := Lib.hid (show w.heap.size + 2 ≤ w1.heap.size by rw [← HZ.out]; exact hb1.size)
      go_wp2_with fail
      refine (copyPlan_any _ ⟨x1, x2, x3, n, E⟩ w1 (HPL.out.below hw1) (by omega)).mono ?_
      rintro e w2 ⟨u2, rfl, ho2, hb2⟩
      obtain ⟨A2, c2, rfl⟩ := ho2.form
      have HO2 := Lib.hid ho2
      have hw2 := hw1.trans (hb2.mono hw1.size)
      have HK2 := Lib.hid (kp1.belowV hb2)
      have HKR2 := Lib.hid ((HKR.out.belowV hb1).belowV hb2)
      have HW2 := Lib.hid hw2
      clear p0 p1 p2 p3 p4 pl
      have HNEW := Lib.hid (show Blk (w2.alloc (.cells #[.int .i64 t, .int .i64 x1, .int .i64 x2, .int .i64 x3, .int .i64 n, .slice A2 E.length c2, .int .i64 1, .slice none 0 0] 52)) w2.heap.size 52 #[.int .i64 t, .int .i64 x1, .int .i64 x2, .int .i64 x3, .int .i64 n, .slice A2 E.length c2, .int .i64 1, .slice none 0 0] from Blk.new _ _ _)
      clear ho2 kp1 hw2
      go_wp2_with fail
      go_loopw [7] (fun u7 wr => ∃ k : Nat, k ≤ n ∧ u7 = .int .i64 k ∧ Hid (∃ v, Blk wr w2.heap.size 52 #[.int .i64 t, .int .i64 x1, .int .i64 x2, .int .i64 x3, .int .i64 n, .slice A2 E.length c2, .int .i64 1, v] ∧ wr.ownsRow (w2.heap.size + 1) 61 4 v k (tskV (newTasks E n k))) ∧ Hid (Below w2.heap.size w2 wr)) (fun u7 _ => n - (intOf u7).toNat)
      case atStart => exact ⟨0, Nat.zero_le _, rfl, Lib.hid ⟨.slice none 0 0, HNEW.out, ⟨rfl, .inl ⟨rfl, rfl⟩⟩⟩, Lib.hid ((Below.refl _ _).alloc (Nat.le_refl _) _)⟩
      case round =>
        clear HNEW
        obtain ⟨k, hk, rfl, HV, HB⟩ := hrel
        have HWR := Lib.hid (HW2.out.trans (HB.out.mono HW2.out.size))
        have kp1 := HK2.out.below HB.out HK2.out.lt
        have p0 := kp1.cell 0
        have p1 := kp1.cell 1
        have p2 := kp1.cell 2
        have p3 := kp1.cell 3
        have p4 := kp1.cell 4
        simp only [List.getElem?_toArray, List.getElem?_cons_succ, List.getElem?_cons_zero] at p0 p1 p2 p3 p4
        have pl := kp1.lt
        by_cases hlt : k < n
        · obtain ⟨v, hv, hvo⟩ := HV.out
          obtain ⟨A3, c3, rfl, hnc3, hcm3⟩ := (Rd.of_own hvo).shape
          have HBV := Lib.hid hv
          have HOV := Lib.hid hvo
          have hle := HBL.out (k : Int)
          have HNT := Lib.hid (show newTasks E n (k + 1) = newTasks E n k ++ [newTask E n k] from rfl)
          have HNQ := Lib.hid (show newTask E n k = ⟨if (beforeTo E k n).length = 0 then 2 else 1, (beforeTo E k n).length, 0, 0⟩ from rfl)
          have CBk := Lib.hid (CB.out k _ HWR.out)
          have hrl := hv.lt
          clear hv hvo HV
          go_wp2_with fail
          refine CBk.out.mono ?_
          rintro e w3 ⟨v3, rfl, ho3, hb3⟩
          obtain ⟨A5, c5, rfl, -, -⟩ := (own_rdB ho3).shape
          obtain ⟨q, hq⟩ : ∃ q, q = (beforeTo E k n).length := ⟨_, rfl⟩
          rw [← hq] at hle HNQ ⊢
          have hq30 : q ≤ 30 := by omega
          clear p0 p1 p2 p3 p4 pl
          have kr3 := HBV.out.belowV hb3
          have hk3 := kr3.lt
          have HKR3 := Lib.hid kr3
          have HB3 := Lib.hid (HB.out.trans (hb3.mono HB.out.size))
          have hs3 := HB3.out.size
          have HOV3 := Lib.hid (own_below HOV.out hb3)
          have y7 := kr3.cell 7
          have z7 := kr3.frozen 7
          simp only [List.getElem?_toArray, List.getElem?_cons_succ, List.getElem?_cons_zero] at y7
          clear hq ho3 kr3 CBk
          by_cases hq0 : q = 0
          · have HT := Lib.hid (show newTask E n k = ⟨2, q, 0, 0⟩ by rw [HNQ.out, if_pos hq0])
            have t0 : ((q : Int) == 0) = true := by simp; omega
            have hownE : (w3.alloc (.cells #[.int .i64 2, .int .i64 (q : Int), .int .i64 0, .int .i64 0] 61)).ownsRow (w2.heap.size + 1) 61 4 (.slice A3 k c3) k (tskV (newTasks E n k)) := HOV3.out.alloc _
            have hbE : (w2.heap.size + 1) ≤ (w3.alloc (.cells #[.int .i64 2, .int .i64 (q : Int), .int .i64 0, .int .i64 0] 61)).heap.size := by simp; omega
            clear hq0 HNQ
            go_wp2_with (at_builtin; refine wpList_append_new rfl _ _ _ rfl (w2.heap.size + 1) _ i0 _ 4 32 Try.underlying50 hii hz0 hz1 hz2 rfl (by decide) (.slice A3 k c3) k _ rfl hownE (Below.refl _ _) hbE _ 1 1 (by first | rfl | (refine slice_at_eq ?_; simp [World.setCell]; done)) rfl (fun u hu => tskV_one [⟨2, q, 0, 0⟩] u hu) ⟨by omega, by omega⟩ ?_; intro v1 w4 hown1 hb1' hg1 hat1; obtain ⟨A6, c6, rfl, -, -⟩ := (Rd.of_own hown1).shape; have kr4 := ((HKR3.out.alloc _).alloc _).grown hg1 (Ne.symm (own_blk_ne (hownE.alloc (.cells #[.int .i64 2, .int .i64 (q : Int), .int .i64 0, .int .i64 0] 61)) ((HKR3.out.alloc _).alloc _) (by decide))); have g7 := kr4.cell 7; have gz7 := kr4.frozen 7; simp only [List.getElem?_toArray, List.getElem?_cons_succ, List.getElem?_cons_zero] at g7; have g7l := kr4.lt; have HK4 := Lib.hid kr4; have HO4 := Lib.hid hown1; have HG4 := Lib.hid hg1; have hg4s := hg1.size; simp at hg4s; clear hown1 hb1' hg1 hat1 kr4)
            go_roundw
            case rel =>
              refine ⟨k + 1, by omega, by go_num, Lib.hid ⟨.slice A6 (k + 1) c6, ?_, ?_⟩, Lib.hid ?_⟩
              · have q' := HK4.out.set_ 7 (.slice A6 (k + 1) c6)
                simpa using q'
              · rw [HNT.out, HT.out, tskV_append]
                exact own_grown HO4.out (only_setCell (World.grownBy.refl _ _) (.inl rfl) _) (.inr (own_blk_ne HO4.out HK4.out (by decide)))
              · exact Below.setCell ((((HB3.out.alloc HB3.out.size _).alloc (by simp; omega) _).grown HG4.out (by simp; omega) (fun g hg => by have := (hownE.lt g hg).1; omega))) (by simp) _
            case measure => simp [intOf]; omega
          · have HT := Lib.hid (show newTask E n k = ⟨1, q, 0, 0⟩ by rw [HNQ.out, if_neg hq0])
            have t0 : ((q : Int) == 0) = false := by simp; omega
            have hownE : (w3.alloc (.cells #[.int .i64 1, .int .i64 (q : Int), .int .i64 0, .int .i64 0] 61)).ownsRow (w2.heap.size + 1) 61 4 (.slice A3 k c3) k (tskV (newTasks E n k)) := HOV3.out.alloc _
            have hbE : (w2.heap.size + 1) ≤ (w3.alloc (.cells #[.int .i64 1, .int .i64 (q : Int), .int .i64 0, .int .i64 0] 61)).heap.size := by simp; omega
            clear hq0 HNQ
            go_wp2_with (at_builtin; refine wpList_append_new rfl _ _ _ rfl (w2.heap.size + 1) _ i0 _ 4 32 Try.underlying50 hii hz0 hz1 hz2 rfl (by decide) (.slice A3 k c3) k _ rfl hownE (Below.refl _ _) hbE _ 1 1 (by first | rfl | (refine slice_at_eq ?_; simp [World.setCell]; done)) rfl (fun u hu => tskV_one [⟨1, q, 0, 0⟩] u hu) ⟨by omega, by omega⟩ ?_; intro v1 w4 hown1 hb1' hg1 hat1; obtain ⟨A6, c6, rfl, -, -⟩ := (Rd.of_own hown1).shape; have kr4 := ((HKR3.out.alloc _).alloc _).grown hg1 (Ne.symm (own_blk_ne (hownE.alloc (.cells #[.int .i64 1, .int .i64 (q : Int), .int .i64 0, .int .i64 0] 61)) ((HKR3.out.alloc _).alloc _) (by decide))); have g7 := kr4.cell 7; have gz7 := kr4.frozen 7; simp only [List.getElem?_toArray, List.getElem?_cons_succ, List.getElem?_cons_zero] at g7; have g7l := kr4.lt; have HK4 := Lib.hid kr4; have HO4 := Lib.hid hown1; have HG4 := Lib.hid hg1; have hg4s := hg1.size; simp at hg4s; clear hown1 hb1' hg1 hat1 kr4)
            go_roundw
            case rel =>
              refine ⟨k + 1, by omega, by go_num, Lib.hid ⟨.slice A6 (k + 1) c6, ?_, ?_⟩, Lib.hid ?_⟩
              · have q' := HK4.out.set_ 7 (.slice A6 (k + 1) c6)
                simpa using q'
              · rw [HNT.out, HT.out, tskV_append]
                exact own_grown HO4.out (only_setCell (World.grownBy.refl _ _) (.inl rfl) _) (.inr (own_blk_ne HO4.out HK4.out (by decide)))
              · exact Below.setCell ((((HB3.out.alloc HB3.out.size _).alloc (by simp; omega) _).grown HG4.out (by simp; omega) (fun g hg => by have := (hownE.lt g hg).1; omega))) (by simp) _
            case measure => simp [intOf]; omega
        · obtain rfl : k = n := by omega
          obtain ⟨v, hv, hvo⟩ := HV.out
          obtain ⟨A3, c3, rfl, hnc3, hcm3⟩ := (Rd.of_own hvo).shape
          have kr5 := HKR2.out.below HB.out HKR2.out.lt
          have HOV := Lib.hid hvo
          have HBV := Lib.hid hv
          clear hvo HV
          have r0 := kr5.cell 0
          have r1 := kr5.cell 1
          have r2 := kr5.cell 2
          have r3 := kr5.cell 3
          have r4 := kr5.cell 4
          have r5 := kr5.cell 5
          have r6 := kr5.cell 6
          have r7 := kr5.cell 7
          simp only [List.getElem?_toArray, List.getElem?_cons_succ, List.getElem?_cons_zero] at r0 r1 r2 r3 r4 r5 r6 r7
          have rf0 := kr5.frozen 0
          have rf1 := kr5.frozen 1
          have rf2 := kr5.frozen 2
          have rf3 := kr5.frozen 3
          have rf4 := kr5.frozen 4
          have rf5 := kr5.frozen 5
          have rf6 := kr5.frozen 6
          have rf7 := kr5.frozen 7
          have rl := kr5.lt
          have s0 := hv.cell 0
          have s1 := hv.cell 1
          have s2 := hv.cell 2
          have s3 := hv.cell 3
          have s4 := hv.cell 4
          have s5 := hv.cell 5
          have s6 := hv.cell 6
          have s7 := hv.cell 7
          simp only [List.getElem?_toArray, List.getElem?_cons_succ, List.getElem?_cons_zero] at s0 s1 s2 s3 s4 s5 s6 s7
          have sl := hv.lt
          go_wp2_with fail
          clear r0 r1 r2 r3 r4 r5 r6 r7 rf0 rf1 rf2 rf3 rf4 rf5 rf6 rf7 rl
          clear s0 s1 s2 s3 s4 s5 s6 s7 sl
          clear p0 p1 p2 p3 p4 pl
          obtain ⟨W9, hW9⟩ : ∃ W, W = ((((((((wr.setCell ⟨w.heap.size + 1, 0, none⟩ (.int .i64 t)).setCell ⟨w.heap.size + 1, 1, none⟩ (.int .i64 x1)).setCell ⟨w.heap.size + 1, 2, none⟩ (.int .i64 x2)).setCell ⟨w.heap.size + 1, 3, none⟩ (.int .i64 x3)).setCell ⟨w.heap.size + 1, 4, none⟩ (.int .i64 k)).setCell ⟨w.heap.size + 1, 5, none⟩ (.slice A2 E.length c2)).setCell ⟨w.heap.size + 1, 6, none⟩ (.int .i64 1)).setCell ⟨w.heap.size + 1, 7, none⟩ (.slice A3 k c3)) := ⟨_, rfl⟩
          rw [← hW9]
          have kW9 : Blk W9 (w.heap.size + 1) 52 #[.int .i64 t, .int .i64 x1, .int .i64 x2, .int .i64 x3, .int .i64 k, .slice A2 E.length c2, .int .i64 1, .slice A3 k c3] := by rw [hW9]; have q := (Blk.set_ (Blk.set_ (Blk.set_ (Blk.set_ (Blk.set_ (Blk.set_ (Blk.set_ (Blk.set_ kr5 0 (.int .i64 t)) 1 (.int .i64 x1)) 2 (.int .i64 x2)) 3 (.int .i64 x3)) 4 (.int .i64 k)) 5 (.slice A2 E.length c2)) 6 (.int .i64 1)) 7 (.slice A3 k c3)); simpa using q
          have pW9 : Part (w.heap.size + 1) (w.heap.size + 1 + 1) wr W9 := by rw [hW9]; exact (Part.setCell (Part.setCell (Part.setCell (Part.setCell (Part.setCell (Part.setCell (Part.setCell (Part.setCell (Part.refl (w.heap.size + 1) (w.heap.size + 1 + 1) wr) (p := ⟨w.heap.size + 1, 0, none⟩) ⟨by simp, by simp⟩ (.int .i64 t)) (p := ⟨w.heap.size + 1, 1, none⟩) ⟨by simp, by simp⟩ (.int .i64 x1)) (p := ⟨w.heap.size + 1, 2, none⟩) ⟨by simp, by simp⟩ (.int .i64 x2)) (p := ⟨w.heap.size + 1, 3, none⟩) ⟨by simp, by simp⟩ (.int .i64 x3)) (p := ⟨w.heap.size + 1, 4, none⟩) ⟨by simp, by simp⟩ (.int .i64 k)) (p := ⟨w.heap.size + 1, 5, none⟩) ⟨by simp, by simp⟩ (.slice A2 E.length c2)) (p := ⟨w.heap.size + 1, 6, none⟩) ⟨by simp, by simp⟩ (.int .i64 1)) (p := ⟨w.heap.size + 1, 7, none⟩) ⟨by simp, by simp⟩ (.slice A3 k c3))
          have e0 := kW9.cell 0
          have e1 := kW9.cell 1
          have e2 := kW9.cell 2
          have e3 := kW9.cell 3
          have e4 := kW9.cell 4
          have e5 := kW9.cell 5
          have e6 := kW9.cell 6
          have e7 := kW9.cell 7
          simp only [List.getElem?_toArray, List.getElem?_cons_succ, List.getElem?_cons_zero] at e0 e1 e2 e3 e4 e5 e6 e7
          rw [HR0.out, HR1.out]
          refine bodyPost_ret (v := .tuple #[.agg #[.int .i64 t, .int .i64 x1, .int .i64 x2, .int .i64 x3, .int .i64 k, .slice A2 E.length c2, .int .i64 1, .slice A3 k c3], .bool true]) (by simp [results, Try.results37, go_sem, e0, e1, e2, e3, e4, e5, e6, e7]) rfl ?_
          have hs2 := HB.out.size
          have hs9 := pW9.size
          have hs21 := hb2.size
          have hs1 := HS1.out
          refine ⟨_, _, rfl, ⟨w2.heap.size, by omega, by omega, ?_, ?_⟩, Part.to_below HWR.out pW9 (by omega) (Nat.le_refl _)⟩
          · exact OwnS.mono (Own_plan.keep (Own_plan.below HO2.out HB.out) pW9 (.inr (by omega))) (by omega) (Nat.le_refl _) (by omega)
          · have h5 := OwnS.keep (OwnS.of_own HOV.out) pW9 (.inr (by omega))
            have hl := newTasks_length E k k
            unfold Own_tsks
            simp only
            rw [hl]
            exact OwnS.mono h5 (by omega) (by omega) (Nat.le_refl _)

set_option maxHeartbeats 8000000 in
set_option maxRecDepth 100000 in
theorem runNew_spec (t : Int) (u : Value) (x : Pln) (w : World) (h : Rd_plan w u x) (hn : cost_plan x ≤ 1048576) :
    Calls Try.prog 55 #[.int .i64 t, .agg #[.int .i64 x.prio, .int .i64 x.most, .int .i64 x.wait, .int .i64 x.tasks, u]] w (GivesRB (runNewR0 t x) (runNewR1 t x) w) := by
  have HPL := Lib.hid h
  obtain ⟨F, hF⟩ : ∃ F, F = planFaultR x := ⟨_, rfl⟩
  obtain ⟨B, hB⟩ : ∃ B, B = inB t 1 9999 := ⟨_, rfl⟩
  obtain ⟨i0, hii, hz0, hz1, hz2⟩ := info_parts Try.infoTsk
  obtain ⟨x1, x2, x3, x4, E⟩ := x
  obtain ⟨A, c, rfl, hnc, hcm⟩ := h.form
  simp only at hnc
  unfold maxLen at hcm
  obtain ⟨W0, hW0⟩ : ∃ W0, W0 = (w.alloc (.cells #[.int .i64 x1, .int .i64 x2, .int .i64 x3, .int .i64 x4, .slice A E.length c] 26)).alloc (.cells #[.int .i64 0, .int .i64 0, .int .i64 0, .int .i64 0, .int .i64 0, .slice none 0 0, .int .i64 0, .slice none 0 0] 52) := ⟨_, rfl⟩
  have hb0 : Below w.heap.size w W0 := by rw [hW0]; exact ((Below.refl _ _).alloc (Nat.le_refl _) _).alloc (by simp) _
  have k0 : Blk W0 w.heap.size 26 #[.int .i64 x1, .int .i64 x2, .int .i64 x3, .int .i64 x4, .slice A E.length c] := by rw [hW0]; exact (Blk.new _ _ _).alloc _
  have kr0 : Blk W0 (w.heap.size + 1) 52 #[.int .i64 0, .int .i64 0, .int .i64 0, .int .i64 0, .int .i64 0, .slice none 0 0, .int .i64 0, .slice none 0 0] := by rw [hW0]; exact blk_new1 _ _ _ _
  have hz : W0.heap.size = w.heap.size + 2 := by rw [hW0]; simp
  have HK := Lib.hid k0
  have HKR := Lib.hid kr0
  have HW := Lib.hid hW0
  have HZ := Lib.hid hz
  have CW := Lib.hid (fun W => l01In_b t 1 9999 W)
  rw [← hB] at CW
  have CP := Lib.hid (planFault_spec _ ⟨x1, x2, x3, x4, E⟩ W0 (HPL.out.below hb0) hn)
  rw [← hF] at CP
  clear k0 kr0 hW0 h hz
  have HEND := Lib.hid (fun (W W9 : World) (hb : Below w.heap.size w W) (hs : w.heap.size + 2 ≤ W.heap.size) (hp : Part (w.heap.size + 1) (w.heap.size + 1 + 1) W W9) => show GivesRB zeroRn false w (.returned (.tuple #[.agg #[.int .i64 0, .int .i64 0, .int .i64 0, .int .i64 0, .int .i64 0, .slice none 0 0, .int .i64 0, .slice none 0 0], .bool false])) W9 from
    ⟨_, _, rfl, ⟨w.heap.size, Nat.le_refl _, by have := hp.size; omega, OwnS.nil (by have := hp.size; omega), OwnS.nil (Nat.le_refl _)⟩, Part.to_below hb hp (by omega) (Nat.le_refl _)⟩)
  cases B with
  | false =>
    have HR0 := Lib.hid (show runNewR0 t ⟨x1, x2, x3, x4, E⟩ = zeroRn by rw [runNewR0, ← hB, if_neg (by simp)])
    have HR1 := Lib.hid (show runNewR1 t ⟨x1, x2, x3, x4, E⟩ = false by rw [runNewR1, ← hB]; rfl)
    clear hF hB CP
    go_enter Try.func55, Try.ntmps55
    go_wp2_with fail
    rw [← HW.out]
    refine (CW.out _).mono ?_
    rintro e w1 ⟨rfl, rfl⟩
    have r0 := HKR.out.cell 0
    have r1 := HKR.out.cell 1
    have r2 := HKR.out.cell 2
    have r3 := HKR.out.cell 3
    have r4 := HKR.out.cell 4
    have r5 := HKR.out.cell 5
    have r6 := HKR.out.cell 6
    have r7 := HKR.out.cell 7
    simp only [List.getElem?_toArray, List.getElem?_cons_succ, List.getElem?_cons_zero] at r0 r1 r2 r3 r4 r5 r6 r7
    have rf0 := HKR.out.frozen 0
    have rf1 := HKR.out.frozen 1
    have rf2 := HKR.out.frozen 2
    have rf3 := HKR.out.frozen 3
    have rf4 := HKR.out.frozen 4
    have rf5 := HKR.out.frozen 5
    have rf6 := HKR.out.frozen 6
    have rf7 := HKR.out.frozen 7
    have rl := HKR.out.lt
    go_wp2_with fail
    clear r0 r1 r2 r3 r4 r5 r6 r7 rf0 rf1 rf2 rf3 rf4 rf5 rf6 rf7 rl
    obtain ⟨W9, hW9⟩ : ∃ W, W = ((((((((W0.setCell ⟨w.heap.size + 1, 0, none⟩ (.int .i64 0)).setCell ⟨w.heap.size + 1, 1, none⟩ (.int .i64 0)).setCell ⟨w.heap.size + 1, 2, none⟩ (.int .i64 0)).setCell ⟨w.heap.size + 1, 3, none⟩ (.int .i64 0)).setCell ⟨w.heap.size + 1, 4, none⟩ (.int .i64 0)).setCell ⟨w.heap.size + 1, 5, none⟩ (.slice none 0 0)).setCell ⟨w.heap.size + 1, 6, none⟩ (.int .i64 0)).setCell ⟨w.heap.size + 1, 7, none⟩ (.slice none 0 0)) := ⟨_, rfl⟩
    rw [← hW9]
    have kW9 : Blk W9 (w.heap.size + 1) 52 #[.int .i64 0, .int .i64 0, .int .i64 0, .int .i64 0, .int .i64 0, .slice none 0 0, .int .i64 0, .slice none 0 0] := by rw [hW9]; have q := (Blk.set_ (Blk.set_ (Blk.set_ (Blk.set_ (Blk.set_ (Blk.set_ (Blk.set_ (Blk.set_ HKR.out 0 (.int .i64 0)) 1 (.int .i64 0)) 2 (.int .i64 0)) 3 (.int .i64 0)) 4 (.int .i64 0)) 5 (.slice none 0 0)) 6 (.int .i64 0)) 7 (.slice none 0 0)); simpa using q
    have pW9 : Part (w.heap.size + 1) (w.heap.size + 1 + 1) W0 W9 := by rw [hW9]; exact (Part.setCell (Part.setCell (Part.setCell (Part.setCell (Part.setCell (Part.setCell (Part.setCell (Part.setCell (Part.refl (w.heap.size + 1) (w.heap.size + 1 + 1) W0) (p := ⟨w.heap.size + 1, 0, none⟩) ⟨by simp, by simp⟩ (.int .i64 0)) (p := ⟨w.heap.size + 1, 1, none⟩) ⟨by simp, by simp⟩ (.int .i64 0)) (p := ⟨w.heap.size + 1, 2, none⟩) ⟨by simp, by simp⟩ (.int .i64 0)) (p := ⟨w.heap.size + 1, 3, none⟩) ⟨by simp, by simp⟩ (.int .i64 0)) (p := ⟨w.heap.size + 1, 4, none⟩) ⟨by simp, by simp⟩ (.int .i64 0)) (p := ⟨w.heap.size + 1, 5, none⟩) ⟨by simp, by simp⟩ (.slice none 0 0)) (p := ⟨w.heap.size + 1, 6, none⟩) ⟨by simp, by simp⟩ (.int .i64 0)) (p := ⟨w.heap.size + 1, 7, none⟩) ⟨by simp, by simp⟩ (.slice none 0 0))
    have e0 := kW9.cell 0
    have e1 := kW9.cell 1
    have e2 := kW9.cell 2
    have e3 := kW9.cell 3
    have e4 := kW9.cell 4
    have e5 := kW9.cell 5
    have e6 := kW9.cell 6
    have e7 := kW9.cell 7
    simp only [List.getElem?_toArray, List.getElem?_cons_succ, List.getElem?_cons_zero] at e0 e1 e2 e3 e4 e5 e6 e7
    rw [HR0.out, HR1.out]
    refine bodyPost_ret (v := .tuple #[.agg #[.int .i64 0, .int .i64 0, .int .i64 0, .int .i64 0, .int .i64 0, .slice none 0 0, .int .i64 0, .slice none 0 0], .bool false]) (by simp [results, Try.results55, go_sem, e0, e1, e2, e3, e4, e5, e6, e7]) rfl ?_
    exact HEND.out W0 W9 hb0 (by rw [HZ.out]; exact Nat.le_refl _) pW9
  | true =>
    by_cases h0 : F = 0
    rotate_left
    · have HR0 := Lib.hid (show runNewR0 t ⟨x1, x2, x3, x4, E⟩ = zeroRn by rw [runNewR0, ← hB, if_pos rfl, ← hF, if_neg h0])
      have HR1 := Lib.hid (show runNewR1 t ⟨x1, x2, x3, x4, E⟩ = false by rw [runNewR1, ← hB, ← hF]; simp [h0])
      have t0 : (F == 0) = false := by simp [h0]
      have t1 : (F != 0) = true := by simp [h0]
      clear hF hB h0
      go_enter Try.func55, Try.ntmps55
      go_wp2_with fail
      rw [← HW.out]
      refine (CW.out _).mono ?_
      rintro e w1 ⟨rfl, rfl⟩
      have p0 := HK.out.cell 0
      have p1 := HK.out.cell 1
      have p2 := HK.out.cell 2
      have p3 := HK.out.cell 3
      have p4 := HK.out.cell 4
      simp only [List.getElem?_toArray, List.getElem?_cons_succ, List.getElem?_cons_zero] at p0 p1 p2 p3 p4
      have pl := HK.out.lt
      go_wp2_with fail
      refine CP.out.mono ?_
      rintro e w1 ⟨rfl, hb1⟩
      clear p0 p1 p2 p3 p4 pl
      have kr1 := HKR.out.belowV hb1
      have r0 := kr1.cell 0
      have r1 := kr1.cell 1
      have r2 := kr1.cell 2
      have r3 := kr1.cell 3
      have r4 := kr1.cell 4
      have r5 := kr1.cell 5
      have r6 := kr1.cell 6
      have r7 := kr1.cell 7
      simp only [List.getElem?_toArray, List.getElem?_cons_succ, List.getElem?_cons_zero] at r0 r1 r2 r3 r4 r5 r6 r7
      have rf0 := kr1.frozen 0
      have rf1 := kr1.frozen 1
      have rf2 := kr1.frozen 2
      have rf3 := kr1.frozen 3
      have rf4 := kr1.frozen 4
      have rf5 := kr1.frozen 5
      have rf6 := kr1.frozen 6
      have rf7 := kr1.frozen 7
      have rl := kr1.lt
      go_wp2_with fail
      clear r0 r1 r2 r3 r4 r5 r6 r7 rf0 rf1 rf2 rf3 rf4 rf5 rf6 rf7 rl
      obtain ⟨W9, hW9⟩ : ∃ W, W = ((((((((w1.setCell ⟨w.heap.size + 1, 0, none⟩ (.int .i64 0)).setCell ⟨w.heap.size + 1, 1, none⟩ (.int .i64 0)).setCell ⟨w.heap.size + 1, 2, none⟩ (.int .i64 0)).setCell ⟨w.heap.size + 1, 3, none⟩ (.int .i64 0)).setCell ⟨w.heap.size + 1, 4, none⟩ (.int .i64 0)).setCell ⟨w.heap.size + 1, 5, none⟩ (.slice none 0 0)).setCell ⟨w.heap.size + 1, 6, none⟩ (.int .i64 0)).setCell ⟨w.heap.size + 1, 7, none⟩ (.slice none 0 0)) := ⟨_, rfl⟩
      rw [← hW9]
      have kW9 : Blk W9 (w.heap.size + 1) 52 #[.int .i64 0, .int .i64 0, .int .i64 0, .int .i64 0, .int .i64 0, .slice none 0 0, .int .i64 0, .slice none 0 0] := by rw [hW9]; have q := (Blk.set_ (Blk.set_ (Blk.set_ (Blk.set_ (Blk.set_ (Blk.set_ (Blk.set_ (Blk.set_ kr1 0 (.int .i64 0)) 1 (.int .i64 0)) 2 (.int .i64 0)) 3 (.int .i64 0)) 4 (.int .i64 0)) 5 (.slice none 0 0)) 6 (.int .i64 0)) 7 (.slice none 0 0)); simpa using q
      have pW9 : Part (w.heap.size + 1) (w.heap.size + 1 + 1) w1 W9 := by rw [hW9]; exact (Part.setCell (Part.setCell (Part.setCell (Part.setCell (Part.setCell (Part.setCell (Part.setCell (Part.setCell (Part.refl (w.heap.size + 1) (w.heap.size + 1 + 1) w1) (p := ⟨w.heap.size + 1, 0, none⟩) ⟨by simp, by simp⟩ (.int .i64 0)) (p := ⟨w.heap.size + 1, 1, none⟩) ⟨by simp, by simp⟩ (.int .i64 0)) (p := ⟨w.heap.size + 1, 2, none⟩) ⟨by simp, by simp⟩ (.int .i64 0)) (p := ⟨w.heap.size + 1, 3, none⟩) ⟨by simp, by simp⟩ (.int .i64 0)) (p := ⟨w.heap.size + 1, 4, none⟩) ⟨by simp, by simp⟩ (.int .i64 0)) (p := ⟨w.heap.size + 1, 5, none⟩) ⟨by simp, by simp⟩ (.slice none 0 0)) (p := ⟨w.heap.size + 1, 6, none⟩) ⟨by simp, by simp⟩ (.int .i64 0)) (p := ⟨w.heap.size + 1, 7, none⟩) ⟨by simp, by simp⟩ (.slice none 0 0))
      have e0 := kW9.cell 0
      have e1 := kW9.cell 1
      have e2 := kW9.cell 2
      have e3 := kW9.cell 3
      have e4 := kW9.cell 4
      have e5 := kW9.cell 5
      have e6 := kW9.cell 6
      have e7 := kW9.cell 7
      simp only [List.getElem?_toArray, List.getElem?_cons_succ, List.getElem?_cons_zero] at e0 e1 e2 e3 e4 e5 e6 e7
      rw [HR0.out, HR1.out]
      refine bodyPost_ret (v := .tuple #[.agg #[.int .i64 0, .int .i64 0, .int .i64 0, .int .i64 0, .int .i64 0, .slice none 0 0, .int .i64 0, .slice none 0 0], .bool false]) (by simp [results, Try.results55, go_sem, e0, e1, e2, e3, e4, e5, e6, e7]) rfl ?_
      exact HEND.out w1 W9 (hb0.trans (hb1.mono hb0.size)) (by rw [← HZ.out]; exact hb1.size) pW9
    · have hz := fault_zero (hF.symm.trans h0)
      have hmm := many_false hz.1
      obtain ⟨hx0, hx1, hE, -⟩ := hmm
      have ho := hz.2.1
      simp only at hx0 hx1 hE ho
      obtain ⟨n, rfl⟩ : ∃ n : Nat, x4 = n := ⟨x4.toNat, by omega⟩
      have HR0 := Lib.hid (show runNewR0 t ⟨x1, x2, x3, n, E⟩ = ⟨t, ⟨x1, x2, x3, n, E⟩, 1, newTasks E n n⟩ by rw [runNewR0, ← hB, if_pos rfl, ← hF, if_pos h0]; rfl)
      have HR1 := Lib.hid (show runNewR1 t ⟨x1, x2, x3, n, E⟩ = true by rw [runNewR1, ← hB, ← hF]; simp [h0])
      have hm := hz.1
      have CB := Lib.hid (fun (t : Int) W (hW : Below w.heap.size w W) => l06Before_any _ ⟨x1, x2, x3, n, E⟩ t W (HPL.out.below hW) hm)
      simp only [Int.toNat_natCast] at CB
      clear hm
      have HBL := Lib.hid (fun t => before_len (outB_inside ho) t)
      rw [h0] at CP
      clear hF hB h0 hz ho HEND
      go_enter Try.func55, Try.ntmps55
      go_wp2_with fail
      rw [← HW.out]
      refine (CW.out _).mono ?_
      rintro e w1 ⟨rfl, rfl⟩
      have p0 := HK.out.cell 0
      have p1 := HK.out.cell 1
      have p2 := HK.out.cell 2
      have p3 := HK.out.cell 3
      have p4 := HK.out.cell 4
      simp only [List.getElem?_toArray, List.getElem?_cons_succ, List.getElem?_cons_zero] at p0 p1 p2 p3 p4
      have pl := HK.out.lt
      go_wp2_with fail
      refine CP.out.mono ?_
      rintro e w1 ⟨rfl, hb1⟩
      clear p0 p1 p2 p3 p4 pl
      have kp1 := HK.out.belowV hb1
      have p0 := kp1.cell 0
      have p1 := kp1.cell 1
      have p2 := kp1.cell 2
      have p3 := kp1.cell 3
      have p4 := kp1.cell 4
      simp only [List.getElem?_toArray, List.getElem?_cons_succ, List.getElem?_cons_zero] at p0 p1 p2 p3 p4
      have pl := kp1.lt
      have hw1 := hb0.trans (hb1.mono hb0.size)
      have HS1 := Lib.hid (show w.heap.size + 2 ≤ w1.heap.size by rw [← HZ.out]; exact hb1.size)
      go_wp2_with fail
      refine (l06Copy_any _ ⟨x1, x2, x3, n, E⟩ w1 (HPL.out.below hw1) (by omega)).mono ?_
      rintro e w2 ⟨u2, rfl, ho2, hb2⟩
      obtain ⟨A2, c2, rfl⟩ := ho2.form
      have HO2 := Lib.hid ho2
      have hw2 := hw1.trans (hb2.mono hw1.size)
      have HK2 := Lib.hid (kp1.belowV hb2)
      have HKR2 := Lib.hid ((HKR.out.belowV hb1).belowV hb2)
      have HW2 := Lib.hid hw2
      clear p0 p1 p2 p3 p4 pl
      have HNEW := Lib.hid (show Blk (w2.alloc (.cells #[.int .i64 t, .int .i64 x1, .int .i64 x2, .int .i64 x3, .int .i64 n, .slice A2 E.length c2, .int .i64 1, .slice none 0 0] 52)) w2.heap.size 52 #[.int .i64 t, .int .i64 x1, .int .i64 x2, .int .i64 x3, .int .i64 n, .slice A2 E.length c2, .int .i64 1, .slice none 0 0] from Blk.new _ _ _)
      clear ho2 kp1 hw2
      go_wp2_with fail
      go_loopw [7] (fun u7 wr => ∃ k : Nat, k ≤ n ∧ u7 = .int .i64 k ∧ Hid (∃ v, Blk wr w2.heap.size 52 #[.int .i64 t, .int .i64 x1, .int .i64 x2, .int .i64 x3, .int .i64 n, .slice A2 E.length c2, .int .i64 1, v] ∧ wr.ownsRow (w2.heap.size + 1) 61 4 v k (tskV (newTasks E n k))) ∧ Hid (Below w2.heap.size w2 wr)) (fun u7 _ => n - (intOf u7).toNat)
      case atStart => exact ⟨0, Nat.zero_le _, rfl, Lib.hid ⟨.slice none 0 0, HNEW.out, ⟨rfl, .inl ⟨rfl, rfl⟩⟩⟩, Lib.hid ((Below.refl _ _).alloc (Nat.le_refl _) _)⟩
      case round =>
        clear HNEW
        obtain ⟨k, hk, rfl, HV, HB⟩ := hrel
        have HWR := Lib.hid (HW2.out.trans (HB.out.mono HW2.out.size))
        have kp1 := HK2.out.below HB.out HK2.out.lt
        have p0 := kp1.cell 0
        have p1 := kp1.cell 1
        have p2 := kp1.cell 2
        have p3 := kp1.cell 3
        have p4 := kp1.cell 4
        simp only [List.getElem?_toArray, List.getElem?_cons_succ, List.getElem?_cons_zero] at p0 p1 p2 p3 p4
        have pl := kp1.lt
        by_cases hlt : k < n
        · obtain ⟨v, hv, hvo⟩ := HV.out
          obtain ⟨A3, c3, rfl, hnc3, hcm3⟩ := (Rd.of_own hvo).shape
          have HBV := Lib.hid hv
          have HOV := Lib.hid hvo
          have hle := HBL.out (k : Int)
          have HNT := Lib.hid (show newTasks E n (k + 1) = newTasks E n k ++ [newTask E n k] from rfl)
          have HNQ := Lib.hid (show newTask E n k = ⟨if (beforeTo E k n).length = 0 then 2 else 1, (beforeTo E k n).length, 0, 0⟩ from rfl)
          have CBk := Lib.hid (CB.out k _ HWR.out)
          have hrl := hv.lt
          clear hv hvo HV
          go_wp2_with fail
          refine CBk.out.mono ?_
          rintro e w3 ⟨v3, rfl, ho3, hb3⟩
          obtain ⟨A5, c5, rfl, -, -⟩ := (own_rdB ho3).shape
          obtain ⟨q, hq⟩ : ∃ q, q = (beforeTo E k n).length := ⟨_, rfl⟩
          rw [← hq] at hle HNQ ⊢
          have hq30 : q ≤ 30 := by omega
          clear p0 p1 p2 p3 p4 pl
          have kr3 := HBV.out.belowV hb3
          have hk3 := kr3.lt
          have HKR3 := Lib.hid kr3
          have HB3 := Lib.hid (HB.out.trans (hb3.mono HB.out.size))
          have hs3 := HB3.out.size
          have HOV3 := Lib.hid (own_below HOV.out hb3)
          have y7 := kr3.cell 7
          have z7 := kr3.frozen 7
          simp only [List.getElem?_toArray, List.getElem?_cons_succ, List.getElem?_cons_zero] at y7
          clear hq ho3 kr3 CBk
          by_cases hq0 : q = 0
          · have HT := Lib.hid (show newTask E n k = ⟨2, q, 0, 0⟩ by rw [HNQ.out, if_pos hq0])
            have t0 : decide ((0 : Int) < (q : Int)) = false := by simp; omega
            have t1 : decide (0 < q) = false := by simp; omega
            have hownE : (w3.alloc (.cells #[.int .i64 2, .int .i64 (q : Int), .int .i64 0, .int .i64 0] 61)).ownsRow (w2.heap.size + 1) 61 4 (.slice A3 k c3) k (tskV (newTasks E n k)) := HOV3.out.alloc _
            have hbE : (w2.heap.size + 1) ≤ (w3.alloc (.cells #[.int .i64 2, .int .i64 (q : Int), .int .i64 0, .int .i64 0] 61)).heap.size := by simp; omega
            clear hq0 HNQ
            go_wp2_with (at_builtin; refine wpList_append_new rfl _ _ _ rfl (w2.heap.size + 1) _ i0 _ 4 32 Try.underlying50 hii hz0 hz1 hz2 rfl (by decide) (.slice A3 k c3) k _ rfl hownE (Below.refl _ _) hbE _ 1 1 (by first | rfl | (refine slice_at_eq ?_; simp [World.setCell]; done)) rfl (fun u hu => tskV_one [⟨2, q, 0, 0⟩] u hu) ⟨by omega, by omega⟩ ?_; intro v1 w4 hown1 hb1' hg1 hat1; obtain ⟨A6, c6, rfl, -, -⟩ := (Rd.of_own hown1).shape; have kr4 := ((HKR3.out.alloc _).alloc _).grown hg1 (Ne.symm (own_blk_ne (hownE.alloc (.cells #[.int .i64 2, .int .i64 (q : Int), .int .i64 0, .int .i64 0] 61)) ((HKR3.out.alloc _).alloc _) (by decide))); have g7 := kr4.cell 7; have gz7 := kr4.frozen 7; simp only [List.getElem?_toArray, List.getElem?_cons_succ, List.getElem?_cons_zero] at g7; have g7l := kr4.lt; have HK4 := Lib.hid kr4; have HO4 := Lib.hid hown1; have HG4 := Lib.hid hg1; have hg4s := hg1.size; simp at hg4s; clear hown1 hb1' hg1 hat1 kr4)
            go_roundw
            case rel =>
              refine ⟨k + 1, by omega, by go_num, Lib.hid ⟨.slice A6 (k + 1) c6, ?_, ?_⟩, Lib.hid ?_⟩
              · have q' := HK4.out.set_ 7 (.slice A6 (k + 1) c6)
                simpa using q'
              · rw [HNT.out, HT.out, tskV_append]
                exact own_grown HO4.out (only_setCell (World.grownBy.refl _ _) (.inl rfl) _) (.inr (own_blk_ne HO4.out HK4.out (by decide)))
              · exact Below.setCell ((((HB3.out.alloc HB3.out.size _).alloc (by simp; omega) _).grown HG4.out (by simp; omega) (fun g hg => by have := (hownE.lt g hg).1; omega))) (by simp) _
            case measure => simp [intOf]; omega
          · have HT := Lib.hid (show newTask E n k = ⟨1, q, 0, 0⟩ by rw [HNQ.out, if_neg hq0])
            have t0 : decide ((0 : Int) < (q : Int)) = true := by simp; omega
            have t1 : decide (0 < q) = true := by simp; omega
            have t2 : 0 < q := by omega
            have hownE : (w3.alloc (.cells #[.int .i64 1, .int .i64 (q : Int), .int .i64 0, .int .i64 0] 61)).ownsRow (w2.heap.size + 1) 61 4 (.slice A3 k c3) k (tskV (newTasks E n k)) := HOV3.out.alloc _
            have hbE : (w2.heap.size + 1) ≤ (w3.alloc (.cells #[.int .i64 1, .int .i64 (q : Int), .int .i64 0, .int .i64 0] 61)).heap.size := by simp; omega
            clear hq0 HNQ
            go_wp2_with (at_builtin; refine wpList_append_new rfl _ _ _ rfl (w2.heap.size + 1) _ i0 _ 4 32 Try.underlying50 hii hz0 hz1 hz2 rfl (by decide) (.slice A3 k c3) k _ rfl hownE (Below.refl _ _) hbE _ 1 1 (by first | rfl | (refine slice_at_eq ?_; simp [World.setCell]; done)) rfl (fun u hu => tskV_one [⟨1, q, 0, 0⟩] u hu) ⟨by omega, by omega⟩ ?_; intro v1 w4 hown1 hb1' hg1 hat1; obtain ⟨A6, c6, rfl, -, -⟩ := (Rd.of_own hown1).shape; have kr4 := ((HKR3.out.alloc _).alloc _).grown hg1 (Ne.symm (own_blk_ne (hownE.alloc (.cells #[.int .i64 1, .int .i64 (q : Int), .int .i64 0, .int .i64 0] 61)) ((HKR3.out.alloc _).alloc _) (by decide))); have g7 := kr4.cell 7; have gz7 := kr4.frozen 7; simp only [List.getElem?_toArray, List.getElem?_cons_succ, List.getElem?_cons_zero] at g7; have g7l := kr4.lt; have HK4 := Lib.hid kr4; have HO4 := Lib.hid hown1; have HG4 := Lib.hid hg1; have hg4s := hg1.size; simp at hg4s; clear hown1 hb1' hg1 hat1 kr4)
            go_roundw
            case rel =>
              refine ⟨k + 1, by omega, by go_num, Lib.hid ⟨.slice A6 (k + 1) c6, ?_, ?_⟩, Lib.hid ?_⟩
              · have q' := HK4.out.set_ 7 (.slice A6 (k + 1) c6)
                simpa using q'
              · rw [HNT.out, HT.out, tskV_append]
                exact own_grown HO4.out (only_setCell (World.grownBy.refl _ _) (.inl rfl) _) (.inr (own_blk_ne HO4.out HK4.out (by decide)))
              · exact Below.setCell ((((HB3.out.alloc HB3.out.size _).alloc (by simp; omega) _).grown HG4.out (by simp; omega) (fun g hg => by have := (hownE.lt g hg).1; omega))) (by simp) _
            case measure => simp [intOf]; omega
        · obtain rfl : k = n := by omega
          obtain ⟨v, hv, hvo⟩ := HV.out
          obtain ⟨A3, c3, rfl, hnc3, hcm3⟩ := (Rd.of_own hvo).shape
          have kr5 := HKR2.out.below HB.out HKR2.out.lt
          have HOV := Lib.hid hvo
          have HBV := Lib.hid hv
          clear hvo HV
          have r0 := kr5.cell 0
          have r1 := kr5.cell 1
          have r2 := kr5.cell 2
          have r3 := kr5.cell 3
          have r4 := kr5.cell 4
          have r5 := kr5.cell 5
          have r6 := kr5.cell 6
          have r7 := kr5.cell 7
          simp only [List.getElem?_toArray, List.getElem?_cons_succ, List.getElem?_cons_zero] at r0 r1 r2 r3 r4 r5 r6 r7
          have rf0 := kr5.frozen 0
          have rf1 := kr5.frozen 1
          have rf2 := kr5.frozen 2
          have rf3 := kr5.frozen 3
          have rf4 := kr5.frozen 4
          have rf5 := kr5.frozen 5
          have rf6 := kr5.frozen 6
          have rf7 := kr5.frozen 7
          have rl := kr5.lt
          have s0 := hv.cell 0
          have s1 := hv.cell 1
          have s2 := hv.cell 2
          have s3 := hv.cell 3
          have s4 := hv.cell 4
          have s5 := hv.cell 5
          have s6 := hv.cell 6
          have s7 := hv.cell 7
          simp only [List.getElem?_toArray, List.getElem?_cons_succ, List.getElem?_cons_zero] at s0 s1 s2 s3 s4 s5 s6 s7
          have sl := hv.lt
          go_wp2_with fail
          clear r0 r1 r2 r3 r4 r5 r6 r7 rf0 rf1 rf2 rf3 rf4 rf5 rf6 rf7 rl
          clear s0 s1 s2 s3 s4 s5 s6 s7 sl
          clear p0 p1 p2 p3 p4 pl
          obtain ⟨W9, hW9⟩ : ∃ W, W = ((((((((wr.setCell ⟨w.heap.size + 1, 0, none⟩ (.int .i64 t)).setCell ⟨w.heap.size + 1, 1, none⟩ (.int .i64 x1)).setCell ⟨w.heap.size + 1, 2, none⟩ (.int .i64 x2)).setCell ⟨w.heap.size + 1, 3, none⟩ (.int .i64 x3)).setCell ⟨w.heap.size + 1, 4, none⟩ (.int .i64 k)).setCell ⟨w.heap.size + 1, 5, none⟩ (.slice A2 E.length c2)).setCell ⟨w.heap.size + 1, 6, none⟩ (.int .i64 1)).setCell ⟨w.heap.size + 1, 7, none⟩ (.slice A3 k c3)) := ⟨_, rfl⟩
          rw [← hW9]
          have kW9 : Blk W9 (w.heap.size + 1) 52 #[.int .i64 t, .int .i64 x1, .int .i64 x2, .int .i64 x3, .int .i64 k, .slice A2 E.length c2, .int .i64 1, .slice A3 k c3] := by rw [hW9]; have q := (Blk.set_ (Blk.set_ (Blk.set_ (Blk.set_ (Blk.set_ (Blk.set_ (Blk.set_ (Blk.set_ kr5 0 (.int .i64 t)) 1 (.int .i64 x1)) 2 (.int .i64 x2)) 3 (.int .i64 x3)) 4 (.int .i64 k)) 5 (.slice A2 E.length c2)) 6 (.int .i64 1)) 7 (.slice A3 k c3)); simpa using q
          have pW9 : Part (w.heap.size + 1) (w.heap.size + 1 + 1) wr W9 := by rw [hW9]; exact (Part.setCell (Part.setCell (Part.setCell (Part.setCell (Part.setCell (Part.setCell (Part.setCell (Part.setCell (Part.refl (w.heap.size + 1) (w.heap.size + 1 + 1) wr) (p := ⟨w.heap.size + 1, 0, none⟩) ⟨by simp, by simp⟩ (.int .i64 t)) (p := ⟨w.heap.size + 1, 1, none⟩) ⟨by simp, by simp⟩ (.int .i64 x1)) (p := ⟨w.heap.size + 1, 2, none⟩) ⟨by simp, by simp⟩ (.int .i64 x2)) (p := ⟨w.heap.size + 1, 3, none⟩) ⟨by simp, by simp⟩ (.int .i64 x3)) (p := ⟨w.heap.size + 1, 4, none⟩) ⟨by simp, by simp⟩ (.int .i64 k)) (p := ⟨w.heap.size + 1, 5, none⟩) ⟨by simp, by simp⟩ (.slice A2 E.length c2)) (p := ⟨w.heap.size + 1, 6, none⟩) ⟨by simp, by simp⟩ (.int .i64 1)) (p := ⟨w.heap.size + 1, 7, none⟩) ⟨by simp, by simp⟩ (.slice A3 k c3))
          have e0 := kW9.cell 0
          have e1 := kW9.cell 1
          have e2 := kW9.cell 2
          have e3 := kW9.cell 3
          have e4 := kW9.cell 4
          have e5 := kW9.cell 5
          have e6 := kW9.cell 6
          have e7 := kW9.cell 7
          simp only [List.getElem?_toArray, List.getElem?_cons_succ, List.getElem?_cons_zero] at e0 e1 e2 e3 e4 e5 e6 e7
          rw [HR0.out, HR1.out]
          refine bodyPost_ret (v := .tuple #[.agg #[.int .i64 t, .int .i64 x1, .int .i64 x2, .int .i64 x3, .int .i64 k, .slice A2 E.length c2, .int .i64 1, .slice A3 k c3], .bool true]) (by simp [results, Try.results55, go_sem, e0, e1, e2, e3, e4, e5, e6, e7]) rfl ?_
          have hs2 := HB.out.size
          have hs9 := pW9.size
          have hs21 := hb2.size
          have hs1 := HS1.out
          refine ⟨_, _, rfl, ⟨w2.heap.size, by omega, by omega, ?_, ?_⟩, Part.to_below HWR.out pW9 (by omega) (Nat.le_refl _)⟩
          · exact OwnS.mono (Own_plan.keep (Own_plan.below HO2.out HB.out) pW9 (.inr (by omega))) (by omega) (Nat.le_refl _) (by omega)
          · have h5 := OwnS.keep (OwnS.of_own HOV.out) pW9 (.inr (by omega))
            have hl := newTasks_length E k k
            unfold Own_tsks
            simp only
            rw [hl]
            exact OwnS.mono h5 (by omega) (by omega) (Nat.le_refl _)

end Go.Proofs.Ytbbjkldkjndfaaa

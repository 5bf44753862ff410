/- The walk of the law FnPlans. -/
import Derived.Test.YtbbjkldkjndfaaaDrawPl
import Derived.Test.YtbbjkldkjndfaaaPlansL
import Derived.Test.YtbbjkldkjndfaaaSameI
import Derived.Test.YtbbjkldkjndfaaaBefore
import Derived.Test.YtbbjkldkjndfaaaSchedT
import Derived.Test.YtbbjkldkjndfaaaFault
import Derived.Test.YtbbjkldkjndfaaaBig
namespace Go.Proofs.Ytbbjkldkjndfaaa
set_option linter.unusedSimpArgs false
set_option linter.unusedSimpArgs false
set_option linter.unusedVariables false
open Go.RowKit Go.ChangeShapes Go.Deep

/-- A plan, its tasks counted by a Nat. -/
def pl (a b c : Int) (n : Nat) (E : List Edg) : Pln := ⟨a, b, c, n, E⟩

set_option maxHeartbeats 16000000 in
set_option maxRecDepth 100000 in
theorem walk_FnPlans (v0 : Value) (w : World) (a0 : ArgBytes w v0) :
    Calls Try.prog 4 #[v0] w fun e w' => e = .returned (.bool true) ∧ Below w.heap.size w w' := by
  obtain ⟨code, hrd⟩ := a0
  by_cases hbig : code.length ≤ 1048576
  · have CB := Lib.hid (big_f w v0 code hrd hbig)
    have CD := Lib.hid (fun W (hW : Below w.heap.size w W) => drawPlan_any W v0 code (hrd.below hW) hbig)
    have hgood := planDraw_good code
    obtain ⟨X, hX⟩ : ∃ X, X = planDraw code := ⟨_, rfl⟩
    rw [← hX] at CD hgood
    have hright := good_right hgood
    have hcnt := hright.cnt
    have hE9 := hgood.edges.len
    obtain ⟨x1, x2, x3, x4, E⟩ := X
    obtain ⟨n, rfl⟩ : ∃ n : Nat, x4 = n := ⟨x4.toNat, by have := hcnt; simp only at this; omega⟩
    have HPR := Lib.hid (show PlanRight (pl x1 x2 x3 n E) from hright)
    have HGD := Lib.hid (show PlanGood (pl x1 x2 x3 n E) from hgood)
    have hn1 : 1 ≤ n := by have := hcnt.1; simp only at this; omega
    have hn2 : n ≤ 12 := by have := hcnt.2; simp only at this; omega
    have hEl : E.length ≤ 9 := by simpa using hE9
    have hcost : cost_plan (pl x1 x2 x3 n E) ≤ 1048576 := by show E.length ≤ _; omega
    have HCD := Lib.hid (show ∀ W, Below w.heap.size w W → Calls Try.prog 12 #[v0] W (GivesP (pl x1 x2 x3 n E) W) from CD.out)
    obtain ⟨i0, hii, iz0, iz1, iz2⟩ := info_parts Try.infoEdg
    clear hX hrd hgood hright hcnt hE9 CD
    go_enter Try.func4, Try.ntmps4
    go_wp2_with fail
    refine CB.out.mono ?_
    rintro e w0 ⟨rfl, rfl⟩
    go_wp2_with fail
    refine (HCD.out _ (Below.refl _ _)).mono ?_
    rintro e w1 ⟨u1, rfl, ho1, hb1⟩
    obtain ⟨A1, c1, rfl⟩ := ho1.form
    have HO1 := Lib.hid ho1
    obtain ⟨W2, hW2⟩ : ∃ W, W = w1.alloc (.cells #[.int .i64 x1, .int .i64 x2, .int .i64 x3, .int .i64 n, .slice A1 E.length c1] 26) := ⟨_, rfl⟩
    have h12 : Below w1.heap.size w1 W2 := by rw [hW2]; exact (Below.refl _ _).alloc (Nat.le_refl _) _
    have HW2 := Lib.hid hW2
    have kp2 : Blk W2 w1.heap.size 26 #[.int .i64 x1, .int .i64 x2, .int .i64 x3, .int .i64 n, .slice A1 E.length c1] := by rw [hW2]; exact Blk.new _ _ _
    have HKP2 := Lib.hid kp2
    have hw2 : Below w.heap.size w W2 := hb1.trans (h12.mono hb1.size)
    clear hW2 ho1 kp2
    dsimp only [pl]
    go_wp2_with fail
    rw [← HW2.out]
    refine (HCD.out _ hw2).mono ?_
    rintro e w3 ⟨u3, rfl, ho3, hb3⟩
    obtain ⟨A3, c3, rfl⟩ := ho3.form
    obtain ⟨W4, hW4⟩ : ∃ W, W = w3.alloc (.cells #[.int .i64 x1, .int .i64 x2, .int .i64 x3, .int .i64 n, .slice A3 E.length c3] 26) := ⟨_, rfl⟩
    have h34 : Below w3.heap.size w3 W4 := by rw [hW4]; exact (Below.refl _ _).alloc (Nat.le_refl _) _
    have kq4 : Blk W4 w3.heap.size 26 #[.int .i64 x1, .int .i64 x2, .int .i64 x3, .int .i64 n, .slice A3 E.length c3] := by rw [hW4]; exact Blk.new _ _ _
    have h24 : Below W2.heap.size W2 W4 := hb3.trans (h34.mono hb3.size)
    have h14 : Below w1.heap.size w1 W4 := h12.trans (h24.mono h12.size)
    have hw4 : Below w.heap.size w W4 := hw2.trans (h24.mono hw2.size)
    have HW4 := Lib.hid hW4
    have HKQ := Lib.hid kq4
    have HKP3 := Lib.hid (HKP2.out.belowV hb3)
    have HKP := Lib.hid (HKP2.out.belowV h24)
    have R1 := Lib.hid (show Rd_plan W4 (.slice A1 E.length c1) (pl x1 x2 x3 n E) from HO1.out.rd.below h14)
    have R3 := Lib.hid (show Rd_plan W4 (.slice A3 E.length c3) (pl x1 x2 x3 n E) from ho3.rd.below h34)
    have HO4 := Lib.hid (Own_plan.below HO1.out h14)
    clear ho3 hW4 kq4
    obtain ⟨bp, hbp⟩ : ∃ bp, bp = w1.heap.size := ⟨_, rfl⟩
    obtain ⟨bq, hbq⟩ : ∃ bq, bq = w3.heap.size := ⟨_, rfl⟩
    rw [← hbp] at HKP
    rw [← hbq] at HKQ
    have HBP := Lib.hid hbp
    have HBQ := Lib.hid hbq
    have hwbp : w.heap.size ≤ bp := by rw [hbp]; exact hb1.size
    clear hbp hbq h12 h34 h24 h14 hb1 hb3 hw2 HKP2 HCD CB
    -- the contracts
    have CF := Lib.hid (show ∀  W, Below W4.heap.size W4 W → Calls Try.prog 22 #[.agg #[.int .i64 x1, .int .i64 x2, .int .i64 x3, .int .i64 n, .slice A1 E.length c1]] W (fun e w' => e = .returned (.int .i64 0) ∧ Below W.heap.size W w') from fun  W hW => by rw [← HPR.out.zero]; exact planFault_impl _ _ W (R1.out.below hW) hcost)
    have CBH := Lib.hid (show ∀ (t : Int) W, Below W4.heap.size W4 W → Calls Try.prog 23 #[.agg #[.int .i64 x1, .int .i64 x2, .int .i64 x3, .int .i64 n, .slice A1 E.length c1], .int .i64 t] W (GivesI (behindOfR (pl x1 x2 x3 n E) t) W) from fun t W hW => behindOf_impl _ _ t W (R1.out.below hW) hcost)
    have CBE := Lib.hid (show ∀ (t : Int) W, Below W4.heap.size W4 W → Calls Try.prog 24 #[.agg #[.int .i64 x1, .int .i64 x2, .int .i64 x3, .int .i64 n, .slice A1 E.length c1], .int .i64 t] W (GivesI (beforeOfR (pl x1 x2 x3 n E) t) W) from fun t W hW => beforeOf_impl _ _ t W (R1.out.below hW) hcost)
    have CBS := Lib.hid (show ∀ (t : Int) W, Below W4.heap.size W4 W → Calls Try.prog 26 #[.agg #[.int .i64 x1, .int .i64 x2, .int .i64 x3, .int .i64 n, .slice A3 E.length c3], .int .i64 t] W (GivesI (beforeOfR (pl x1 x2 x3 n E) t) W) from fun t W hW => beforeOf_spec _ _ t W (R3.out.below hW) hcost)
    have CR := Lib.hid (show ∀ (a b : Int) W, Below W4.heap.size W4 W → Calls Try.prog 25 #[.agg #[.int .i64 x1, .int .i64 x2, .int .i64 x3, .int .i64 n, .slice A1 E.length c1], .int .i64 a, .int .i64 b] W (fun e w' => e = .returned (.bool (reachesR (pl x1 x2 x3 n E) a b)) ∧ Below W.heap.size W w') from fun a b W hW => reaches_impl _ _ a b W (R1.out.below hW) hcost)
    have CS := Lib.hid (show ∀ (a b : Int) W, Below W4.heap.size W4 W → Calls Try.prog 27 #[.agg #[.int .i64 x1, .int .i64 x2, .int .i64 x3, .int .i64 n, .slice A3 E.length c3], .int .i64 a, .int .i64 b] W (fun e w' => e = .returned (.bool (reachesR (pl x1 x2 x3 n E) a b)) ∧ Below W.heap.size W w') from fun a b W hW => reaches_spec _ _ a b W (R3.out.below hW) hcost)
    have HBF := Lib.hid (Below.refl W4.heap.size W4)
    dsimp only [pl]
    have kp := HKP3.out
    have p0 := kp.cell 0
    have p1 := kp.cell 1
    have p2 := kp.cell 2
    have p3 := kp.cell 3
    have p4 := kp.cell 4
    simp only [List.getElem?_toArray, List.getElem?_cons_succ, List.getElem?_cons_zero] at p0 p1 p2 p3 p4
    have hpl := kp.lt
    clear kp
    go_wp2_with fail
    rw [← HW4.out, ← HBP.out, ← HBQ.out]
    refine (CF.out _ HBF.out).mono ?_
    rintro e w5 ⟨rfl, hb5⟩
    clear p0 p1 p2 p3 p4 hpl
    go_wp2_with fail
    go_loopw [5] (fun i wr => ∃ k : Nat, k ≤ n ∧ i = .int .i64 k ∧ Hid (Below W4.heap.size W4 wr)) (fun i _ => n - (intOf i).toNat)
    case atStart => exact ⟨0, Nat.zero_le _, rfl, Lib.hid hb5⟩
    case round =>
      clear hb5
      obtain ⟨k, hk, rfl, HB⟩ := hrel
      have kp := HKP.out.belowV HB.out
      have p0 := kp.cell 0
      have p1 := kp.cell 1
      have p2 := kp.cell 2
      have p3 := kp.cell 3
      have p4 := kp.cell 4
      simp only [List.getElem?_toArray, List.getElem?_cons_succ, List.getElem?_cons_zero] at p0 p1 p2 p3 p4
      have hpl := kp.lt
      have kq := HKQ.out.belowV HB.out
      have q0 := kq.cell 0
      have q1 := kq.cell 1
      have q2 := kq.cell 2
      have q3 := kq.cell 3
      have q4 := kq.cell 4
      simp only [List.getElem?_toArray, List.getElem?_cons_succ, List.getElem?_cons_zero] at q0 q1 q2 q3 q4
      have hql := kq.lt
      clear kp kq
      by_cases hlt : k < n
      · have hk0 : (0 : Int) ≤ (k : Int) := by omega
        have hk1 : (k : Int) < (n : Int) := by omega
        go_wp2_with fail
        refine (CBH.out k _ HB.out).mono ?_
        obtain ⟨BL, hBL⟩ : ∃ BL, BL = behindOfR (pl x1 x2 x3 n E) k := ⟨_, rfl⟩
        have HY := Lib.hid (show ∀ y ∈ BL, hasB (beforeOfR (pl x1 x2 x3 n E) y) (k : Int) = true ∧ reachesR (pl x1 x2 x3 n E) k y = true from fun y hy => by rw [hBL] at hy; exact ⟨right_back HPR.out hy, right_reach HPR.out (by omega) (by show (k : Int) < n; omega) hy⟩)
        rw [← hBL]
        have hbl : BL.length ≤ 30 := by rw [hBL]; exact behindOf_le _ _
        clear hBL
        rintro e w6 ⟨u6, rfl, ho6, hb6⟩
        have r6 : Rd w6 1 u6 BL.length (intsV BL) := ints_rd ho6
        obtain ⟨A6, c6, rfl, hnc6, hcm6⟩ := r6.shape
        unfold maxLen at hcm6
        have HR6 := Lib.hid r6
        have HB6 := Lib.hid (HB.out.trans (hb6.mono HB.out.size))
        clear ho6 r6 p0 p1 p2 p3 p4 hpl q0 q1 q2 q3 q4 hql
        go_wp2_with fail
        go_loopw [7] (fun i wr => ∃ j : Nat, j ≤ BL.length ∧ i = .int .i64 j ∧ Hid (Below w6.heap.size w6 wr)) (fun i _ => BL.length - (intOf i).toNat)
        case atStart => exact ⟨0, Nat.zero_le _, rfl, Lib.hid (Below.refl _ _)⟩
        case round =>
          obtain ⟨j, hj, rfl, HJ⟩ := hrel
          have HB7 := Lib.hid (HB6.out.trans (HJ.out.mono HB6.out.size))
          have kp := HKP.out.belowV HB7.out
          have p0 := kp.cell 0
          have p1 := kp.cell 1
          have p2 := kp.cell 2
          have p3 := kp.cell 3
          have p4 := kp.cell 4
          simp only [List.getElem?_toArray, List.getElem?_cons_succ, List.getElem?_cons_zero] at p0 p1 p2 p3 p4
          have hpl := kp.lt
          by_cases hltj : j < BL.length
          · obtain ⟨b1, o1, _, hv1, _, _, hl1, hc1⟩ := HR6.out.form (by omega) (by omega)
            have hA1 : A6 = some ⟨b1, o1, none⟩ := by injection hv1
            subst hA1
            obtain ⟨y, hy⟩ : ∃ y, y = BL[j] := ⟨_, rfl⟩
            have d0 := int_cell HJ.out hl1 hc1 hltj y hy
            have hb1' : b1 < wr.heap.size := Nat.lt_of_lt_of_le hl1 HJ.out.size
            obtain ⟨hy1, hy2⟩ := HY.out y (by rw [hy]; exact List.getElem_mem hltj)
            obtain ⟨BB, hBB⟩ : ∃ BB, BB = beforeOfR (pl x1 x2 x3 n E) y := ⟨_, rfl⟩
            have CBEy := Lib.hid (fun W hW => CBE.out y W hW)
            rw [← hBB] at CBEy hy1
            have CRy := Lib.hid (fun W hW => CR.out k y W hW)
            rw [hy2] at CRy
            have CHy := Lib.hid (fun v W (h : Rd W 1 v BB.length (intsV BB)) => hasInt_any v BB k W h)
            rw [hy1] at CHy
            have hj0 : (0 : Int) ≤ (j : Int) := by omega
            have hj1 : (j : Int) < (BL.length : Int) := by omega
            have HBD := Lib.hid (show Below W4.heap.size W4 wr.drew from HB7.out.drew)
            clear hBB hy1 hy2 hy hv1 hc1 kp
            go_wp2_with fail
            refine wp_region_sched [(0, true), (1, true), (2, true), (3, true), (4, true), (5, false), (6, true)] [(true, _), (true, _), (true, _), (true, _), (true, _), (false, _), (true, _)] rfl (by kernel_rfl) (by kernel_rfl) (KeptS _ none) (KeptS.refl _ _).drew ?_
            try simp only [List.getElem_toArray, List.getElem_cons_succ, List.getElem_cons_zero]
            (refine wpS_held (by rfl) ?_ (fun W hW => ?_) ?_; rotate_left; (· (obtain ⟨kq, rfl⟩ := hW; go_simp; try with_reducible rfl)); try simp only [Act.put, List.setIfInBounds_toArray, List.set_cons_succ, List.set_cons_zero])
            (refine wpS_held (by rfl) ?_ (fun W hW => ?_) ?_; rotate_left; (· (obtain ⟨kq, rfl⟩ := hW; go_simp; try with_reducible rfl)); try simp only [Act.put, List.setIfInBounds_toArray, List.set_cons_succ, List.set_cons_zero])
            (refine wpS_held (by rfl) ?_ (fun W hW => ?_) ?_; rotate_left; (· (obtain ⟨kq, rfl⟩ := hW; go_simp; try with_reducible rfl)); try simp only [Act.put, List.setIfInBounds_toArray, List.set_cons_succ, List.set_cons_zero])
            (refine wpS_held (by rfl) ?_ (fun W hW => ?_) ?_; rotate_left; (· (obtain ⟨kq, rfl⟩ := hW; go_simp; try with_reducible rfl)); try simp only [Act.put, List.setIfInBounds_toArray, List.set_cons_succ, List.set_cons_zero])
            (refine wpS_held (by rfl) ?_ (fun W hW => ?_) ?_; rotate_left; (· (obtain ⟨kq, rfl⟩ := hW; go_simp; try with_reducible rfl)); try simp only [Act.put, List.setIfInBounds_toArray, List.set_cons_succ, List.set_cons_zero])
            (refine wpS_call 24 (by rfl) (by rfl) Try.func24 (by kernel_rfl) (by rfl) (by rfl) ?_; (conv => arg 3; simp [Act.eval]); ((with_reducible refine (CBEy.out _ HBD.out).mono ?_); rintro e w8 ⟨u8, rfl, ho8, hb8⟩; obtain ⟨A8, c8, rfl, hc8, -⟩ := (ints_rd ho8).shape); refine ⟨_, rfl, ?_, ?_⟩; (· (repeat first | exact KeptS.refl _ _ | exact KeptS.of (only_of_below (by assumption) _) | assumption | refine KeptS.drew ?_ | refine KeptS.alloc ?_ _ | refine KeptS.grown ?_ (by assumption) | refine KeptS.below ?_ (by assumption) | refine KeptS.belowAt ?_ (by assumption) | refine KeptS.setRow ?_ (by simp; done) _ | refine KeptS.setNew ?_ (by simp) _)); try simp only [Act.put, List.setIfInBounds_toArray, List.set_cons_succ, List.set_cons_zero])
            (refine wpS_held (by rfl) ?_ (fun W hW => ?_) ?_; rotate_left; (· (obtain ⟨kq, rfl⟩ := hW; go_simp; try with_reducible rfl)); try simp only [Act.put, List.setIfInBounds_toArray, List.set_cons_succ, List.set_cons_zero])
            refine wpS_nil ?_
            try simp only [List.getElem_toArray, List.getElem_cons_succ, List.getElem_cons_zero]
            have hx8 : Below wr.heap.size wr w8 := ((Below.refl wr.heap.size wr).drew).trans (hb8.mono (Nat.le_refl _))
            have HJ8 := Lib.hid (HJ.out.trans (hx8.mono HJ.out.size))
            have HB8 := Lib.hid (HB7.out.trans (hx8.mono HB7.out.size))
            have HR8 := Lib.hid (ints_rd ho8)
            have kp := HKP.out.belowV HB8.out
            clear p0 p1 p2 p3 p4 hpl
            have p0 := kp.cell 0
            have p1 := kp.cell 1
            have p2 := kp.cell 2
            have p3 := kp.cell 3
            have p4 := kp.cell 4
            simp only [List.getElem?_toArray, List.getElem?_cons_succ, List.getElem?_cons_zero] at p0 p1 p2 p3 p4
            have hpl := kp.lt
            have d0 := (hx8.cell (p := ⟨b1, o1 + j, none⟩) hb1').trans d0
            have hb1' := Nat.lt_of_lt_of_le hb1' hx8.size
            clear kp hx8 hb8 ho8 HBD
            go_wp2_with fail
            first | refine wp_region_calm_on (by kernel_rfl) (by kernel_rfl) ?_ | refine wp_region_calm_lit (by kernel_rfl) (by kernel_rfl) ?_
            repeat (go_big_quiet_step (first | (go_at_call 20; exact calm_of (CHy.out _ _ (HR8.out.below (Calm.below _)))) | (go_at_call 25; exact calm_of (CRy.out _ (Below.calm HB8.out HB8.out.size)))))
            refine wpQuiet_nil ?_
            intro _ hw'
            obtain ⟨kz, hw''⟩ := hw'
            subst hw''
            go_wp2_with fail
            go_roundw
            case rel => exact ⟨j + 1, by omega, by go_num, Lib.hid (Below.calm HJ8.out HJ8.out.size)⟩
            case measure => simp [intOf]; omega
          · have CRk := Lib.hid (fun W hW => CR.out k k W hW)
            rw [show reachesR (pl x1 x2 x3 n E) k k = false from right_self HPR.out hk0 (by show (k : Int) < n; omega)] at CRk
            obtain ⟨BB, hBB⟩ : ∃ BB, BB = beforeOfR (pl x1 x2 x3 n E) k := ⟨_, rfl⟩
            have CB1 := Lib.hid (fun W hW => CBE.out k W hW)
            have CB2 := Lib.hid (fun W hW => CBS.out k W hW)
            rw [← hBB] at CB1 CB2
            have kq := HKQ.out.belowV HB7.out
            have q0 := kq.cell 0
            have q1 := kq.cell 1
            have q2 := kq.cell 2
            have q3 := kq.cell 3
            have q4 := kq.cell 4
            simp only [List.getElem?_toArray, List.getElem?_cons_succ, List.getElem?_cons_zero] at q0 q1 q2 q3 q4
            have hql := kq.lt
            have HBD := Lib.hid (show Below W4.heap.size W4 wr.drew from HB7.out.drew)
            have HXD := Lib.hid (show Below wr.heap.size wr wr.drew from (Below.refl _ _).drew)
            clear hBB kp kq
            go_wp2_with fail
            clear HBF
            refine wp_region_sched [(0, true), (1, true), (2, true), (3, false), (4, true), (5, true), (6, true), (8, true), (9, true), (7, false), (10, false), (11, false), (12, true), (13, true)] [(true, _), (true, _), (true, _), (false, _), (true, _), (true, _), (true, _), (true, _), (true, _), (false, _), (false, _), (false, _), (true, _), (true, _)] rfl (by kernel_rfl) (by kernel_rfl) (KeptS _ none) (KeptS.refl _ _).drew ?_
            try simp only [List.getElem_toArray, List.getElem_cons_succ, List.getElem_cons_zero]
            (refine wpS_held (by rfl) ?_ (fun W hW => ?_) ?_; rotate_left; (· (obtain ⟨kq, rfl⟩ := hW; go_simp; try with_reducible rfl)); try simp only [Act.put, List.setIfInBounds_toArray, List.set_cons_succ, List.set_cons_zero])
            (refine wpS_held (by rfl) ?_ (fun W hW => ?_) ?_; rotate_left; (· (obtain ⟨kq, rfl⟩ := hW; go_simp; try with_reducible rfl)); try simp only [Act.put, List.setIfInBounds_toArray, List.set_cons_succ, List.set_cons_zero])
            (refine wpS_held (by rfl) ?_ (fun W hW => ?_) ?_; rotate_left; (· (obtain ⟨kq, rfl⟩ := hW; go_simp; try with_reducible rfl)); try simp only [Act.put, List.setIfInBounds_toArray, List.set_cons_succ, List.set_cons_zero])
            (refine wpS_call 25 (by rfl) (by rfl) Try.func25 (by kernel_rfl) (by rfl) (by rfl) ?_; (conv => arg 3; simp [Act.eval]); (first | ((with_reducible refine (CRk.out _ HBD.out).mono ?_); rintro e w8 ⟨rfl, hb8⟩; have hq8 := HXD.out.trans (hb8.mono HXD.out.size); have HW8 := Lib.hid (HBD.out.trans (hb8.mono HBD.out.size))) | ((with_reducible refine (CB1.out _ HW8.out).mono ?_); rintro e w9 ⟨u9, rfl, ho9, hb9⟩; have hq9 := hq8.trans (hb9.mono hq8.size); have HW9 := Lib.hid (HW8.out.trans (hb9.mono HW8.out.size)); obtain ⟨A9, c9, rfl, hc9, -⟩ := (ints_rd ho9).shape) | ((with_reducible refine (CB2.out _ HW9.out).mono ?_); rintro e w10 ⟨u10, rfl, ho10, hb10⟩; have hq10 := hq9.trans (hb10.mono hq9.size); have HW10 := Lib.hid (HW9.out.trans (hb10.mono HW9.out.size)); obtain ⟨A10, c10, rfl, hc10, -⟩ := (ints_rd ho10).shape) | ((with_reducible refine (sameInts_same _ _ BB _ (Rd.below (ints_rd ho9) hb10) (ints_rd ho10)).mono ?_); rintro e w11 ⟨rfl, hb11⟩; have hq11 := hq10.trans (hb11.mono hq10.size); have HW11 := Lib.hid (HW10.out.trans (hb11.mono HW10.out.size)))); refine ⟨_, rfl, ?_, ?_⟩; (· (repeat first | exact KeptS.refl _ _ | exact KeptS.of (only_of_below (by assumption) _) | assumption | refine KeptS.drew ?_ | refine KeptS.alloc ?_ _ | refine KeptS.grown ?_ (by assumption) | refine KeptS.below ?_ (by assumption) | refine KeptS.belowAt ?_ (by assumption) | refine KeptS.setRow ?_ (by simp; done) _ | refine KeptS.setNew ?_ (by simp) _)); try simp only [Act.put, List.setIfInBounds_toArray, List.set_cons_succ, List.set_cons_zero])
            (refine wpS_held (by rfl) ?_ (fun W hW => ?_) ?_; rotate_left; (· (obtain ⟨kq, rfl⟩ := hW; go_simp; try with_reducible rfl)); try simp only [Act.put, List.setIfInBounds_toArray, List.set_cons_succ, List.set_cons_zero])
            first | (refine wpS_skip ?_ ?_; (· (simp [Region.wanted, yielded]; done)); try simp only [Act.put, List.setIfInBounds_toArray, List.set_cons_succ, List.set_cons_zero]) | (refine wpS_held (by simp [Region.wanted, yielded]; done) ?_ (fun W hW => ?_) ?_; rotate_left; (· (obtain ⟨kq, rfl⟩ := hW; go_simp; try with_reducible rfl)); try simp only [Act.put, List.setIfInBounds_toArray, List.set_cons_succ, List.set_cons_zero])
            first | (refine wpS_skip ?_ ?_; (· (simp [Region.wanted, yielded]; done)); try simp only [Act.put, List.setIfInBounds_toArray, List.set_cons_succ, List.set_cons_zero]) | (refine wpS_held (by simp [Region.wanted, yielded]; done) ?_ (fun W hW => ?_) ?_; rotate_left; (· (obtain ⟨kq, rfl⟩ := hW; go_simp; try with_reducible rfl)); try simp only [Act.put, List.setIfInBounds_toArray, List.set_cons_succ, List.set_cons_zero])
            first | (refine wpS_skip ?_ ?_; (· (simp [Region.wanted, yielded]; done)); try simp only [Act.put, List.setIfInBounds_toArray, List.set_cons_succ, List.set_cons_zero]) | (refine wpS_held (by simp [Region.wanted, yielded]; done) ?_ (fun W hW => ?_) ?_; rotate_left; (· (obtain ⟨kq, rfl⟩ := hW; go_simp; try with_reducible rfl)); try simp only [Act.put, List.setIfInBounds_toArray, List.set_cons_succ, List.set_cons_zero])
            first | (refine wpS_skip ?_ ?_; (· (simp [Region.wanted, yielded]; done)); try simp only [Act.put, List.setIfInBounds_toArray, List.set_cons_succ, List.set_cons_zero]) | (refine wpS_held (by simp [Region.wanted, yielded]; done) ?_ (fun W hW => ?_) ?_; rotate_left; (· (obtain ⟨kq, rfl⟩ := hW; go_simp; try with_reducible rfl)); try simp only [Act.put, List.setIfInBounds_toArray, List.set_cons_succ, List.set_cons_zero])
            first | (refine wpS_skip ?_ ?_; (· (simp [Region.wanted, yielded]; done)); try simp only [Act.put, List.setIfInBounds_toArray, List.set_cons_succ, List.set_cons_zero]) | (refine wpS_call 24 (by simp [Region.wanted, yielded]; done) (by rfl) Try.func24 (by kernel_rfl) (by rfl) (by rfl) ?_; (conv => arg 3; simp [Act.eval]); (first | ((with_reducible refine (CRk.out _ HBD.out).mono ?_); rintro e w8 ⟨rfl, hb8⟩; have hq8 := HXD.out.trans (hb8.mono HXD.out.size); have HW8 := Lib.hid (HBD.out.trans (hb8.mono HBD.out.size))) | ((with_reducible refine (CB1.out _ HW8.out).mono ?_); rintro e w9 ⟨u9, rfl, ho9, hb9⟩; have hq9 := hq8.trans (hb9.mono hq8.size); have HW9 := Lib.hid (HW8.out.trans (hb9.mono HW8.out.size)); obtain ⟨A9, c9, rfl, hc9, -⟩ := (ints_rd ho9).shape) | ((with_reducible refine (CB2.out _ HW9.out).mono ?_); rintro e w10 ⟨u10, rfl, ho10, hb10⟩; have hq10 := hq9.trans (hb10.mono hq9.size); have HW10 := Lib.hid (HW9.out.trans (hb10.mono HW9.out.size)); obtain ⟨A10, c10, rfl, hc10, -⟩ := (ints_rd ho10).shape) | ((with_reducible refine (sameInts_same _ _ BB _ (Rd.below (ints_rd ho9) hb10) (ints_rd ho10)).mono ?_); rintro e w11 ⟨rfl, hb11⟩; have hq11 := hq10.trans (hb11.mono hq10.size); have HW11 := Lib.hid (HW10.out.trans (hb11.mono HW10.out.size)))); refine ⟨_, rfl, ?_, ?_⟩; (· (repeat first | exact KeptS.refl _ _ | exact KeptS.of (only_of_below (by assumption) _) | assumption | refine KeptS.drew ?_ | refine KeptS.alloc ?_ _ | refine KeptS.grown ?_ (by assumption) | refine KeptS.below ?_ (by assumption) | refine KeptS.belowAt ?_ (by assumption) | refine KeptS.setRow ?_ (by simp; done) _ | refine KeptS.setNew ?_ (by simp) _)); try simp only [Act.put, List.setIfInBounds_toArray, List.set_cons_succ, List.set_cons_zero])
            first | (refine wpS_skip ?_ ?_; (· (simp [Region.wanted, yielded]; done)); try simp only [Act.put, List.setIfInBounds_toArray, List.set_cons_succ, List.set_cons_zero]) | (refine wpS_call 26 (by simp [Region.wanted, yielded]; done) (by rfl) Try.func26 (by kernel_rfl) (by rfl) (by rfl) ?_; (conv => arg 3; simp [Act.eval]); (first | ((with_reducible refine (CRk.out _ HBD.out).mono ?_); rintro e w8 ⟨rfl, hb8⟩; have hq8 := HXD.out.trans (hb8.mono HXD.out.size); have HW8 := Lib.hid (HBD.out.trans (hb8.mono HBD.out.size))) | ((with_reducible refine (CB1.out _ HW8.out).mono ?_); rintro e w9 ⟨u9, rfl, ho9, hb9⟩; have hq9 := hq8.trans (hb9.mono hq8.size); have HW9 := Lib.hid (HW8.out.trans (hb9.mono HW8.out.size)); obtain ⟨A9, c9, rfl, hc9, -⟩ := (ints_rd ho9).shape) | ((with_reducible refine (CB2.out _ HW9.out).mono ?_); rintro e w10 ⟨u10, rfl, ho10, hb10⟩; have hq10 := hq9.trans (hb10.mono hq9.size); have HW10 := Lib.hid (HW9.out.trans (hb10.mono HW9.out.size)); obtain ⟨A10, c10, rfl, hc10, -⟩ := (ints_rd ho10).shape) | ((with_reducible refine (sameInts_same _ _ BB _ (Rd.below (ints_rd ho9) hb10) (ints_rd ho10)).mono ?_); rintro e w11 ⟨rfl, hb11⟩; have hq11 := hq10.trans (hb11.mono hq10.size); have HW11 := Lib.hid (HW10.out.trans (hb11.mono HW10.out.size)))); refine ⟨_, rfl, ?_, ?_⟩; (· (repeat first | exact KeptS.refl _ _ | exact KeptS.of (only_of_below (by assumption) _) | assumption | refine KeptS.drew ?_ | refine KeptS.alloc ?_ _ | refine KeptS.grown ?_ (by assumption) | refine KeptS.below ?_ (by assumption) | refine KeptS.belowAt ?_ (by assumption) | refine KeptS.setRow ?_ (by simp; done) _ | refine KeptS.setNew ?_ (by simp) _)); try simp only [Act.put, List.setIfInBounds_toArray, List.set_cons_succ, List.set_cons_zero])
            first | (refine wpS_skip ?_ ?_; (· (simp [Region.wanted, yielded]; done)); try simp only [Act.put, List.setIfInBounds_toArray, List.set_cons_succ, List.set_cons_zero]) | (refine wpS_call 16 (by simp [Region.wanted, yielded]; done) (by rfl) Try.func16 (by kernel_rfl) (by rfl) (by rfl) ?_; (conv => arg 3; simp [Act.eval]); (first | ((with_reducible refine (CRk.out _ HBD.out).mono ?_); rintro e w8 ⟨rfl, hb8⟩; have hq8 := HXD.out.trans (hb8.mono HXD.out.size); have HW8 := Lib.hid (HBD.out.trans (hb8.mono HBD.out.size))) | ((with_reducible refine (CB1.out _ HW8.out).mono ?_); rintro e w9 ⟨u9, rfl, ho9, hb9⟩; have hq9 := hq8.trans (hb9.mono hq8.size); have HW9 := Lib.hid (HW8.out.trans (hb9.mono HW8.out.size)); obtain ⟨A9, c9, rfl, hc9, -⟩ := (ints_rd ho9).shape) | ((with_reducible refine (CB2.out _ HW9.out).mono ?_); rintro e w10 ⟨u10, rfl, ho10, hb10⟩; have hq10 := hq9.trans (hb10.mono hq9.size); have HW10 := Lib.hid (HW9.out.trans (hb10.mono HW9.out.size)); obtain ⟨A10, c10, rfl, hc10, -⟩ := (ints_rd ho10).shape) | ((with_reducible refine (sameInts_same _ _ BB _ (Rd.below (ints_rd ho9) hb10) (ints_rd ho10)).mono ?_); rintro e w11 ⟨rfl, hb11⟩; have hq11 := hq10.trans (hb11.mono hq10.size); have HW11 := Lib.hid (HW10.out.trans (hb11.mono HW10.out.size)))); refine ⟨_, rfl, ?_, ?_⟩; (· (repeat first | exact KeptS.refl _ _ | exact KeptS.of (only_of_below (by assumption) _) | assumption | refine KeptS.drew ?_ | refine KeptS.alloc ?_ _ | refine KeptS.grown ?_ (by assumption) | refine KeptS.below ?_ (by assumption) | refine KeptS.belowAt ?_ (by assumption) | refine KeptS.setRow ?_ (by simp; done) _ | refine KeptS.setNew ?_ (by simp) _)); try simp only [Act.put, List.setIfInBounds_toArray, List.set_cons_succ, List.set_cons_zero])
            first | (refine wpS_skip ?_ ?_; (· (simp [Region.wanted, yielded]; done)); try simp only [Act.put, List.setIfInBounds_toArray, List.set_cons_succ, List.set_cons_zero]) | (refine wpS_held (by simp [Region.wanted, yielded]; done) ?_ (fun W hW => ?_) ?_; rotate_left; (· (obtain ⟨kq, rfl⟩ := hW; go_simp; try with_reducible rfl)); try simp only [Act.put, List.setIfInBounds_toArray, List.set_cons_succ, List.set_cons_zero])
            (refine wpS_held (by rfl) ?_ (fun W hW => ?_) ?_; rotate_left; (· (obtain ⟨kq, rfl⟩ := hW; go_simp; try with_reducible rfl)); try simp only [Act.put, List.setIfInBounds_toArray, List.set_cons_succ, List.set_cons_zero])
            refine wpS_nil ?_
            try simp only [List.getElem_toArray, List.getElem_cons_succ, List.getElem_cons_zero]
            clear p0 p1 p2 p3 p4 hpl q0 q1 q2 q3 q4 hql hb8 hb9 hb10 hb11 hq8 hq9 hq10 hq11 ho9 ho10 HXD HBD
            go_wp2_with fail
            go_loopw [9] (fun i wr => ∃ j : Nat, j ≤ n ∧ i = .int .i64 j ∧ Hid (Below W4.heap.size W4 wr)) (fun i _ => n - (intOf i).toNat)
            case atStart => exact ⟨0, Nat.zero_le _, rfl, HW11⟩
            case round =>
              obtain ⟨b, hb, rfl, HB9⟩ := hrel
              have kq := HKQ.out.belowV HB9.out
              have q0 := kq.cell 0
              have q1 := kq.cell 1
              have q2 := kq.cell 2
              have q3 := kq.cell 3
              have q4 := kq.cell 4
              simp only [List.getElem?_toArray, List.getElem?_cons_succ, List.getElem?_cons_zero] at q0 q1 q2 q3 q4
              have hql := kq.lt
              clear kq
              by_cases hltb : b < n
              · have hb0 : (0 : Int) ≤ (b : Int) := by omega
                have hb1 : (b : Int) < (n : Int) := by omega
                go_wp2_with fail
                clear q0 q1 q2 q3 q4 hql
                go_loopw [10] (fun i wr => ∃ j : Nat, j ≤ n ∧ i = .int .i64 j ∧ Hid (Below W4.heap.size W4 wr)) (fun i _ => n - (intOf i).toNat)
                case atStart => exact ⟨0, Nat.zero_le _, rfl, HB9⟩
                case round =>
                  obtain ⟨c, hc, rfl, HB10⟩ := hrel
                  have kq := HKQ.out.belowV HB10.out
                  have q0 := kq.cell 0
                  have q1 := kq.cell 1
                  have q2 := kq.cell 2
                  have q3 := kq.cell 3
                  have q4 := kq.cell 4
                  simp only [List.getElem?_toArray, List.getElem?_cons_succ, List.getElem?_cons_zero] at q0 q1 q2 q3 q4
                  have hql := kq.lt
                  clear kq
                  by_cases hltc : c < n
                  · have hc0 : (0 : Int) ≤ (c : Int) := by omega
                    have hc1 : (c : Int) < (n : Int) := by omega
                    have HON := Lib.hid (fun h1 h2 => right_on HPR.out (a := k) (b := b) (c := c) ⟨by omega, by show (k : Int) < n; omega⟩ ⟨by omega, by show (b : Int) < n; omega⟩ ⟨by omega, by show (c : Int) < n; omega⟩ h1 h2)
                    have CS1 := Lib.hid (fun W hW => CS.out k b W hW)
                    have CS2 := Lib.hid (fun W hW => CS.out b c W hW)
                    have CR3 := Lib.hid (fun W hW => CR.out k c W hW)
                    cases h1 : reachesR (pl x1 x2 x3 n E) k b with
                    | false =>
                      rw [h1] at CS1
                      clear h1 HON
                      go_wp2_with fail
                      refine (CS1.out _ HB10.out).mono ?_
                      rintro e w12 ⟨rfl, hb12⟩
                      go_wp2_with fail
                      go_roundw
                      case rel => exact ⟨c + 1, by omega, by go_num, Lib.hid (HB10.out.trans (hb12.mono HB10.out.size))⟩
                      case measure => simp [intOf]; omega
                    | true =>
                      rw [h1] at CS1
                      cases h2 : reachesR (pl x1 x2 x3 n E) b c with
                      | false =>
                        rw [h2] at CS2
                        clear h1 h2 HON
                        go_wp2_with fail
                        refine (CS1.out _ HB10.out).mono ?_
                        rintro e w12 ⟨rfl, hb12⟩
                        have HB12 := Lib.hid (HB10.out.trans (hb12.mono HB10.out.size))
                        clear q0 q1 q2 q3 q4 hql hb12
                        have kq := HKQ.out.belowV HB12.out
                        have q0 := kq.cell 0
                        have q1 := kq.cell 1
                        have q2 := kq.cell 2
                        have q3 := kq.cell 3
                        have q4 := kq.cell 4
                        simp only [List.getElem?_toArray, List.getElem?_cons_succ, List.getElem?_cons_zero] at q0 q1 q2 q3 q4
                        have hql := kq.lt
                        clear kq
                        go_wp2_with fail
                        refine (CS2.out _ HB12.out).mono ?_
                        rintro e w13 ⟨rfl, hb13⟩
                        go_wp2_with fail
                        go_roundw
                        case rel => exact ⟨c + 1, by omega, by go_num, Lib.hid (HB12.out.trans (hb13.mono HB12.out.size))⟩
                        case measure => simp [intOf]; omega
                      | true =>
                        rw [h2] at CS2
                        rw [HON.out h1 h2] at CR3
                        clear h1 h2 HON
                        go_wp2_with fail
                        refine (CS1.out _ HB10.out).mono ?_
                        rintro e w12 ⟨rfl, hb12⟩
                        have HB12 := Lib.hid (HB10.out.trans (hb12.mono HB10.out.size))
                        clear q0 q1 q2 q3 q4 hql hb12
                        have kq := HKQ.out.belowV HB12.out
                        have q0 := kq.cell 0
                        have q1 := kq.cell 1
                        have q2 := kq.cell 2
                        have q3 := kq.cell 3
                        have q4 := kq.cell 4
                        simp only [List.getElem?_toArray, List.getElem?_cons_succ, List.getElem?_cons_zero] at q0 q1 q2 q3 q4
                        have hql := kq.lt
                        clear kq
                        go_wp2_with fail
                        refine (CS2.out _ HB12.out).mono ?_
                        rintro e w13 ⟨rfl, hb13⟩
                        have HB13 := Lib.hid (HB12.out.trans (hb13.mono HB12.out.size))
                        clear q0 q1 q2 q3 q4 hql hb13
                        have kp := HKP.out.belowV HB13.out
                        have p0 := kp.cell 0
                        have p1 := kp.cell 1
                        have p2 := kp.cell 2
                        have p3 := kp.cell 3
                        have p4 := kp.cell 4
                        simp only [List.getElem?_toArray, List.getElem?_cons_succ, List.getElem?_cons_zero] at p0 p1 p2 p3 p4
                        have hpl := kp.lt
                        clear kp
                        go_wp2_with fail
                        refine (CR3.out _ HB13.out).mono ?_
                        rintro e w14 ⟨rfl, hb14⟩
                        go_wp2_with fail
                        go_roundw
                        case rel => exact ⟨c + 1, by omega, by go_num, Lib.hid (HB13.out.trans (hb14.mono HB13.out.size))⟩
                        case measure => simp [intOf]; omega
                  · go_wp2_with fail
                    go_roundw
                    case rel => exact ⟨b + 1, by omega, by go_num, HB10⟩
                    case measure => simp [intOf]; omega
              · go_wp2_with fail
                go_roundw
                case rel => exact ⟨k + 1, by omega, by go_num, HB9⟩
                case measure => simp [intOf]; omega
      · have HOR := Lib.hid (own_below HO4.out.1 HB.out)
        have HLT := Lib.hid HO4.out.2.2
        have HWR := Lib.hid (hw4.trans (HB.out.mono hw4.size))
        have hbr : w.heap.size ≤ wr.heap.size := HWR.out.size
        have hown := HOR.out
        have HKPr := Lib.hid (HKP.out.belowV HB.out)
        have pf4 := HKPr.out.frozen 4
        have hwr := HWR.out
        go_wp2_with (at_builtin; refine wpList_append_new (w0 := w) rfl _ _ _ rfl w.heap.size _ i0 _ 2 16 Try.underlying24 hii iz0 iz1 iz2 rfl (by decide) (.slice A1 E.length c1) E.length _ rfl hown hwr hbr _ 1 1 rfl rfl (fun x hx => edgV_one [⟨0, 0⟩] x hx) ⟨by omega, by omega⟩ ?_; intro v6 w6 hown6 hb6 hg6 hat6; obtain ⟨A6, c6, rfl, -, -⟩ := (Rd.of_own hown6).shape; have HG6 := Lib.hid hg6; have HO6 := Lib.hid hown6; have HB6 := Lib.hid hb6; have HA6 := Lib.hid hat6; have kb6 := Lib.hid ((HKPr.out.alloc (.cells #[.int .i64 0, .int .i64 0] 39)).grown hg6 (fun he => by have := HLT.out _ he.symm; have := HBP.out; omega)); clear p0 p1 p2 p3 p4 hpl pf4; have p0 := kb6.out.cell 0; have p1 := kb6.out.cell 1; have p2 := kb6.out.cell 2; have p3 := kb6.out.cell 3; have p4 := kb6.out.cell 4; have hpl := kb6.out.lt; have pf4 := kb6.out.frozen 4; simp only [List.getElem?_toArray, List.getElem?_cons_succ, List.getElem?_cons_zero] at p0 p1 p2 p3 p4; clear hg6 hown6 hb6 hat6)
        clear p0 p1 p2 p3 p4 hpl pf4 q0 q1 q2 q3 q4 hql hown hwr
        obtain ⟨W7, hW7⟩ : ∃ W, W = w6.setCell ⟨bp, 4, none⟩ (.slice A6 (E.length + 1) c6) := ⟨_, rfl⟩
        have hg7 : w6.grownBy W7 (some bp) := by rw [hW7]; exact only_setCell (World.grownBy.refl w6 _) (.inl rfl) _
        have hne : (Value.slice A6 (E.length + 1) c6).ownBlock ≠ some bp := fun he => by
          rcases HA6.out with h | h
          · have := HLT.out _ (h.symm.trans he); have := HBP.out; omega
          · rw [h] at he
            have := HKPr.out.lt
            injection he with he
            omega
        have hown7 := own_grown HO6.out hg7 (.inr hne)
        have hr7 : Rd_plan W7 (.slice A6 (E.length + 1) c6) ⟨x1, x2, x3, n, E ++ [⟨0, 0⟩]⟩ := by
          have q := Rd.of_own hown7
          show Rd W7 2 _ (E ++ [(⟨0, 0⟩ : Edg)]).length (edgV (E ++ [⟨0, 0⟩]))
          rw [List.length_append, List.length_singleton, edgV_append]
          exact q
        have C2 := Lib.hid (planFault_impl _ ⟨x1, x2, x3, n, E ++ [⟨0, 0⟩]⟩ W7 hr7 (by show (E ++ [(⟨0, 0⟩ : Edg)]).length ≤ _; rw [List.length_append, List.length_singleton]; omega))
        rw [show planFaultR ⟨x1, x2, x3, n, E ++ [⟨0, 0⟩]⟩ = 4 from good_cycle HGD.out] at C2
        have HB7 := Lib.hid (show Below w.heap.size w W7 by rw [hW7]; exact HB6.out.setCell hwbp _)
        rw [← hW7]
        clear hW7 hg7 hne hown7 hr7
        refine C2.out.mono ?_
        rintro e w8 ⟨rfl, hb8⟩
        go_wp2_with fail
        go_ret
        exact ⟨rfl, HB7.out.trans (hb8.mono HB7.out.size)⟩
  · have CB := Lib.hid (big_t w v0 code hrd (by omega))
    go_enter Try.func4, Try.ntmps4
    go_wp2_with fail
    refine CB.out.mono ?_
    rintro e w0 ⟨rfl, rfl⟩
    go_wp2_with fail
    go_ret
    exact ⟨rfl, Below.refl _ _⟩
end Go.Proofs.Ytbbjkldkjndfaaa

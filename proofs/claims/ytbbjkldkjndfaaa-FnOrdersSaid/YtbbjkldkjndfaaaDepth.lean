/- DepthOf, the program's and the reference's. -/
import Derived.Test.YtbbjkldkjndfaaaOrder
import Derived.Test.YtbbjkldkjndfaaaDepthP
import Derived.StillTailTactics
namespace Go.Proofs.Ytbbjkldkjndfaaa
set_option linter.unusedSimpArgs false
set_option linter.unusedSimpArgs false
open Go.RowKit Go.ChangeShapes Go.Deep

def depV (D : List Int) (i : Nat) : Value := .int .i64 (D.getD i 0)
set_option maxHeartbeats 8000000 in
set_option maxRecDepth 100000 in
theorem depthOf_impl (u : Value) (x : Pln) (w : World) (h : Rd_plan w u x) (hn : cost_plan x ≤ 1048576) :
    Calls Try.prog 14 #[.agg #[.int .i64 x.prio, .int .i64 x.most, .int .i64 x.wait, .int .i64 x.tasks, u]] w (GivesI (depthOfR x) w) := by
  have HPL := Lib.hid h
  have hFF : ∃ F, F = planFaultR x := ⟨_, rfl⟩
  obtain ⟨F, hF⟩ := hFF
  obtain ⟨x1, x2, x3, x4, E⟩ := x
  obtain ⟨A, c, rfl, hnc, hcm⟩ := h.form
  simp only at hnc
  unfold maxLen at hcm
  obtain ⟨W0, hW0⟩ : ∃ W0, W0 = w.alloc (.cells #[.int .i64 x1, .int .i64 x2, .int .i64 x3, .int .i64 x4, .slice A E.length c] 26) := ⟨_, rfl⟩
  have hb0 : Below w.heap.size w W0 := by rw [hW0]; exact (Below.refl _ _).alloc (Nat.le_refl _) _
  have k0 : Blk W0 w.heap.size 26 #[.int .i64 x1, .int .i64 x2, .int .i64 x3, .int .i64 x4, .slice A E.length c] := by rw [hW0]; exact Blk.new _ _ _
  have HK := Lib.hid k0
  have HW := Lib.hid hW0
  have CP := Lib.hid (planFault_impl _ ⟨x1, x2, x3, x4, E⟩ W0 (HPL.out.below hb0) hn)
  rw [← hF] at CP
  clear k0 hW0 h
  by_cases h0 : F = 0
  rotate_left
  · have HR := Lib.hid (show depthOfR ⟨x1, x2, x3, x4, E⟩ = [] by rw [depthOfR, ← hF, if_neg h0])
    have t0 : (F == 0) = false := by simp [h0]
    have t1 : (F != 0) = true := by simp [h0]
    clear hF h0
    go_enter Try.func14, Try.ntmps14
    go_wp2_with fail
    rw [← HW.out]
    refine CP.out.mono ?_
    rintro e w1 ⟨rfl, hb1⟩
    go_wp2_with fail
    go_ret
    rw [HR.out]
    exact givesI_nil (hb0.trans (hb1.mono hb0.size))
  · have hz := fault_zero (hF.symm.trans h0)
    have hmm := many_false hz.1
    obtain ⟨hx0, hx1, hE, -⟩ := hmm
    have ho := hz.2.1
    have hcy := hz.2.2.2
    simp only at hx0 hx1 hE ho hcy
    obtain ⟨n, rfl⟩ : ∃ n : Nat, x4 = n := ⟨x4.toNat, by omega⟩
    have HRR := Lib.hid (show depthOfR ⟨x1, x2, x3, n, E⟩ = depthAt E n n by rw [depthOfR, ← hF, h0, if_pos rfl]; rfl)
    have HB4 := Lib.hid (fun (t : Int) => show beforeOfR ⟨x1, x2, x3, n, E⟩ t = beforeTo E t n by rw [beforeOfR, ← hF, h0, if_pos rfl]; rfl)
    have HO4 := Lib.hid (show orderOfR ⟨x1, x2, x3, n, E⟩ = orderAt E n n by rw [orderOfR, ← hF, h0, if_pos rfl]; rfl)
    have HI := Lib.hid (outB_inside ho)
    have HC := Lib.hid (show cycTo E n = false from hcy)
    have CB := Lib.hid (fun (t : Int) W (hW : Below w.heap.size w W) => beforeOf_impl _ ⟨x1, x2, x3, n, E⟩ t W (HPL.out.below hW) hn)
    have CO := Lib.hid (fun W (hW : Below w.heap.size w W) => orderOf_impl _ ⟨x1, x2, x3, n, E⟩ W (HPL.out.below hW) hn)
    have hmk := fun W => run_make_row' (P := Try.prog) 28 3 (.int .i64 0) 8 Try.underlying28 Try.infoI64 rfl .i64 .i64 n (by omega) (by omega) W
    have HMK := Lib.hid hmk
    rw [h0] at CP
    clear hF h0 hz ho hcy hmk
    go_enter Try.func14, Try.ntmps14
    go_wp2_with fail
    rw [← HW.out]
    refine CP.out.mono ?_
    rintro e w1 ⟨rfl, hb1⟩
    have kp := HK.out.belowV hb1
    have p0 := kp.cell 0
    have p1 := kp.cell 1
    have p2 := kp.cell 2
    have p3 := kp.cell 3
    have p4 := kp.cell 4
    simp only [List.getElem?_toArray, List.getElem?_cons_succ, List.getElem?_cons_zero] at p0 p1 p2 p3 p4
    have hpl := kp.lt
    have hmk := HMK.out
    have hw1 := hb0.trans (hb1.mono hb0.size)
    have HWS := Lib.hid (show W0.heap.size ≤ w1.heap.size from hb1.size)
    have HG0 := Lib.hid (show (w1.alloc (.cells (madeCells #[.int .i64 0] n) 3)).rowIs w1.heap.size 3 n (fun _ => .int .i64 0) from rowIs_made_at rfl)
    have HBA := Lib.hid (hb1.alloc hb1.size (.cells (madeCells #[.int .i64 0] n) 3))
    have HWA := Lib.hid (hw1.alloc hw1.size (.cells (madeCells #[.int .i64 0] n) 3))
    clear kp
    go_wp2_with fail
    clear p0 p1 p2 p3 p4 hpl hmk
    refine (CO.out _ HWA.out).mono ?_
    rw [HO4.out]
    rintro e w2 ⟨vO, rfl, hoO, hb2⟩
    have hol := orderAt_length E n n
    have HOM := Lib.hid (orderAt_mem HI.out HC.out (Nat.le_refl n))
    obtain ⟨O, hO⟩ : ∃ O, O = orderAt E n n := ⟨_, rfl⟩
    have HOO := Lib.hid hO
    rw [← hO] at hoO hol HOM
    obtain ⟨AO, cO, rfl, hncO, hcmO⟩ := (own_rdB hoO).shape
    rw [hol] at hncO
    have HRO := Lib.hid (show Rd w2 1 (.slice AO n cO) n (intsV O) by have h := own_rdB hoO; rwa [hol] at h)
    have HOL := Lib.hid hol
    have HNO := Lib.hid (show (Value.slice AO n cO).ownBlock = none ∨ (Value.slice AO n cO).ownBlock ≠ some w1.heap.size by
      right
      intro e
      have h1 := (hoO.1.lt w1.heap.size (by rw [hol]; exact e)).1
      have h2 : (w1.alloc (.cells (madeCells #[.int .i64 0] n) 3)).heap.size = w1.heap.size + 1 := by simp
      omega)
    have HG2 := Lib.hid (HG0.out.of_block (hb2.block _ (by simp)))
    have HB2 := Lib.hid (HBA.out.trans (hb2.mono HBA.out.size))
    unfold maxLen at hcmO
    rw [hol]
    clear hO hoO hol
    go_wp2_with fail
    go_loopw [17] (fun u17 wr => ∃ j : Nat, j ≤ n ∧ u17 = .int .i64 j ∧ Hid (wr.rowIs w1.heap.size 3 n (depV (depthAt E n j))) ∧ Hid (Below W0.heap.size W0 wr) ∧ Hid (Rd wr 1 (.slice AO n cO) n (intsV O)) ∧ Hid (DepBd (depthAt E n j) (30 * (j : Int)))) (fun u17 _ => n - (intOf u17).toNat)
    case atStart =>
      refine ⟨0, Nat.zero_le _, rfl, ?_, HB2, HRO, Lib.hid (DepBd.zero n)⟩
      exact Lib.hid (HG2.out.congr (fun i hi => by simp [depV, depthAt, List.getD_eq_getElem?_getD, hi]))
    case round =>
      clear HB2 HRO HG2
      obtain ⟨j, hj, rfl, HROW, HB, HRO, HBD⟩ := hrel
      have hw : Below w.heap.size w wr := hb0.trans (HB.out.mono hb0.size)
      by_cases hlt : j < n
      · have kp := HK.out.belowV HB.out
        have p0 := kp.cell 0
        have p1 := kp.cell 1
        have p2 := kp.cell 2
        have p3 := kp.cell 3
        have p4 := kp.cell 4
        simp only [List.getElem?_toArray, List.getElem?_cons_succ, List.getElem?_cons_zero] at p0 p1 p2 p3 p4
        have hpl := kp.lt
        clear kp
        obtain ⟨bO, oO, _, hvO, _, _, hlO, hcO⟩ := HRO.out.form (by omega) (by omega)
        have hAO : AO = some ⟨bO, oO, none⟩ := by injection hvO
        subst hAO
        obtain ⟨t, ht⟩ : ∃ t, t = O.getD j 0 := ⟨_, rfl⟩
        have hol := HOL.out
        have htj : O[j]? = some t := by rw [ht, List.getD_eq_getElem?_getD, List.getElem?_eq_getElem (by omega)]; rfl
        have d0 := hcO j (.int .i64 t) (by simp [intsV, htj])
        have htm := HOM.out t (List.mem_of_getElem? htj)
        obtain ⟨ht0, ht1⟩ := htm
        have HD := Lib.hid (show depthAt E n (j + 1) = depthIn E n (depthAt E n j) t (beforeTo E t n).length by rw [depthAt, ← HOO.out, ← ht])
        have hk0 : (0 : Int) ≤ (j : Int) := by omega
        have hk1 : (j : Int) < (n : Int) := by omega
        clear hvO hcO ht htj hol
        go_wp2_with fail
        refine (CB.out t _ hw).mono ?_
        rw [HB4.out]
        rintro e w3 ⟨v3, rfl, ho3, hb3⟩
        have HLB := Lib.hid (fun y (hy : y ∈ beforeTo E t n) => beforeTo_mem hy)
        have hll : (beforeTo E t n).length ≤ 30 := by have := before_len HI.out t; omega
        obtain ⟨L, hL⟩ : ∃ L, L = beforeTo E t n := ⟨_, rfl⟩
        have HLL := Lib.hid hL
        rw [← hL] at ho3 HLB HD hll
        obtain ⟨A7, c7, rfl, hnc7, hcm7⟩ := (own_rdB ho3).shape
        have HR7 := Lib.hid (own_rdB ho3)
        have HN7 := Lib.hid (show (Value.slice A7 L.length c7).ownBlock = none ∨ (Value.slice A7 L.length c7).ownBlock ≠ some w1.heap.size from .inr (fun e => by have h1 := (ho3.1.lt w1.heap.size e).1; have h2 := HROW.out.lt; omega))
        have HROW3 := Lib.hid (HROW.out.of_block (hb3.block _ HROW.out.lt))
        have HB3 := Lib.hid (HB.out.trans (hb3.mono HB.out.size))
        have HRO3 := Lib.hid (HRO.out.below hb3)
        unfold maxLen at hcm7
        obtain ⟨s, rfl⟩ : ∃ s : Nat, t = s := ⟨t.toNat, by omega⟩
        obtain ⟨D, hDD⟩ : ∃ D, D = depthAt E n j := ⟨_, rfl⟩
        have HDL := Lib.hid (show D.length = n by rw [hDD]; exact depthAt_length E n j)
        rw [← hDD] at HROW3 HD HBD
        clear p0 p1 p2 p3 p4 hpl ho3 hL hDD hw HROW HB HRO d0
        go_wp2_with fail
        go_loopw [25] (fun u25 wr => ∃ i : Nat, i ≤ L.length ∧ u25 = .int .i64 i ∧ Hid (wr.rowIs w1.heap.size 3 n (depV (depthIn E n D s i))) ∧ Hid (Below W0.heap.size W0 wr) ∧ Hid (Rd wr 1 (.slice (some ⟨bO, oO, none⟩) n cO) n (intsV O)) ∧ Hid (Rd wr 1 (.slice A7 L.length c7) L.length (intsV L)) ∧ Hid (DepBd (depthIn E n D s i) (30 * (j : Int) + i))) (fun u25 _ => L.length - (intOf u25).toNat)
        case atStart => exact ⟨0, Nat.zero_le _, rfl, by rw [depthIn_zero]; exact HROW3, HB3, HRO3, HR7, by rw [depthIn_zero]; exact Lib.hid (HBD.out.mono (by omega))⟩
        case round =>
          clear HROW3 HB3 HRO3 HR7 HBD
          obtain ⟨i, hi, rfl, HROW, HB, HRO, HR7, HBD⟩ := hrel
          by_cases hlti : i < L.length
          · obtain ⟨b7, o7, _, hv7, _, _, hl7, hc7⟩ := HR7.out.form (by omega) (by omega)
            have hA7 : A7 = some ⟨b7, o7, none⟩ := by injection hv7
            subst hA7
            obtain ⟨y, hy⟩ : ∃ y, y = L[i] := ⟨_, rfl⟩
            have d0 := int_cell (Below.refl _ _) hl7 hc7 hlti y hy
            have hyb := HLB.out y (by rw [hy]; exact List.getElem_mem hlti)
            obtain ⟨hy0, hy1⟩ := hyb
            have HS := Lib.hid (show depthIn E n D s (i + 1) = depthStep s (depthIn E n D s i) y by
              have hl := HLL.out
              subst hl
              rw [depthIn_succ hlti, hy])
            obtain ⟨yn, rfl⟩ : ∃ yn : Nat, y = yn := ⟨y.toNat, by omega⟩
            obtain ⟨M, hM⟩ : ∃ M, M = depthIn E n D s i := ⟨_, rfl⟩
            have hml : M.length = n := by rw [hM, depthIn_length]; exact HDL.out
            rw [← hM] at HS HROW HBD
            have s0 := HROW.out.cell (i := s) (by omega)
            have s1 := HROW.out.cell (i := yn) (by omega)
            have z0 := HROW.out.frozen s
            unfold depV at s0 s1
            obtain ⟨ms, hms⟩ : ∃ ms, ms = M.getD s 0 := ⟨_, rfl⟩
            obtain ⟨my, hmy⟩ : ∃ my, my = M.getD yn 0 := ⟨_, rfl⟩
            rw [← hms] at s0
            rw [← hmy] at s1
            have hb1 := HBD.out s
            have hb2 := HBD.out yn
            rw [← hms] at hb1
            rw [← hmy] at hb2
            obtain ⟨hm0, hm1⟩ := hb1
            obtain ⟨hm2, hm3⟩ := hb2
            have hm4 : ms ≤ 1000 := by omega
            have hm5 : my ≤ 1000 := by omega
            have hrl := HROW.out.lt
            have hsn : (s : Int) < (n : Int) := by omega
            have hs0 : (0 : Int) ≤ (s : Int) := by omega
            have hi0 : (0 : Int) ≤ (i : Int) := by omega
            have hi1 : (i : Int) < (L.length : Int) := by omega
            have HMS := Lib.hid hms
            have HMY := Lib.hid hmy
            have HML := Lib.hid hml
            clear hv7 hc7 hy hM hms hmy hml hm1 hm3
            go_wp2_with fail
            go_still_tail 13, (by kernel_rfl)
            go_wp2_with fail
            go_roundw
            case rel =>
              have hb1 : (World.setCell wr ⟨w1.heap.size, s, none⟩ (.int .i64 (max ms (my + 1)))).drew = (World.setCell wr ⟨w1.heap.size, s, none⟩ (.int .i64 (max ms (my + 1)))).drew := rfl
              have hg : wr.grownBy (World.setCell wr ⟨w1.heap.size, s, none⟩ (.int .i64 (max ms (my + 1)))).drew (some w1.heap.size) := only_drew (only_setCell (World.grownBy.refl _ _) (.inl rfl) _)
              refine ⟨i + 1, by omega, by go_num, ?_, Lib.hid ((HB.out.setCell (p := ⟨w1.heap.size, s, none⟩) HWS.out _).drew), Lib.hid (HRO.out.grown hg HNO.out), Lib.hid (HR7.out.grown hg HN7.out), ?_⟩
              · rw [HS.out]
                refine Lib.hid ((HROW.out.set s _).congr (fun q hq => ?_))
                unfold depV
                rw [depthStep_getD (by rw [HML.out]; omega), Int.toNat_natCast, Int.toNat_natCast]
                by_cases e : q = s
                · rw [if_pos e, if_pos e, HMS.out, HMY.out]
                · rw [if_neg e, if_neg e]
              · rw [HS.out]
                exact Lib.hid ((HBD.out.step (by rw [HML.out]; omega)).mono (by omega))
            case measure => simp [intOf]; omega
          · have HS := Lib.hid (show depthAt E n (j + 1) = depthIn E n D s i by rw [HD.out, show i = L.length by omega])
            go_wp2_with fail
            go_roundw
            case rel => exact ⟨j + 1, by omega, by go_num, by rw [HS.out]; exact HROW, HB, HRO, by rw [HS.out]; exact Lib.hid (HBD.out.mono (by omega))⟩
            case measure => simp [intOf]; omega
      · obtain rfl : j = n := by omega
        have HL := Lib.hid (depthAt_length E j j)
        go_wp2_with fail
        go_ret
        rw [HRR.out]
        refine givesI hb0 HB.out (n := j) (own_of_fun (cap := j) (by rw [Nat.mul_one]; exact HROW.out) HWS.out (Nat.le_refl _) (by unfold maxLen; omega) (by rw [intsV_length, HL.out, Nat.mul_one]) (fun q v hv => ?_))
        unfold depV
        simp only [intsV, List.getElem?_map, Option.map_eq_some_iff] at hv
        obtain ⟨m, hm, rfl⟩ := hv
        rw [List.getD_eq_getElem?_getD, hm]
        rfl
set_option maxHeartbeats 8000000 in
set_option maxRecDepth 100000 in
theorem depthOf_spec (u : Value) (x : Pln) (w : World) (h : Rd_plan w u x) (hn : cost_plan x ≤ 1048576) :
    Calls Try.prog 18 #[.agg #[.int .i64 x.prio, .int .i64 x.most, .int .i64 x.wait, .int .i64 x.tasks, u]] w (GivesI (depthOfR x) w) := by
  have HPL := Lib.hid h
  have hFF : ∃ F, F = planFaultR x := ⟨_, rfl⟩
  obtain ⟨F, hF⟩ := hFF
  obtain ⟨x1, x2, x3, x4, E⟩ := x
  obtain ⟨A, c, rfl, hnc, hcm⟩ := h.form
  simp only at hnc
  unfold maxLen at hcm
  obtain ⟨W0, hW0⟩ : ∃ W0, W0 = w.alloc (.cells #[.int .i64 x1, .int .i64 x2, .int .i64 x3, .int .i64 x4, .slice A E.length c] 26) := ⟨_, rfl⟩
  have hb0 : Below w.heap.size w W0 := by rw [hW0]; exact (Below.refl _ _).alloc (Nat.le_refl _) _
  have k0 : Blk W0 w.heap.size 26 #[.int .i64 x1, .int .i64 x2, .int .i64 x3, .int .i64 x4, .slice A E.length c] := by rw [hW0]; exact Blk.new _ _ _
  have HK := Lib.hid k0
  have HW := Lib.hid hW0
  have CP := Lib.hid (planFault_spec _ ⟨x1, x2, x3, x4, E⟩ W0 (HPL.out.below hb0) hn)
  rw [← hF] at CP
  clear k0 hW0 h
  by_cases h0 : F = 0
  rotate_left
  · have HR := Lib.hid (show depthOfR ⟨x1, x2, x3, x4, E⟩ = [] by rw [depthOfR, ← hF, if_neg h0])
    have t0 : (F == 0) = false := by simp [h0]
    have t1 : (F != 0) = true := by simp [h0]
    clear hF h0
    go_enter Try.func18, Try.ntmps18
    go_wp2_with fail
    rw [← HW.out]
    refine CP.out.mono ?_
    rintro e w1 ⟨rfl, hb1⟩
    go_wp2_with fail
    go_ret
    rw [HR.out]
    exact givesI hb0 (hb1.alloc hb1.size _) (own_more (made0 rfl (Nat.le_refl _)) hb1.size)
  · have hz := fault_zero (hF.symm.trans h0)
    have hmm := many_false hz.1
    obtain ⟨hx0, hx1, hE, -⟩ := hmm
    have ho := hz.2.1
    have hcy := hz.2.2.2
    simp only at hx0 hx1 hE ho hcy
    obtain ⟨n, rfl⟩ : ∃ n : Nat, x4 = n := ⟨x4.toNat, by omega⟩
    have HRR := Lib.hid (show depthOfR ⟨x1, x2, x3, n, E⟩ = depthAt E n n by rw [depthOfR, ← hF, h0, if_pos rfl]; rfl)
    have hm := hz.1
    have HO4 := Lib.hid (show orderOfR ⟨x1, x2, x3, n, E⟩ = orderAt E n n by rw [orderOfR, ← hF, h0, if_pos rfl]; rfl)
    have HI := Lib.hid (outB_inside ho)
    have HC := Lib.hid (show cycTo E n = false from hcy)
    have CB := Lib.hid (fun (t : Int) W (hW : Below w.heap.size w W) => l06Before_any _ ⟨x1, x2, x3, n, E⟩ t W (HPL.out.below hW) hm)
    simp only [Int.toNat_natCast] at CB
    have CO := Lib.hid (fun W (hW : Below w.heap.size w W) => orderOf_spec _ ⟨x1, x2, x3, n, E⟩ W (HPL.out.below hW) hn)
    have hmk := fun W => run_make_row' (P := Try.prog) 28 3 (.int .i64 0) 8 Try.underlying28 Try.infoI64 rfl .i64 .i64 n (by omega) (by omega) W
    have HMK := Lib.hid hmk
    rw [h0] at CP
    clear hF h0 hz ho hcy hmk hm
    go_enter Try.func18, Try.ntmps18
    go_wp2_with fail
    rw [← HW.out]
    refine CP.out.mono ?_
    rintro e w1 ⟨rfl, hb1⟩
    have kp := HK.out.belowV hb1
    have p0 := kp.cell 0
    have p1 := kp.cell 1
    have p2 := kp.cell 2
    have p3 := kp.cell 3
    have p4 := kp.cell 4
    simp only [List.getElem?_toArray, List.getElem?_cons_succ, List.getElem?_cons_zero] at p0 p1 p2 p3 p4
    have hpl := kp.lt
    have hmk := HMK.out
    have hw1 := hb0.trans (hb1.mono hb0.size)
    have HWS := Lib.hid (show W0.heap.size ≤ w1.heap.size from hb1.size)
    have HG0 := Lib.hid (show (w1.alloc (.cells (madeCells #[.int .i64 0] n) 3)).rowIs w1.heap.size 3 n (fun _ => .int .i64 0) from rowIs_made_at rfl)
    have HBA := Lib.hid (hb1.alloc hb1.size (.cells (madeCells #[.int .i64 0] n) 3))
    have HWA := Lib.hid (hw1.alloc hw1.size (.cells (madeCells #[.int .i64 0] n) 3))
    clear kp
    go_wp2_with fail
    clear p0 p1 p2 p3 p4 hpl hmk
    refine (CO.out _ HWA.out).mono ?_
    rw [HO4.out]
    rintro e w2 ⟨vO, rfl, hoO, hb2⟩
    have hol := orderAt_length E n n
    have HOM := Lib.hid (orderAt_mem HI.out HC.out (Nat.le_refl n))
    obtain ⟨O, hO⟩ : ∃ O, O = orderAt E n n := ⟨_, rfl⟩
    have HOO := Lib.hid hO
    rw [← hO] at hoO hol HOM
    obtain ⟨AO, cO, rfl, hncO, hcmO⟩ := (own_rdB hoO).shape
    rw [hol] at hncO
    have HRO := Lib.hid (show Rd w2 1 (.slice AO n cO) n (intsV O) by have h := own_rdB hoO; rwa [hol] at h)
    have HOL := Lib.hid hol
    have HNO := Lib.hid (show (Value.slice AO n cO).ownBlock = none ∨ (Value.slice AO n cO).ownBlock ≠ some w1.heap.size by
      right
      intro e
      have h1 := (hoO.1.lt w1.heap.size (by rw [hol]; exact e)).1
      have h2 : (w1.alloc (.cells (madeCells #[.int .i64 0] n) 3)).heap.size = w1.heap.size + 1 := by simp
      omega)
    have HG2 := Lib.hid (HG0.out.of_block (hb2.block _ (by simp)))
    have HB2 := Lib.hid (HBA.out.trans (hb2.mono HBA.out.size))
    unfold maxLen at hcmO
    rw [hol]
    clear hO hoO hol
    go_wp2_with fail
    go_loopw [5] (fun u5 wr => ∃ j : Nat, j ≤ n ∧ u5 = .int .i64 j ∧ Hid (wr.rowIs w1.heap.size 3 n (depV (depthAt E n j))) ∧ Hid (Below W0.heap.size W0 wr) ∧ Hid (Rd wr 1 (.slice AO n cO) n (intsV O)) ∧ Hid (DepBd (depthAt E n j) (30 * (j : Int)))) (fun u5 _ => n - (intOf u5).toNat)
    case atStart =>
      refine ⟨0, Nat.zero_le _, rfl, ?_, HB2, HRO, Lib.hid (DepBd.zero n)⟩
      exact Lib.hid (HG2.out.congr (fun i hi => by simp [depV, depthAt, List.getD_eq_getElem?_getD, hi]))
    case round =>
      clear HB2 HRO HG2
      obtain ⟨j, hj, rfl, HROW, HB, HRO, HBD⟩ := hrel
      have hw : Below w.heap.size w wr := hb0.trans (HB.out.mono hb0.size)
      by_cases hlt : j < n
      · have kp := HK.out.belowV HB.out
        have p0 := kp.cell 0
        have p1 := kp.cell 1
        have p2 := kp.cell 2
        have p3 := kp.cell 3
        have p4 := kp.cell 4
        simp only [List.getElem?_toArray, List.getElem?_cons_succ, List.getElem?_cons_zero] at p0 p1 p2 p3 p4
        have hpl := kp.lt
        clear kp
        obtain ⟨bO, oO, _, hvO, _, _, hlO, hcO⟩ := HRO.out.form (by omega) (by omega)
        have hAO : AO = some ⟨bO, oO, none⟩ := by injection hvO
        subst hAO
        obtain ⟨t, ht⟩ : ∃ t, t = O.getD j 0 := ⟨_, rfl⟩
        have hol := HOL.out
        have htj : O[j]? = some t := by rw [ht, List.getD_eq_getElem?_getD, List.getElem?_eq_getElem (by omega)]; rfl
        have d0 := hcO j (.int .i64 t) (by simp [intsV, htj])
        have htm := HOM.out t (List.mem_of_getElem? htj)
        obtain ⟨ht0, ht1⟩ := htm
        have HD := Lib.hid (show depthAt E n (j + 1) = depthIn E n (depthAt E n j) t (beforeTo E t n).length by rw [depthAt, ← HOO.out, ← ht])
        have hk0 : (0 : Int) ≤ (j : Int) := by omega
        have hk1 : (j : Int) < (n : Int) := by omega
        have HTJ := Lib.hid htj
        clear hvO hcO ht htj hol
        have hbd : Below wr.heap.size wr wr.drew := (Below.refl _ _).drew
        have hwd := hw.trans (hbd.mono hw.size)
        have HBD0 := Lib.hid hbd
        have HWD := Lib.hid hwd
        have hkO := Nat.lt_of_lt_of_le hlO (Nat.le_refl _)
        clear hbd hwd
        go_wp2_with fail
        refine wp_region_sched [(0, true), (1, true), (2, true), (3, true), (4, true), (5, false), (6, true)] [(true, _), (true, _), (true, _), (true, _), (true, _), (false, _), (true, _)] rfl (by kernel_rfl) (by kernel_rfl) (KeptS _ none) (KeptS.refl _ _).drew ?_
        try simp only [List.getElem_toArray, List.getElem_cons_succ, List.getElem_cons_zero]
        (refine wpS_held (by rfl) ?_ (fun W hW => ?_) ?_; rotate_left; (· (obtain ⟨kq, rfl⟩ := hW; go_simp; try with_reducible rfl)); try simp only [Act.put, List.setIfInBounds_toArray, List.set_cons_succ, List.set_cons_zero])
        (refine wpS_held (by rfl) ?_ (fun W hW => ?_) ?_; rotate_left; (· (obtain ⟨kq, rfl⟩ := hW; go_simp; try with_reducible rfl)); try simp only [Act.put, List.setIfInBounds_toArray, List.set_cons_succ, List.set_cons_zero])
        (refine wpS_held (by rfl) ?_ (fun W hW => ?_) ?_; rotate_left; (· (obtain ⟨kq, rfl⟩ := hW; go_simp; try with_reducible rfl)); try simp only [Act.put, List.setIfInBounds_toArray, List.set_cons_succ, List.set_cons_zero])
        (refine wpS_held (by rfl) ?_ (fun W hW => ?_) ?_; rotate_left; (· (obtain ⟨kq, rfl⟩ := hW; go_simp; try with_reducible rfl)); try simp only [Act.put, List.setIfInBounds_toArray, List.set_cons_succ, List.set_cons_zero])
        (refine wpS_held (by rfl) ?_ (fun W hW => ?_) ?_; rotate_left; (· (obtain ⟨kq, rfl⟩ := hW; go_simp; try with_reducible rfl)); try simp only [Act.put, List.setIfInBounds_toArray, List.set_cons_succ, List.set_cons_zero])
        (refine wpS_call 63 (by rfl) (by rfl) Try.func63 (by kernel_rfl) (by rfl) (by rfl) ?_; (conv => arg 3; simp [Act.eval]); (refine (CB.out t _ HWD.out).mono ?_; rintro e w3 ⟨v3, rfl, ho3, hb3⟩; have hb3' := HBD0.out.trans (hb3.mono (Nat.le_refl _))); refine ⟨_, rfl, ?_, ?_⟩; (· (repeat first | exact KeptS.refl _ _ | exact KeptS.of (only_of_below (by assumption) _) | assumption | refine KeptS.drew ?_ | refine KeptS.alloc ?_ _ | refine KeptS.grown ?_ (by assumption) | refine KeptS.below ?_ (by assumption) | refine KeptS.belowAt ?_ (by assumption) | refine KeptS.setRow ?_ (by simp; done) _ | refine KeptS.setNew ?_ (by simp) _)); try simp only [Act.put, List.setIfInBounds_toArray, List.set_cons_succ, List.set_cons_zero])
        (refine wpS_held (by rfl) ?_ (fun W hW => ?_) ?_; rotate_left; (· (obtain ⟨kq, rfl⟩ := hW; go_simp; try with_reducible rfl)); try simp only [Act.put, List.setIfInBounds_toArray, List.set_cons_succ, List.set_cons_zero])
        refine wpS_nil ?_
        try simp only [List.getElem_toArray, List.getElem_cons_succ, List.getElem_cons_zero]
        replace hb3 : Below wr.heap.size wr w3 := hb3'
        clear hb3'
        have HLB := Lib.hid (fun y (hy : y ∈ beforeTo E t n) => beforeTo_mem hy)
        have hll : (beforeTo E t n).length ≤ 30 := by have := before_len HI.out t; omega
        obtain ⟨L, hL⟩ : ∃ L, L = beforeTo E t n := ⟨_, rfl⟩
        have HLL := Lib.hid hL
        rw [← hL] at ho3 HLB HD hll
        obtain ⟨A7, c7, rfl, hnc7, hcm7⟩ := (own_rdB ho3).shape
        have HR7 := Lib.hid (own_rdB ho3)
        have HN7 := Lib.hid (show (Value.slice A7 L.length c7).ownBlock = none ∨ (Value.slice A7 L.length c7).ownBlock ≠ some w1.heap.size from .inr (fun e => by have h1 := (ho3.1.lt w1.heap.size e).1; have h2 := HROW.out.lt; have h3 : wr.drew.heap.size = wr.heap.size := rfl; omega))
        have HROW3 := Lib.hid (HROW.out.of_block (hb3.block _ HROW.out.lt))
        have HB3 := Lib.hid (HB.out.trans (hb3.mono HB.out.size))
        have HRO3 := Lib.hid (HRO.out.below hb3)
        unfold maxLen at hcm7
        obtain ⟨s, rfl⟩ : ∃ s : Nat, t = s := ⟨t.toNat, by omega⟩
        obtain ⟨D, hDD⟩ : ∃ D, D = depthAt E n j := ⟨_, rfl⟩
        have HDL := Lib.hid (show D.length = n by rw [hDD]; exact depthAt_length E n j)
        rw [← hDD] at HROW3 HD HBD
        clear p0 p1 p2 p3 p4 hpl ho3 hL hDD hw HROW HB HRO d0
        go_wp2_with fail
        go_loopw [7] (fun u7 wr => ∃ i : Nat, i ≤ L.length ∧ u7 = .int .i64 i ∧ Hid (wr.rowIs w1.heap.size 3 n (depV (depthIn E n D s i))) ∧ Hid (Below W0.heap.size W0 wr) ∧ Hid (Rd wr 1 (.slice (some ⟨bO, oO, none⟩) n cO) n (intsV O)) ∧ Hid (Rd wr 1 (.slice A7 L.length c7) L.length (intsV L)) ∧ Hid (DepBd (depthIn E n D s i) (30 * (j : Int) + i))) (fun u7 _ => L.length - (intOf u7).toNat)
        case atStart => exact ⟨0, Nat.zero_le _, rfl, by rw [depthIn_zero]; exact HROW3, HB3, HRO3, HR7, by rw [depthIn_zero]; exact Lib.hid (HBD.out.mono (by omega))⟩
        case round =>
          clear HROW3 HB3 HRO3 HR7 HBD
          obtain ⟨i, hi, rfl, HROW, HB, HRO, HR7, HBD⟩ := hrel
          by_cases hlti : i < L.length
          · obtain ⟨b7, o7, _, hv7, _, _, hl7, hc7⟩ := HR7.out.form (by omega) (by omega)
            have hA7 : A7 = some ⟨b7, o7, none⟩ := by injection hv7
            subst hA7
            obtain ⟨y, hy⟩ : ∃ y, y = L[i] := ⟨_, rfl⟩
            have d0 := int_cell (Below.refl _ _) hl7 hc7 hlti y hy
            have hyb := HLB.out y (by rw [hy]; exact List.getElem_mem hlti)
            obtain ⟨hy0, hy1⟩ := hyb
            have HS := Lib.hid (show depthIn E n D s (i + 1) = depthStep s (depthIn E n D s i) y by
              have hl := HLL.out
              subst hl
              rw [depthIn_succ hlti, hy])
            obtain ⟨yn, rfl⟩ : ∃ yn : Nat, y = yn := ⟨y.toNat, by omega⟩
            obtain ⟨M, hM⟩ : ∃ M, M = depthIn E n D s i := ⟨_, rfl⟩
            have hml : M.length = n := by rw [hM, depthIn_length]; exact HDL.out
            rw [← hM] at HS HROW HBD
            have s0 := HROW.out.cell (i := s) (by omega)
            have s1 := HROW.out.cell (i := yn) (by omega)
            have z0 := HROW.out.frozen s
            unfold depV at s0 s1
            obtain ⟨ms, hms⟩ : ∃ ms, ms = M.getD s 0 := ⟨_, rfl⟩
            obtain ⟨my, hmy⟩ : ∃ my, my = M.getD yn 0 := ⟨_, rfl⟩
            rw [← hms] at s0
            rw [← hmy] at s1
            have hb1 := HBD.out s
            have hb2 := HBD.out yn
            rw [← hms] at hb1
            rw [← hmy] at hb2
            obtain ⟨hm0, hm1⟩ := hb1
            obtain ⟨hm2, hm3⟩ := hb2
            have hm4 : ms ≤ 1000 := by omega
            have hm5 : my ≤ 1000 := by omega
            have hrl := HROW.out.lt
            have hsn : (s : Int) < (n : Int) := by omega
            have hs0 : (0 : Int) ≤ (s : Int) := by omega
            have hi0 : (0 : Int) ≤ (i : Int) := by omega
            have hi1 : (i : Int) < (L.length : Int) := by omega
            have HMS := Lib.hid hms
            have HMY := Lib.hid hmy
            have HML := Lib.hid hml
            clear hv7 hc7 hy hM hms hmy hml hm1 hm3
            have hlO2 : bO < wr.heap.size := by
              obtain ⟨b9, o9, c9, hv9, _, _, hl9, _⟩ := HRO.out.form (by omega) (by omega)
              injection hv9 with hv9
              injection hv9 with hv9
              injection hv9 with hv9
              omega
            have d2 : wr.cell? ⟨bO, oO + j, none⟩ = some (.int .i64 (s : Int)) := by
              obtain ⟨b9, o9, c9, hv9, _, _, hl9, hc9⟩ := HRO.out.form (by omega) (by omega)
              injection hv9 with hv9
              injection hv9 with hv9
              injection hv9 with h1 h2
              subst h1 h2
              exact hc9 j (.int .i64 s) (by simp [intsV, HTJ.out])
            have hj0 : (0 : Int) ≤ (j : Int) := by omega
            have hj1 : (j : Int) < (n : Int) := by omega
            have hg7 : b7 < wr.heap.size := hl7
            have hyn : (yn : Int) < (n : Int) := by omega
            have hyn0 : (0 : Int) ≤ (yn : Int) := by omega
            by_cases hgt : ms < my + 1
            · have HMX := Lib.hid (show max ms (my + 1) = my + 1 by omega)
              go_wp2
              first | refine wp_region_calm_on (by kernel_rfl) (by kernel_rfl) ?_ | refine wp_region_calm_lit (by kernel_rfl) (by kernel_rfl) ?_
              repeat (go_big_quiet_step (fail))
              refine wpQuiet_nil ?_
              intro _ hw'
              obtain ⟨k1, hw''⟩ := hw'
              subst hw''
              go_wp2
              obtain ⟨W, hBW, hkW⟩ := k1.out
              rw [hkW]
              have HBW := Lib.hid hBW
              have HROWW := Lib.hid (HROW.out.of_block (hBW.block _ hrl))
              have s0 := HROWW.out.cell (i := s) (by omega)
              have s1 := HROWW.out.cell (i := yn) (by omega)
              have z0 := HROWW.out.frozen s
              unfold depV at s0 s1
              rw [← HMS.out] at s0
              rw [← HMY.out] at s1
              have hrl := HROWW.out.lt
              have d0 := (hBW.cell (p := ⟨b7, o7 + i, none⟩) hg7).trans d0
              have d2 := (hBW.cell (p := ⟨bO, oO + j, none⟩) hlO2).trans d2
              have hlO2 := Nat.lt_of_lt_of_le hlO2 hBW.size
              have hg7 := Nat.lt_of_lt_of_le hg7 hBW.size
              clear hBW hkW k1
              go_still_tail 14, (by kernel_rfl)
              go_wp2_with fail
              go_roundw
              case rel =>
                have hg : W.grownBy (World.setCell W ⟨w1.heap.size, s, none⟩ (.int .i64 (my + 1))).drew (some w1.heap.size) := only_drew (only_setCell (World.grownBy.refl _ _) (.inl rfl) _)
                have hbW := HB.out.trans (HBW.out.mono HB.out.size)
                refine ⟨i + 1, by omega, by go_num, ?_, Lib.hid ((hbW.setCell (p := ⟨w1.heap.size, s, none⟩) HWS.out _).drew), Lib.hid ((HRO.out.below HBW.out).grown hg HNO.out), Lib.hid ((HR7.out.below HBW.out).grown hg HN7.out), ?_⟩
                · rw [HS.out]
                  refine Lib.hid ((HROWW.out.set s _).congr (fun q hq => ?_))
                  unfold depV
                  rw [depthStep_getD (by rw [HML.out]; omega), Int.toNat_natCast, Int.toNat_natCast]
                  by_cases e : q = s
                  · rw [if_pos e, if_pos e, ← HMS.out, ← HMY.out, HMX.out]
                  · rw [if_neg e, if_neg e]
                · rw [HS.out]
                  exact Lib.hid ((HBD.out.step (by rw [HML.out]; omega)).mono (by omega))
              case measure => simp [intOf]; omega
            · have HMX := Lib.hid (show max ms (my + 1) = ms by omega)
              have hgt2 : decide (ms < my + 1) = false := by simp; omega
              go_wp2
              first | refine wp_region_calm_on (by kernel_rfl) (by kernel_rfl) ?_ | refine wp_region_calm_lit (by kernel_rfl) (by kernel_rfl) ?_
              repeat (go_big_quiet_step (fail))
              refine wpQuiet_nil ?_
              intro _ hw'
              obtain ⟨k1, hw''⟩ := hw'
              subst hw''
              go_wp2
              go_roundw
              case rel =>
                refine ⟨i + 1, by omega, by go_num, ?_, Lib.hid (HB.out.trans (k1.below.mono HB.out.size)), Lib.hid (HRO.out.below k1.below), Lib.hid (HR7.out.below k1.below), ?_⟩
                · rw [HS.out]
                  refine Lib.hid ((HROW.out.of_block (k1.below.block _ hrl)).congr (fun q hq => ?_))
                  unfold depV
                  rw [depthStep_getD (by rw [HML.out]; omega), Int.toNat_natCast, Int.toNat_natCast]
                  by_cases e : q = s
                  · rw [if_pos e, ← HMS.out, ← HMY.out, HMX.out, HMS.out, e]
                  · rw [if_neg e]
                · rw [HS.out]
                  exact Lib.hid ((HBD.out.step (by rw [HML.out]; omega)).mono (by omega))
              case measure => simp [intOf]; omega
          · have HS := Lib.hid (show depthAt E n (j + 1) = depthIn E n D s i by rw [HD.out, show i = L.length by omega])
            go_wp2_with fail
            go_roundw
            case rel => exact ⟨j + 1, by omega, by go_num, by rw [HS.out]; exact HROW, HB, HRO, by rw [HS.out]; exact Lib.hid (HBD.out.mono (by omega))⟩
            case measure => simp [intOf]; omega
      · obtain rfl : j = n := by omega
        have HL := Lib.hid (depthAt_length E j j)
        go_wp2_with fail
        go_ret
        rw [HRR.out]
        refine givesI hb0 HB.out (n := j) (own_of_fun (cap := j) (by rw [Nat.mul_one]; exact HROW.out) HWS.out (Nat.le_refl _) (by unfold maxLen; omega) (by rw [intsV_length, HL.out, Nat.mul_one]) (fun q v hv => ?_))
        unfold depV
        simp only [intsV, List.getElem?_map, Option.map_eq_some_iff] at hv
        obtain ⟨m, hm, rfl⟩ := hv
        rw [List.getD_eq_getElem?_getD, hm]
        rfl
end Go.Proofs.Ytbbjkldkjndfaaa

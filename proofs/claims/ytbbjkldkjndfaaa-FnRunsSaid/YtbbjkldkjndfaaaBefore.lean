/- BeforeOf and BehindOf, the program's and the reference's. -/
import Derived.Test.YtbbjkldkjndfaaaSortI
namespace Go.Proofs.Ytbbjkldkjndfaaa
set_option linter.unusedSimpArgs false
open Go.RowKit Go.ChangeShapes Go.Deep

set_option maxHeartbeats 4000000 in
set_option maxRecDepth 100000 in
theorem beforeOf_impl (u : Value) (x : Pln) (t : Int) (w : World) (h : Rd_plan w u x) (hn : cost_plan x ≤ 1048576) :
    Calls Try.prog 24 #[.agg #[.int .i64 x.prio, .int .i64 x.most, .int .i64 x.wait, .int .i64 x.tasks, u], .int .i64 t] w (GivesI (beforeOfR x t) w) := by
  have HPL := Lib.hid h
  have hFF : ∃ F, F = planFaultR x := ⟨_, rfl⟩
  obtain ⟨F, hF⟩ := hFF
  obtain ⟨i0, hii, hz0, hz1, hz2⟩ := info_parts Try.infoI64
  obtain ⟨x1, x2, x3, x4, E⟩ := x
  obtain ⟨A, c, rfl, hnc, hcm⟩ := h.form
  simp only at hnc
  unfold maxLen at hcm
  obtain ⟨W0, hW0⟩ : ∃ W0, W0 = w.alloc (.cells #[.int .i64 x1, .int .i64 x2, .int .i64 x3, .int .i64 x4, .slice A E.length c] 26) := ⟨_, rfl⟩
  have hb0 : Below w.heap.size w W0 := by rw [hW0]; exact (Below.refl _ _).alloc (Nat.le_refl _) _
  have k0 : Blk W0 w.heap.size 26 #[.int .i64 x1, .int .i64 x2, .int .i64 x3, .int .i64 x4, .slice A E.length c] := by rw [hW0]; exact Blk.new _ _ _
  have HK := Lib.hid k0
  have HW := Lib.hid hW0
  have H := Lib.hid (show Rd w 2 (.slice A E.length c) E.length (edgV E) from h)
  have CP := Lib.hid (planFault_impl _ ⟨x1, x2, x3, x4, E⟩ W0 (HPL.out.below hb0) hn)
  rw [← hF] at CP
  clear k0 hW0 h
  by_cases h0 : F = 0
  rotate_left
  · have HR := Lib.hid (show beforeOfR ⟨x1, x2, x3, x4, E⟩ t = [] by rw [beforeOfR, ← hF, if_neg h0])
    have t0 : (F == 0) = false := by simp [h0]
    have t1 : (F != 0) = true := by simp [h0]
    clear hF h0
    go_enter Try.func24, Try.ntmps24
    go_wp2_with fail
    rw [← HW.out]
    refine CP.out.mono ?_
    rintro e w1 ⟨rfl, hb1⟩
    go_wp2_with fail
    go_ret
    rw [HR.out]
    exact givesI_nil (hb0.trans (hb1.mono hb0.size))
  · have hz := fault_zero (hF.symm.trans h0)
    have hmm := many_false hz.1
    obtain ⟨hx0, hx1, hE, -⟩ := hmm
    have ho := hz.2.1
    simp only at hx0 hx1 hE ho
    obtain ⟨n, rfl⟩ : ∃ n : Nat, x4 = n := ⟨x4.toNat, by omega⟩
    have HRR := Lib.hid (show beforeOfR ⟨x1, x2, x3, n, E⟩ t = sortI (beforeF E t) by rw [beforeOfR, ← hF, h0, if_pos rfl]; exact (before_sorted (outB_inside ho) t).symm)
    rw [h0] at CP
    clear hF h0 hz ho
    go_enter Try.func24, Try.ntmps24
    go_wp2_with fail
    rw [← HW.out]
    refine CP.out.mono ?_
    rintro e w1 ⟨rfl, hb1⟩
    have kp := HK.out.belowV hb1
    have p0 := kp.cell 0
    have p1 := kp.cell 1
    have p2 := kp.cell 2
    have p3 := kp.cell 3
    have p4 := kp.cell 4
    simp only [List.getElem?_toArray, List.getElem?_cons_succ, List.getElem?_cons_zero] at p0 p1 p2 p3 p4
    have hpl := kp.lt
    clear kp
    go_wp2_with fail
    clear p0 p1 p2 p3 p4 hpl
    go_loopw [5, 14] (fun u5 u14 wr => ∃ k m : Nat, k ≤ E.length ∧ m ≤ k ∧ u14 = .int .i64 k ∧ Hid (wr.ownsRow W0.heap.size 3 1 u5 m (intsV (beforeF (E.take k) t))) ∧ Hid (Below W0.heap.size W0 wr)) (fun _ u14 _ => E.length - (intOf u14).toNat)
    case atStart => exact ⟨0, 0, Nat.zero_le _, Nat.le_refl _, rfl, Lib.hid own_nil, Lib.hid hb1⟩
    case round =>
      clear hb1
      obtain ⟨k, m, hk, hmk, rfl, HOWN, HB⟩ := hrel
      have hw : Below w.heap.size w wr := hb0.trans (HB.out.mono hb0.size)
      by_cases hlt : k < E.length
      · obtain ⟨b1, o1, _, hv1, _, _, hl1, hc1⟩ := H.out.form (by omega) (by omega)
        have hA1 : A = some ⟨b1, o1, none⟩ := by injection hv1
        subst hA1
        obtain ⟨y, hy⟩ : ∃ y, y = E[k] := ⟨_, rfl⟩
        obtain ⟨d0, d1⟩ := edg_cells hw hl1 hc1 hlt y hy
        have hb1 : b1 < wr.heap.size := Nat.lt_of_lt_of_le hl1 hw.size
        have hk0 : (0 : Int) ≤ (k : Int) := by omega
        have hk1 : (k : Int) < (E.length : Int) := by omega
        have HT := Lib.hid (beforeF_take (t := t) hlt)
        rw [← hy] at HT
        obtain ⟨ys, yd⟩ := y
        simp only at d0 d1
        have hownE := own_below HOWN.out ((Below.refl wr.heap.size wr).alloc (Nat.le_refl _) (.cells #[.int .i64 ys, .int .i64 yd] 39))
        have hbE := HB.out.alloc HB.out.size (.cells #[.int .i64 ys, .int .i64 yd] 39)
        clear hy hv1 hc1 hw
        by_cases e : yd = t
        · have HS := Lib.hid (show beforeF (E.take (k + 1)) t = beforeF (E.take k) t ++ [ys] by rw [HT.out, if_pos e])
          have t0 : (yd == t) = true := by simp [e]
          clear e HT
          go_wp2_with ((at_builtin; refine wpList_append_new rfl _ _ _ rfl _ _ i0 _ 1 8 Try.underlying28 hii hz0 hz1 hz2 rfl (by decide) u5  m _ rfl ( hownE) ( hbE) (Below.size ( hbE)) _ 1 1 (by first | rfl | (refine slice_at_eq ?_; simp [World.setCell]; done)) rfl (by intro u hu; simp at hu; subst hu; rfl) ⟨by omega, by omega⟩ ?_; intro v1 w1 hown1 hb1 hg1 hat1; have HO1 := Lib.hid hown1; have HB1 := Lib.hid hb1; clear hown1 hb1 hg1 hat1))
          go_roundw
          case rel => exact ⟨k + 1, m + 1, by omega, by omega, by go_num, by rw [HS.out]; exact Lib.hid (own_push HO1.out), HB1⟩
          case measure => simp [intOf]; omega
        · have HS := Lib.hid (show beforeF (E.take (k + 1)) t = beforeF (E.take k) t by rw [HT.out, if_neg e])
          have t0 : (yd == t) = false := by simp [e]
          have HOE := Lib.hid hownE
          have HBE := Lib.hid hbE
          clear e HT hownE hbE
          go_wp2_with fail
          go_roundw
          case rel => exact ⟨k + 1, m, by omega, by omega, by go_num, by rw [HS.out]; exact HOE, HBE⟩
          case measure => simp [intOf]; omega
      · have CS := Lib.hid (sortInts_any u5 (beforeF E t) m _ wr (by have h := HOWN.out; rw [List.take_of_length_le (by omega)] at h; exact h) (by omega))
        have hlt2 := HOWN.out.lt
        have HLT := Lib.hid hlt2
        clear hlt2 hw
        go_wp2_with fail
        refine CS.out.mono ?_
        rintro e w2 ⟨rfl, ho2, hg2⟩
        have HO2 := Lib.hid ho2
        have HG2 := Lib.hid hg2
        clear ho2 hg2
        go_wp2_with fail
        go_ret
        rw [HRR.out]
        exact givesI hb0 (HB.out.grown HG2.out HB.out.size (fun g hg => (HLT.out g hg).1)) HO2.out

set_option maxHeartbeats 4000000 in
set_option maxRecDepth 100000 in
theorem l06Before_any (u : Value) (x : Pln) (t : Int) (w : World) (h : Rd_plan w u x) (hm : manyB x = false) :
    Calls Try.prog 63 #[.agg #[.int .i64 x.prio, .int .i64 x.most, .int .i64 x.wait, .int .i64 x.tasks, u], .int .i64 t] w (GivesI (beforeTo x.edges t x.tasks.toNat) w) := by
  obtain ⟨hx0, hx1, hE, -⟩ := many_false hm
  obtain ⟨i0, hii, hz0, hz1, hz2⟩ := info_parts Try.infoI64
  obtain ⟨x1, x2, x3, x4, E⟩ := x
  obtain ⟨A, c, rfl, hnc, hcm⟩ := h.form
  simp only at hnc hx0 hx1 hE
  unfold maxLen at hcm
  obtain ⟨n, rfl⟩ : ∃ n : Nat, x4 = n := ⟨x4.toNat, by omega⟩
  simp only [Int.toNat_natCast]
  obtain ⟨W0, hW0⟩ : ∃ W0, W0 = w.alloc (.cells #[.int .i64 x1, .int .i64 x2, .int .i64 x3, .int .i64 n, .slice A E.length c] 26) := ⟨_, rfl⟩
  have hb0 : Below w.heap.size w W0 := by rw [hW0]; exact (Below.refl _ _).alloc (Nat.le_refl _) _
  have k0 : Blk W0 w.heap.size 26 #[.int .i64 x1, .int .i64 x2, .int .i64 x3, .int .i64 n, .slice A E.length c] := by rw [hW0]; exact Blk.new _ _ _
  obtain ⟨W1, hW1⟩ : ∃ W1, W1 = W0.alloc (.cells #[] 3) := ⟨_, rfl⟩
  have hb1 : Below W0.heap.size W0 W1 := by rw [hW1]; exact (Below.refl _ _).alloc (Nat.le_refl _) _
  have ow1 : W1.ownsRow W0.heap.size 3 1 (.slice (some ⟨w.heap.size + 1, 0, none⟩) 0 0) 0 [] := by rw [hW1]; exact made0 (by rw [hW0]; simp) (by rw [hW0]; simp)
  have HK := Lib.hid k0
  have HOW1 := Lib.hid ow1
  have HW := Lib.hid hW0
  have HW1 := Lib.hid hW1
  have HB0 := Lib.hid hb1
  have H := Lib.hid (show Rd w 2 (.slice A E.length c) E.length (edgV E) from h)
  clear k0 hW0 h hm hW1 ow1 hb1
  go_enter Try.func63, Try.ntmps63
  go_wp2
  rw [← HW.out, ← HW1.out]
  go_loopw [5, 6] (fun u5 u6 wr => ∃ k m : Nat, k ≤ n ∧ m ≤ k * 30 ∧ u6 = .int .i64 k ∧ Hid (wr.ownsRow W0.heap.size 3 1 u5 m (intsV (beforeTo E t k))) ∧ Hid (Below W0.heap.size W0 wr)) (fun _ u6 _ => n - (intOf u6).toNat)
  case atStart => exact ⟨0, 0, Nat.zero_le _, Nat.le_refl _, rfl, HOW1, HB0⟩
  case round =>
    clear HB0 HOW1
    obtain ⟨k, m, hk, hmk, rfl, HOWN, HB⟩ := hrel
    have hw : Below w.heap.size w wr := hb0.trans (HB.out.mono hb0.size)
    have kp := HK.out.belowV HB.out
    have p0 := kp.cell 0
    have p1 := kp.cell 1
    have p2 := kp.cell 2
    have p3 := kp.cell 3
    have p4 := kp.cell 4
    simp only [List.getElem?_toArray, List.getElem?_cons_succ, List.getElem?_cons_zero] at p0 p1 p2 p3 p4
    have hpl := kp.lt
    clear kp
    by_cases hlt : k < n
    · go_wp2
      clear p0 p1 p2 p3 p4 hpl hw
      go_loopw [5, 7] (fun u5 u7 wr => ∃ i q : Nat, i ≤ E.length ∧ q ≤ m + i ∧ u7 = .int .i64 i ∧ Hid (wr.ownsRow W0.heap.size 3 1 u5 q (intsV (beforeTo E t k ++ beforeIn E t k i))) ∧ Hid (Below W0.heap.size W0 wr)) (fun _ u7 _ => E.length - (intOf u7).toNat)
      case atStart => exact ⟨0, m, Nat.zero_le _, Nat.le_refl _, rfl, by have e : beforeIn E t k 0 = [] := rfl; rw [e, List.append_nil]; exact HOWN, HB⟩
      case round =>
        clear HOWN HB
        obtain ⟨i, q, hi, hqi, rfl, HOWN, HB⟩ := hrel
        have hw : Below w.heap.size w wr := hb0.trans (HB.out.mono hb0.size)
        have kp := HK.out.belowV HB.out
        have p0 := kp.cell 0
        have p1 := kp.cell 1
        have p2 := kp.cell 2
        have p3 := kp.cell 3
        have p4 := kp.cell 4
        simp only [List.getElem?_toArray, List.getElem?_cons_succ, List.getElem?_cons_zero] at p0 p1 p2 p3 p4
        have hpl := kp.lt
        clear kp
        by_cases hlti : i < E.length
        · obtain ⟨b1, o1, _, hv1, _, _, hl1, hc1⟩ := H.out.form (by omega) (by omega)
          have hA1 : A = some ⟨b1, o1, none⟩ := by injection hv1
          subst hA1
          obtain ⟨y, hy⟩ : ∃ y, y = E[i] := ⟨_, rfl⟩
          obtain ⟨d0, d1⟩ := edg_cells hw hl1 hc1 hlti y hy
          have hb1 : b1 < wr.heap.size := Nat.lt_of_lt_of_le hl1 hw.size
          have hk0 : (0 : Int) ≤ (i : Int) := by omega
          have hk1 : (i : Int) < (E.length : Int) := by omega
          have HT := Lib.hid (beforeIn_succ (t := t) (k := (k : Int)) hlti)
          rw [← hy] at HT
          obtain ⟨ys, yd⟩ := y
          simp only at d0 d1
          clear hy hv1 hc1 hw
          by_cases e1 : ys = (k : Int)
          · by_cases e2 : yd = t
            · have HS := Lib.hid (show beforeTo E t k ++ beforeIn E t k (i + 1) = (beforeTo E t k ++ beforeIn E t k i) ++ [(k : Int)] by rw [HT.out, if_pos ⟨e1, e2⟩, List.append_assoc])
              have t0 : (ys == (k : Int)) = true := by simp [e1]
              have t1 : (yd == t) = true := by simp [e2]
              clear e1 e2 HT
              go_wp2_with ((at_builtin; refine wpList_append_new rfl _ _ _ rfl _ _ i0 _ 1 8 Try.underlying28 hii hz0 hz1 hz2 rfl (by decide) u5  q _ rfl ( HOWN.out) ( HB.out) (Below.size ( HB.out)) _ 1 1 (by first | rfl | (refine slice_at_eq ?_; simp [World.setCell]; done)) rfl (by intro u hu; simp at hu; subst hu; rfl) ⟨by omega, by omega⟩ ?_; intro v1 w1 hown1 hb1 hg1 hat1; have HO1 := Lib.hid hown1; have HB1 := Lib.hid hb1; clear hown1 hb1 hg1 hat1))
              go_roundw
              case rel => exact ⟨i + 1, q + 1, by omega, by omega, by go_num, by rw [HS.out]; exact Lib.hid (own_push HO1.out), HB1⟩
              case measure => simp [intOf]; omega
            · have HS := Lib.hid (show beforeIn E t k (i + 1) = beforeIn E t k i by rw [HT.out, if_neg (fun h => e2 h.2)])
              have t0 : (ys == (k : Int)) = true := by simp [e1]
              have t1 : (yd == t) = false := by simp [e2]
              clear e1 e2 HT
              go_wp2
              go_roundw
              case rel => exact ⟨i + 1, q, by omega, by omega, by go_num, by rw [HS.out]; exact HOWN, HB⟩
              case measure => simp [intOf]; omega
          · have HS := Lib.hid (show beforeIn E t k (i + 1) = beforeIn E t k i by rw [HT.out, if_neg (fun h => e1 h.1)])
            have t0 : (ys == (k : Int)) = false := by simp [e1]
            clear e1 HT
            go_wp2
            go_roundw
            case rel => exact ⟨i + 1, q, by omega, by omega, by go_num, by rw [HS.out]; exact HOWN, HB⟩
            case measure => simp [intOf]; omega
        · have HS := Lib.hid (show beforeTo E t (k + 1) = beforeTo E t k ++ beforeIn E t k i by rw [beforeTo, show i = E.length by omega])
          clear hw
          go_wp2
          go_roundw
          case rel => exact ⟨k + 1, q, by omega, by omega, by go_num, by rw [HS.out]; exact HOWN, HB⟩
          case measure => simp [intOf]; omega
    · obtain rfl : k = n := by omega
      go_wp2
      go_ret
      exact givesI hb0 HB.out HOWN.out

set_option maxHeartbeats 4000000 in
set_option maxRecDepth 100000 in
theorem beforeOf_spec (u : Value) (x : Pln) (t : Int) (w : World) (h : Rd_plan w u x) (hn : cost_plan x ≤ 1048576) :
    Calls Try.prog 26 #[.agg #[.int .i64 x.prio, .int .i64 x.most, .int .i64 x.wait, .int .i64 x.tasks, u], .int .i64 t] w (GivesI (beforeOfR x t) w) := by
  have HPL := Lib.hid h
  have hFF : ∃ F, F = planFaultR x := ⟨_, rfl⟩
  obtain ⟨F, hF⟩ := hFF
  have HFZ := Lib.hid (fun h : F = 0 => (fault_zero (hF.symm.trans h)).1)
  have HR0 := Lib.hid (show beforeOfR x t = if F = 0 then beforeTo x.edges t x.tasks.toNat else [] by rw [hF]; rfl)
  obtain ⟨x1, x2, x3, x4, E⟩ := x
  obtain ⟨A, c, rfl, hnc, hcm⟩ := h.form
  simp only at hnc
  unfold maxLen at hcm
  obtain ⟨W0, hW0⟩ : ∃ W0, W0 = w.alloc (.cells #[.int .i64 x1, .int .i64 x2, .int .i64 x3, .int .i64 x4, .slice A E.length c] 26) := ⟨_, rfl⟩
  have hb0 : Below w.heap.size w W0 := by rw [hW0]; exact (Below.refl _ _).alloc (Nat.le_refl _) _
  have k0 : Blk W0 w.heap.size 26 #[.int .i64 x1, .int .i64 x2, .int .i64 x3, .int .i64 x4, .slice A E.length c] := by rw [hW0]; exact Blk.new _ _ _
  have HK := Lib.hid k0
  have HW := Lib.hid hW0
  have CP := Lib.hid (planFault_spec _ ⟨x1, x2, x3, x4, E⟩ W0 (HPL.out.below hb0) hn)
  rw [← hF] at CP
  clear k0 hW0 h hF
  by_cases h0 : F = 0
  rotate_left
  · have HR := Lib.hid (HR0.out.trans (if_neg h0))
    have t0 : (F == 0) = false := by simp [h0]
    have t1 : (F != 0) = true := by simp [h0]
    clear h0
    go_enter Try.func26, Try.ntmps26
    go_wp2_with fail
    rw [← HW.out]
    refine CP.out.mono ?_
    rintro e w1 ⟨rfl, hb1⟩
    go_wp2_with fail
    go_ret
    rw [HR.out]
    exact givesI hb0 (hb1.alloc hb1.size _) (own_more (made0 rfl (Nat.le_refl _)) hb1.size)
  · have HR := Lib.hid (HR0.out.trans (if_pos h0))
    have HM := Lib.hid (HFZ.out h0)
    rw [h0] at CP
    clear h0
    have CB := Lib.hid (fun W (hW : Below w.heap.size w W) => l06Before_any _ ⟨x1, x2, x3, x4, E⟩ t W (HPL.out.below hW) HM.out)
    go_enter Try.func26, Try.ntmps26
    go_wp2_with fail
    rw [← HW.out]
    refine CP.out.mono ?_
    rintro e w1 ⟨rfl, hb1⟩
    have hw1 := hb0.trans (hb1.mono hb0.size)
    have kp := HK.out.belowV hb1
    have p0 := kp.cell 0
    have p1 := kp.cell 1
    have p2 := kp.cell 2
    have p3 := kp.cell 3
    have p4 := kp.cell 4
    simp only [List.getElem?_toArray, List.getElem?_cons_succ, List.getElem?_cons_zero] at p0 p1 p2 p3 p4
    have hpl := kp.lt
    clear kp
    go_wp2_with fail
    refine (CB.out _ hw1).mono ?_
    rintro e w2 ⟨v2, rfl, ho2, hb2⟩
    clear p0 p1 p2 p3 p4
    go_wp2_with fail
    go_ret
    rw [HR.out]
    exact ⟨v2, rfl, OwnS.mono ho2 hw1.size (Nat.le_refl _) (Nat.le_refl _), hw1.trans (hb2.mono hw1.size)⟩

set_option maxHeartbeats 4000000 in
set_option maxRecDepth 100000 in
theorem behindOf_impl (u : Value) (x : Pln) (t : Int) (w : World) (h : Rd_plan w u x) (hn : cost_plan x ≤ 1048576) :
    Calls Try.prog 23 #[.agg #[.int .i64 x.prio, .int .i64 x.most, .int .i64 x.wait, .int .i64 x.tasks, u], .int .i64 t] w (GivesI (behindOfR x t) w) := by
  have HPL := Lib.hid h
  have hFF : ∃ F, F = planFaultR x := ⟨_, rfl⟩
  obtain ⟨F, hF⟩ := hFF
  obtain ⟨i0, hii, hz0, hz1, hz2⟩ := info_parts Try.infoI64
  obtain ⟨x1, x2, x3, x4, E⟩ := x
  obtain ⟨A, c, rfl, hnc, hcm⟩ := h.form
  simp only at hnc
  unfold maxLen at hcm
  obtain ⟨W0, hW0⟩ : ∃ W0, W0 = w.alloc (.cells #[.int .i64 x1, .int .i64 x2, .int .i64 x3, .int .i64 x4, .slice A E.length c] 26) := ⟨_, rfl⟩
  have hb0 : Below w.heap.size w W0 := by rw [hW0]; exact (Below.refl _ _).alloc (Nat.le_refl _) _
  have k0 : Blk W0 w.heap.size 26 #[.int .i64 x1, .int .i64 x2, .int .i64 x3, .int .i64 x4, .slice A E.length c] := by rw [hW0]; exact Blk.new _ _ _
  have HK := Lib.hid k0
  have HW := Lib.hid hW0
  have H := Lib.hid (show Rd w 2 (.slice A E.length c) E.length (edgV E) from h)
  have CP := Lib.hid (planFault_impl _ ⟨x1, x2, x3, x4, E⟩ W0 (HPL.out.below hb0) hn)
  rw [← hF] at CP
  clear k0 hW0 h
  by_cases h0 : F = 0
  rotate_left
  · have HR := Lib.hid (show behindOfR ⟨x1, x2, x3, x4, E⟩ t = [] by rw [behindOfR, ← hF, if_neg h0])
    have t0 : (F == 0) = false := by simp [h0]
    have t1 : (F != 0) = true := by simp [h0]
    clear hF h0
    go_enter Try.func23, Try.ntmps23
    go_wp2_with fail
    rw [← HW.out]
    refine CP.out.mono ?_
    rintro e w1 ⟨rfl, hb1⟩
    go_wp2_with fail
    go_ret
    rw [HR.out]
    exact givesI_nil (hb0.trans (hb1.mono hb0.size))
  · have hz := fault_zero (hF.symm.trans h0)
    have hmm := many_false hz.1
    obtain ⟨hx0, hx1, hE, -⟩ := hmm
    have ho := hz.2.1
    simp only at hx0 hx1 hE ho
    obtain ⟨n, rfl⟩ : ∃ n : Nat, x4 = n := ⟨x4.toNat, by omega⟩
    have HRR := Lib.hid (show behindOfR ⟨x1, x2, x3, n, E⟩ t = sortI (behindF E t) by rw [behindOfR, ← hF, h0, if_pos rfl]; exact (behind_sorted (outB_inside ho) t).symm)
    rw [h0] at CP
    clear hF h0 hz ho
    go_enter Try.func23, Try.ntmps23
    go_wp2_with fail
    rw [← HW.out]
    refine CP.out.mono ?_
    rintro e w1 ⟨rfl, hb1⟩
    have kp := HK.out.belowV hb1
    have p0 := kp.cell 0
    have p1 := kp.cell 1
    have p2 := kp.cell 2
    have p3 := kp.cell 3
    have p4 := kp.cell 4
    simp only [List.getElem?_toArray, List.getElem?_cons_succ, List.getElem?_cons_zero] at p0 p1 p2 p3 p4
    have hpl := kp.lt
    clear kp
    go_wp2_with fail
    clear p0 p1 p2 p3 p4 hpl
    go_loopw [5, 14] (fun u5 u14 wr => ∃ k m : Nat, k ≤ E.length ∧ m ≤ k ∧ u14 = .int .i64 k ∧ Hid (wr.ownsRow W0.heap.size 3 1 u5 m (intsV (behindF (E.take k) t))) ∧ Hid (Below W0.heap.size W0 wr)) (fun _ u14 _ => E.length - (intOf u14).toNat)
    case atStart => exact ⟨0, 0, Nat.zero_le _, Nat.le_refl _, rfl, Lib.hid own_nil, Lib.hid hb1⟩
    case round =>
      clear hb1
      obtain ⟨k, m, hk, hmk, rfl, HOWN, HB⟩ := hrel
      have hw : Below w.heap.size w wr := hb0.trans (HB.out.mono hb0.size)
      by_cases hlt : k < E.length
      · obtain ⟨b1, o1, _, hv1, _, _, hl1, hc1⟩ := H.out.form (by omega) (by omega)
        have hA1 : A = some ⟨b1, o1, none⟩ := by injection hv1
        subst hA1
        obtain ⟨y, hy⟩ : ∃ y, y = E[k] := ⟨_, rfl⟩
        obtain ⟨d0, d1⟩ := edg_cells hw hl1 hc1 hlt y hy
        have hb1 : b1 < wr.heap.size := Nat.lt_of_lt_of_le hl1 hw.size
        have hk0 : (0 : Int) ≤ (k : Int) := by omega
        have hk1 : (k : Int) < (E.length : Int) := by omega
        have HT := Lib.hid (behindF_take (t := t) hlt)
        rw [← hy] at HT
        obtain ⟨ys, yd⟩ := y
        simp only at d0 d1
        have hownE := own_below HOWN.out ((Below.refl wr.heap.size wr).alloc (Nat.le_refl _) (.cells #[.int .i64 ys, .int .i64 yd] 39))
        have hbE := HB.out.alloc HB.out.size (.cells #[.int .i64 ys, .int .i64 yd] 39)
        clear hy hv1 hc1 hw
        by_cases e : ys = t
        · have HS := Lib.hid (show behindF (E.take (k + 1)) t = behindF (E.take k) t ++ [yd] by rw [HT.out, if_pos e])
          have t0 : (ys == t) = true := by simp [e]
          clear e HT
          go_wp2_with ((at_builtin; refine wpList_append_new rfl _ _ _ rfl _ _ i0 _ 1 8 Try.underlying28 hii hz0 hz1 hz2 rfl (by decide) u5  m _ rfl ( hownE) ( hbE) (Below.size ( hbE)) _ 1 1 (by first | rfl | (refine slice_at_eq ?_; simp [World.setCell]; done)) rfl (by intro u hu; simp at hu; subst hu; rfl) ⟨by omega, by omega⟩ ?_; intro v1 w1 hown1 hb1 hg1 hat1; have HO1 := Lib.hid hown1; have HB1 := Lib.hid hb1; clear hown1 hb1 hg1 hat1))
          go_roundw
          case rel => exact ⟨k + 1, m + 1, by omega, by omega, by go_num, by rw [HS.out]; exact Lib.hid (own_push HO1.out), HB1⟩
          case measure => simp [intOf]; omega
        · have HS := Lib.hid (show behindF (E.take (k + 1)) t = behindF (E.take k) t by rw [HT.out, if_neg e])
          have t0 : (ys == t) = false := by simp [e]
          have HOE := Lib.hid hownE
          have HBE := Lib.hid hbE
          clear e HT hownE hbE
          go_wp2_with fail
          go_roundw
          case rel => exact ⟨k + 1, m, by omega, by omega, by go_num, by rw [HS.out]; exact HOE, HBE⟩
          case measure => simp [intOf]; omega
      · have CS := Lib.hid (sortInts_any u5 (behindF E t) m _ wr (by have h := HOWN.out; rw [List.take_of_length_le (by omega)] at h; exact h) (by omega))
        have hlt2 := HOWN.out.lt
        have HLT := Lib.hid hlt2
        clear hlt2 hw
        go_wp2_with fail
        refine CS.out.mono ?_
        rintro e w2 ⟨rfl, ho2, hg2⟩
        have HO2 := Lib.hid ho2
        have HG2 := Lib.hid hg2
        clear ho2 hg2
        go_wp2_with fail
        go_ret
        rw [HRR.out]
        exact givesI hb0 (HB.out.grown HG2.out HB.out.size (fun g hg => (HLT.out g hg).1)) HO2.out

set_option maxHeartbeats 4000000 in
set_option maxRecDepth 100000 in
theorem l06Behind_any (u : Value) (x : Pln) (t : Int) (w : World) (h : Rd_plan w u x) (hm : manyB x = false) :
    Calls Try.prog 86 #[.agg #[.int .i64 x.prio, .int .i64 x.most, .int .i64 x.wait, .int .i64 x.tasks, u], .int .i64 t] w (GivesI (behindTo x.edges t x.tasks.toNat) w) := by
  obtain ⟨hx0, hx1, hE, -⟩ := many_false hm
  obtain ⟨i0, hii, hz0, hz1, hz2⟩ := info_parts Try.infoI64
  obtain ⟨x1, x2, x3, x4, E⟩ := x
  obtain ⟨A, c, rfl, hnc, hcm⟩ := h.form
  simp only at hnc hx0 hx1 hE
  unfold maxLen at hcm
  obtain ⟨n, rfl⟩ : ∃ n : Nat, x4 = n := ⟨x4.toNat, by omega⟩
  simp only [Int.toNat_natCast]
  obtain ⟨W0, hW0⟩ : ∃ W0, W0 = w.alloc (.cells #[.int .i64 x1, .int .i64 x2, .int .i64 x3, .int .i64 n, .slice A E.length c] 26) := ⟨_, rfl⟩
  have hb0 : Below w.heap.size w W0 := by rw [hW0]; exact (Below.refl _ _).alloc (Nat.le_refl _) _
  have k0 : Blk W0 w.heap.size 26 #[.int .i64 x1, .int .i64 x2, .int .i64 x3, .int .i64 n, .slice A E.length c] := by rw [hW0]; exact Blk.new _ _ _
  obtain ⟨W1, hW1⟩ : ∃ W1, W1 = W0.alloc (.cells #[] 3) := ⟨_, rfl⟩
  have hb1 : Below W0.heap.size W0 W1 := by rw [hW1]; exact (Below.refl _ _).alloc (Nat.le_refl _) _
  have ow1 : W1.ownsRow W0.heap.size 3 1 (.slice (some ⟨w.heap.size + 1, 0, none⟩) 0 0) 0 [] := by rw [hW1]; exact made0 (by rw [hW0]; simp) (by rw [hW0]; simp)
  have HK := Lib.hid k0
  have HOW1 := Lib.hid ow1
  have HW := Lib.hid hW0
  have HW1 := Lib.hid hW1
  have HB0 := Lib.hid hb1
  have H := Lib.hid (show Rd w 2 (.slice A E.length c) E.length (edgV E) from h)
  clear k0 hW0 h hm hW1 ow1 hb1
  go_enter Try.func86, Try.ntmps86
  go_wp2
  rw [← HW.out, ← HW1.out]
  go_loopw [5, 6] (fun u5 u6 wr => ∃ k m : Nat, k ≤ n ∧ m ≤ k * 30 ∧ u6 = .int .i64 k ∧ Hid (wr.ownsRow W0.heap.size 3 1 u5 m (intsV (behindTo E t k))) ∧ Hid (Below W0.heap.size W0 wr)) (fun _ u6 _ => n - (intOf u6).toNat)
  case atStart => exact ⟨0, 0, Nat.zero_le _, Nat.le_refl _, rfl, HOW1, HB0⟩
  case round =>
    clear HB0 HOW1
    obtain ⟨k, m, hk, hmk, rfl, HOWN, HB⟩ := hrel
    have hw : Below w.heap.size w wr := hb0.trans (HB.out.mono hb0.size)
    have kp := HK.out.belowV HB.out
    have p0 := kp.cell 0
    have p1 := kp.cell 1
    have p2 := kp.cell 2
    have p3 := kp.cell 3
    have p4 := kp.cell 4
    simp only [List.getElem?_toArray, List.getElem?_cons_succ, List.getElem?_cons_zero] at p0 p1 p2 p3 p4
    have hpl := kp.lt
    clear kp
    by_cases hlt : k < n
    · go_wp2
      clear p0 p1 p2 p3 p4 hpl hw
      go_loopw [5, 7] (fun u5 u7 wr => ∃ i q : Nat, i ≤ E.length ∧ q ≤ m + i ∧ u7 = .int .i64 i ∧ Hid (wr.ownsRow W0.heap.size 3 1 u5 q (intsV (behindTo E t k ++ behindIn E t k i))) ∧ Hid (Below W0.heap.size W0 wr)) (fun _ u7 _ => E.length - (intOf u7).toNat)
      case atStart => exact ⟨0, m, Nat.zero_le _, Nat.le_refl _, rfl, by have e : behindIn E t k 0 = [] := rfl; rw [e, List.append_nil]; exact HOWN, HB⟩
      case round =>
        clear HOWN HB
        obtain ⟨i, q, hi, hqi, rfl, HOWN, HB⟩ := hrel
        have hw : Below w.heap.size w wr := hb0.trans (HB.out.mono hb0.size)
        have kp := HK.out.belowV HB.out
        have p0 := kp.cell 0
        have p1 := kp.cell 1
        have p2 := kp.cell 2
        have p3 := kp.cell 3
        have p4 := kp.cell 4
        simp only [List.getElem?_toArray, List.getElem?_cons_succ, List.getElem?_cons_zero] at p0 p1 p2 p3 p4
        have hpl := kp.lt
        clear kp
        by_cases hlti : i < E.length
        · obtain ⟨b1, o1, _, hv1, _, _, hl1, hc1⟩ := H.out.form (by omega) (by omega)
          have hA1 : A = some ⟨b1, o1, none⟩ := by injection hv1
          subst hA1
          obtain ⟨y, hy⟩ : ∃ y, y = E[i] := ⟨_, rfl⟩
          obtain ⟨d0, d1⟩ := edg_cells hw hl1 hc1 hlti y hy
          have hb1 : b1 < wr.heap.size := Nat.lt_of_lt_of_le hl1 hw.size
          have hk0 : (0 : Int) ≤ (i : Int) := by omega
          have hk1 : (i : Int) < (E.length : Int) := by omega
          have HT := Lib.hid (behindIn_succ (t := t) (k := (k : Int)) hlti)
          rw [← hy] at HT
          obtain ⟨ys, yd⟩ := y
          simp only at d0 d1
          clear hy hv1 hc1 hw
          by_cases e1 : ys = t
          · by_cases e2 : yd = (k : Int)
            · have HS := Lib.hid (show behindTo E t k ++ behindIn E t k (i + 1) = (behindTo E t k ++ behindIn E t k i) ++ [(k : Int)] by rw [HT.out, if_pos ⟨e1, e2⟩, List.append_assoc])
              have t0 : (ys == t) = true := by simp [e1]
              have t1 : (yd == (k : Int)) = true := by simp [e2]
              clear e1 e2 HT
              go_wp2_with ((at_builtin; refine wpList_append_new rfl _ _ _ rfl _ _ i0 _ 1 8 Try.underlying28 hii hz0 hz1 hz2 rfl (by decide) u5  q _ rfl ( HOWN.out) ( HB.out) (Below.size ( HB.out)) _ 1 1 (by first | rfl | (refine slice_at_eq ?_; simp [World.setCell]; done)) rfl (by intro u hu; simp at hu; subst hu; rfl) ⟨by omega, by omega⟩ ?_; intro v1 w1 hown1 hb1 hg1 hat1; have HO1 := Lib.hid hown1; have HB1 := Lib.hid hb1; clear hown1 hb1 hg1 hat1))
              go_roundw
              case rel => exact ⟨i + 1, q + 1, by omega, by omega, by go_num, by rw [HS.out]; exact Lib.hid (own_push HO1.out), HB1⟩
              case measure => simp [intOf]; omega
            · have HS := Lib.hid (show behindIn E t k (i + 1) = behindIn E t k i by rw [HT.out, if_neg (fun h => e2 h.2)])
              have t0 : (ys == t) = true := by simp [e1]
              have t1 : (yd == (k : Int)) = false := by simp [e2]
              clear e1 e2 HT
              go_wp2
              go_roundw
              case rel => exact ⟨i + 1, q, by omega, by omega, by go_num, by rw [HS.out]; exact HOWN, HB⟩
              case measure => simp [intOf]; omega
          · have HS := Lib.hid (show behindIn E t k (i + 1) = behindIn E t k i by rw [HT.out, if_neg (fun h => e1 h.1)])
            have t0 : (ys == t) = false := by simp [e1]
            clear e1 HT
            go_wp2
            go_roundw
            case rel => exact ⟨i + 1, q, by omega, by omega, by go_num, by rw [HS.out]; exact HOWN, HB⟩
            case measure => simp [intOf]; omega
        · have HS := Lib.hid (show behindTo E t (k + 1) = behindTo E t k ++ behindIn E t k i by rw [behindTo, show i = E.length by omega])
          clear hw
          go_wp2
          go_roundw
          case rel => exact ⟨k + 1, q, by omega, by omega, by go_num, by rw [HS.out]; exact HOWN, HB⟩
          case measure => simp [intOf]; omega
    · obtain rfl : k = n := by omega
      go_wp2
      go_ret
      exact givesI hb0 HB.out HOWN.out

end Go.Proofs.Ytbbjkldkjndfaaa

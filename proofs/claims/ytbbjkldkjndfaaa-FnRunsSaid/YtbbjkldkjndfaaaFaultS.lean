/- PlanFault, the reference's. -/
import Derived.Test.YtbbjkldkjndfaaaFrom
import Derived.Test.YtbbjkldkjndfaaaContain
import Derived.IntWalk
namespace Go.Proofs.Ytbbjkldkjndfaaa
set_option linter.unusedSimpArgs false
open Go.RowKit Go.ChangeShapes Go.Deep

theorem hasB_take_succ {E : List Edg} {y : Edg} {k : Nat} (h : k < E.length) : hasB (E.take (k + 1)) y = (hasB (E.take k) y || y == E[k]) := by
  unfold hasB
  rw [List.take_succ_eq_append_getElem h, List.contains_eq_any_beq, List.contains_eq_any_beq, List.any_append]
  simp

set_option maxHeartbeats 4000000 in
set_option maxRecDepth 100000 in
theorem l06Many_any (u : Value) (x : Pln) (w : World) (h : Rd_plan w u x) :
    Calls Try.prog 103 #[.agg #[.int .i64 x.prio, .int .i64 x.most, .int .i64 x.wait, .int .i64 x.tasks, u]] w fun e w' => e = .returned (.bool (manyB x)) ∧ Below w.heap.size w w' := by
  obtain ⟨x1, x2, x3, x4, E⟩ := x
  obtain ⟨A, c, rfl, hnc, hcm⟩ := h.form
  simp only at hnc
  unfold maxLen at hcm
  clear h
  have C1 := Lib.hid (fun w => l01In_b x4 1 12 w)
  have C2 := Lib.hid (fun w => l01In_b x1 0 9 w)
  have C3 := Lib.hid (fun w => l01In_b x2 1 5 w)
  have C4 := Lib.hid (fun w => l01In_b x3 1 20 w)
  cases h1 : inB x4 1 12 with
  | false =>
    rw [h1] at C1
    have HR := Lib.hid (show manyB ⟨x1, x2, x3, x4, E⟩ = true by simp [manyB, h1])
    clear h1
    go_enter Try.func103, Try.ntmps103
    go_wp2_with fail
    refine (C1.out _).mono ?_
    rintro e w1 ⟨rfl, rfl⟩
    go_wp2_with fail
    go_ret
    exact ⟨ret_bool HR.out.symm, (by repeat' first | (with_reducible exact Below.refl _ _) | (with_reducible assumption) | (with_reducible refine Below.setCell ?_ ?_ _) | (with_reducible refine Below.alloc ?_ ?_ _) | (with_reducible refine Below.drew ?_) | (with_reducible refine below_drewN ?_ _) | (with_reducible refine Below.calm ?_ ?_) | exact Nat.le_refl _ | (simp; done) | (simp; omega) | omega)⟩
  | true =>
    rw [h1] at C1
    by_cases h2 : 30 < E.length
    · have h2' : (30 : Int) < (E.length : Int) := by omega
      have HR := Lib.hid (show manyB ⟨x1, x2, x3, x4, E⟩ = true by simp [manyB, h1, h2])
      clear h1 h2
      go_enter Try.func103, Try.ntmps103
      go_wp2_with fail
      refine (C1.out _).mono ?_
      rintro e w1 ⟨rfl, rfl⟩
      go_wp2_with fail
      go_ret
      exact ⟨ret_bool HR.out.symm, (by repeat' first | (with_reducible exact Below.refl _ _) | (with_reducible assumption) | (with_reducible refine Below.setCell ?_ ?_ _) | (with_reducible refine Below.alloc ?_ ?_ _) | (with_reducible refine Below.drew ?_) | (with_reducible refine below_drewN ?_ _) | (with_reducible refine Below.calm ?_ ?_) | exact Nat.le_refl _ | (simp; done) | (simp; omega) | omega)⟩
    · have h2' : decide ((30 : Int) < (E.length : Int)) = false := by simp; omega
      cases h3 : inB x1 0 9 with
      | false =>
        rw [h3] at C2
        have HR := Lib.hid (show manyB ⟨x1, x2, x3, x4, E⟩ = true by simp [manyB, h1, h3])
        clear h1 h2 h3
        go_enter Try.func103, Try.ntmps103
        go_wp2_with fail
        refine (C1.out _).mono ?_
        rintro e w1 ⟨rfl, rfl⟩
        go_wp2_with fail
        refine (C2.out _).mono ?_
        rintro e w1 ⟨rfl, rfl⟩
        go_wp2_with fail
        go_ret
        exact ⟨ret_bool HR.out.symm, (by repeat' first | (with_reducible exact Below.refl _ _) | (with_reducible assumption) | (with_reducible refine Below.setCell ?_ ?_ _) | (with_reducible refine Below.alloc ?_ ?_ _) | (with_reducible refine Below.drew ?_) | (with_reducible refine below_drewN ?_ _) | (with_reducible refine Below.calm ?_ ?_) | exact Nat.le_refl _ | (simp; done) | (simp; omega) | omega)⟩
      | true =>
        rw [h3] at C2
        cases h4 : inB x2 1 5 with
        | false =>
          rw [h4] at C3
          have HR := Lib.hid (show manyB ⟨x1, x2, x3, x4, E⟩ = true by simp [manyB, h1, h4])
          clear h1 h2 h3 h4
          go_enter Try.func103, Try.ntmps103
          go_wp2_with fail
          refine (C1.out _).mono ?_
          rintro e w1 ⟨rfl, rfl⟩
          go_wp2_with fail
          refine (C2.out _).mono ?_
          rintro e w1 ⟨rfl, rfl⟩
          go_wp2_with fail
          refine (C3.out _).mono ?_
          rintro e w1 ⟨rfl, rfl⟩
          go_wp2_with fail
          go_ret
          exact ⟨ret_bool HR.out.symm, (by repeat' first | (with_reducible exact Below.refl _ _) | (with_reducible assumption) | (with_reducible refine Below.setCell ?_ ?_ _) | (with_reducible refine Below.alloc ?_ ?_ _) | (with_reducible refine Below.drew ?_) | (with_reducible refine below_drewN ?_ _) | (with_reducible refine Below.calm ?_ ?_) | exact Nat.le_refl _ | (simp; done) | (simp; omega) | omega)⟩
        | true =>
          rw [h4] at C3
          cases h5 : inB x3 1 20 with
          | false =>
            rw [h5] at C4
            have HR := Lib.hid (show manyB ⟨x1, x2, x3, x4, E⟩ = true by simp [manyB, h1, h5])
            clear h1 h2 h3 h4 h5
            go_enter Try.func103, Try.ntmps103
            go_wp2_with fail
            refine (C1.out _).mono ?_
            rintro e w1 ⟨rfl, rfl⟩
            go_wp2_with fail
            refine (C2.out _).mono ?_
            rintro e w1 ⟨rfl, rfl⟩
            go_wp2_with fail
            refine (C3.out _).mono ?_
            rintro e w1 ⟨rfl, rfl⟩
            go_wp2_with fail
            refine (C4.out _).mono ?_
            rintro e w1 ⟨rfl, rfl⟩
            go_wp2_with fail
            go_ret
            exact ⟨ret_bool HR.out.symm, (by repeat' first | (with_reducible exact Below.refl _ _) | (with_reducible assumption) | (with_reducible refine Below.setCell ?_ ?_ _) | (with_reducible refine Below.alloc ?_ ?_ _) | (with_reducible refine Below.drew ?_) | (with_reducible refine below_drewN ?_ _) | (with_reducible refine Below.calm ?_ ?_) | exact Nat.le_refl _ | (simp; done) | (simp; omega) | omega)⟩
          | true =>
            rw [h5] at C4
            have HR := Lib.hid (show manyB ⟨x1, x2, x3, x4, E⟩ = false by simp [manyB, h1, h2, h3, h4, h5])
            clear h1 h2 h3 h4 h5
            go_enter Try.func103, Try.ntmps103
            go_wp2_with fail
            refine (C1.out _).mono ?_
            rintro e w1 ⟨rfl, rfl⟩
            go_wp2_with fail
            refine (C2.out _).mono ?_
            rintro e w1 ⟨rfl, rfl⟩
            go_wp2_with fail
            refine (C3.out _).mono ?_
            rintro e w1 ⟨rfl, rfl⟩
            go_wp2_with fail
            refine (C4.out _).mono ?_
            rintro e w1 ⟨rfl, rfl⟩
            go_wp2_with fail
            go_ret
            exact ⟨ret_bool HR.out.symm, (by repeat' first | (with_reducible exact Below.refl _ _) | (with_reducible assumption) | (with_reducible refine Below.setCell ?_ ?_ _) | (with_reducible refine Below.alloc ?_ ?_ _) | (with_reducible refine Below.drew ?_) | (with_reducible refine below_drewN ?_ _) | (with_reducible refine Below.calm ?_ ?_) | exact Nat.le_refl _ | (simp; done) | (simp; omega) | omega)⟩

set_option maxHeartbeats 8000000 in
set_option maxRecDepth 100000 in
theorem planFault_spec (u : Value) (x : Pln) (w : World) (h : Rd_plan w u x) (hn : cost_plan x ≤ 1048576) :
    Calls Try.prog 62 #[.agg #[.int .i64 x.prio, .int .i64 x.most, .int .i64 x.wait, .int .i64 x.tasks, u]] w fun e w' => e = .returned (.int .i64 (planFaultR x)) ∧ Below w.heap.size w w' := by
  unfold cost_plan at hn
  obtain ⟨R, hR⟩ : ∃ R, R = planFaultR x := ⟨_, rfl⟩
  rw [← hR]
  unfold planFaultR at hR
  have HPL := Lib.hid h
  obtain ⟨x1, x2, x3, x4, E⟩ := x
  obtain ⟨A, c, rfl, hnc, hcm⟩ := h.form
  simp only at hnc hn
  unfold maxLen at hcm
  obtain ⟨W0, hW0⟩ : ∃ W0, W0 = w.alloc (.cells #[.int .i64 x1, .int .i64 x2, .int .i64 x3, .int .i64 x4, .slice A E.length c] 26) := ⟨_, rfl⟩
  have hb0 : Below w.heap.size w W0 := by rw [hW0]; exact (Below.refl _ _).alloc (Nat.le_refl _) _
  have k0 : Blk W0 w.heap.size 26 #[.int .i64 x1, .int .i64 x2, .int .i64 x3, .int .i64 x4, .slice A E.length c] := by rw [hW0]; exact Blk.new _ _ _
  have HK := Lib.hid k0
  have HW := Lib.hid hW0
  have H := Lib.hid (show Rd w 2 (.slice A E.length c) E.length (edgV E) from h)
  have CM := Lib.hid (l06Many_any _ ⟨x1, x2, x3, x4, E⟩ W0 (HPL.out.below hb0))
  clear k0 hW0 h
  cases hm : manyB ⟨x1, x2, x3, x4, E⟩ with
  | true =>
    have HR := Lib.hid (show R = 1 by rw [hR, if_pos hm])
    rw [hm] at CM
    clear hR hm
    go_enter Try.func62, Try.ntmps62
    go_wp2_with fail
    rw [← HW.out]
    refine CM.out.mono ?_
    rintro e w1 ⟨rfl, hb1⟩
    go_wp2_with fail
    go_ret
    exact ⟨ret_int HR.out.symm, hb0.trans (hb1.mono hb0.size)⟩
  | false =>
    have hx4 : 1 ≤ x4 ∧ x4 ≤ 12 := by have := many_false hm; exact ⟨this.1, this.2.1⟩
    obtain ⟨hx40, hx41⟩ := hx4
    have HR := Lib.hid (show R = _ by rw [hR, if_neg (by rw [hm]; simp)])
    rw [hm] at CM
    have HM := Lib.hid hm
    clear hR hm
    go_enter Try.func62, Try.ntmps62
    go_wp2_with fail
    rw [← HW.out]
    refine CM.out.mono ?_
    rintro e w1 ⟨rfl, hb1⟩
    go_wp2_with fail
    go_loopw [3] (fun u3 wr => ∃ k : Nat, k ≤ E.length ∧ u3 = .int .i64 k ∧ Hid (outB x4 E = outB x4 (E.drop k)) ∧ Hid (Below W0.heap.size W0 wr)) (fun u3 _ => E.length - (intOf u3).toNat)
    case atStart => exact ⟨0, Nat.zero_le _, rfl, Lib.hid rfl, Lib.hid hb1⟩
    case round =>
      clear hb1
      obtain ⟨k, hk, rfl, hgo, HB⟩ := hrel
      have hw : Below w.heap.size w wr := hb0.trans (HB.out.mono hb0.size)
      have hws := hw.size
      have kp := HK.out.belowV HB.out
      have p0 := kp.cell 0
      have p1 := kp.cell 1
      have p2 := kp.cell 2
      have p3 := kp.cell 3
      have p4 := kp.cell 4
      simp only [List.getElem?_toArray, List.getElem?_cons_succ, List.getElem?_cons_zero] at p0 p1 p2 p3 p4
      have hpl := kp.lt
      by_cases hlt : k < E.length
      · obtain ⟨b1, o1, _, hv1, _, _, hl1, hc1⟩ := H.out.form (by omega) (by omega)
        have hA1 : A = some ⟨b1, o1, none⟩ := by injection hv1
        subst hA1
        obtain ⟨y, hy⟩ : ∃ y, y = E[k] := ⟨_, rfl⟩
        obtain ⟨d0, d1⟩ := edg_cells hw hl1 hc1 hlt y hy
        have hb1 : b1 < wr.heap.size := Nat.lt_of_lt_of_le hl1 hws
        have hk0 : (0 : Int) ≤ (k : Int) := by omega
        have hk1 : (k : Int) < (E.length : Int) := by omega
        have HD := Lib.hid (show outB x4 E = (edgeOut x4 y || outB x4 (E.drop (k + 1))) by rw [hgo.out, outB_drop hlt, ← hy])
        have hsub : IntKind.i64.wrap (x4 - 1) = x4 - 1 := IntWalk.i64_in _ (by omega)
        have HW2 := Lib.hid hw
        clear hgo hy hv1 hc1 kp hw
        cases s1 : inB y.src 0 (x4 - 1) with
        | false =>
          have HG := Lib.hid (show R = 2 by rw [HR.out, if_pos (by rw [HD.out]; simp [edgeOut, s1])])
          clear HD
          go_wp2
          first | refine wp_region_calm_on (by kernel_rfl) (by kernel_rfl) ?_ | refine wp_region_calm_lit (by kernel_rfl) (by kernel_rfl) ?_
          repeat (go_big_quiet_step ((go_at_call 69; exact calm_same (l01In_b _ _ _ _))))
          refine wpQuiet_nil ?_
          intro _ hw'
          obtain ⟨k1, hw''⟩ := hw'
          subst hw''
          go_wp2
          go_ret
          exact ⟨ret_int HG.out.symm, Below.calm HW2.out HW2.out.size⟩
        | true =>
          cases s2 : inB y.dst 0 (x4 - 1) with
          | false =>
            have HG := Lib.hid (show R = 2 by rw [HR.out, if_pos (by rw [HD.out]; simp [edgeOut, s2])])
            clear HD
            go_wp2
            first | refine wp_region_calm_on (by kernel_rfl) (by kernel_rfl) ?_ | refine wp_region_calm_lit (by kernel_rfl) (by kernel_rfl) ?_
            repeat (go_big_quiet_step ((go_at_call 69; exact calm_same (l01In_b _ _ _ _))))
            refine wpQuiet_nil ?_
            intro _ hw'
            obtain ⟨k1, hw''⟩ := hw'
            subst hw''
            go_wp2
            go_ret
            exact ⟨ret_int HG.out.symm, Below.calm HW2.out HW2.out.size⟩
          | true =>
            have HG := Lib.hid (show outB x4 E = outB x4 (E.drop (k + 1)) by rw [HD.out]; simp [edgeOut, s1, s2])
            clear HD
            go_wp2
            first | refine wp_region_calm_on (by kernel_rfl) (by kernel_rfl) ?_ | refine wp_region_calm_lit (by kernel_rfl) (by kernel_rfl) ?_
            repeat (go_big_quiet_step ((go_at_call 69; exact calm_same (l01In_b _ _ _ _))))
            refine wpQuiet_nil ?_
            intro _ hw'
            obtain ⟨k1, hw''⟩ := hw'
            subst hw''
            go_wp2
            go_roundw
            case rel => exact ⟨k + 1, by omega, by go_num, HG, Lib.hid (Below.calm HB.out HB.out.size)⟩
            case measure => simp [intOf]; omega
      · have hout : outB x4 E = false := by rw [hgo.out, List.drop_of_length_le (by omega)]; rfl
        have HO := Lib.hid hout
        have HR2 := Lib.hid (HR.out.trans (if_neg (by rw [hout]; simp)))
        clear hgo hout kp HR
        go_wp2
        clear p0 p1 p2 p3 p4
        go_loopw [4] (fun u4 wr => ∃ k : Nat, k ≤ E.length ∧ u4 = .int .i64 k ∧ Hid (twiceTo E k = false) ∧ Hid (Below W0.heap.size W0 wr)) (fun u4 _ => E.length - (intOf u4).toNat)
        case atStart => exact ⟨0, Nat.zero_le _, rfl, Lib.hid rfl, HB⟩
        case round =>
          clear HB hw hws hpl hlt hk
          obtain ⟨k, hk, rfl, hgo, HB⟩ := hrel
          have hw : Below w.heap.size w wr := hb0.trans (HB.out.mono hb0.size)
          have hws := hw.size
          have kp := HK.out.belowV HB.out
          have p0 := kp.cell 0
          have p1 := kp.cell 1
          have p2 := kp.cell 2
          have p3 := kp.cell 3
          have p4 := kp.cell 4
          simp only [List.getElem?_toArray, List.getElem?_cons_succ, List.getElem?_cons_zero] at p0 p1 p2 p3 p4
          have hpl := kp.lt
          by_cases hlt : k < E.length
          · obtain ⟨y, hy⟩ : ∃ y, y = E[k] := ⟨_, rfl⟩
            have HD := Lib.hid (show twiceTo E (k + 1) = hasB (E.take k) y by rw [twiceTo, hgo.out, Bool.false_or, List.getD_eq_getElem?_getD, List.getElem?_eq_getElem hlt, hy]; rfl)
            have HY := Lib.hid hy
            clear hgo hy kp
            go_wp2
            clear p0 p1 p2 p3 p4
            go_loopw [5] (fun u5 wr => ∃ m : Nat, m ≤ k ∧ u5 = .int .i64 m ∧ Hid (hasB (E.take m) y = false) ∧ Hid (Below W0.heap.size W0 wr)) (fun u5 _ => k - (intOf u5).toNat)
            case atStart => exact ⟨0, Nat.zero_le _, rfl, Lib.hid rfl, HB⟩
            case round =>
              clear HB hw hws hpl
              obtain ⟨m, hm, rfl, hgo, HB⟩ := hrel
              have hw : Below w.heap.size w wr := hb0.trans (HB.out.mono hb0.size)
              have hws := hw.size
              have kp := HK.out.belowV HB.out
              have p0 := kp.cell 0
              have p1 := kp.cell 1
              have p2 := kp.cell 2
              have p3 := kp.cell 3
              have p4 := kp.cell 4
              simp only [List.getElem?_toArray, List.getElem?_cons_succ, List.getElem?_cons_zero] at p0 p1 p2 p3 p4
              have hpl := kp.lt
              by_cases hltm : m < k
              · obtain ⟨b1, o1, _, hv1, _, _, hl1, hc1⟩ := H.out.form (by omega) (by omega)
                have hA1 : A = some ⟨b1, o1, none⟩ := by injection hv1
                subst hA1
                obtain ⟨z, hz⟩ : ∃ z, z = E[m] := ⟨_, rfl⟩
                obtain ⟨d0, d1⟩ := edg_cells hw hl1 hc1 hlt y HY.out
                obtain ⟨e0, e1⟩ := edg_cells hw hl1 hc1 (show m < E.length by omega) z hz
                have HT := Lib.hid (show hasB (E.take (m + 1)) y = (y == z) by rw [hasB_take_succ (by omega), hgo.out, Bool.false_or, hz])
                have hb1 : b1 < wr.heap.size := Nat.lt_of_lt_of_le hl1 hws
                have hk0 : (0 : Int) ≤ (k : Int) := by omega
                have hk1 : (k : Int) < (E.length : Int) := by omega
                have hm0 : (0 : Int) ≤ (m : Int) := by omega
                have hm1 : (m : Int) < (E.length : Int) := by omega
                have HW2 := Lib.hid hw
                clear hgo hz hv1 hc1 kp hw
                obtain ⟨ys, yd⟩ := y
                obtain ⟨zs, zd⟩ := z
                simp only at d0 d1 e0 e1
                by_cases hs : ys = zs
                · by_cases hd : yd = zd
                  · have hmem : hasB (E.take k) ⟨ys, yd⟩ = true := by
                      have h1 : (⟨ys, yd⟩ : Edg) ∈ E.take (m + 1) := hasB_true.1 (by rw [HT.out, hs, hd]; simp)
                      refine hasB_true.2 ?_
                      have e : E.take (m + 1) = (E.take k).take (m + 1) := by rw [List.take_take, Nat.min_eq_left (by omega)]
                      rw [e] at h1
                      exact List.mem_of_mem_take h1
                    have HG := Lib.hid (show R = 3 by rw [HR2.out, if_pos (twiceTo_mono (show k + 1 ≤ E.length by omega) (by rw [HD.out, hmem]))])
                    have t0 : (ys == zs) = true := by simp [hs]
                    have t1 : (yd == zd) = true := by simp [hd]
                    clear HD HT hs hd hmem
                    go_wp2
                    first | refine wp_region_calm_on (by kernel_rfl) (by kernel_rfl) ?_ | refine wp_region_calm_lit (by kernel_rfl) (by kernel_rfl) ?_
                    repeat (go_big_quiet_step (fail))
                    refine wpQuiet_nil ?_
                    intro _ hw'
                    obtain ⟨k1, hw''⟩ := hw'
                    subst hw''
                    go_wp2
                    go_ret
                    exact ⟨ret_int HG.out.symm, Below.calm HW2.out HW2.out.size⟩
                  · have HG := Lib.hid (show hasB (E.take (m + 1)) ⟨ys, yd⟩ = false by rw [HT.out]; simp [hd])
                    have t1 : (yd == zd) = false := by simp [hd]
                    clear HT hs hd
                    go_wp2
                    first | refine wp_region_calm_on (by kernel_rfl) (by kernel_rfl) ?_ | refine wp_region_calm_lit (by kernel_rfl) (by kernel_rfl) ?_
                    repeat (go_big_quiet_step (fail))
                    refine wpQuiet_nil ?_
                    intro _ hw'
                    obtain ⟨k1, hw''⟩ := hw'
                    subst hw''
                    go_wp2
                    go_roundw
                    case rel => exact ⟨m + 1, by omega, by go_num, HG, Lib.hid (Below.calm HB.out HB.out.size)⟩
                    case measure => simp [intOf]; omega
                · have HG := Lib.hid (show hasB (E.take (m + 1)) ⟨ys, yd⟩ = false by rw [HT.out]; simp [hs])
                  have t0 : (ys == zs) = false := by simp [hs]
                  clear HT hs
                  go_wp2
                  first | refine wp_region_calm_on (by kernel_rfl) (by kernel_rfl) ?_ | refine wp_region_calm_lit (by kernel_rfl) (by kernel_rfl) ?_
                  repeat (go_big_quiet_step (fail))
                  refine wpQuiet_nil ?_
                  intro _ hw'
                  obtain ⟨k1, hw''⟩ := hw'
                  subst hw''
                  go_wp2
                  go_roundw
                  case rel => exact ⟨m + 1, by omega, by go_num, HG, Lib.hid (Below.calm HB.out HB.out.size)⟩
                  case measure => simp [intOf]; omega
              · obtain rfl : m = k := by omega
                have HG := Lib.hid (show twiceTo E (m + 1) = false by rw [HD.out, hgo.out])
                clear hgo
                go_wp2
                go_roundw
                case rel => exact ⟨m + 1, by omega, by go_num, HG, HB⟩
                case measure => simp [intOf]; omega
          · obtain rfl : k = E.length := by omega
            have HR3 := Lib.hid (HR2.out.trans (if_neg (by rw [hgo.out]; simp)))
            obtain ⟨n, hnn⟩ : ∃ n : Nat, x4 = n := ⟨x4.toNat, by omega⟩
            subst hnn
            clear hgo kp HR2
            go_wp2
            clear p0 p1 p2 p3 p4
            go_loopw [6] (fun u6 wr => ∃ k : Nat, k ≤ n ∧ u6 = .int .i64 k ∧ Hid (cycTo E k = false) ∧ Hid (Below W0.heap.size W0 wr)) (fun u6 _ => n - (intOf u6).toNat)
            case atStart => exact ⟨0, Nat.zero_le _, rfl, Lib.hid rfl, HB⟩
            case round =>
              clear HB hw hws hpl hlt hk
              obtain ⟨k, hk, rfl, hgo, HB⟩ := hrel
              have hw : Below w.heap.size w wr := hb0.trans (HB.out.mono hb0.size)
              have hws := hw.size
              have kp := HK.out.belowV HB.out
              have p0 := kp.cell 0
              have p1 := kp.cell 1
              have p2 := kp.cell 2
              have p3 := kp.cell 3
              have p4 := kp.cell 4
              simp only [List.getElem?_toArray, List.getElem?_cons_succ, List.getElem?_cons_zero] at p0 p1 p2 p3 p4
              have hpl := kp.lt
              by_cases hlt : k < n
              · have CF := Lib.hid (l06From_any _ ⟨x1, x2, x3, n, E⟩ k wr (HPL.out.below hw) HM.out HO.out)
                have HD := Lib.hid (show cycTo E (k + 1) = wayB E k k by rw [cycTo, hgo.out, Bool.false_or])
                have HW2 := Lib.hid hw
                clear hgo kp hw
                go_wp2_with fail
                refine CF.out.mono ?_
                simp only [Int.toNat_natCast]
                rintro e w1 ⟨v1, rfl, ho1, hb1⟩
                obtain ⟨A3, c3, rfl, hnc3, hcm3⟩ := (Rd.of_own ho1).shape
                obtain ⟨b3, o3, _, hv3, _, _, hl3, hc3⟩ := (Rd.of_own ho1).form (by omega) (by omega)
                have hA3 : A3 = some ⟨b3, o3, none⟩ := by injection hv3
                subst hA3
                have d0 := hc3 k (.bool (wayB E k k)) (by simp [boolsV, fromR, hlt])
                have hw1 := HW2.out.trans (hb1.mono HW2.out.size)
                have HB1 := Lib.hid (HB.out.trans (hb1.mono HB.out.size))
                have hk0 : (0 : Int) ≤ (k : Int) := by omega
                have hk1 : (k : Int) < (n : Int) := by omega
                unfold maxLen at hcm3
                clear hv3 hc3 ho1 p0 p1 p2 p3 p4
                cases hs : wayB E k k with
                | true =>
                  have HG := Lib.hid (show R = 4 by rw [HR3.out, Int.toNat_natCast, if_pos (cycTo_mono (show k + 1 ≤ n by omega) (by rw [HD.out, hs]))])
                  rw [hs] at d0
                  clear hs HD
                  go_wp2_with fail
                  go_ret
                  exact ⟨ret_int HG.out.symm, hw1⟩
                | false =>
                  have HG := Lib.hid (show cycTo E (k + 1) = false by rw [HD.out, hs])
                  rw [hs] at d0
                  clear hs HD
                  go_wp2_with fail
                  go_roundw
                  case rel => exact ⟨k + 1, by omega, by go_num, HG, HB1⟩
                  case measure => simp [intOf]; omega
              · obtain rfl : k = n := by omega
                have HG := Lib.hid (show R = 0 by rw [HR3.out, Int.toNat_natCast, if_neg (by rw [hgo.out]; simp)])
                clear hgo
                go_wp2
                go_ret
                exact ⟨ret_int HG.out.symm, hw⟩
end Go.Proofs.Ytbbjkldkjndfaaa

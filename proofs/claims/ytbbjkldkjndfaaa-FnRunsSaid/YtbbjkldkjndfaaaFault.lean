/- PlanFault, the program's. -/
import Derived.Test.YtbbjkldkjndfaaaWaits
import Derived.Test.YtbbjkldkjndfaaaContain
import Derived.Test.YtbbjkldkjndfaaaGA
namespace Go.Proofs.Ytbbjkldkjndfaaa
set_option linter.unusedSimpArgs false
open Go.RowKit Go.ChangeShapes Go.Deep

theorem bits_test (m t : Nat) (hm : m < 9223372036854775808) : (bits .and .i64 ((m : Int) / 2 ^ t) 1 == 1) = m.testBit t := by
  have h2 : (m : Int) / 2 ^ t = ((m / 2 ^ t : Nat) : Int) := by rw [Int.natCast_ediv, Int.natCast_pow]; rfl
  have hle : m / 2 ^ t ≤ m := Nat.div_le_self _ _
  have h1 : bits .and .i64 ((m / 2 ^ t : Nat) : Int) ((1 : Nat) : Int) = ((m / 2 ^ t &&& 1 : Nat) : Int) := i64_and_nat _ _ (by omega) (by omega)
  rw [h2, show (1 : Int) = ((1 : Nat) : Int) from rfl, h1, Nat.testBit_eq_decide_div_mod_eq, Nat.and_one_is_mod]
  generalize m / 2 ^ t = q
  rcases Nat.mod_two_eq_zero_or_one q with h | h <;> rw [h] <;> rfl
theorem bits_way {E : List Edg} {n : Nat} (hi : Inside E n) (hn : n ≤ 12) {s t : Nat} (_ : s < n) :
    (bits .and .i64 (((bitRounds E n (List.replicate n 0)).getD s 0 : Nat) / 2 ^ t) 1 == 1) = wayB E s t := by
  have hb : (bitRounds E n (List.replicate n 0)).getD s 0 < 4096 := by
    have h := bitAt_small hi hn n 0 s
    rwa [bitAt_zero] at h
  rw [bits_test _ _ (by omega)]
  have h := rounds_way hi (x := (s : Int)) (y := (t : Int)) (by omega) (by omega)
  unfold hasBit at h
  simp only [Int.toNat_natCast] at h
  cases hw : wayB E s t with
  | true => exact h.2 (wayB_true.1 hw)
  | false =>
    have := wayB_false.1 hw
    rw [← h] at this
    simpa using this
theorem rd_take {w : World} {A : Option Addr} {c k : Nat} {E : List Edg} (h : Rd w 2 (.slice A E.length c) E.length (edgV E)) (hk : k ≤ E.length) : Rd w 2 (.slice A k c) k (edgV (E.take k)) := by
  obtain ⟨A1, c1, he, h1, h2, h3⟩ := h
  injection he with hA hn hc
  subst hA hc
  refine ⟨_, c, rfl, by omega, h2, by rw [edgV_length, List.length_take, Nat.min_eq_left hk], fun hk0 => ?_⟩
  obtain ⟨ad, rfl, hlt, hx⟩ := h3.2 (by omega)
  refine ⟨ad, rfl, hlt, fun j u hu => hx j u ?_⟩
  have e : edgV E = edgV (E.take k) ++ edgV (E.drop k) := by rw [← edgV_append, List.take_append_drop]
  rw [e]
  exact List.getElem?_append_left (List.getElem?_eq_some_iff.1 hu).1 ▸ hu

set_option maxHeartbeats 8000000 in
set_option maxRecDepth 100000 in
theorem planFault_impl (u : Value) (x : Pln) (w : World) (h : Rd_plan w u x) (hn : cost_plan x ≤ 1048576) :
    Calls Try.prog 22 #[.agg #[.int .i64 x.prio, .int .i64 x.most, .int .i64 x.wait, .int .i64 x.tasks, u]] w fun e w' => e = .returned (.int .i64 (planFaultR x)) ∧ Below w.heap.size w w' := by
  unfold cost_plan at hn
  obtain ⟨R, hR⟩ : ∃ R, R = planFaultR x := ⟨_, rfl⟩
  rw [← hR]
  unfold planFaultR at hR
  have HPL := Lib.hid h
  obtain ⟨x1, x2, x3, x4, E⟩ := x
  obtain ⟨A, c, rfl, hnc, hcm⟩ := h.form
  simp only at hnc hn
  unfold maxLen at hcm
  obtain ⟨W0, hW0⟩ : ∃ W0, W0 = w.alloc (.cells #[.int .i64 x1, .int .i64 x2, .int .i64 x3, .int .i64 x4, .slice A E.length c] 26) := ⟨_, rfl⟩
  have hb0 : Below w.heap.size w W0 := by rw [hW0]; exact (Below.refl _ _).alloc (Nat.le_refl _) _
  have k0 : Blk W0 w.heap.size 26 #[.int .i64 x1, .int .i64 x2, .int .i64 x3, .int .i64 x4, .slice A E.length c] := by rw [hW0]; exact Blk.new _ _ _
  have HK := Lib.hid k0
  have HW := Lib.hid hW0
  have H := Lib.hid (show Rd w 2 (.slice A E.length c) E.length (edgV E) from h)
  clear k0 hW0 h
  have C1 := Lib.hid (fun w => within_b x4 1 12 w)
  have C2 := Lib.hid (fun w => within_b x1 0 9 w)
  have C3 := Lib.hid (fun w => within_b x2 1 5 w)
  have C4 := Lib.hid (fun w => within_b x3 1 20 w)
  cases h1 : inB x4 1 12 with
  | false =>
    have HR := Lib.hid (show R = 1 by rw [hR]; simp [manyB, h1])
    rw [h1] at C1
    clear hR h1
    go_enter Try.func22, Try.ntmps22
    go_wp2_with fail
    rw [← HW.out]
    refine (C1.out _).mono ?_
    rintro e w1 ⟨rfl, rfl⟩
    go_wp2_with fail
    go_ret
    exact ⟨ret_int HR.out.symm, hb0⟩
  | true =>
    rw [h1] at C1
    by_cases h2 : 30 < E.length
    · have HR := Lib.hid (show R = 1 by rw [hR]; simp [manyB, h1, h2])
      have p4 := HK.out.cell 4
      simp only [List.getElem?_toArray, List.getElem?_cons_succ, List.getElem?_cons_zero] at p4
      have h2' : (30 : Int) < (E.length : Int) := by omega
      clear hR h1 h2
      go_enter Try.func22, Try.ntmps22
      go_wp2_with fail
      rw [← HW.out]
      refine (C1.out _).mono ?_
      rintro e w1 ⟨rfl, rfl⟩
      go_wp2_with fail
      go_ret
      exact ⟨ret_int HR.out.symm, hb0⟩
    · have h2' : decide ((30 : Int) < (E.length : Int)) = false := by simp; omega
      cases h3 : inB x1 0 9 with
      | false =>
        rw [h3] at C2
        have HR := Lib.hid (show R = 1 by rw [hR]; simp [manyB, h1, h3])
        have p0 := HK.out.cell 0
        have p1 := HK.out.cell 1
        have p2 := HK.out.cell 2
        have p3 := HK.out.cell 3
        have p4 := HK.out.cell 4
        simp only [List.getElem?_toArray, List.getElem?_cons_succ, List.getElem?_cons_zero] at p0 p1 p2 p3 p4
        clear hR h1 h2 h3
        go_enter Try.func22, Try.ntmps22
        go_wp2_with fail
        rw [← HW.out]
        refine (C1.out _).mono ?_
        rintro e w1 ⟨rfl, rfl⟩
        go_wp2_with fail
        refine (C2.out _).mono ?_
        rintro e w1 ⟨rfl, rfl⟩
        go_wp2_with fail
        go_ret
        exact ⟨ret_int HR.out.symm, hb0⟩
      | true =>
        rw [h3] at C2
        cases h4 : inB x2 1 5 with
        | false =>
          rw [h4] at C3
          have HR := Lib.hid (show R = 1 by rw [hR]; simp [manyB, h1, h4])
          have p0 := HK.out.cell 0
          have p1 := HK.out.cell 1
          have p2 := HK.out.cell 2
          have p3 := HK.out.cell 3
          have p4 := HK.out.cell 4
          simp only [List.getElem?_toArray, List.getElem?_cons_succ, List.getElem?_cons_zero] at p0 p1 p2 p3 p4
          clear hR h1 h2 h3 h4
          go_enter Try.func22, Try.ntmps22
          go_wp2_with fail
          rw [← HW.out]
          refine (C1.out _).mono ?_
          rintro e w1 ⟨rfl, rfl⟩
          go_wp2_with fail
          refine (C2.out _).mono ?_
          rintro e w1 ⟨rfl, rfl⟩
          go_wp2_with fail
          refine (C3.out _).mono ?_
          rintro e w1 ⟨rfl, rfl⟩
          go_wp2_with fail
          go_ret
          exact ⟨ret_int HR.out.symm, hb0⟩
        | true =>
          rw [h4] at C3
          cases h5 : inB x3 1 20 with
          | false =>
            rw [h5] at C4
            have HR := Lib.hid (show R = 1 by rw [hR]; simp [manyB, h1, h5])
            have p0 := HK.out.cell 0
            have p1 := HK.out.cell 1
            have p2 := HK.out.cell 2
            have p3 := HK.out.cell 3
            have p4 := HK.out.cell 4
            simp only [List.getElem?_toArray, List.getElem?_cons_succ, List.getElem?_cons_zero] at p0 p1 p2 p3 p4
            clear hR h1 h2 h3 h4 h5
            go_enter Try.func22, Try.ntmps22
            go_wp2_with fail
            rw [← HW.out]
            refine (C1.out _).mono ?_
            rintro e w1 ⟨rfl, rfl⟩
            go_wp2_with fail
            refine (C2.out _).mono ?_
            rintro e w1 ⟨rfl, rfl⟩
            go_wp2_with fail
            refine (C3.out _).mono ?_
            rintro e w1 ⟨rfl, rfl⟩
            go_wp2_with fail
            refine (C4.out _).mono ?_
            rintro e w1 ⟨rfl, rfl⟩
            go_wp2_with fail
            go_ret
            exact ⟨ret_int HR.out.symm, hb0⟩
          | true =>
            rw [h5] at C4
            have hmany : manyB ⟨x1, x2, x3, x4, E⟩ = false := by simp [manyB, h1, h2, h3, h4, h5]
            have hx4 : 1 ≤ x4 ∧ x4 ≤ 12 := by have := many_false hmany; exact ⟨this.1, this.2.1⟩
            obtain ⟨hx40, hx41⟩ := hx4
            rw [if_neg (by rw [hmany]; simp)] at hR
            simp only at hR
            have HR := Lib.hid hR
            have HM := Lib.hid hmany
            have p0 := HK.out.cell 0
            have p1 := HK.out.cell 1
            have p2 := HK.out.cell 2
            have p3 := HK.out.cell 3
            have p4 := HK.out.cell 4
            simp only [List.getElem?_toArray, List.getElem?_cons_succ, List.getElem?_cons_zero] at p0 p1 p2 p3 p4
            clear hR h1 h2 h3 h4 h5 hmany
            go_enter Try.func22, Try.ntmps22
            go_wp2_with fail
            rw [← HW.out]
            refine (C1.out _).mono ?_
            rintro e w1 ⟨rfl, rfl⟩
            go_wp2_with fail
            refine (C2.out _).mono ?_
            rintro e w1 ⟨rfl, rfl⟩
            go_wp2_with fail
            refine (C3.out _).mono ?_
            rintro e w1 ⟨rfl, rfl⟩
            go_wp2_with fail
            refine (C4.out _).mono ?_
            rintro e w1 ⟨rfl, rfl⟩
            go_wp2_with fail
            clear p0 p1 p2 p3 p4 C1 C2 C3 C4 h2'
            go_loopw [40] (fun u40 wr => ∃ k : Nat, k ≤ E.length ∧ u40 = .int .i64 k ∧ Hid (outB x4 E = outB x4 (E.drop k)) ∧ Hid (Below W0.heap.size W0 wr)) (fun u40 _ => E.length - (intOf u40).toNat)
            case atStart => exact ⟨0, Nat.zero_le _, rfl, Lib.hid rfl, Lib.hid (Below.refl _ _)⟩
            case round =>
              obtain ⟨k, hk, rfl, hgo, HB⟩ := hrel
              have hw : Below w.heap.size w wr := hb0.trans (HB.out.mono hb0.size)
              have hws := hw.size
              by_cases hlt : k < E.length
              · obtain ⟨b1, o1, _, hv1, _, _, hl1, hc1⟩ := H.out.form (by omega) (by omega)
                have hA1 : A = some ⟨b1, o1, none⟩ := by injection hv1
                subst hA1
                obtain ⟨y, hy⟩ : ∃ y, y = E[k] := ⟨_, rfl⟩
                obtain ⟨d0, d1⟩ := edg_cells hw hl1 hc1 hlt y hy
                have hb1 : b1 < wr.heap.size := Nat.lt_of_lt_of_le hl1 hws
                have kp := HK.out.belowV HB.out
                have p3 := kp.cell 3
                simp only [List.getElem?_toArray, List.getElem?_cons_succ, List.getElem?_cons_zero] at p3
                have hpl := kp.lt
                have hk0 : (0 : Int) ≤ (k : Int) := by omega
                have hk1 : (k : Int) < (E.length : Int) := by omega
                have HD := Lib.hid (show outB x4 E = (edgeOut x4 y || outB x4 (E.drop (k + 1))) by rw [hgo.out, outB_drop hlt, ← hy])
                have C5 := Lib.hid (fun w => within_b y.src 0 (x4 - 1) w)
                have C6 := Lib.hid (fun w => within_b y.dst 0 (x4 - 1) w)
                clear hgo hy hv1 hc1 kp
                cases s1 : inB y.src 0 (x4 - 1) with
                | false =>
                  have HG := Lib.hid (show R = 2 by rw [HR.out, if_pos (by rw [HD.out]; simp [edgeOut, s1])])
                  rw [s1] at C5
                  clear s1 HD
                  go_wp2_with fail
                  refine (C5.out _).mono ?_
                  rintro e w1 ⟨rfl, rfl⟩
                  go_wp2_with fail
                  go_ret
                  exact ⟨ret_int HG.out.symm, hw.alloc hws _⟩
                | true =>
                  rw [s1] at C5
                  cases s2 : inB y.dst 0 (x4 - 1) with
                  | false =>
                    have HG := Lib.hid (show R = 2 by rw [HR.out, if_pos (by rw [HD.out]; simp [edgeOut, s2])])
                    rw [s2] at C6
                    clear s1 s2 HD
                    go_wp2_with fail
                    refine (C5.out _).mono ?_
                    rintro e w1 ⟨rfl, rfl⟩
                    go_wp2_with fail
                    refine (C6.out _).mono ?_
                    rintro e w1 ⟨rfl, rfl⟩
                    go_wp2_with fail
                    go_ret
                    exact ⟨ret_int HG.out.symm, hw.alloc hws _⟩
                  | true =>
                    have HG := Lib.hid (show outB x4 E = outB x4 (E.drop (k + 1)) by rw [HD.out]; simp [edgeOut, s1, s2])
                    rw [s2] at C6
                    clear s1 s2 HD
                    go_wp2_with fail
                    refine (C5.out _).mono ?_
                    rintro e w1 ⟨rfl, rfl⟩
                    go_wp2_with fail
                    refine (C6.out _).mono ?_
                    rintro e w1 ⟨rfl, rfl⟩
                    go_wp2_with fail
                    go_roundw
                    case rel => exact ⟨k + 1, by omega, by go_num, HG, Lib.hid (HB.out.alloc HB.out.size _)⟩
                    case measure => simp [intOf]; omega
              · have hout : outB x4 E = false := by rw [hgo.out, List.drop_of_length_le (by omega)]; rfl
                have HO := Lib.hid hout
                have HR2 := Lib.hid (HR.out.trans (if_neg (by rw [hout]; simp)))
                have kp := HK.out.belowV HB.out
                have p4 := kp.cell 4
                simp only [List.getElem?_toArray, List.getElem?_cons_succ, List.getElem?_cons_zero] at p4
                have hpl := kp.lt
                clear hgo hout kp HR
                go_wp2_with fail
                clear p4
                go_loopw [64] (fun u64 wr => ∃ k : Nat, k ≤ E.length ∧ u64 = .int .i64 k ∧ Hid (twiceTo E k = false) ∧ Hid (Below W0.heap.size W0 wr)) (fun u64 _ => E.length - (intOf u64).toNat)
                case atStart => exact ⟨0, Nat.zero_le _, rfl, Lib.hid rfl, HB⟩
                case round =>
                  clear HB hw hws hpl hlt hk
                  obtain ⟨k, hk, rfl, hgo, HB⟩ := hrel
                  have hw : Below w.heap.size w wr := hb0.trans (HB.out.mono hb0.size)
                  have hws := hw.size
                  by_cases hlt : k < E.length
                  · obtain ⟨i0, hi, hz0, hz1, hz2⟩ := info_parts Try.infoEdg
                    obtain ⟨b1, o1, _, hv1, _, _, hl1, hc1⟩ := H.out.form (by omega) (by omega)
                    have hA1 : A = some ⟨b1, o1, none⟩ := by injection hv1
                    subst hA1
                    have hcut := fun W => run_cut_h' (P := Try.prog) Try.underlying24 hi b1 o1 E.length c .i64 k (by omega) W
                    have hrd : Rd w 2 (.slice (some ⟨b1, o1, none⟩) k c) k (edgV (E.take k)) := rd_take H.out (by omega)
                    obtain ⟨y, hy⟩ : ∃ y, y = E[k] := ⟨_, rfl⟩
                    obtain ⟨d0, d1⟩ := edg_cells hw hl1 hc1 hlt y hy
                    have hb1 : b1 < wr.heap.size := Nat.lt_of_lt_of_le hl1 hws
                    have kp := HK.out.belowV HB.out
                    have p4 := kp.cell 4
                    simp only [List.getElem?_toArray, List.getElem?_cons_succ, List.getElem?_cons_zero] at p4
                    have hpl := kp.lt
                    have hk0 : (0 : Int) ≤ (k : Int) := by omega
                    have hk1 : (k : Int) < (E.length : Int) := by omega
                    have hk2 : (k : Int) ≤ (c : Int) := by omega
                    have HD := Lib.hid (show twiceTo E (k + 1) = hasB (E.take k) y by rw [twiceTo, hgo.out, Bool.false_or, List.getD_eq_getElem?_getD, List.getElem?_eq_getElem hlt, hy]; rfl)
                    have CC := Lib.hid (fun (W : World) (hW : Below w.heap.size w W) => contEdge_any (.slice (some ⟨b1, o1, none⟩) k c) (E.take k) y W (by rw [List.length_take, Nat.min_eq_left (by omega)]; exact hrd.below hW))
                    have HW2 := Lib.hid hw
                    clear hgo hy hv1 hc1 kp hrd hw
                    cases s1 : hasB (E.take k) y with
                    | true =>
                      have HG := Lib.hid (show R = 3 by rw [HR2.out, if_pos (twiceTo_mono (show k + 1 ≤ E.length by omega) (by rw [HD.out, s1]))])
                      rw [s1] at CC
                      clear s1 HD
                      go_wp2
                      first | refine wp_region_calm_on (by kernel_rfl) (by kernel_rfl) ?_ | refine wp_region_calm_lit (by kernel_rfl) (by kernel_rfl) ?_
                      repeat (go_big_quiet_step ((go_at_call 66; exact calm_of (CC.out _ (Below.calm (HW2.out.alloc HW2.out.size _) (by simp; omega))))))
                      refine wpQuiet_nil ?_
                      intro _ hw'
                      obtain ⟨k1, hw''⟩ := hw'
                      subst hw''
                      go_wp2
                      go_ret
                      exact ⟨ret_int HG.out.symm, Below.calm (HW2.out.alloc HW2.out.size _) (by simp; omega)⟩
                    | false =>
                      have HG := Lib.hid (show twiceTo E (k + 1) = false by rw [HD.out, s1])
                      rw [s1] at CC
                      clear s1 HD
                      go_wp2
                      first | refine wp_region_calm_on (by kernel_rfl) (by kernel_rfl) ?_ | refine wp_region_calm_lit (by kernel_rfl) (by kernel_rfl) ?_
                      repeat (go_big_quiet_step ((go_at_call 66; exact calm_of (CC.out _ (Below.calm (HW2.out.alloc HW2.out.size _) (by simp; omega))))))
                      refine wpQuiet_nil ?_
                      intro _ hw'
                      obtain ⟨k1, hw''⟩ := hw'
                      subst hw''
                      go_wp2
                      go_roundw
                      case rel => exact ⟨k + 1, by omega, by go_num, HG, Lib.hid (Below.calm (HB.out.alloc HB.out.size _) (by have := HB.out.size; simp; omega))⟩
                      case measure => simp [intOf]; omega
                  · obtain rfl : k = E.length := by omega
                    have HR3 := Lib.hid (HR2.out.trans (if_neg (by rw [hgo.out]; simp)))
                    have kp := HK.out.belowV HB.out
                    have p0 := kp.cell 0
                    have p1 := kp.cell 1
                    have p2 := kp.cell 2
                    have p3 := kp.cell 3
                    have p4 := kp.cell 4
                    simp only [List.getElem?_toArray, List.getElem?_cons_succ, List.getElem?_cons_zero] at p0 p1 p2 p3 p4
                    have hpl := kp.lt
                    have CW := Lib.hid (waits_any _ ⟨x1, x2, x3, x4, E⟩ wr (HPL.out.below hw) HM.out HO.out)
                    have HW2 := Lib.hid hw
                    clear hgo kp hw HR2
                    go_wp2_with fail
                    refine CW.out.mono ?_
                    rintro e w1 ⟨v1, rfl, ho1, hb1⟩
                    obtain ⟨n, hnn⟩ : ∃ n : Nat, x4 = n := ⟨x4.toNat, by omega⟩
                    subst hnn
                    simp only [Int.toNat_natCast] at ho1
                    obtain ⟨A3, c3, rfl, hnc3, hcm3⟩ := (Rd.of_own ho1).shape
                    have HRD := Lib.hid (Rd.of_own ho1)
                    have hw1 := HW2.out.trans (hb1.mono HW2.out.size)
                    have HMM := Lib.hid (fun (t : Nat) (ht : t < n) => bits_way (t := t) (outB_inside HO.out) (by omega) (show t < n from ht))
                    have hM := rounds_length (outB_inside HO.out) n (List.replicate n 0) (by simp)
                    obtain ⟨M, hMM⟩ : ∃ M, M = bitRounds E n (List.replicate n 0) := ⟨_, rfl⟩
                    rw [← hMM] at HRD HMM hM
                    unfold maxLen at hcm3
                    have HML := Lib.hid hM
                    clear ho1 hMM hM p0 p1 p2 p3 p4 CW
                    go_wp2_with fail
                    go_loop [79] (fun u79 => ∃ k : Nat, k ≤ n ∧ u79 = .int .i64 k ∧ Hid (cycTo E k = false)) (fun u79 => n - (intOf u79).toNat)
                    case atStart => exact ⟨0, Nat.zero_le _, rfl, Lib.hid rfl⟩
                    case round =>
                      obtain ⟨k, hk, rfl, hgo⟩ := hrel
                      by_cases hlt : k < n
                      · obtain ⟨b3, o3, _, hv3, _, _, hl3, hc3⟩ := HRD.out.form (by omega) (by omega)
                        have hA3 : A3 = some ⟨b3, o3, none⟩ := by injection hv3
                        subst hA3
                        have hml := HML.out
                        have d0 := hc3 k (.int .i64 (M[k] : Nat)) (by simp [natsV, hml, hlt])
                        have HB := Lib.hid (show (bits .and .i64 ((M[k] : Nat) / 2 ^ k) 1 == 1) = wayB E k k from by
                          have := HMM.out k hlt
                          rw [List.getD_eq_getElem?_getD, List.getElem?_eq_getElem (by omega)] at this
                          exact this)
                        have hk0 : (0 : Int) ≤ (k : Int) := by omega
                        have hk1 : (k : Int) < (n : Int) := by omega
                        obtain ⟨m, hmm⟩ : ∃ m : Nat, m = M[k] := ⟨_, rfl⟩
                        rw [← hmm] at d0 HB
                        clear hv3 hc3 hmm hml
                        have HD := Lib.hid (show cycTo E (k + 1) = wayB E k k by rw [cycTo, hgo.out, Bool.false_or])
                        cases hs : wayB E k k with
                        | true =>
                          have HG := Lib.hid (show R = 4 by rw [HR3.out, Int.toNat_natCast, if_pos (cycTo_mono (show k + 1 ≤ n by omega) (by rw [HD.out, hs]))])
                          have t0 := HB.out.trans hs
                          clear hs HB HD hgo
                          go_wp2
                          go_ret
                          exact ⟨ret_int HG.out.symm, hw1⟩
                        | false =>
                          have HG := Lib.hid (show cycTo E (k + 1) = false by rw [HD.out, hs])
                          have t0 := HB.out.trans hs
                          clear hs HB HD hgo
                          go_wp2
                          go_round
                          case rel => exact ⟨k + 1, by omega, by go_num, HG⟩
                          case measure => simp [intOf]; omega
                      · obtain rfl : k = n := by omega
                        have HG := Lib.hid (show R = 0 by rw [HR3.out, Int.toNat_natCast, if_neg (by rw [hgo.out]; simp)])
                        clear hgo
                        go_wp2
                        go_ret
                        exact ⟨ret_int HG.out.symm, hw1⟩
end Go.Proofs.Ytbbjkldkjndfaaa

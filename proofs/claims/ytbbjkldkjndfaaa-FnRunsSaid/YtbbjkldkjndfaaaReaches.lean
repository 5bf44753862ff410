/- Reaches, the program's and the reference's. -/
import Derived.Test.YtbbjkldkjndfaaaFault
import Derived.Test.YtbbjkldkjndfaaaFaultS
namespace Go.Proofs.Ytbbjkldkjndfaaa
set_option linter.unusedSimpArgs false
open Go.RowKit Go.ChangeShapes Go.Deep

noncomputable def isTaskR (x : Pln) (t : Int) : Bool := decide (planFaultR x = 0) && inB t 0 (x.tasks - 1)
noncomputable def reachesR (x : Pln) (a b : Int) : Bool := isTaskR x a && isTaskR x b && wayB x.edges a b
theorem inB_true {n lo hi : Int} (h : inB n lo hi = true) : lo ≤ n ∧ n ≤ hi := by simpa [inB] using h

set_option maxHeartbeats 4000000 in
set_option maxRecDepth 100000 in
theorem isTask_any (u : Value) (x : Pln) (t : Int) (w : World) (h : Rd_plan w u x) (hn : cost_plan x ≤ 1048576) :
    Calls Try.prog 64 #[.agg #[.int .i64 x.prio, .int .i64 x.most, .int .i64 x.wait, .int .i64 x.tasks, u], .int .i64 t] w fun e w' => e = .returned (.bool (isTaskR x t)) ∧ Below w.heap.size w w' := by
  have HPL := Lib.hid h
  have hFF : ∃ F, F = planFaultR x := ⟨_, rfl⟩
  obtain ⟨F, hF⟩ := hFF
  obtain ⟨x1, x2, x3, x4, E⟩ := x
  obtain ⟨A, c, rfl, hnc, hcm⟩ := h.form
  simp only at hnc
  unfold maxLen at hcm
  obtain ⟨W0, hW0⟩ : ∃ W0, W0 = w.alloc (.cells #[.int .i64 x1, .int .i64 x2, .int .i64 x3, .int .i64 x4, .slice A E.length c] 26) := ⟨_, rfl⟩
  have hb0 : Below w.heap.size w W0 := by rw [hW0]; exact (Below.refl _ _).alloc (Nat.le_refl _) _
  have k0 : Blk W0 w.heap.size 26 #[.int .i64 x1, .int .i64 x2, .int .i64 x3, .int .i64 x4, .slice A E.length c] := by rw [hW0]; exact Blk.new _ _ _
  have HK := Lib.hid k0
  have HW := Lib.hid hW0
  have CP := Lib.hid (planFault_impl _ ⟨x1, x2, x3, x4, E⟩ W0 (HPL.out.below hb0) hn)
  have CI := Lib.hid (fun w => within_b t 0 (x4 - 1) w)
  rw [← hF] at CP
  clear k0 hW0 h
  by_cases h0 : F = 0
  · have hm := many_false (fault_zero (hF.symm.trans h0)).1
    obtain ⟨hx0, hx1, -⟩ := hm
    simp only at hx0 hx1
    have HR := Lib.hid (show isTaskR ⟨x1, x2, x3, x4, E⟩ t = inB t 0 (x4 - 1) by rw [isTaskR, ← hF, h0]; rfl)
    rw [h0] at CP
    clear hF h0
    obtain ⟨b, hb⟩ : ∃ b, b = inB t 0 (x4 - 1) := ⟨_, rfl⟩
    rw [← hb] at CI HR
    clear hb
    go_enter Try.func64, Try.ntmps64
    go_wp2_with fail
    rw [← HW.out]
    refine CP.out.mono ?_
    rintro e w1 ⟨rfl, hb1⟩
    have kp := HK.out.belowV hb1
    have p3 := kp.cell 3
    simp only [List.getElem?_toArray, List.getElem?_cons_succ, List.getElem?_cons_zero] at p3
    have hpl := kp.lt
    clear kp
    go_wp2_with fail
    refine (CI.out _).mono ?_
    rintro e w2 ⟨rfl, rfl⟩
    go_wp2_with fail
    go_ret
    exact ⟨ret_bool HR.out.symm, hb0.trans (hb1.mono hb0.size)⟩
  · have HR := Lib.hid (show isTaskR ⟨x1, x2, x3, x4, E⟩ t = false by rw [isTaskR, ← hF, decide_eq_false h0]; rfl)
    have t0 : (F == 0) = false := by simp [h0]
    clear hF h0
    go_enter Try.func64, Try.ntmps64
    go_wp2_with fail
    rw [← HW.out]
    refine CP.out.mono ?_
    rintro e w1 ⟨rfl, hb1⟩
    go_wp2_with fail
    go_ret
    exact ⟨ret_bool HR.out.symm, hb0.trans (hb1.mono hb0.size)⟩

theorem isTask_right {x : Pln} {t : Int} (h : isTaskR x t = true) : planFaultR x = 0 ∧ manyB x = false ∧ outB x.tasks x.edges = false ∧ 0 ≤ t ∧ t < x.tasks := by
  simp only [isTaskR, Bool.and_eq_true, decide_eq_true_eq] at h
  have h1 := fault_zero h.1
  have h2 := inB_true h.2
  exact ⟨h.1, h1.1, h1.2.1, by omega⟩

set_option maxHeartbeats 4000000 in
set_option maxRecDepth 100000 in
theorem reaches_impl (u : Value) (x : Pln) (a b : Int) (w : World) (h : Rd_plan w u x) (hn : cost_plan x ≤ 1048576) :
    Calls Try.prog 25 #[.agg #[.int .i64 x.prio, .int .i64 x.most, .int .i64 x.wait, .int .i64 x.tasks, u], .int .i64 a, .int .i64 b] w fun e w' => e = .returned (.bool (reachesR x a b)) ∧ Below w.heap.size w w' := by
  have HPL := Lib.hid h
  have hA : ∃ q, q = isTaskR x a := ⟨_, rfl⟩
  obtain ⟨q, hq⟩ := hA
  have hB : ∃ r, r = isTaskR x b := ⟨_, rfl⟩
  obtain ⟨r, hr⟩ := hB
  have HR := Lib.hid (show reachesR x a b = (q && r && wayB x.edges a b) by rw [hq, hr]; rfl)
  have HA := Lib.hid (fun h : q = true => isTask_right (hq.symm.trans h))
  have HB := Lib.hid (fun h : r = true => isTask_right (hr.symm.trans h))
  obtain ⟨x1, x2, x3, x4, E⟩ := x
  obtain ⟨A, c, rfl, hnc, hcm⟩ := h.form
  simp only at hnc
  unfold maxLen at hcm
  obtain ⟨W0, hW0⟩ : ∃ W0, W0 = w.alloc (.cells #[.int .i64 x1, .int .i64 x2, .int .i64 x3, .int .i64 x4, .slice A E.length c] 26) := ⟨_, rfl⟩
  have hb0 : Below w.heap.size w W0 := by rw [hW0]; exact (Below.refl _ _).alloc (Nat.le_refl _) _
  have k0 : Blk W0 w.heap.size 26 #[.int .i64 x1, .int .i64 x2, .int .i64 x3, .int .i64 x4, .slice A E.length c] := by rw [hW0]; exact Blk.new _ _ _
  have HK := Lib.hid k0
  have HW := Lib.hid hW0
  have CA := Lib.hid (isTask_any _ ⟨x1, x2, x3, x4, E⟩ a W0 (HPL.out.below hb0) hn)
  have CB := Lib.hid (fun W (hW : Below w.heap.size w W) => isTask_any _ ⟨x1, x2, x3, x4, E⟩ b W (HPL.out.below hW) hn)
  rw [← hq] at CA
  rw [← hr] at CB
  clear k0 hW0 h hq hr
  cases q with
  | false =>
    go_enter Try.func25, Try.ntmps25
    go_wp2_with fail
    rw [← HW.out]
    refine CA.out.mono ?_
    rintro e w1 ⟨rfl, hb1⟩
    go_wp2_with fail
    go_ret
    exact ⟨ret_bool HR.out.symm, hb0.trans (hb1.mono hb0.size)⟩
  | true =>
    cases r with
    | false =>
      go_enter Try.func25, Try.ntmps25
      go_wp2_with fail
      rw [← HW.out]
      refine CA.out.mono ?_
      rintro e w1 ⟨rfl, hb1⟩
      have kp := HK.out.belowV hb1
      have p0 := kp.cell 0
      have p1 := kp.cell 1
      have p2 := kp.cell 2
      have p3 := kp.cell 3
      have p4 := kp.cell 4
      simp only [List.getElem?_toArray, List.getElem?_cons_succ, List.getElem?_cons_zero] at p0 p1 p2 p3 p4
      have hpl := kp.lt
      have hw1 := hb0.trans (hb1.mono hb0.size)
      clear kp
      go_wp2_with fail
      refine (CB.out _ hw1).mono ?_
      rintro e w2 ⟨rfl, hb2⟩
      go_wp2_with fail
      go_ret
      exact ⟨ret_bool HR.out.symm, hw1.trans (hb2.mono hw1.size)⟩
    | true =>
      obtain ⟨-, hm, ho, ha0, ha1⟩ := HA.out rfl
      obtain ⟨-, -, -, hc0, hc1⟩ := HB.out rfl
      have hmm := many_false hm
      obtain ⟨hx0, hx1, -⟩ := hmm
      simp only at hx0 hx1 ho ha1 hc1
      obtain ⟨n, rfl⟩ : ∃ n : Nat, x4 = n := ⟨x4.toNat, by omega⟩
      obtain ⟨s, rfl⟩ : ∃ s : Nat, a = s := ⟨a.toNat, by omega⟩
      obtain ⟨t, rfl⟩ : ∃ t : Nat, b = t := ⟨b.toNat, by omega⟩
      have HM := Lib.hid (bits_way (s := s) (t := t) (outB_inside ho) (by omega) (show s < n by omega))
      have hL := rounds_length (outB_inside ho) n (List.replicate n 0) (by simp)
      have CW := Lib.hid (fun W (hW : Below w.heap.size w W) => waits_any _ ⟨x1, x2, x3, n, E⟩ W (HPL.out.below hW) hm ho)
      simp only [Int.toNat_natCast] at CW
      have HRR := Lib.hid (show reachesR ⟨x1, x2, x3, n, E⟩ s t = wayB E s t from HR.out)
      obtain ⟨bw, hbw⟩ : ∃ bw, bw = wayB E s t := ⟨_, rfl⟩
      rw [← hbw] at HM HRR
      have HL := Lib.hid hL
      clear hm ho hL hbw HR HA HB
      go_enter Try.func25, Try.ntmps25
      go_wp2_with fail
      rw [← HW.out]
      refine CA.out.mono ?_
      rintro e w1 ⟨rfl, hb1⟩
      have kp := HK.out.belowV hb1
      have p0 := kp.cell 0
      have p1 := kp.cell 1
      have p2 := kp.cell 2
      have p3 := kp.cell 3
      have p4 := kp.cell 4
      simp only [List.getElem?_toArray, List.getElem?_cons_succ, List.getElem?_cons_zero] at p0 p1 p2 p3 p4
      have hpl := kp.lt
      have hw1 := hb0.trans (hb1.mono hb0.size)
      have HK1 := Lib.hid kp
      clear kp
      go_wp2_with fail
      refine (CB.out _ hw1).mono ?_
      rintro e w2 ⟨rfl, hb2⟩
      clear p0 p1 p2 p3 p4 hpl
      have kp := HK1.out.belowV hb2
      have p0 := kp.cell 0
      have p1 := kp.cell 1
      have p2 := kp.cell 2
      have p3 := kp.cell 3
      have p4 := kp.cell 4
      simp only [List.getElem?_toArray, List.getElem?_cons_succ, List.getElem?_cons_zero] at p0 p1 p2 p3 p4
      have hpl := kp.lt
      have hw2 := hw1.trans (hb2.mono hw1.size)
      clear kp
      go_wp2_with fail
      refine (CW.out _ hw2).mono ?_
      rintro e w3 ⟨v3, rfl, ho3, hb3⟩
      obtain ⟨A3, c3, rfl, hnc3, hcm3⟩ := (Rd.of_own ho3).shape
      obtain ⟨b3, o3, _, hv3, _, _, hl3, hc3⟩ := (Rd.of_own ho3).form (by omega) (by omega)
      have hA3 : A3 = some ⟨b3, o3, none⟩ := by injection hv3
      subst hA3
      have hml := HL.out
      obtain ⟨M, hM⟩ : ∃ M, M = bitRounds E n (List.replicate n 0) := ⟨_, rfl⟩
      rw [← hM] at hml hc3 HM
      have hsl : s < M.length := by omega
      have d0 := hc3 s (.int .i64 (M[s] : Nat)) (by simp [natsV, hsl])
      have HB := Lib.hid (show (bits .and .i64 ((M[s] : Nat) / 2 ^ t) 1 == 1) = bw from by
        have := HM.out
        rw [List.getD_eq_getElem?_getD, List.getElem?_eq_getElem hsl] at this
        exact this)
      obtain ⟨m, hmm⟩ : ∃ m : Nat, m = M[s] := ⟨_, rfl⟩
      rw [← hmm] at d0 HB
      unfold maxLen at hcm3
      have hw3 := hw2.trans (hb3.mono hw2.size)
      have hk0 : (0 : Int) ≤ (s : Int) := by omega
      have hk1 : (s : Int) < (n : Int) := by omega
      clear hv3 hc3 hM hml hmm p0 p1 p2 p3 p4 ho3 hsl
      go_wp2_with fail
      go_ret
      exact ⟨ret_bool (by rw [HRR.out]; exact HB.out), hw3⟩

set_option maxHeartbeats 4000000 in
set_option maxRecDepth 100000 in
theorem reaches_spec (u : Value) (x : Pln) (a b : Int) (w : World) (h : Rd_plan w u x) (hn : cost_plan x ≤ 1048576) :
    Calls Try.prog 27 #[.agg #[.int .i64 x.prio, .int .i64 x.most, .int .i64 x.wait, .int .i64 x.tasks, u], .int .i64 a, .int .i64 b] w fun e w' => e = .returned (.bool (reachesR x a b)) ∧ Below w.heap.size w w' := by
  have HPL := Lib.hid h
  have hFF : ∃ F, F = planFaultR x := ⟨_, rfl⟩
  obtain ⟨F, hF⟩ := hFF
  obtain ⟨x1, x2, x3, x4, E⟩ := x
  obtain ⟨A, c, rfl, hnc, hcm⟩ := h.form
  simp only at hnc
  unfold maxLen at hcm
  obtain ⟨W0, hW0⟩ : ∃ W0, W0 = w.alloc (.cells #[.int .i64 x1, .int .i64 x2, .int .i64 x3, .int .i64 x4, .slice A E.length c] 26) := ⟨_, rfl⟩
  have hb0 : Below w.heap.size w W0 := by rw [hW0]; exact (Below.refl _ _).alloc (Nat.le_refl _) _
  have k0 : Blk W0 w.heap.size 26 #[.int .i64 x1, .int .i64 x2, .int .i64 x3, .int .i64 x4, .slice A E.length c] := by rw [hW0]; exact Blk.new _ _ _
  have HK := Lib.hid k0
  have HW := Lib.hid hW0
  have CP := Lib.hid (planFault_spec _ ⟨x1, x2, x3, x4, E⟩ W0 (HPL.out.below hb0) hn)
  have C1 := Lib.hid (fun w => l01In_b a 0 (x4 - 1) w)
  have C2 := Lib.hid (fun w => l01In_b b 0 (x4 - 1) w)
  rw [← hF] at CP
  clear k0 hW0 h
  by_cases h0 : F = 0
  rotate_left
  · have HR := Lib.hid (show reachesR ⟨x1, x2, x3, x4, E⟩ a b = false by rw [reachesR, isTaskR, ← hF, decide_eq_false h0]; rfl)
    have t0 : (F == 0) = false := by simp [h0]
    have t1 : (F != 0) = true := by simp [h0]
    clear hF h0
    go_enter Try.func27, Try.ntmps27
    go_wp2_with fail
    rw [← HW.out]
    refine CP.out.mono ?_
    rintro e w1 ⟨rfl, hb1⟩
    go_wp2_with fail
    go_ret
    exact ⟨ret_bool HR.out.symm, hb0.trans (hb1.mono hb0.size)⟩
  · have hz := fault_zero (hF.symm.trans h0)
    have hm := hz.1
    have ho := hz.2.1
    have hmm := many_false hm
    obtain ⟨hx0, hx1, -⟩ := hmm
    simp only at hx0 hx1 ho
    have HR := Lib.hid (show reachesR ⟨x1, x2, x3, x4, E⟩ a b = (inB a 0 (x4 - 1) && inB b 0 (x4 - 1) && wayB E a b) by rw [reachesR, isTaskR, isTaskR, ← hF, h0]; rfl)
    have HM := Lib.hid hm
    have HO := Lib.hid ho
    rw [h0] at CP
    clear hF h0 hz hm ho
    cases s1 : inB a 0 (x4 - 1) with
    | false =>
      rw [s1] at C1 HR
      clear s1
      go_enter Try.func27, Try.ntmps27
      go_wp2_with fail
      rw [← HW.out]
      refine CP.out.mono ?_
      rintro e w1 ⟨rfl, hb1⟩
      have kp := HK.out.belowV hb1
      have p0 := kp.cell 0
      have p1 := kp.cell 1
      have p2 := kp.cell 2
      have p3 := kp.cell 3
      have p4 := kp.cell 4
      simp only [List.getElem?_toArray, List.getElem?_cons_succ, List.getElem?_cons_zero] at p0 p1 p2 p3 p4
      have hpl := kp.lt
      clear kp
      go_wp2_with fail
      refine (C1.out _).mono ?_
      rintro e w2 ⟨rfl, rfl⟩
      go_wp2_with fail
      go_ret
      exact ⟨ret_bool HR.out.symm, hb0.trans (hb1.mono hb0.size)⟩
    | true =>
      have ha := inB_true s1
      obtain ⟨ha0, ha1⟩ := ha
      rw [s1] at C1 HR
      clear s1
      cases s2 : inB b 0 (x4 - 1) with
      | false =>
        rw [s2] at C2 HR
        clear s2
        go_enter Try.func27, Try.ntmps27
        go_wp2_with fail
        rw [← HW.out]
        refine CP.out.mono ?_
        rintro e w1 ⟨rfl, hb1⟩
        have kp := HK.out.belowV hb1
        have p0 := kp.cell 0
        have p1 := kp.cell 1
        have p2 := kp.cell 2
        have p3 := kp.cell 3
        have p4 := kp.cell 4
        simp only [List.getElem?_toArray, List.getElem?_cons_succ, List.getElem?_cons_zero] at p0 p1 p2 p3 p4
        have hpl := kp.lt
        clear kp
        go_wp2_with fail
        refine (C1.out _).mono ?_
        rintro e w2 ⟨rfl, rfl⟩
        go_wp2_with fail
        refine (C2.out _).mono ?_
        rintro e w2 ⟨rfl, rfl⟩
        go_wp2_with fail
        go_ret
        exact ⟨ret_bool HR.out.symm, hb0.trans (hb1.mono hb0.size)⟩
      | true =>
        have hb := inB_true s2
        obtain ⟨hc0, hc1⟩ := hb
        rw [s2] at C2 HR
        clear s2
        obtain ⟨n, rfl⟩ : ∃ n : Nat, x4 = n := ⟨x4.toNat, by omega⟩
        obtain ⟨t, rfl⟩ : ∃ t : Nat, b = t := ⟨b.toNat, by omega⟩
        have CF := Lib.hid (fun W (hW : Below w.heap.size w W) => l06From_any _ ⟨x1, x2, x3, n, E⟩ a W (HPL.out.below hW) HM.out HO.out)
        simp only [Int.toNat_natCast] at CF
        have HRR := Lib.hid (show reachesR ⟨x1, x2, x3, n, E⟩ a t = wayB E a t from HR.out)
        clear HR
        go_enter Try.func27, Try.ntmps27
        go_wp2_with fail
        rw [← HW.out]
        refine CP.out.mono ?_
        rintro e w1 ⟨rfl, hb1⟩
        have kp := HK.out.belowV hb1
        have p0 := kp.cell 0
        have p1 := kp.cell 1
        have p2 := kp.cell 2
        have p3 := kp.cell 3
        have p4 := kp.cell 4
        simp only [List.getElem?_toArray, List.getElem?_cons_succ, List.getElem?_cons_zero] at p0 p1 p2 p3 p4
        have hpl := kp.lt
        have hw1 := hb0.trans (hb1.mono hb0.size)
        clear kp
        go_wp2_with fail
        refine (C1.out _).mono ?_
        rintro e w2 ⟨rfl, rfl⟩
        go_wp2_with fail
        refine (C2.out _).mono ?_
        rintro e w2 ⟨rfl, rfl⟩
        go_wp2_with fail
        refine (CF.out _ hw1).mono ?_
        rintro e w3 ⟨v3, rfl, ho3, hb3⟩
        obtain ⟨A3, c3, rfl, hnc3, hcm3⟩ := (Rd.of_own ho3).shape
        obtain ⟨b3, o3, _, hv3, _, _, hl3, hc3⟩ := (Rd.of_own ho3).form (by omega) (by omega)
        have hA3 : A3 = some ⟨b3, o3, none⟩ := by injection hv3
        subst hA3
        have htl : t < n := by omega
        have d0 := hc3 t (.bool (wayB E a t)) (by simp [boolsV, fromR, htl])
        obtain ⟨bw, hbw⟩ : ∃ bw, bw = wayB E a t := ⟨_, rfl⟩
        rw [← hbw] at d0 HRR
        unfold maxLen at hcm3
        have hw3 := hw1.trans (hb3.mono hw1.size)
        have hk0 : (0 : Int) ≤ (t : Int) := by omega
        have hk1 : (t : Int) < (n : Int) := by omega
        clear hv3 hc3 hbw p0 p1 p2 p3 p4 ho3
        go_wp2_with fail
        go_ret
        exact ⟨ret_bool HRR.out.symm, hw3⟩
end Go.Proofs.Ytbbjkldkjndfaaa

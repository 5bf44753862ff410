/- InOrder, the program's and the reference's. -/
import Derived.Test.YtbbjkldkjndfaaaOrder
import Derived.Test.YtbbjkldkjndfaaaInOrderP
import Derived.Test.YtbbjkldkjndfaaaCut
import Derived.IntWalk
namespace Go.Proofs.Ytbbjkldkjndfaaa
set_option linter.unusedSimpArgs false
set_option linter.unusedSimpArgs false
open Go.RowKit Go.ChangeShapes Go.Deep

theorem rdI_take {w : World} {A : Option Addr} {c k : Nat} {l : List Int} (h : Rd w 1 (.slice A l.length c) l.length (intsV l)) (hk : k ≤ l.length) : Rd w 1 (.slice A k c) (l.take k).length (intsV (l.take k)) := by
  obtain ⟨A1, c1, he, h1, h2, h3⟩ := h
  injection he with hA hn hc
  subst hA hc
  have hl : (l.take k).length = k := by rw [List.length_take, Nat.min_eq_left hk]
  refine ⟨_, c, by rw [hl], by omega, h2, by rw [intsV_length]; omega, fun hk0 => ?_⟩
  obtain ⟨ad, rfl, hlt, hx⟩ := h3.2 (by omega)
  refine ⟨ad, rfl, hlt, fun j u hu => hx j u ?_⟩
  have e : intsV l = intsV (l.take k) ++ intsV (l.drop k) := by rw [← intsV_append, List.take_append_drop]
  rw [e]
  exact List.getElem?_append_left (List.getElem?_eq_some_iff.1 hu).1 ▸ hu

set_option maxHeartbeats 8000000 in
set_option maxRecDepth 100000 in
theorem inOrder_impl (u : Value) (x : Pln) (v : Value) (l : List Int) (w : World) (h : Rd_plan w u x) (h2 : Rd_ints w v l) (hn : cost_plan x ≤ 1048576) (_ : cost_ints l ≤ 1048576) :
    Calls Try.prog 21 #[.agg #[.int .i64 x.prio, .int .i64 x.most, .int .i64 x.wait, .int .i64 x.tasks, u], v] w fun e w' => e = .returned (.bool (inOrderR x l)) ∧ Below w.heap.size w w' := by
  have HPL := Lib.hid h
  have hFF : ∃ F, F = planFaultR x := ⟨_, rfl⟩
  obtain ⟨F, hF⟩ := hFF
  obtain ⟨x1, x2, x3, x4, E⟩ := x
  obtain ⟨A, c, rfl, hnc, hcm⟩ := h.form
  simp only at hnc
  unfold maxLen at hcm
  obtain ⟨AL, cL, rfl, hncL, hcmL⟩ := Rd.shape h2
  have HL := Lib.hid (show Rd w 1 (.slice AL l.length cL) l.length (intsV l) from h2)
  unfold maxLen at hcmL
  obtain ⟨W0, hW0⟩ : ∃ W0, W0 = w.alloc (.cells #[.int .i64 x1, .int .i64 x2, .int .i64 x3, .int .i64 x4, .slice A E.length c] 26) := ⟨_, rfl⟩
  have hb0 : Below w.heap.size w W0 := by rw [hW0]; exact (Below.refl _ _).alloc (Nat.le_refl _) _
  have k0 : Blk W0 w.heap.size 26 #[.int .i64 x1, .int .i64 x2, .int .i64 x3, .int .i64 x4, .slice A E.length c] := by rw [hW0]; exact Blk.new _ _ _
  have HK := Lib.hid k0
  have HW := Lib.hid hW0
  have CP := Lib.hid (planFault_impl _ ⟨x1, x2, x3, x4, E⟩ W0 (HPL.out.below hb0) hn)
  rw [← hF] at CP
  clear k0 hW0 h h2
  by_cases h0 : F = 0
  rotate_left
  · have HR := Lib.hid (show inOrderR ⟨x1, x2, x3, x4, E⟩ l = false by rw [inOrderR, ← hF, decide_eq_false h0]; rfl)
    have t0 : (F == 0) = false := by simp [h0]
    have t1 : (F != 0) = true := by simp [h0]
    clear hF h0
    go_enter Try.func21, Try.ntmps21
    go_wp2_with fail
    rw [← HW.out]
    refine CP.out.mono ?_
    rintro e w1 ⟨rfl, hb1⟩
    go_wp2_with fail
    go_ret
    exact ⟨ret_bool HR.out.symm, hb0.trans (hb1.mono hb0.size)⟩
  · have hz := fault_zero (hF.symm.trans h0)
    have hmm := many_false hz.1
    obtain ⟨hx0, hx1, hE, -⟩ := hmm
    have ho := hz.2.1
    have hcy := hz.2.2.2
    simp only at hx0 hx1 hE ho hcy
    obtain ⟨n, rfl⟩ : ∃ n : Nat, x4 = n := ⟨x4.toNat, by omega⟩
    have HRR := Lib.hid (show inOrderR ⟨x1, x2, x3, n, E⟩ l = (decide ((l.length : Int) = n) && ioTo E n l n) by rw [inOrderR, ← hF, h0]; rfl)
    have HB4 := Lib.hid (fun (t : Int) => show beforeOfR ⟨x1, x2, x3, n, E⟩ t = beforeTo E t n by rw [beforeOfR, ← hF, h0, if_pos rfl]; rfl)
    have CB := Lib.hid (fun (t : Int) W (hW : Below w.heap.size w W) => beforeOf_impl _ ⟨x1, x2, x3, n, E⟩ t W (HPL.out.below hW) hn)
    rw [h0] at CP
    clear hF h0 hz ho hcy
    by_cases hln : l.length = n
    rotate_left
    · have HR := Lib.hid (show inOrderR ⟨x1, x2, x3, n, E⟩ l = false by rw [HRR.out, decide_eq_false (by omega)]; rfl)
      have t2 : ((l.length : Int) == (n : Int)) = false := by simp; omega
      have t3 : ((l.length : Int) != (n : Int)) = true := by simp; omega
      clear hln
      go_enter Try.func21, Try.ntmps21
      go_wp2_with fail
      rw [← HW.out]
      refine CP.out.mono ?_
      rintro e w1 ⟨rfl, hb1⟩
      have kp := HK.out.belowV hb1
      have p0 := kp.cell 0
      have p1 := kp.cell 1
      have p2 := kp.cell 2
      have p3 := kp.cell 3
      have p4 := kp.cell 4
      simp only [List.getElem?_toArray, List.getElem?_cons_succ, List.getElem?_cons_zero] at p0 p1 p2 p3 p4
      have hpl := kp.lt
      clear kp
      go_wp2_with fail
      go_ret
      exact ⟨ret_bool HR.out.symm, hb0.trans (hb1.mono hb0.size)⟩
    · have HR := Lib.hid (show inOrderR ⟨x1, x2, x3, n, E⟩ l = ioTo E n l n by rw [HRR.out, decide_eq_true (by omega), Bool.true_and])
      have t2 : ((l.length : Int) == (n : Int)) = true := by simp; omega
      have t3 : ((l.length : Int) != (n : Int)) = false := by simp; omega
      have HLN := Lib.hid hln
      have hln1 : l.length ≤ n := by omega
      have hln2 : n ≤ l.length := by omega
      clear hln
      go_enter Try.func21, Try.ntmps21
      go_wp2_with fail
      rw [← HW.out]
      refine CP.out.mono ?_
      rintro e w1 ⟨rfl, hb1⟩
      have kp := HK.out.belowV hb1
      have p0 := kp.cell 0
      have p1 := kp.cell 1
      have p2 := kp.cell 2
      have p3 := kp.cell 3
      have p4 := kp.cell 4
      simp only [List.getElem?_toArray, List.getElem?_cons_succ, List.getElem?_cons_zero] at p0 p1 p2 p3 p4
      have hpl := kp.lt
      clear kp
      go_wp2_with fail
      clear p0 p1 p2 p3 p4 hpl
      go_loopw [19] (fun u19 wr => ∃ k : Nat, k ≤ l.length ∧ u19 = .int .i64 k ∧ Hid (ioTo E n l k = true) ∧ Hid (Below W0.heap.size W0 wr)) (fun u19 _ => l.length - (intOf u19).toNat)
      case atStart => exact ⟨0, Nat.zero_le _, rfl, Lib.hid rfl, Lib.hid hb1⟩
      case round =>
        clear hb1
        obtain ⟨k, hk, rfl, hgo, HB⟩ := hrel
        have hw : Below w.heap.size w wr := hb0.trans (HB.out.mono hb0.size)
        have hws := hw.size
        by_cases hlt : k < l.length
        · obtain ⟨i0, hii, hz0, hz1, hz2⟩ := info_parts Try.infoI64
          have kp := HK.out.belowV HB.out
          have p0 := kp.cell 0
          have p1 := kp.cell 1
          have p2 := kp.cell 2
          have p3 := kp.cell 3
          have p4 := kp.cell 4
          simp only [List.getElem?_toArray, List.getElem?_cons_succ, List.getElem?_cons_zero] at p0 p1 p2 p3 p4
          have hpl := kp.lt
          clear kp
          obtain ⟨bL, oL, _, hvL, _, _, hlL, hcL⟩ := HL.out.form (by omega) (by omega)
          have hAL : AL = some ⟨bL, oL, none⟩ := by injection hvL
          subst hAL
          obtain ⟨y, hy⟩ : ∃ y, y = l[k] := ⟨_, rfl⟩
          have d0 := int_cell hw hlL hcL hlt y hy
          have hyd : l.getD k 0 = y := by rw [List.getD_eq_getElem?_getD, List.getElem?_eq_getElem hlt, hy]; rfl
          have HS := Lib.hid (show ioPos E n l k = (inB y 0 ((n : Int) - 1) && !hasB (l.take k) y && allB (beforeTo E y n) (l.take k)) by rw [ioPos, posA, hyd])
          have HT := Lib.hid (show ioPos E n l k = true → ioTo E n l (k + 1) = true from fun h => by rw [ioTo, hgo.out, h]; rfl)
          have HF := Lib.hid (show ioPos E n l k = false → inOrderR ⟨x1, x2, x3, n, E⟩ l = false from fun h => by rw [HR.out]; exact ioTo_false (by omega) h)
          have hcut := fun W => run_cut_h' (P := Try.prog) Try.underlying28 hii bL oL l.length cL .i64 k (by omega) W
          have HRT := Lib.hid (rdI_take HL.out (k := k) (by omega))
          have CI := Lib.hid (fun w => within_b y 0 ((n : Int) - 1) w)
          have CC := Lib.hid (fun (W : World) (hW : Below w.heap.size w W) => contInt_any (.slice (some ⟨bL, oL, none⟩) k cL) (l.take k) y W (HRT.out.below hW))
          have CA := Lib.hid (fun (v3 : Value) (W : World) (hW : Below w.heap.size w W) (h3 : Rd W 1 v3 (beforeTo E y n).length (intsV (beforeTo E y n))) => allIn_any v3 (.slice (some ⟨bL, oL, none⟩) k cL) (beforeTo E y n) (l.take k) W h3 (HRT.out.below hW))
          have hbd : Below wr.heap.size wr wr.drew := (Below.refl _ _).drew
          have hwd := hw.trans (hbd.mono hw.size)
          have hsub : IntKind.i64.wrap ((n : Int) - 1) = (n : Int) - 1 := IntWalk.i64_in _ (by omega)
          have hk0 : (0 : Int) ≤ (k : Int) := by omega
          have hk1 : (k : Int) < (l.length : Int) := by omega
          have hk2 : (k : Int) ≤ (cL : Int) := by omega
          have hbL : bL < wr.heap.size := Nat.lt_of_lt_of_le hlL hws
          have HWD := Lib.hid hwd
          have HBD := Lib.hid hbd
          have HW3 := Lib.hid hw
          clear hgo hy hyd hvL hcL hwd hbd hw
          cases s1 : inB y 0 ((n : Int) - 1) with
          | false =>
            have HG := Lib.hid (HF.out (by rw [HS.out, s1]; rfl))
            rw [s1] at CI
            clear s1 HS HT HF
            go_wp2
            first | refine wp_region_calm_on (by kernel_rfl) (by kernel_rfl) ?_ | refine wp_region_calm_lit (by kernel_rfl) (by kernel_rfl) ?_
            repeat (go_big_quiet_step ((go_at_call 65; exact calm_same (CI.out _))))
            refine wpQuiet_nil ?_
            intro _ hw'
            obtain ⟨k1, hw''⟩ := hw'
            subst hw''
            go_wp2
            go_ret
            exact ⟨ret_bool HG.out.symm, Below.calm HW3.out HW3.out.size⟩
          | true =>
            rw [s1] at CI
            cases s2 : hasB (l.take k) y with
            | true =>
              have HG := Lib.hid (HF.out (by rw [HS.out, s1, s2]; rfl))
              rw [s2] at CC
              clear s1 s2 HS HT HF
              go_wp2
              first | refine wp_region_calm_on (by kernel_rfl) (by kernel_rfl) ?_ | refine wp_region_calm_lit (by kernel_rfl) (by kernel_rfl) ?_
              repeat (go_big_quiet_step ((first | (go_at_call 65; exact calm_same (CI.out _)) | (go_at_call 60; exact calm_of (CC.out _ (Below.calm HW3.out HW3.out.size))))))
              refine wpQuiet_nil ?_
              intro _ hw'
              obtain ⟨k1, hw''⟩ := hw'
              subst hw''
              go_wp2
              go_ret
              exact ⟨ret_bool HG.out.symm, Below.calm HW3.out HW3.out.size⟩
            | false =>
              rw [s2] at CC
              obtain ⟨bw, hbw⟩ : ∃ bw, bw = allB (beforeTo E y n) (l.take k) := ⟨_, rfl⟩
              rw [← hbw] at CA
              have HSS := Lib.hid (show ioPos E n l k = bw by rw [HS.out, s1, s2, hbw]; rfl)
              clear s1 s2 HS hbw
              cases bw with
              | true =>
                have HG := Lib.hid (HT.out HSS.out)
                clear HT HF
                go_wp2_with fail
                refine wp_region_sched [(0, true), (1, true), (2, true), (3, true), (4, false), (5, true), (6, true), (7, true), (8, true), (9, true), (10, true), (11, false), (12, true), (13, true), (14, true), (15, true), (17, true), (18, true), (19, true), (16, false), (20, false), (21, true), (22, true)] [(true, _), (true, _), (true, _), (true, _), (false, _), (true, _), (true, _), (true, _), (true, _), (true, _), (true, _), (false, _), (true, _), (true, _), (true, _), (true, _), (true, _), (true, _), (true, _), (false, _), (false, _), (true, _), (true, _)] rfl (by kernel_rfl) (by kernel_rfl) (KeptS _ none) (KeptS.refl _ _).drew ?_
                try simp only [List.getElem_toArray, List.getElem_cons_succ, List.getElem_cons_zero]
                (refine wpS_held (by rfl) ?_ (fun W hW => ?_) ?_; rotate_left; (· (obtain ⟨kq, rfl⟩ := hW; go_simp; try with_reducible rfl)); try simp only [Act.put, List.setIfInBounds_toArray, List.set_cons_succ, List.set_cons_zero])
                (refine wpS_held (by rfl) ?_ (fun W hW => ?_) ?_; rotate_left; (· (obtain ⟨kq, rfl⟩ := hW; go_simp; try with_reducible rfl)); try simp only [Act.put, List.setIfInBounds_toArray, List.set_cons_succ, List.set_cons_zero])
                (refine wpS_held (by rfl) ?_ (fun W hW => ?_) ?_; rotate_left; (· (obtain ⟨kq, rfl⟩ := hW; go_simp; try with_reducible rfl)); try simp only [Act.put, List.setIfInBounds_toArray, List.set_cons_succ, List.set_cons_zero])
                (refine wpS_held (by rfl) ?_ (fun W hW => ?_) ?_; rotate_left; (· (obtain ⟨kq, rfl⟩ := hW; go_simp; try with_reducible rfl)); try simp only [Act.put, List.setIfInBounds_toArray, List.set_cons_succ, List.set_cons_zero])
                (refine wpS_call 65 (by rfl) (by rfl) Try.func65 (by kernel_rfl) (by rfl) (by rfl) ?_; (conv => arg 3; simp [Act.eval]); (first | ((with_reducible refine (CI.out _).mono ?_); rintro e w2 ⟨rfl, rfl⟩) | ((with_reducible refine (CC.out _ HWD.out).mono ?_); rintro e w2 ⟨rfl, hb2⟩; have hq2 := HBD.out.trans (hb2.mono (Nat.le_refl _)); have hw2 := HW3.out.trans (hq2.mono HW3.out.size)) | ((with_reducible refine (CB.out _ _ hw2).mono ?_); rw [HB4.out]; rintro e w3 ⟨v3, rfl, ho3, hb3⟩; have hq3 := hq2.trans (hb3.mono hq2.size); have hw3 := hw2.trans (hb3.mono hw2.size)) | ((with_reducible refine (CA.out _ _ hw3 (own_rdB ho3)).mono ?_); rintro e w4 ⟨rfl, hb4⟩; have hq4 := hq3.trans (hb4.mono hq3.size))); refine ⟨_, rfl, ?_, ?_⟩; (· (repeat first | exact KeptS.refl _ _ | exact KeptS.of (only_of_below (by assumption) _) | assumption | refine KeptS.drew ?_ | refine KeptS.alloc ?_ _ | refine KeptS.grown ?_ (by assumption) | refine KeptS.below ?_ (by assumption) | refine KeptS.belowAt ?_ (by assumption) | refine KeptS.setRow ?_ (by simp; done) _ | refine KeptS.setNew ?_ (by simp) _)); try simp only [Act.put, List.setIfInBounds_toArray, List.set_cons_succ, List.set_cons_zero])
                (refine wpS_held (by rfl) ?_ (fun W hW => ?_) ?_; rotate_left; (· (obtain ⟨kq, rfl⟩ := hW; go_simp; try with_reducible rfl)); try simp only [Act.put, List.setIfInBounds_toArray, List.set_cons_succ, List.set_cons_zero])
                (refine wpS_held (by rfl) ?_ (fun W hW => ?_) ?_; rotate_left; (· (obtain ⟨kq, rfl⟩ := hW; go_simp; try with_reducible rfl)); try simp only [Act.put, List.setIfInBounds_toArray, List.set_cons_succ, List.set_cons_zero])
                first | (refine wpS_skip ?_ ?_; (· (simp [Region.wanted, yielded]; done)); try simp only [Act.put, List.setIfInBounds_toArray, List.set_cons_succ, List.set_cons_zero]) | (refine wpS_held (by simp [Region.wanted, yielded]; done) ?_ (fun W hW => ?_) ?_; rotate_left; (· (obtain ⟨kq, rfl⟩ := hW; go_simp; try with_reducible rfl)); try simp only [Act.put, List.setIfInBounds_toArray, List.set_cons_succ, List.set_cons_zero])
                first | (refine wpS_skip ?_ ?_; (· (simp [Region.wanted, yielded]; done)); try simp only [Act.put, List.setIfInBounds_toArray, List.set_cons_succ, List.set_cons_zero]) | (refine wpS_held (by simp [Region.wanted, yielded]; done) ?_ (fun W hW => ?_) ?_; rotate_left; (· (obtain ⟨kq, rfl⟩ := hW; go_simp; try with_reducible rfl)); try simp only [Act.put, List.setIfInBounds_toArray, List.set_cons_succ, List.set_cons_zero])
                first | (refine wpS_skip ?_ ?_; (· (simp [Region.wanted, yielded]; done)); try simp only [Act.put, List.setIfInBounds_toArray, List.set_cons_succ, List.set_cons_zero]) | (refine wpS_held (by simp [Region.wanted, yielded]; done) ?_ (fun W hW => ?_) ?_; rotate_left; (· (obtain ⟨kq, rfl⟩ := hW; go_simp; try with_reducible rfl)); try simp only [Act.put, List.setIfInBounds_toArray, List.set_cons_succ, List.set_cons_zero])
                first | (refine wpS_skip ?_ ?_; (· (simp [Region.wanted, yielded]; done)); try simp only [Act.put, List.setIfInBounds_toArray, List.set_cons_succ, List.set_cons_zero]) | (refine wpS_held (by simp [Region.wanted, yielded]; done) ?_ (fun W hW => ?_) ?_; rotate_left; (· (obtain ⟨kq, rfl⟩ := hW; go_simp; try with_reducible rfl)); try simp only [Act.put, List.setIfInBounds_toArray, List.set_cons_succ, List.set_cons_zero])
                first | (refine wpS_skip ?_ ?_; (· (simp [Region.wanted, yielded]; done)); try simp only [Act.put, List.setIfInBounds_toArray, List.set_cons_succ, List.set_cons_zero]) | (refine wpS_call 60 (by simp [Region.wanted, yielded]; done) (by rfl) Try.func60 (by kernel_rfl) (by rfl) (by rfl) ?_; (conv => arg 3; simp [Act.eval]); (first | ((with_reducible refine (CI.out _).mono ?_); rintro e w2 ⟨rfl, rfl⟩) | ((with_reducible refine (CC.out _ HWD.out).mono ?_); rintro e w2 ⟨rfl, hb2⟩; have hq2 := HBD.out.trans (hb2.mono (Nat.le_refl _)); have hw2 := HW3.out.trans (hq2.mono HW3.out.size)) | ((with_reducible refine (CB.out _ _ hw2).mono ?_); rw [HB4.out]; rintro e w3 ⟨v3, rfl, ho3, hb3⟩; have hq3 := hq2.trans (hb3.mono hq2.size); have hw3 := hw2.trans (hb3.mono hw2.size)) | ((with_reducible refine (CA.out _ _ hw3 (own_rdB ho3)).mono ?_); rintro e w4 ⟨rfl, hb4⟩; have hq4 := hq3.trans (hb4.mono hq3.size))); refine ⟨_, rfl, ?_, ?_⟩; (· (repeat first | exact KeptS.refl _ _ | exact KeptS.of (only_of_below (by assumption) _) | assumption | refine KeptS.drew ?_ | refine KeptS.alloc ?_ _ | refine KeptS.grown ?_ (by assumption) | refine KeptS.below ?_ (by assumption) | refine KeptS.belowAt ?_ (by assumption) | refine KeptS.setRow ?_ (by simp; done) _ | refine KeptS.setNew ?_ (by simp) _)); try simp only [Act.put, List.setIfInBounds_toArray, List.set_cons_succ, List.set_cons_zero])
                (refine wpS_held (by rfl) ?_ (fun W hW => ?_) ?_; rotate_left; (· (obtain ⟨kq, rfl⟩ := hW; go_simp; try with_reducible rfl)); try simp only [Act.put, List.setIfInBounds_toArray, List.set_cons_succ, List.set_cons_zero])
                (refine wpS_held (by rfl) ?_ (fun W hW => ?_) ?_; rotate_left; (· (obtain ⟨kq, rfl⟩ := hW; go_simp; try with_reducible rfl)); try simp only [Act.put, List.setIfInBounds_toArray, List.set_cons_succ, List.set_cons_zero])
                first | (refine wpS_skip ?_ ?_; (· (simp [Region.wanted, yielded]; done)); try simp only [Act.put, List.setIfInBounds_toArray, List.set_cons_succ, List.set_cons_zero]) | (refine wpS_held (by simp [Region.wanted, yielded]; done) ?_ (fun W hW => ?_) ?_; rotate_left; (· (obtain ⟨kq, rfl⟩ := hW; go_simp; try with_reducible rfl)); try simp only [Act.put, List.setIfInBounds_toArray, List.set_cons_succ, List.set_cons_zero])
                first | (refine wpS_skip ?_ ?_; (· (simp [Region.wanted, yielded]; done)); try simp only [Act.put, List.setIfInBounds_toArray, List.set_cons_succ, List.set_cons_zero]) | (refine wpS_held (by simp [Region.wanted, yielded]; done) ?_ (fun W hW => ?_) ?_; rotate_left; (· (obtain ⟨kq, rfl⟩ := hW; go_simp; try with_reducible rfl)); try simp only [Act.put, List.setIfInBounds_toArray, List.set_cons_succ, List.set_cons_zero])
                first | (refine wpS_skip ?_ ?_; (· (simp [Region.wanted, yielded]; done)); try simp only [Act.put, List.setIfInBounds_toArray, List.set_cons_succ, List.set_cons_zero]) | (refine wpS_held (by simp [Region.wanted, yielded]; done) ?_ (fun W hW => ?_) ?_; rotate_left; (· (obtain ⟨kq, rfl⟩ := hW; go_simp; try with_reducible rfl)); try simp only [Act.put, List.setIfInBounds_toArray, List.set_cons_succ, List.set_cons_zero])
                first | (refine wpS_skip ?_ ?_; (· (simp [Region.wanted, yielded]; done)); try simp only [Act.put, List.setIfInBounds_toArray, List.set_cons_succ, List.set_cons_zero]) | (refine wpS_held (by simp [Region.wanted, yielded]; done) ?_ (fun W hW => ?_) ?_; rotate_left; (· (obtain ⟨kq, rfl⟩ := hW; go_simp; try with_reducible rfl)); try simp only [Act.put, List.setIfInBounds_toArray, List.set_cons_succ, List.set_cons_zero])
                first | (refine wpS_skip ?_ ?_; (· (simp [Region.wanted, yielded]; done)); try simp only [Act.put, List.setIfInBounds_toArray, List.set_cons_succ, List.set_cons_zero]) | (refine wpS_held (by simp [Region.wanted, yielded]; done) ?_ (fun W hW => ?_) ?_; rotate_left; (· (obtain ⟨kq, rfl⟩ := hW; go_simp; try with_reducible rfl)); try simp only [Act.put, List.setIfInBounds_toArray, List.set_cons_succ, List.set_cons_zero])
                first | (refine wpS_skip ?_ ?_; (· (simp [Region.wanted, yielded]; done)); try simp only [Act.put, List.setIfInBounds_toArray, List.set_cons_succ, List.set_cons_zero]) | (refine wpS_call 24 (by simp [Region.wanted, yielded]; done) (by rfl) Try.func24 (by kernel_rfl) (by rfl) (by rfl) ?_; (conv => arg 3; simp [Act.eval]); (first | ((with_reducible refine (CI.out _).mono ?_); rintro e w2 ⟨rfl, rfl⟩) | ((with_reducible refine (CC.out _ HWD.out).mono ?_); rintro e w2 ⟨rfl, hb2⟩; have hq2 := HBD.out.trans (hb2.mono (Nat.le_refl _)); have hw2 := HW3.out.trans (hq2.mono HW3.out.size)) | ((with_reducible refine (CB.out _ _ hw2).mono ?_); rw [HB4.out]; rintro e w3 ⟨v3, rfl, ho3, hb3⟩; have hq3 := hq2.trans (hb3.mono hq2.size); have hw3 := hw2.trans (hb3.mono hw2.size)) | ((with_reducible refine (CA.out _ _ hw3 (own_rdB ho3)).mono ?_); rintro e w4 ⟨rfl, hb4⟩; have hq4 := hq3.trans (hb4.mono hq3.size))); refine ⟨_, rfl, ?_, ?_⟩; (· (repeat first | exact KeptS.refl _ _ | exact KeptS.of (only_of_below (by assumption) _) | assumption | refine KeptS.drew ?_ | refine KeptS.alloc ?_ _ | refine KeptS.grown ?_ (by assumption) | refine KeptS.below ?_ (by assumption) | refine KeptS.belowAt ?_ (by assumption) | refine KeptS.setRow ?_ (by simp; done) _ | refine KeptS.setNew ?_ (by simp) _)); try simp only [Act.put, List.setIfInBounds_toArray, List.set_cons_succ, List.set_cons_zero])
                first | (refine wpS_skip ?_ ?_; (· (simp [Region.wanted, yielded]; done)); try simp only [Act.put, List.setIfInBounds_toArray, List.set_cons_succ, List.set_cons_zero]) | (refine wpS_call 61 (by simp [Region.wanted, yielded]; done) (by rfl) Try.func61 (by kernel_rfl) (by rfl) (by rfl) ?_; (conv => arg 3; simp [Act.eval]); (first | ((with_reducible refine (CI.out _).mono ?_); rintro e w2 ⟨rfl, rfl⟩) | ((with_reducible refine (CC.out _ HWD.out).mono ?_); rintro e w2 ⟨rfl, hb2⟩; have hq2 := HBD.out.trans (hb2.mono (Nat.le_refl _)); have hw2 := HW3.out.trans (hq2.mono HW3.out.size)) | ((with_reducible refine (CB.out _ _ hw2).mono ?_); rw [HB4.out]; rintro e w3 ⟨v3, rfl, ho3, hb3⟩; have hq3 := hq2.trans (hb3.mono hq2.size); have hw3 := hw2.trans (hb3.mono hw2.size)) | ((with_reducible refine (CA.out _ _ hw3 (own_rdB ho3)).mono ?_); rintro e w4 ⟨rfl, hb4⟩; have hq4 := hq3.trans (hb4.mono hq3.size))); refine ⟨_, rfl, ?_, ?_⟩; (· (repeat first | exact KeptS.refl _ _ | exact KeptS.of (only_of_below (by assumption) _) | assumption | refine KeptS.drew ?_ | refine KeptS.alloc ?_ _ | refine KeptS.grown ?_ (by assumption) | refine KeptS.below ?_ (by assumption) | refine KeptS.belowAt ?_ (by assumption) | refine KeptS.setRow ?_ (by simp; done) _ | refine KeptS.setNew ?_ (by simp) _)); try simp only [Act.put, List.setIfInBounds_toArray, List.set_cons_succ, List.set_cons_zero])
                first | (refine wpS_skip ?_ ?_; (· (simp [Region.wanted, yielded]; done)); try simp only [Act.put, List.setIfInBounds_toArray, List.set_cons_succ, List.set_cons_zero]) | (refine wpS_held (by simp [Region.wanted, yielded]; done) ?_ (fun W hW => ?_) ?_; rotate_left; (· (obtain ⟨kq, rfl⟩ := hW; go_simp; try with_reducible rfl)); try simp only [Act.put, List.setIfInBounds_toArray, List.set_cons_succ, List.set_cons_zero])
                (refine wpS_held (by rfl) ?_ (fun W hW => ?_) ?_; rotate_left; (· (obtain ⟨kq, rfl⟩ := hW; go_simp; try with_reducible rfl)); try simp only [Act.put, List.setIfInBounds_toArray, List.set_cons_succ, List.set_cons_zero])
                refine wpS_nil ?_
                try simp only [List.getElem_toArray, List.getElem_cons_succ, List.getElem_cons_zero]
                go_wp2_with fail
                go_roundw
                case rel => exact ⟨k + 1, by omega, by go_num, HG, Lib.hid (HB.out.trans (hq4.mono HB.out.size))⟩
                case measure => simp [intOf]; omega
              | false =>
                have HG := Lib.hid (HF.out HSS.out)
                clear HT HF
                go_wp2_with fail
                refine wp_region_sched [(0, true), (1, true), (2, true), (3, true), (4, false), (5, true), (6, true), (7, true), (8, true), (9, true), (10, true), (11, false), (12, true), (13, true), (14, true), (15, true), (17, true), (18, true), (19, true), (16, false), (20, false), (21, true), (22, true)] [(true, _), (true, _), (true, _), (true, _), (false, _), (true, _), (true, _), (true, _), (true, _), (true, _), (true, _), (false, _), (true, _), (true, _), (true, _), (true, _), (true, _), (true, _), (true, _), (false, _), (false, _), (true, _), (true, _)] rfl (by kernel_rfl) (by kernel_rfl) (KeptS _ none) (KeptS.refl _ _).drew ?_
                try simp only [List.getElem_toArray, List.getElem_cons_succ, List.getElem_cons_zero]
                (refine wpS_held (by rfl) ?_ (fun W hW => ?_) ?_; rotate_left; (· (obtain ⟨kq, rfl⟩ := hW; go_simp; try with_reducible rfl)); try simp only [Act.put, List.setIfInBounds_toArray, List.set_cons_succ, List.set_cons_zero])
                (refine wpS_held (by rfl) ?_ (fun W hW => ?_) ?_; rotate_left; (· (obtain ⟨kq, rfl⟩ := hW; go_simp; try with_reducible rfl)); try simp only [Act.put, List.setIfInBounds_toArray, List.set_cons_succ, List.set_cons_zero])
                (refine wpS_held (by rfl) ?_ (fun W hW => ?_) ?_; rotate_left; (· (obtain ⟨kq, rfl⟩ := hW; go_simp; try with_reducible rfl)); try simp only [Act.put, List.setIfInBounds_toArray, List.set_cons_succ, List.set_cons_zero])
                (refine wpS_held (by rfl) ?_ (fun W hW => ?_) ?_; rotate_left; (· (obtain ⟨kq, rfl⟩ := hW; go_simp; try with_reducible rfl)); try simp only [Act.put, List.setIfInBounds_toArray, List.set_cons_succ, List.set_cons_zero])
                (refine wpS_call 65 (by rfl) (by rfl) Try.func65 (by kernel_rfl) (by rfl) (by rfl) ?_; (conv => arg 3; simp [Act.eval]); (first | ((with_reducible refine (CI.out _).mono ?_); rintro e w2 ⟨rfl, rfl⟩) | ((with_reducible refine (CC.out _ HWD.out).mono ?_); rintro e w2 ⟨rfl, hb2⟩; have hq2 := HBD.out.trans (hb2.mono (Nat.le_refl _)); have hw2 := HW3.out.trans (hq2.mono HW3.out.size)) | ((with_reducible refine (CB.out _ _ hw2).mono ?_); rw [HB4.out]; rintro e w3 ⟨v3, rfl, ho3, hb3⟩; have hq3 := hq2.trans (hb3.mono hq2.size); have hw3 := hw2.trans (hb3.mono hw2.size)) | ((with_reducible refine (CA.out _ _ hw3 (own_rdB ho3)).mono ?_); rintro e w4 ⟨rfl, hb4⟩; have hq4 := hq3.trans (hb4.mono hq3.size))); refine ⟨_, rfl, ?_, ?_⟩; (· (repeat first | exact KeptS.refl _ _ | exact KeptS.of (only_of_below (by assumption) _) | assumption | refine KeptS.drew ?_ | refine KeptS.alloc ?_ _ | refine KeptS.grown ?_ (by assumption) | refine KeptS.below ?_ (by assumption) | refine KeptS.belowAt ?_ (by assumption) | refine KeptS.setRow ?_ (by simp; done) _ | refine KeptS.setNew ?_ (by simp) _)); try simp only [Act.put, List.setIfInBounds_toArray, List.set_cons_succ, List.set_cons_zero])
                (refine wpS_held (by rfl) ?_ (fun W hW => ?_) ?_; rotate_left; (· (obtain ⟨kq, rfl⟩ := hW; go_simp; try with_reducible rfl)); try simp only [Act.put, List.setIfInBounds_toArray, List.set_cons_succ, List.set_cons_zero])
                (refine wpS_held (by rfl) ?_ (fun W hW => ?_) ?_; rotate_left; (· (obtain ⟨kq, rfl⟩ := hW; go_simp; try with_reducible rfl)); try simp only [Act.put, List.setIfInBounds_toArray, List.set_cons_succ, List.set_cons_zero])
                first | (refine wpS_skip ?_ ?_; (· (simp [Region.wanted, yielded]; done)); try simp only [Act.put, List.setIfInBounds_toArray, List.set_cons_succ, List.set_cons_zero]) | (refine wpS_held (by simp [Region.wanted, yielded]; done) ?_ (fun W hW => ?_) ?_; rotate_left; (· (obtain ⟨kq, rfl⟩ := hW; go_simp; try with_reducible rfl)); try simp only [Act.put, List.setIfInBounds_toArray, List.set_cons_succ, List.set_cons_zero])
                first | (refine wpS_skip ?_ ?_; (· (simp [Region.wanted, yielded]; done)); try simp only [Act.put, List.setIfInBounds_toArray, List.set_cons_succ, List.set_cons_zero]) | (refine wpS_held (by simp [Region.wanted, yielded]; done) ?_ (fun W hW => ?_) ?_; rotate_left; (· (obtain ⟨kq, rfl⟩ := hW; go_simp; try with_reducible rfl)); try simp only [Act.put, List.setIfInBounds_toArray, List.set_cons_succ, List.set_cons_zero])
                first | (refine wpS_skip ?_ ?_; (· (simp [Region.wanted, yielded]; done)); try simp only [Act.put, List.setIfInBounds_toArray, List.set_cons_succ, List.set_cons_zero]) | (refine wpS_held (by simp [Region.wanted, yielded]; done) ?_ (fun W hW => ?_) ?_; rotate_left; (· (obtain ⟨kq, rfl⟩ := hW; go_simp; try with_reducible rfl)); try simp only [Act.put, List.setIfInBounds_toArray, List.set_cons_succ, List.set_cons_zero])
                first | (refine wpS_skip ?_ ?_; (· (simp [Region.wanted, yielded]; done)); try simp only [Act.put, List.setIfInBounds_toArray, List.set_cons_succ, List.set_cons_zero]) | (refine wpS_held (by simp [Region.wanted, yielded]; done) ?_ (fun W hW => ?_) ?_; rotate_left; (· (obtain ⟨kq, rfl⟩ := hW; go_simp; try with_reducible rfl)); try simp only [Act.put, List.setIfInBounds_toArray, List.set_cons_succ, List.set_cons_zero])
                first | (refine wpS_skip ?_ ?_; (· (simp [Region.wanted, yielded]; done)); try simp only [Act.put, List.setIfInBounds_toArray, List.set_cons_succ, List.set_cons_zero]) | (refine wpS_call 60 (by simp [Region.wanted, yielded]; done) (by rfl) Try.func60 (by kernel_rfl) (by rfl) (by rfl) ?_; (conv => arg 3; simp [Act.eval]); (first | ((with_reducible refine (CI.out _).mono ?_); rintro e w2 ⟨rfl, rfl⟩) | ((with_reducible refine (CC.out _ HWD.out).mono ?_); rintro e w2 ⟨rfl, hb2⟩; have hq2 := HBD.out.trans (hb2.mono (Nat.le_refl _)); have hw2 := HW3.out.trans (hq2.mono HW3.out.size)) | ((with_reducible refine (CB.out _ _ hw2).mono ?_); rw [HB4.out]; rintro e w3 ⟨v3, rfl, ho3, hb3⟩; have hq3 := hq2.trans (hb3.mono hq2.size); have hw3 := hw2.trans (hb3.mono hw2.size)) | ((with_reducible refine (CA.out _ _ hw3 (own_rdB ho3)).mono ?_); rintro e w4 ⟨rfl, hb4⟩; have hq4 := hq3.trans (hb4.mono hq3.size))); refine ⟨_, rfl, ?_, ?_⟩; (· (repeat first | exact KeptS.refl _ _ | exact KeptS.of (only_of_below (by assumption) _) | assumption | refine KeptS.drew ?_ | refine KeptS.alloc ?_ _ | refine KeptS.grown ?_ (by assumption) | refine KeptS.below ?_ (by assumption) | refine KeptS.belowAt ?_ (by assumption) | refine KeptS.setRow ?_ (by simp; done) _ | refine KeptS.setNew ?_ (by simp) _)); try simp only [Act.put, List.setIfInBounds_toArray, List.set_cons_succ, List.set_cons_zero])
                (refine wpS_held (by rfl) ?_ (fun W hW => ?_) ?_; rotate_left; (· (obtain ⟨kq, rfl⟩ := hW; go_simp; try with_reducible rfl)); try simp only [Act.put, List.setIfInBounds_toArray, List.set_cons_succ, List.set_cons_zero])
                (refine wpS_held (by rfl) ?_ (fun W hW => ?_) ?_; rotate_left; (· (obtain ⟨kq, rfl⟩ := hW; go_simp; try with_reducible rfl)); try simp only [Act.put, List.setIfInBounds_toArray, List.set_cons_succ, List.set_cons_zero])
                first | (refine wpS_skip ?_ ?_; (· (simp [Region.wanted, yielded]; done)); try simp only [Act.put, List.setIfInBounds_toArray, List.set_cons_succ, List.set_cons_zero]) | (refine wpS_held (by simp [Region.wanted, yielded]; done) ?_ (fun W hW => ?_) ?_; rotate_left; (· (obtain ⟨kq, rfl⟩ := hW; go_simp; try with_reducible rfl)); try simp only [Act.put, List.setIfInBounds_toArray, List.set_cons_succ, List.set_cons_zero])
                first | (refine wpS_skip ?_ ?_; (· (simp [Region.wanted, yielded]; done)); try simp only [Act.put, List.setIfInBounds_toArray, List.set_cons_succ, List.set_cons_zero]) | (refine wpS_held (by simp [Region.wanted, yielded]; done) ?_ (fun W hW => ?_) ?_; rotate_left; (· (obtain ⟨kq, rfl⟩ := hW; go_simp; try with_reducible rfl)); try simp only [Act.put, List.setIfInBounds_toArray, List.set_cons_succ, List.set_cons_zero])
                first | (refine wpS_skip ?_ ?_; (· (simp [Region.wanted, yielded]; done)); try simp only [Act.put, List.setIfInBounds_toArray, List.set_cons_succ, List.set_cons_zero]) | (refine wpS_held (by simp [Region.wanted, yielded]; done) ?_ (fun W hW => ?_) ?_; rotate_left; (· (obtain ⟨kq, rfl⟩ := hW; go_simp; try with_reducible rfl)); try simp only [Act.put, List.setIfInBounds_toArray, List.set_cons_succ, List.set_cons_zero])
                first | (refine wpS_skip ?_ ?_; (· (simp [Region.wanted, yielded]; done)); try simp only [Act.put, List.setIfInBounds_toArray, List.set_cons_succ, List.set_cons_zero]) | (refine wpS_held (by simp [Region.wanted, yielded]; done) ?_ (fun W hW => ?_) ?_; rotate_left; (· (obtain ⟨kq, rfl⟩ := hW; go_simp; try with_reducible rfl)); try simp only [Act.put, List.setIfInBounds_toArray, List.set_cons_succ, List.set_cons_zero])
                first | (refine wpS_skip ?_ ?_; (· (simp [Region.wanted, yielded]; done)); try simp only [Act.put, List.setIfInBounds_toArray, List.set_cons_succ, List.set_cons_zero]) | (refine wpS_held (by simp [Region.wanted, yielded]; done) ?_ (fun W hW => ?_) ?_; rotate_left; (· (obtain ⟨kq, rfl⟩ := hW; go_simp; try with_reducible rfl)); try simp only [Act.put, List.setIfInBounds_toArray, List.set_cons_succ, List.set_cons_zero])
                first | (refine wpS_skip ?_ ?_; (· (simp [Region.wanted, yielded]; done)); try simp only [Act.put, List.setIfInBounds_toArray, List.set_cons_succ, List.set_cons_zero]) | (refine wpS_call 24 (by simp [Region.wanted, yielded]; done) (by rfl) Try.func24 (by kernel_rfl) (by rfl) (by rfl) ?_; (conv => arg 3; simp [Act.eval]); (first | ((with_reducible refine (CI.out _).mono ?_); rintro e w2 ⟨rfl, rfl⟩) | ((with_reducible refine (CC.out _ HWD.out).mono ?_); rintro e w2 ⟨rfl, hb2⟩; have hq2 := HBD.out.trans (hb2.mono (Nat.le_refl _)); have hw2 := HW3.out.trans (hq2.mono HW3.out.size)) | ((with_reducible refine (CB.out _ _ hw2).mono ?_); rw [HB4.out]; rintro e w3 ⟨v3, rfl, ho3, hb3⟩; have hq3 := hq2.trans (hb3.mono hq2.size); have hw3 := hw2.trans (hb3.mono hw2.size)) | ((with_reducible refine (CA.out _ _ hw3 (own_rdB ho3)).mono ?_); rintro e w4 ⟨rfl, hb4⟩; have hq4 := hq3.trans (hb4.mono hq3.size))); refine ⟨_, rfl, ?_, ?_⟩; (· (repeat first | exact KeptS.refl _ _ | exact KeptS.of (only_of_below (by assumption) _) | assumption | refine KeptS.drew ?_ | refine KeptS.alloc ?_ _ | refine KeptS.grown ?_ (by assumption) | refine KeptS.below ?_ (by assumption) | refine KeptS.belowAt ?_ (by assumption) | refine KeptS.setRow ?_ (by simp; done) _ | refine KeptS.setNew ?_ (by simp) _)); try simp only [Act.put, List.setIfInBounds_toArray, List.set_cons_succ, List.set_cons_zero])
                first | (refine wpS_skip ?_ ?_; (· (simp [Region.wanted, yielded]; done)); try simp only [Act.put, List.setIfInBounds_toArray, List.set_cons_succ, List.set_cons_zero]) | (refine wpS_call 61 (by simp [Region.wanted, yielded]; done) (by rfl) Try.func61 (by kernel_rfl) (by rfl) (by rfl) ?_; (conv => arg 3; simp [Act.eval]); (first | ((with_reducible refine (CI.out _).mono ?_); rintro e w2 ⟨rfl, rfl⟩) | ((with_reducible refine (CC.out _ HWD.out).mono ?_); rintro e w2 ⟨rfl, hb2⟩; have hq2 := HBD.out.trans (hb2.mono (Nat.le_refl _)); have hw2 := HW3.out.trans (hq2.mono HW3.out.size)) | ((with_reducible refine (CB.out _ _ hw2).mono ?_); rw [HB4.out]; rintro e w3 ⟨v3, rfl, ho3, hb3⟩; have hq3 := hq2.trans (hb3.mono hq2.size); have hw3 := hw2.trans (hb3.mono hw2.size)) | ((with_reducible refine (CA.out _ _ hw3 (own_rdB ho3)).mono ?_); rintro e w4 ⟨rfl, hb4⟩; have hq4 := hq3.trans (hb4.mono hq3.size))); refine ⟨_, rfl, ?_, ?_⟩; (· (repeat first | exact KeptS.refl _ _ | exact KeptS.of (only_of_below (by assumption) _) | assumption | refine KeptS.drew ?_ | refine KeptS.alloc ?_ _ | refine KeptS.grown ?_ (by assumption) | refine KeptS.below ?_ (by assumption) | refine KeptS.belowAt ?_ (by assumption) | refine KeptS.setRow ?_ (by simp; done) _ | refine KeptS.setNew ?_ (by simp) _)); try simp only [Act.put, List.setIfInBounds_toArray, List.set_cons_succ, List.set_cons_zero])
                first | (refine wpS_skip ?_ ?_; (· (simp [Region.wanted, yielded]; done)); try simp only [Act.put, List.setIfInBounds_toArray, List.set_cons_succ, List.set_cons_zero]) | (refine wpS_held (by simp [Region.wanted, yielded]; done) ?_ (fun W hW => ?_) ?_; rotate_left; (· (obtain ⟨kq, rfl⟩ := hW; go_simp; try with_reducible rfl)); try simp only [Act.put, List.setIfInBounds_toArray, List.set_cons_succ, List.set_cons_zero])
                (refine wpS_held (by rfl) ?_ (fun W hW => ?_) ?_; rotate_left; (· (obtain ⟨kq, rfl⟩ := hW; go_simp; try with_reducible rfl)); try simp only [Act.put, List.setIfInBounds_toArray, List.set_cons_succ, List.set_cons_zero])
                refine wpS_nil ?_
                try simp only [List.getElem_toArray, List.getElem_cons_succ, List.getElem_cons_zero]
                go_wp2_with fail
                go_ret
                exact ⟨ret_bool HG.out.symm, HW3.out.trans (hq4.mono HW3.out.size)⟩
        · have HG := Lib.hid (show inOrderR ⟨x1, x2, x3, n, E⟩ l = true by rw [HR.out, show n = k by omega]; rw [show n = k by omega] at hgo; exact hgo.out)
          go_wp2_with fail
          go_ret
          exact ⟨ret_bool HG.out.symm, hw⟩
end Go.Proofs.Ytbbjkldkjndfaaa

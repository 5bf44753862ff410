/- One task of a run: is it right? The program's and the reference's. -/
import Derived.Test.YtbbjkldkjndfaaaRunP
import Derived.Test.YtbbjkldkjndfaaaOrder
import Derived.Test.YtbbjkldkjndfaaaCopyP
namespace Go.Proofs.Ytbbjkldkjndfaaa
set_option linter.unusedSimpArgs false
open Go.RowKit Go.ChangeShapes Go.Deep

set_option maxHeartbeats 4000000 in
set_option maxRecDepth 100000 in
theorem needOf_any (u v : Value) (x : Rn) (t : Int) (w : World) (h : Rd_run w u v x) (hf : planFaultR x.plan = 0) (hl : (x.tasks.length : Int) = x.plan.tasks) :
    Calls Try.prog 110 #[.agg #[.int .i64 x.id, .int .i64 x.plan.prio, .int .i64 x.plan.most, .int .i64 x.plan.wait, .int .i64 x.plan.tasks, u, .int .i64 x.state, v], .int .i64 t] w fun e w' => e = .returned (.int .i64 ((needTo x.tasks (beforeTo x.plan.edges t x.plan.tasks.toNat) : Nat) : Int)) ∧ Below w.heap.size w w' := by
  have HRN := Lib.hid h
  obtain ⟨h1, h2⟩ := h
  obtain ⟨xi, ⟨x1, x2, x3, x4, E⟩, xs, ts⟩ := x
  obtain ⟨AE, cE, rfl, hncE, hcmE⟩ := Rd.shape h1
  obtain ⟨AT, cT, rfl, hncT, hcmT⟩ := Rd.shape h2
  unfold maxLen at hcmE hcmT
  simp only at hncE hncT hcmE hcmT hf hl 
  have hz := fault_zero hf
  obtain ⟨hx0, hx1, hE, -⟩ := many_false hz.1
  have ho := hz.2.1
  simp only at hx0 hx1 hE ho
  obtain ⟨n, rfl⟩ : ∃ n : Nat, x4 = n := ⟨x4.toNat, by omega⟩
  have hln1 : ts.length ≤ n := by omega
  have hln2 : n ≤ ts.length := by omega
  have HI := Lib.hid (outB_inside ho)
  simp only [Int.toNat_natCast]
  have hcp : cost_plan ⟨x1, x2, x3, n, E⟩ ≤ 1048576 := by unfold cost_plan; simp only; omega
  have HB4 := Lib.hid (fun (t : Int) => show beforeOfR ⟨x1, x2, x3, n, E⟩ t = beforeTo E t n by rw [beforeOfR, if_pos hf]; rfl)
  have CB := Lib.hid (fun (t : Int) W (hW : Below w.heap.size w W) => beforeOf_impl _ ⟨x1, x2, x3, n, E⟩ t W (Rd_plan.below h1 hW) hcp)
  simp only [HB4.out] at CB
  have HT := Lib.hid (show Rd w 4 (.slice AT ts.length cT) ts.length (tskV ts) from h2)
  obtain ⟨W0, hW0⟩ : ∃ W0, W0 = w.alloc (.cells #[.int .i64 xi, .int .i64 x1, .int .i64 x2, .int .i64 x3, .int .i64 n, .slice AE E.length cE, .int .i64 xs, .slice AT ts.length cT] 52) := ⟨_, rfl⟩
  have hb0 : Below w.heap.size w W0 := by rw [hW0]; exact (Below.refl _ _).alloc (Nat.le_refl _) _
  have k0 : Blk W0 w.heap.size 52 #[.int .i64 xi, .int .i64 x1, .int .i64 x2, .int .i64 x3, .int .i64 n, .slice AE E.length cE, .int .i64 xs, .slice AT ts.length cT] := by rw [hW0]; exact Blk.new _ _ _
  have HK := Lib.hid k0
  have HW := Lib.hid hW0
  clear k0 hW0 h1 h2 hf hz ho hl
  go_enter Try.func110, Try.ntmps110
  go_wp2_with fail
  rw [← HW.out]
  refine (CB.out t _ hb0).mono ?_
  rintro e w1 ⟨v1, rfl, ho1, hb1⟩
  have hbl : ∀ b ∈ beforeTo E t n, 0 ≤ b ∧ b < n := fun b hb => beforeTo_mem hb
  have HBL := Lib.hid hbl
  have hle := before_len HI.out t
  obtain ⟨L, hL⟩ : ∃ L, L = beforeTo E t n := ⟨_, rfl⟩
  rw [← hL] at ho1 HBL hle
  have HLL := Lib.hid hL
  obtain ⟨A5, c5, rfl, hnc5, hcm5⟩ := (own_rdB ho1).shape
  unfold maxLen at hcm5
  have HRL := Lib.hid (own_rdB ho1)
  have hw1 := hb0.trans (hb1.mono hb0.size)
  have HW1 := Lib.hid hw1
  have kp := HK.out.belowV hb1
  have p0 := kp.cell 0
  have p1 := kp.cell 1
  have p2 := kp.cell 2
  have p3 := kp.cell 3
  have p4 := kp.cell 4
  have p5 := kp.cell 5
  have p6 := kp.cell 6
  have p7 := kp.cell 7
  simp only [List.getElem?_toArray, List.getElem?_cons_succ, List.getElem?_cons_zero] at p0 p1 p2 p3 p4 p5 p6 p7
  have pl := kp.lt
  clear ho1 hL kp hbl
  go_wp2_with fail
  go_loop [5, 13] (fun u5 u13 => ∃ k m : Nat, k ≤ L.length ∧ m ≤ k ∧ u13 = .int .i64 k ∧ u5 = .int .i64 m ∧ Hid (needTo ts L = m + needTo ts (L.drop k))) (fun _ u13 => L.length - (intOf u13).toNat)
  case atStart => exact ⟨0, 0, Nat.zero_le _, Nat.le_refl _, rfl, rfl, Lib.hid (by simp)⟩
  case round =>
    obtain ⟨k, m, hk, hmk, rfl, rfl, HN⟩ := hrel
    by_cases hlt : k < L.length
    · obtain ⟨b1, o1, _, hv1, _, _, hl1, hc1⟩ := HRL.out.form (by omega) (by omega)
      have hA1 : A5 = some ⟨b1, o1, none⟩ := by injection hv1
      subst hA1
      obtain ⟨y, hy⟩ : ∃ y, y = L[k] := ⟨_, rfl⟩
      have d0 := int_cell (Below.refl _ _) hl1 hc1 hlt y hy
      obtain ⟨hy0, hy1⟩ := HBL.out y (by rw [hy]; exact List.getElem_mem hlt)
      have HS := Lib.hid (show needTo ts L = m + ((if (ts.getD y.toNat zeroT).state = 4 then 0 else 1) + needTo ts (L.drop (k + 1))) by rw [HN.out, needTo_drop hlt, ← hy])
      obtain ⟨s, rfl⟩ : ∃ s : Nat, y = s := ⟨y.toNat, by omega⟩
      have hsl : s < ts.length := by omega
      obtain ⟨b2, o2, _, hv2, _, _, hl2, hc2⟩ := HT.out.form (by omega) (by omega)
      have hA2 : AT = some ⟨b2, o2, none⟩ := by injection hv2
      subst hA2
      obtain ⟨z, hz⟩ : ∃ z, z = ts[s] := ⟨_, rfl⟩
      obtain ⟨c0, -⟩ := tsk_cells HW1.out hl2 hc2 hsl z hz
      have hb2 : b2 < w1.heap.size := Nat.lt_of_lt_of_le hl2 HW1.out.size
      have hzg : (ts.getD (s : Int).toNat zeroT).state = z.state := by rw [Int.toNat_natCast, getD_tsk hsl z hz]
      rw [hzg] at HS
      have hk0 : (0 : Int) ≤ (k : Int) := by omega
      have hk1 : (k : Int) < (L.length : Int) := by omega
      have hs1 : (s : Int) < (ts.length : Int) := by omega
      obtain ⟨z0, hz0'⟩ : ∃ z0, z0 = z.state := ⟨_, rfl⟩
      rw [← hz0'] at c0 HS
      clear hz hz0' hv1 hc1 hv2 hc2 hzg hy HN
      by_cases e : z0 = 4
      · have HE := Lib.hid (show needTo ts L = m + needTo ts (L.drop (k + 1)) by rw [HS.out, if_pos e, Nat.zero_add])
        subst e
        clear HS
        go_wp2_with fail
        go_round
        case rel => exact ⟨k + 1, m, by omega, by omega, by go_num, by go_num, HE⟩
        case measure => simp [intOf]; omega
      · have HE := Lib.hid (show needTo ts L = (m + 1) + needTo ts (L.drop (k + 1)) by rw [HS.out, if_neg e]; omega)
        have t0 : (z0 == 4) = false := by simp [e]
        have t1 : (z0 != 4) = true := by simp [e]
        clear HS e
        go_wp2_with fail
        go_round
        case rel => exact ⟨k + 1, m + 1, by omega, by omega, by go_num, by go_num, HE⟩
        case measure => simp [intOf]; omega
    · have HE := Lib.hid (show needTo ts L = m by rw [HN.out, List.drop_of_length_le (by omega)]; rfl)
      go_wp2_with fail
      go_ret
      rw [← HLL.out, HE.out]
      exact ⟨rfl, HW1.out⟩

set_option maxHeartbeats 16000000 in
set_option maxRecDepth 100000 in
theorem taskOk_any (u v : Value) (x : Rn) (t : Nat) (w : World) (h : Rd_run w u v x) (hf : planFaultR x.plan = 0) (hl : (x.tasks.length : Int) = x.plan.tasks) (ht : t < x.tasks.length) :
    Calls Try.prog 77 #[.agg #[.int .i64 x.id, .int .i64 x.plan.prio, .int .i64 x.plan.most, .int .i64 x.plan.wait, .int .i64 x.plan.tasks, u, .int .i64 x.state, v], .int .i64 (t : Int)] w fun e w' => e = .returned (.bool (taskAt x t)) ∧ Below w.heap.size w w' := by
  have HRN := Lib.hid h
  obtain ⟨h1, h2⟩ := h
  obtain ⟨xi, ⟨x1, x2, x3, x4, E⟩, xs, ts⟩ := x
  obtain ⟨AE, cE, rfl, hncE, hcmE⟩ := Rd.shape h1
  obtain ⟨AT, cT, rfl, hncT, hcmT⟩ := Rd.shape h2
  unfold maxLen at hcmE hcmT
  simp only at hncE hncT hcmE hcmT hf hl ht
  have hz := fault_zero hf
  obtain ⟨hx0, hx1, hE, -⟩ := many_false hz.1
  have ho := hz.2.1
  simp only at hx0 hx1 hE ho
  obtain ⟨n, rfl⟩ : ∃ n : Nat, x4 = n := ⟨x4.toNat, by omega⟩
  have hln1 : ts.length ≤ n := by omega
  have hln2 : n ≤ ts.length := by omega
  have HI := Lib.hid (outB_inside ho)
  simp only [Int.toNat_natCast]
  have hcp : cost_plan ⟨x1, x2, x3, n, E⟩ ≤ 1048576 := by unfold cost_plan; simp only; omega
  have HB4 := Lib.hid (fun (t : Int) => show beforeOfR ⟨x1, x2, x3, n, E⟩ t = beforeTo E t n by rw [beforeOfR, if_pos hf]; rfl)
  have CB := Lib.hid (fun (t : Int) W (hW : Below w.heap.size w W) => beforeOf_impl _ ⟨x1, x2, x3, n, E⟩ t W (Rd_plan.below h1 hW) hcp)
  simp only [HB4.out] at CB
  have HT := Lib.hid (show Rd w 4 (.slice AT ts.length cT) ts.length (tskV ts) from h2)
  obtain ⟨W0, hW0⟩ : ∃ W0, W0 = w.alloc (.cells #[.int .i64 xi, .int .i64 x1, .int .i64 x2, .int .i64 x3, .int .i64 n, .slice AE E.length cE, .int .i64 xs, .slice AT ts.length cT] 52) := ⟨_, rfl⟩
  obtain ⟨b2, o2, _, hv2, _, _, hl2, hc2⟩ := HT.out.form (by omega) (by omega)
  have hA2 : AT = some ⟨b2, o2, none⟩ := by injection hv2
  subst hA2
  obtain ⟨y, hy⟩ : ∃ y, y = ts[t] := ⟨_, rfl⟩
  obtain ⟨d0, d1, d2, d3⟩ := tsk_cells (Below.refl _ _) hl2 hc2 ht y hy
  obtain ⟨nd, hnd⟩ : ∃ nd : Int, nd = ((needTo ts (beforeTo E t n) : Nat) : Int) := ⟨_, rfl⟩
  have HTA := Lib.hid (show taskAt ⟨xi, ⟨x1, x2, x3, n, E⟩, xs, ts⟩ t = taskB y nd x2 by rw [taskAt, hnd, ← getD_tsk ht y hy]; rfl)
  have hk0 : (0 : Int) ≤ (t : Int) := by omega
  have hk1 : (t : Int) < (ts.length : Int) := by omega
  obtain ⟨y0, y1, y2, y3⟩ := y
  simp only at d0 d1 d2 d3
  rw [HTA.out]
  obtain ⟨R, hR⟩ : ∃ R, R = taskB ⟨y0, y1, y2, y3⟩ nd x2 := ⟨_, rfl⟩
  rw [← hR]
  have HR := Lib.hid hR
  clear hR
  have q0 := World.cell?_alloc_lt w (.cells #[.int .i64 xi, .int .i64 x1, .int .i64 x2, .int .i64 x3, .int .i64 n, .slice AE E.length cE, .int .i64 xs, .slice (some ⟨b2, o2, none⟩) ts.length cT] 52) ⟨b2, o2 + t * 4, none⟩ hl2
  have q1 := World.cell?_alloc_lt w (.cells #[.int .i64 xi, .int .i64 x1, .int .i64 x2, .int .i64 x3, .int .i64 n, .slice AE E.length cE, .int .i64 xs, .slice (some ⟨b2, o2, none⟩) ts.length cT] 52) ⟨b2, o2 + t * 4 + 1, none⟩ hl2
  have q2 := World.cell?_alloc_lt w (.cells #[.int .i64 xi, .int .i64 x1, .int .i64 x2, .int .i64 x3, .int .i64 n, .slice AE E.length cE, .int .i64 xs, .slice (some ⟨b2, o2, none⟩) ts.length cT] 52) ⟨b2, o2 + t * 4 + 2, none⟩ hl2
  have q3 := World.cell?_alloc_lt w (.cells #[.int .i64 xi, .int .i64 x1, .int .i64 x2, .int .i64 x3, .int .i64 n, .slice AE E.length cE, .int .i64 xs, .slice (some ⟨b2, o2, none⟩) ts.length cT] 52) ⟨b2, o2 + t * 4 + 3, none⟩ hl2
  obtain ⟨W1, hW1⟩ : ∃ W1, W1 = W0.alloc (.cells #[.int .i64 y0, .int .i64 y1, .int .i64 y2, .int .i64 y3] 61) := ⟨_, rfl⟩
  have hb0 : Below w.heap.size w W0 := by rw [hW0]; exact (Below.refl _ _).alloc (Nat.le_refl _) _
  have hb1 : Below w.heap.size w W1 := by rw [hW1]; exact hb0.alloc hb0.size _
  have k0 : Blk W1 w.heap.size 52 #[.int .i64 xi, .int .i64 x1, .int .i64 x2, .int .i64 x3, .int .i64 n, .slice AE E.length cE, .int .i64 xs, .slice (some ⟨b2, o2, none⟩) ts.length cT] := by rw [hW1, hW0]; exact (Blk.new _ _ _).alloc _
  have k1 : Blk W1 (w.heap.size + 1) 61 #[.int .i64 y0, .int .i64 y1, .int .i64 y2, .int .i64 y3] := by rw [hW1, hW0]; exact blk_new1 _ _ _ _
  have HW1 := Lib.hid (show W1 = (w.alloc (.cells #[.int .i64 xi, .int .i64 x1, .int .i64 x2, .int .i64 x3, .int .i64 n, .slice AE E.length cE, .int .i64 xs, .slice (some ⟨b2, o2, none⟩) ts.length cT] 52)).alloc (.cells #[.int .i64 y0, .int .i64 y1, .int .i64 y2, .int .i64 y3] 61) by rw [hW1, hW0])
  have CN := Lib.hid (fun (k : Calm W1) => needOf_any _ _ ⟨xi, ⟨x1, x2, x3, n, E⟩, xs, ts⟩ t k.w (HRN.out.below (hb1.trans (k.below.mono hb1.size))) hf hl)
  simp only [Int.toNat_natCast] at CN
  rw [← hnd] at CN
  have C1 := Lib.hid (fun W => within_b y0 1 6 W)
  have C2 := Lib.hid (fun W => within_b y2 0 x2 W)
  have C3 := Lib.hid (fun W => within_b y3 1 1000000000 W)
  have p0 := k0.cell 0
  have p1 := k0.cell 1
  have p2 := k0.cell 2
  have p3 := k0.cell 3
  have p4 := k0.cell 4
  have p5 := k0.cell 5
  have p6 := k0.cell 6
  have p7 := k0.cell 7
  simp only [List.getElem?_toArray, List.getElem?_cons_succ, List.getElem?_cons_zero] at p0 p1 p2 p3 p4 p5 p6 p7
  have pl := k0.lt
  have r0 := k1.cell 0
  have r1 := k1.cell 1
  have r2 := k1.cell 2
  have r3 := k1.cell 3
  simp only [List.getElem?_toArray, List.getElem?_cons_succ, List.getElem?_cons_zero] at r0 r1 r2 r3
  have rl := k1.lt
  clear hW0 hW1 hnd hy hv2 hc2 HT CB HB4 HI k0 k1 h1 h2 hf hl hz ho
  go_enter Try.func77, Try.ntmps77
  go_wp2_with fail
  rw [← HW1.out]
  clear q0 q1 q2 q3 d0 d1 d2 d3
  cases hA : inB y0 1 6 with
  | false =>
    have HG := Lib.hid (show R = false by rw [HR.out]; simp [taskB, hA])
    rw [hA] at C1
    clear HTA HR hA
    first | refine wp_region_calm_on (by kernel_rfl) (by kernel_rfl) ?_ | refine wp_region_calm_lit (by kernel_rfl) (by kernel_rfl) ?_
    repeat (go_big_quiet_step ((first | (go_at_call 110; exact calm_of (CN.out _)) | (go_at_call 65; first | (with_reducible exact calm_same (C1.out _)) | (with_reducible exact calm_same (C2.out _))))))
    refine wpQuiet_nil ?_
    intro _ hw'
    obtain ⟨z1, hw''⟩ := hw'
    subst hw''
    go_wp2_with (go_at_call 65; refine (C3.out _).mono ?_; rintro e w2 ⟨rfl, rfl⟩)
    go_ret
    exact ⟨ret_bool HG.out.symm, hb1.trans (z1.below.mono hb1.size)⟩
  | true =>
    by_cases hB : y1 = nd
    rotate_left
    · have t0 : (y1 == nd) = false := by simp [hB]
      have t1 : (y1 != nd) = true := by simp [hB]
      have HG := Lib.hid (show R = false by rw [HR.out]; simp [taskB, hB])
      rw [hA] at C1
      clear HTA HR hA hB
      first | refine wp_region_calm_on (by kernel_rfl) (by kernel_rfl) ?_ | refine wp_region_calm_lit (by kernel_rfl) (by kernel_rfl) ?_
      repeat (go_big_quiet_step ((first | (go_at_call 110; exact calm_of (CN.out _)) | (go_at_call 65; first | (with_reducible exact calm_same (C1.out _)) | (with_reducible exact calm_same (C2.out _))))))
      refine wpQuiet_nil ?_
      intro _ hw'
      obtain ⟨z1, hw''⟩ := hw'
      subst hw''
      go_wp2_with (go_at_call 65; refine (C3.out _).mono ?_; rintro e w2 ⟨rfl, rfl⟩)
      go_ret
      exact ⟨ret_bool HG.out.symm, hb1.trans (z1.below.mono hb1.size)⟩
    · subst hB
      cases hC : inB y2 0 x2 with
      | false =>
        have HG := Lib.hid (show R = false by rw [HR.out]; simp [taskB, hC])
        rw [hA] at C1
        rw [hC] at C2
        clear HTA HR hA hC
        first | refine wp_region_calm_on (by kernel_rfl) (by kernel_rfl) ?_ | refine wp_region_calm_lit (by kernel_rfl) (by kernel_rfl) ?_
        repeat (go_big_quiet_step ((first | (go_at_call 110; exact calm_of (CN.out _)) | (go_at_call 65; first | (with_reducible exact calm_same (C1.out _)) | (with_reducible exact calm_same (C2.out _))))))
        refine wpQuiet_nil ?_
        intro _ hw'
        obtain ⟨z1, hw''⟩ := hw'
        subst hw''
        go_wp2_with (go_at_call 65; refine (C3.out _).mono ?_; rintro e w2 ⟨rfl, rfl⟩)
        go_ret
        exact ⟨ret_bool HG.out.symm, hb1.trans (z1.below.mono hb1.size)⟩
      | true =>
        by_cases hD : y0 = 3
        · subst hD
          cases hF : inB y3 1 1000000000 with
          | false =>
            have HG := Lib.hid (show R = false by rw [HR.out]; simp [taskB, hF])
            rw [hA] at C1
            rw [hC] at C2
            rw [hF] at C3
            clear HTA HR hA hC hF
            first | refine wp_region_calm_on (by kernel_rfl) (by kernel_rfl) ?_ | refine wp_region_calm_lit (by kernel_rfl) (by kernel_rfl) ?_
            repeat (go_big_quiet_step ((first | (go_at_call 110; exact calm_of (CN.out _)) | (go_at_call 65; first | (with_reducible exact calm_same (C1.out _)) | (with_reducible exact calm_same (C2.out _))))))
            refine wpQuiet_nil ?_
            intro _ hw'
            obtain ⟨z1, hw''⟩ := hw'
            subst hw''
            go_wp2_with (go_at_call 65; refine (C3.out _).mono ?_; rintro e w2 ⟨rfl, rfl⟩)
            go_ret
            exact ⟨ret_bool HG.out.symm, hb1.trans (z1.below.mono hb1.size)⟩
          | true =>
            by_cases hG : y1 = 0
            · subst hG
              by_cases hH : 1 ≤ y2
              · have t2 : decide (1 ≤ y2) = true := by simp [hH]
                have HG := Lib.hid (show R = true by rw [HR.out]; simp [taskB, hF, hA, hC, hH])
                rw [hA] at C1
                rw [hC] at C2
                rw [hF] at C3
                clear HTA HR hF hA hC
                first | refine wp_region_calm_on (by kernel_rfl) (by kernel_rfl) ?_ | refine wp_region_calm_lit (by kernel_rfl) (by kernel_rfl) ?_
                repeat (go_big_quiet_step ((first | (go_at_call 110; exact calm_of (CN.out _)) | (go_at_call 65; first | (with_reducible exact calm_same (C1.out _)) | (with_reducible exact calm_same (C2.out _))))))
                refine wpQuiet_nil ?_
                intro _ hw'
                obtain ⟨z1, hw''⟩ := hw'
                subst hw''
                go_wp2_with (go_at_call 65; refine (C3.out _).mono ?_; rintro e w2 ⟨rfl, rfl⟩)
                go_ret
                exact ⟨ret_bool HG.out.symm, hb1.trans (z1.below.mono hb1.size)⟩
              · have t2 : decide (1 ≤ y2) = false := by simp [hH]
                have HG := Lib.hid (show R = false by rw [HR.out]; simp [taskB, hF, hA, hC, hH])
                rw [hA] at C1
                rw [hC] at C2
                rw [hF] at C3
                clear HTA HR hF hA hC hH
                first | refine wp_region_calm_on (by kernel_rfl) (by kernel_rfl) ?_ | refine wp_region_calm_lit (by kernel_rfl) (by kernel_rfl) ?_
                repeat (go_big_quiet_step ((first | (go_at_call 110; exact calm_of (CN.out _)) | (go_at_call 65; first | (with_reducible exact calm_same (C1.out _)) | (with_reducible exact calm_same (C2.out _))))))
                refine wpQuiet_nil ?_
                intro _ hw'
                obtain ⟨z1, hw''⟩ := hw'
                subst hw''
                go_wp2_with (go_at_call 65; refine (C3.out _).mono ?_; rintro e w2 ⟨rfl, rfl⟩)
                go_ret
                exact ⟨ret_bool HG.out.symm, hb1.trans (z1.below.mono hb1.size)⟩
            · have t2 : (y1 == 0) = false := by simp [hG]
              have HG := Lib.hid (show R = false by rw [HR.out]; simp [taskB, hF, hA, hC, hG])
              rw [hA] at C1
              rw [hC] at C2
              rw [hF] at C3
              clear HTA HR hF hA hC hG
              first | refine wp_region_calm_on (by kernel_rfl) (by kernel_rfl) ?_ | refine wp_region_calm_lit (by kernel_rfl) (by kernel_rfl) ?_
              repeat (go_big_quiet_step ((first | (go_at_call 110; exact calm_of (CN.out _)) | (go_at_call 65; first | (with_reducible exact calm_same (C1.out _)) | (with_reducible exact calm_same (C2.out _))))))
              refine wpQuiet_nil ?_
              intro _ hw'
              obtain ⟨z1, hw''⟩ := hw'
              subst hw''
              go_wp2_with (go_at_call 65; refine (C3.out _).mono ?_; rintro e w2 ⟨rfl, rfl⟩)
              go_ret
              exact ⟨ret_bool HG.out.symm, hb1.trans (z1.below.mono hb1.size)⟩
        · have t3 : (y0 == 3) = false := by simp [hD]
          have t4 : (y0 != 3) = true := by simp [hD]
          by_cases hF : y3 = 0
          rotate_left
          · have t5 : (y3 == 0) = false := by simp [hF]
            have t6 : (y3 != 0) = true := by simp [hF]
            have HG := Lib.hid (show R = false by rw [HR.out]; simp [taskB, hD, hF])
            rw [hA] at C1
            rw [hC] at C2
            clear HTA HR hA hC hD hF
            first | refine wp_region_calm_on (by kernel_rfl) (by kernel_rfl) ?_ | refine wp_region_calm_lit (by kernel_rfl) (by kernel_rfl) ?_
            repeat (go_big_quiet_step ((first | (go_at_call 110; exact calm_of (CN.out _)) | (go_at_call 65; first | (with_reducible exact calm_same (C1.out _)) | (with_reducible exact calm_same (C2.out _))))))
            refine wpQuiet_nil ?_
            intro _ hw'
            obtain ⟨z1, hw''⟩ := hw'
            subst hw''
            go_wp2_with (go_at_call 65; refine (C3.out _).mono ?_; rintro e w2 ⟨rfl, rfl⟩)
            go_ret
            exact ⟨ret_bool HG.out.symm, hb1.trans (z1.below.mono hb1.size)⟩
          · subst hF
            have hs : y0 = 1 ∨ y0 = 2 ∨ y0 = 4 ∨ y0 = 5 ∨ y0 = 6 := by have := inB_true hA; omega
            clear hD t3 t4
            rcases hs with rfl | rfl | rfl | rfl | rfl
            · by_cases hG : 0 < y1
              · have t2 : decide (0 < y1) = true := by simp [hG]
                have HG := Lib.hid (show R = true by rw [HR.out]; simp [taskB, hA, hC, hG])
                rw [hA] at C1
                rw [hC] at C2
                clear HTA HR hA hC
                first | refine wp_region_calm_on (by kernel_rfl) (by kernel_rfl) ?_ | refine wp_region_calm_lit (by kernel_rfl) (by kernel_rfl) ?_
                repeat (go_big_quiet_step ((first | (go_at_call 110; exact calm_of (CN.out _)) | (go_at_call 65; first | (with_reducible exact calm_same (C1.out _)) | (with_reducible exact calm_same (C2.out _))))))
                refine wpQuiet_nil ?_
                intro _ hw'
                obtain ⟨z1, hw''⟩ := hw'
                subst hw''
                go_wp2_with (go_at_call 65; refine (C3.out _).mono ?_; rintro e w2 ⟨rfl, rfl⟩)
                go_ret
                exact ⟨ret_bool HG.out.symm, hb1.trans (z1.below.mono hb1.size)⟩
              · have t2 : decide (0 < y1) = false := by simp [hG]
                have HG := Lib.hid (show R = false by rw [HR.out]; simp [taskB, hA, hC, hG])
                rw [hA] at C1
                rw [hC] at C2
                clear HTA HR hA hC hG
                first | refine wp_region_calm_on (by kernel_rfl) (by kernel_rfl) ?_ | refine wp_region_calm_lit (by kernel_rfl) (by kernel_rfl) ?_
                repeat (go_big_quiet_step ((first | (go_at_call 110; exact calm_of (CN.out _)) | (go_at_call 65; first | (with_reducible exact calm_same (C1.out _)) | (with_reducible exact calm_same (C2.out _))))))
                refine wpQuiet_nil ?_
                intro _ hw'
                obtain ⟨z1, hw''⟩ := hw'
                subst hw''
                go_wp2_with (go_at_call 65; refine (C3.out _).mono ?_; rintro e w2 ⟨rfl, rfl⟩)
                go_ret
                exact ⟨ret_bool HG.out.symm, hb1.trans (z1.below.mono hb1.size)⟩
            · by_cases hG : y1 = 0
              · subst hG
                by_cases hH : y2 < x2
                · have t2 : decide (y2 < x2) = true := by simp [hH]
                  have HG := Lib.hid (show R = true by rw [HR.out]; simp [taskB, hA, hC, hH])
                  rw [hA] at C1
                  rw [hC] at C2
                  clear HTA HR hA hC
                  first | refine wp_region_calm_on (by kernel_rfl) (by kernel_rfl) ?_ | refine wp_region_calm_lit (by kernel_rfl) (by kernel_rfl) ?_
                  repeat (go_big_quiet_step ((first | (go_at_call 110; exact calm_of (CN.out _)) | (go_at_call 65; first | (with_reducible exact calm_same (C1.out _)) | (with_reducible exact calm_same (C2.out _))))))
                  refine wpQuiet_nil ?_
                  intro _ hw'
                  obtain ⟨z1, hw''⟩ := hw'
                  subst hw''
                  go_wp2_with (go_at_call 65; refine (C3.out _).mono ?_; rintro e w2 ⟨rfl, rfl⟩)
                  go_ret
                  exact ⟨ret_bool HG.out.symm, hb1.trans (z1.below.mono hb1.size)⟩
                · have t2 : decide (y2 < x2) = false := by simp [hH]
                  have HG := Lib.hid (show R = false by rw [HR.out]; simp [taskB, hA, hC, hH])
                  rw [hA] at C1
                  rw [hC] at C2
                  clear HTA HR hA hC hH
                  first | refine wp_region_calm_on (by kernel_rfl) (by kernel_rfl) ?_ | refine wp_region_calm_lit (by kernel_rfl) (by kernel_rfl) ?_
                  repeat (go_big_quiet_step ((first | (go_at_call 110; exact calm_of (CN.out _)) | (go_at_call 65; first | (with_reducible exact calm_same (C1.out _)) | (with_reducible exact calm_same (C2.out _))))))
                  refine wpQuiet_nil ?_
                  intro _ hw'
                  obtain ⟨z1, hw''⟩ := hw'
                  subst hw''
                  go_wp2_with (go_at_call 65; refine (C3.out _).mono ?_; rintro e w2 ⟨rfl, rfl⟩)
                  go_ret
                  exact ⟨ret_bool HG.out.symm, hb1.trans (z1.below.mono hb1.size)⟩
              · have t2 : (y1 == 0) = false := by simp [hG]
                have HG := Lib.hid (show R = false by rw [HR.out]; simp [taskB, hA, hC, hG])
                rw [hA] at C1
                rw [hC] at C2
                clear HTA HR hA hC hG
                first | refine wp_region_calm_on (by kernel_rfl) (by kernel_rfl) ?_ | refine wp_region_calm_lit (by kernel_rfl) (by kernel_rfl) ?_
                repeat (go_big_quiet_step ((first | (go_at_call 110; exact calm_of (CN.out _)) | (go_at_call 65; first | (with_reducible exact calm_same (C1.out _)) | (with_reducible exact calm_same (C2.out _))))))
                refine wpQuiet_nil ?_
                intro _ hw'
                obtain ⟨z1, hw''⟩ := hw'
                subst hw''
                go_wp2_with (go_at_call 65; refine (C3.out _).mono ?_; rintro e w2 ⟨rfl, rfl⟩)
                go_ret
                exact ⟨ret_bool HG.out.symm, hb1.trans (z1.below.mono hb1.size)⟩
            · skip
              by_cases hG : y1 = 0
              · subst hG
                by_cases hH : 1 ≤ y2
                · have t2 : decide (1 ≤ y2) = true := by simp [hH]
                  have HG := Lib.hid (show R = true by rw [HR.out]; simp [taskB, hA, hA, hC, hH])
                  rw [hA] at C1
                  rw [hC] at C2
                  clear HTA HR hA hC
                  first | refine wp_region_calm_on (by kernel_rfl) (by kernel_rfl) ?_ | refine wp_region_calm_lit (by kernel_rfl) (by kernel_rfl) ?_
                  repeat (go_big_quiet_step ((first | (go_at_call 110; exact calm_of (CN.out _)) | (go_at_call 65; first | (with_reducible exact calm_same (C1.out _)) | (with_reducible exact calm_same (C2.out _))))))
                  refine wpQuiet_nil ?_
                  intro _ hw'
                  obtain ⟨z1, hw''⟩ := hw'
                  subst hw''
                  go_wp2_with (go_at_call 65; refine (C3.out _).mono ?_; rintro e w2 ⟨rfl, rfl⟩)
                  go_ret
                  exact ⟨ret_bool HG.out.symm, hb1.trans (z1.below.mono hb1.size)⟩
                · have t2 : decide (1 ≤ y2) = false := by simp [hH]
                  have HG := Lib.hid (show R = false by rw [HR.out]; simp [taskB, hA, hA, hC, hH])
                  rw [hA] at C1
                  rw [hC] at C2
                  clear HTA HR hA hC hH
                  first | refine wp_region_calm_on (by kernel_rfl) (by kernel_rfl) ?_ | refine wp_region_calm_lit (by kernel_rfl) (by kernel_rfl) ?_
                  repeat (go_big_quiet_step ((first | (go_at_call 110; exact calm_of (CN.out _)) | (go_at_call 65; first | (with_reducible exact calm_same (C1.out _)) | (with_reducible exact calm_same (C2.out _))))))
                  refine wpQuiet_nil ?_
                  intro _ hw'
                  obtain ⟨z1, hw''⟩ := hw'
                  subst hw''
                  go_wp2_with (go_at_call 65; refine (C3.out _).mono ?_; rintro e w2 ⟨rfl, rfl⟩)
                  go_ret
                  exact ⟨ret_bool HG.out.symm, hb1.trans (z1.below.mono hb1.size)⟩
              · have t2 : (y1 == 0) = false := by simp [hG]
                have HG := Lib.hid (show R = false by rw [HR.out]; simp [taskB, hA, hA, hC, hG])
                rw [hA] at C1
                rw [hC] at C2
                clear HTA HR hA hC hG
                first | refine wp_region_calm_on (by kernel_rfl) (by kernel_rfl) ?_ | refine wp_region_calm_lit (by kernel_rfl) (by kernel_rfl) ?_
                repeat (go_big_quiet_step ((first | (go_at_call 110; exact calm_of (CN.out _)) | (go_at_call 65; first | (with_reducible exact calm_same (C1.out _)) | (with_reducible exact calm_same (C2.out _))))))
                refine wpQuiet_nil ?_
                intro _ hw'
                obtain ⟨z1, hw''⟩ := hw'
                subst hw''
                go_wp2_with (go_at_call 65; refine (C3.out _).mono ?_; rintro e w2 ⟨rfl, rfl⟩)
                go_ret
                exact ⟨ret_bool HG.out.symm, hb1.trans (z1.below.mono hb1.size)⟩
            · skip
              by_cases hG : y1 = 0
              · subst hG
                by_cases hH : 1 ≤ y2
                · have t2 : decide (1 ≤ y2) = true := by simp [hH]
                  have HG := Lib.hid (show R = true by rw [HR.out]; simp [taskB, hA, hA, hC, hH])
                  rw [hA] at C1
                  rw [hC] at C2
                  clear HTA HR hA hC
                  first | refine wp_region_calm_on (by kernel_rfl) (by kernel_rfl) ?_ | refine wp_region_calm_lit (by kernel_rfl) (by kernel_rfl) ?_
                  repeat (go_big_quiet_step ((first | (go_at_call 110; exact calm_of (CN.out _)) | (go_at_call 65; first | (with_reducible exact calm_same (C1.out _)) | (with_reducible exact calm_same (C2.out _))))))
                  refine wpQuiet_nil ?_
                  intro _ hw'
                  obtain ⟨z1, hw''⟩ := hw'
                  subst hw''
                  go_wp2_with (go_at_call 65; refine (C3.out _).mono ?_; rintro e w2 ⟨rfl, rfl⟩)
                  go_ret
                  exact ⟨ret_bool HG.out.symm, hb1.trans (z1.below.mono hb1.size)⟩
                · have t2 : decide (1 ≤ y2) = false := by simp [hH]
                  have HG := Lib.hid (show R = false by rw [HR.out]; simp [taskB, hA, hA, hC, hH])
                  rw [hA] at C1
                  rw [hC] at C2
                  clear HTA HR hA hC hH
                  first | refine wp_region_calm_on (by kernel_rfl) (by kernel_rfl) ?_ | refine wp_region_calm_lit (by kernel_rfl) (by kernel_rfl) ?_
                  repeat (go_big_quiet_step ((first | (go_at_call 110; exact calm_of (CN.out _)) | (go_at_call 65; first | (with_reducible exact calm_same (C1.out _)) | (with_reducible exact calm_same (C2.out _))))))
                  refine wpQuiet_nil ?_
                  intro _ hw'
                  obtain ⟨z1, hw''⟩ := hw'
                  subst hw''
                  go_wp2_with (go_at_call 65; refine (C3.out _).mono ?_; rintro e w2 ⟨rfl, rfl⟩)
                  go_ret
                  exact ⟨ret_bool HG.out.symm, hb1.trans (z1.below.mono hb1.size)⟩
              · have t2 : (y1 == 0) = false := by simp [hG]
                have HG := Lib.hid (show R = false by rw [HR.out]; simp [taskB, hA, hA, hC, hG])
                rw [hA] at C1
                rw [hC] at C2
                clear HTA HR hA hC hG
                first | refine wp_region_calm_on (by kernel_rfl) (by kernel_rfl) ?_ | refine wp_region_calm_lit (by kernel_rfl) (by kernel_rfl) ?_
                repeat (go_big_quiet_step ((first | (go_at_call 110; exact calm_of (CN.out _)) | (go_at_call 65; first | (with_reducible exact calm_same (C1.out _)) | (with_reducible exact calm_same (C2.out _))))))
                refine wpQuiet_nil ?_
                intro _ hw'
                obtain ⟨z1, hw''⟩ := hw'
                subst hw''
                go_wp2_with (go_at_call 65; refine (C3.out _).mono ?_; rintro e w2 ⟨rfl, rfl⟩)
                go_ret
                exact ⟨ret_bool HG.out.symm, hb1.trans (z1.below.mono hb1.size)⟩
            · skip
              have HG := Lib.hid (show R = true by rw [HR.out]; simp [taskB, hA, hC])
              rw [hA] at C1
              rw [hC] at C2
              clear HTA HR hA hC
              first | refine wp_region_calm_on (by kernel_rfl) (by kernel_rfl) ?_ | refine wp_region_calm_lit (by kernel_rfl) (by kernel_rfl) ?_
              repeat (go_big_quiet_step ((first | (go_at_call 110; exact calm_of (CN.out _)) | (go_at_call 65; first | (with_reducible exact calm_same (C1.out _)) | (with_reducible exact calm_same (C2.out _))))))
              refine wpQuiet_nil ?_
              intro _ hw'
              obtain ⟨z1, hw''⟩ := hw'
              subst hw''
              go_wp2_with (go_at_call 65; refine (C3.out _).mono ?_; rintro e w2 ⟨rfl, rfl⟩)
              go_ret
              exact ⟨ret_bool HG.out.symm, hb1.trans (z1.below.mono hb1.size)⟩

set_option maxHeartbeats 16000000 in
set_option maxRecDepth 100000 in
theorem l09Task_any (u v : Value) (x : Rn) (t : Nat) (w : World) (h : Rd_run w u v x) (hf : planFaultR x.plan = 0) (hl : (x.tasks.length : Int) = x.plan.tasks) (ht : t < x.tasks.length) (hA : inB (x.tasks.getD t zeroT).state 1 6 = true) :
    Calls Try.prog 97 #[.agg #[.int .i64 x.id, .int .i64 x.plan.prio, .int .i64 x.plan.most, .int .i64 x.plan.wait, .int .i64 x.plan.tasks, u, .int .i64 x.state, v], .int .i64 (t : Int)] w fun e w' => e = .returned (.bool (taskAt x t)) ∧ Below w.heap.size w w' := by
  have HRN := Lib.hid h
  obtain ⟨h1, h2⟩ := h
  obtain ⟨xi, ⟨x1, x2, x3, x4, E⟩, xs, ts⟩ := x
  obtain ⟨AE, cE, rfl, hncE, hcmE⟩ := Rd.shape h1
  obtain ⟨AT, cT, rfl, hncT, hcmT⟩ := Rd.shape h2
  unfold maxLen at hcmE hcmT
  simp only at hncE hncT hcmE hcmT hf hl ht hA
  have hz := fault_zero hf
  obtain ⟨hx0, hx1, hE, -⟩ := many_false hz.1
  have ho := hz.2.1
  simp only at hx0 hx1 hE ho
  obtain ⟨n, rfl⟩ : ∃ n : Nat, x4 = n := ⟨x4.toNat, by omega⟩
  have hln1 : ts.length ≤ n := by omega
  have hln2 : n ≤ ts.length := by omega
  have HI := Lib.hid (outB_inside ho)
  simp only [Int.toNat_natCast]
  have hcp : cost_plan ⟨x1, x2, x3, n, E⟩ ≤ 1048576 := by unfold cost_plan; simp only; omega
  have hm := hz.1
  have CB := Lib.hid (fun (t : Int) W (hW : Below w.heap.size w W) => l06Before_any _ ⟨x1, x2, x3, n, E⟩ t W (Rd_plan.below h1 hW) hm)
  simp only [Int.toNat_natCast] at CB
  clear hm
  have HT := Lib.hid (show Rd w 4 (.slice AT ts.length cT) ts.length (tskV ts) from h2)
  obtain ⟨W0, hW0⟩ : ∃ W0, W0 = w.alloc (.cells #[.int .i64 xi, .int .i64 x1, .int .i64 x2, .int .i64 x3, .int .i64 n, .slice AE E.length cE, .int .i64 xs, .slice AT ts.length cT] 52) := ⟨_, rfl⟩
  have hzA := hA
  obtain ⟨b2, o2, _, hv2, _, _, hl2, hc2⟩ := HT.out.form (by omega) (by omega)
  have hA2 : AT = some ⟨b2, o2, none⟩ := by injection hv2
  subst hA2
  obtain ⟨y, hy⟩ : ∃ y, y = ts[t] := ⟨_, rfl⟩
  obtain ⟨d0, d1, d2, d3⟩ := tsk_cells (Below.refl _ _) hl2 hc2 ht y hy
  obtain ⟨nd, hnd⟩ : ∃ nd : Int, nd = ((needTo ts (beforeTo E t n) : Nat) : Int) := ⟨_, rfl⟩
  have HTA := Lib.hid (show taskAt ⟨xi, ⟨x1, x2, x3, n, E⟩, xs, ts⟩ t = taskB y nd x2 by rw [taskAt, hnd, ← getD_tsk ht y hy]; rfl)
  have hk0 : (0 : Int) ≤ (t : Int) := by omega
  have hk1 : (t : Int) < (ts.length : Int) := by omega
  rw [getD_tsk ht y hy] at hA
  clear hzA
  obtain ⟨y0, y1, y2, y3⟩ := y
  simp only at d0 d1 d2 d3 hA
  rw [HTA.out]
  obtain ⟨R, hR⟩ : ∃ R, R = taskB ⟨y0, y1, y2, y3⟩ nd x2 := ⟨_, rfl⟩
  rw [← hR]
  have HR := Lib.hid hR
  clear hR
  have q0 := World.cell?_alloc_lt w (.cells #[.int .i64 xi, .int .i64 x1, .int .i64 x2, .int .i64 x3, .int .i64 n, .slice AE E.length cE, .int .i64 xs, .slice (some ⟨b2, o2, none⟩) ts.length cT] 52) ⟨b2, o2 + t * 4, none⟩ hl2
  have q1 := World.cell?_alloc_lt w (.cells #[.int .i64 xi, .int .i64 x1, .int .i64 x2, .int .i64 x3, .int .i64 n, .slice AE E.length cE, .int .i64 xs, .slice (some ⟨b2, o2, none⟩) ts.length cT] 52) ⟨b2, o2 + t * 4 + 1, none⟩ hl2
  have q2 := World.cell?_alloc_lt w (.cells #[.int .i64 xi, .int .i64 x1, .int .i64 x2, .int .i64 x3, .int .i64 n, .slice AE E.length cE, .int .i64 xs, .slice (some ⟨b2, o2, none⟩) ts.length cT] 52) ⟨b2, o2 + t * 4 + 2, none⟩ hl2
  have q3 := World.cell?_alloc_lt w (.cells #[.int .i64 xi, .int .i64 x1, .int .i64 x2, .int .i64 x3, .int .i64 n, .slice AE E.length cE, .int .i64 xs, .slice (some ⟨b2, o2, none⟩) ts.length cT] 52) ⟨b2, o2 + t * 4 + 3, none⟩ hl2
  obtain ⟨W1, hW1⟩ : ∃ W1, W1 = W0.alloc (.cells #[.int .i64 y0, .int .i64 y1, .int .i64 y2, .int .i64 y3] 61) := ⟨_, rfl⟩
  have hb0 : Below w.heap.size w W0 := by rw [hW0]; exact (Below.refl _ _).alloc (Nat.le_refl _) _
  have hb1 : Below w.heap.size w W1 := by rw [hW1]; exact hb0.alloc hb0.size _
  have k0 : Blk W1 w.heap.size 52 #[.int .i64 xi, .int .i64 x1, .int .i64 x2, .int .i64 x3, .int .i64 n, .slice AE E.length cE, .int .i64 xs, .slice (some ⟨b2, o2, none⟩) ts.length cT] := by rw [hW1, hW0]; exact (Blk.new _ _ _).alloc _
  have k1 : Blk W1 (w.heap.size + 1) 61 #[.int .i64 y0, .int .i64 y1, .int .i64 y2, .int .i64 y3] := by rw [hW1, hW0]; exact blk_new1 _ _ _ _
  have HW1 := Lib.hid (show W1 = (w.alloc (.cells #[.int .i64 xi, .int .i64 x1, .int .i64 x2, .int .i64 x3, .int .i64 n, .slice AE E.length cE, .int .i64 xs, .slice (some ⟨b2, o2, none⟩) ts.length cT] 52)).alloc (.cells #[.int .i64 y0, .int .i64 y1, .int .i64 y2, .int .i64 y3] 61) by rw [hW1, hW0])
  have HB1 := Lib.hid hb1
  have HND := Lib.hid hnd
  have CBt := Lib.hid (CB.out (t : Int) W1 hb1)
  have C2 := Lib.hid (fun W => l01In_b y2 0 x2 W)
  have C3 := Lib.hid (fun W => l01In_b y3 1 1000000000 W)
  have HA := Lib.hid hA
  have HK := Lib.hid k0
  have HK1 := Lib.hid k1
  have p0 := k0.cell 0
  have p1 := k0.cell 1
  have p2 := k0.cell 2
  have p3 := k0.cell 3
  have p4 := k0.cell 4
  have p5 := k0.cell 5
  have p6 := k0.cell 6
  have p7 := k0.cell 7
  simp only [List.getElem?_toArray, List.getElem?_cons_succ, List.getElem?_cons_zero] at p0 p1 p2 p3 p4 p5 p6 p7
  have pl := k0.lt
  clear hW0 hW1 hnd hy hv2 hc2 CB k0 k1 h1 h2 hf hl hz ho hA
  go_enter Try.func97, Try.ntmps97
  go_wp2_with fail
  rw [← HW1.out]
  clear q0 q1 q2 q3 d0 d1 d2 d3
  refine CBt.out.mono ?_
  rintro e w1 ⟨v1, rfl, ho1, hb2⟩
  have hbl : ∀ b ∈ beforeTo E t n, 0 ≤ b ∧ b < n := fun b hb => beforeTo_mem hb
  have HBL := Lib.hid hbl
  have hle := before_len HI.out t
  obtain ⟨L, hL⟩ : ∃ L, L = beforeTo E t n := ⟨_, rfl⟩
  rw [← hL] at ho1 HBL hle HND
  obtain ⟨A5, c5, rfl, hnc5, hcm5⟩ := (own_rdB ho1).shape
  unfold maxLen at hcm5
  have HRL := Lib.hid (own_rdB ho1)
  have hw1 := hb1.trans (hb2.mono hb1.size)
  have HW1' := Lib.hid hw1
  have HK' := Lib.hid (HK.out.belowV hb2)
  have HK1' := Lib.hid (HK1.out.belowV hb2)
  clear ho1 hL hbl p0 p1 p2 p3 p4 p5 p6 p7 pl
  go_wp2_with fail
  go_loopw [6, 8] (fun u6 u8 wr => ∃ k m : Nat, k ≤ L.length ∧ m ≤ k ∧ u8 = .int .i64 k ∧ u6 = .int .i64 m ∧ Hid (needTo ts L = m + needTo ts (L.drop k)) ∧ Hid (Below w1.heap.size w1 wr)) (fun _ u8 _ => L.length - (intOf u8).toNat)
  case atStart => exact ⟨0, 0, Nat.zero_le _, Nat.le_refl _, rfl, rfl, Lib.hid (by simp), Lib.hid (Below.refl _ _)⟩
  case round =>
    obtain ⟨k, m, hk, hmk, rfl, rfl, HN, HB⟩ := hrel
    have hwr : Below w.heap.size w wr := HW1'.out.trans (HB.out.mono HW1'.out.size)
    have kp := HK'.out.belowV HB.out
    have kt := HK1'.out.belowV HB.out
    have p0 := kp.cell 0
    have p1 := kp.cell 1
    have p2 := kp.cell 2
    have p3 := kp.cell 3
    have p4 := kp.cell 4
    have p5 := kp.cell 5
    have p6 := kp.cell 6
    have p7 := kp.cell 7
    simp only [List.getElem?_toArray, List.getElem?_cons_succ, List.getElem?_cons_zero] at p0 p1 p2 p3 p4 p5 p6 p7
    have pl := kp.lt
    by_cases hlt : k < L.length
    · obtain ⟨b1, o1, _, hv1, _, _, hl1, hc1⟩ := HRL.out.form (by omega) (by omega)
      have hA1 : A5 = some ⟨b1, o1, none⟩ := by injection hv1
      subst hA1
      obtain ⟨y, hy⟩ : ∃ y, y = L[k] := ⟨_, rfl⟩
      have d0 := int_cell HB.out hl1 hc1 hlt y hy
      have hbL : b1 < wr.heap.size := Nat.lt_of_lt_of_le hl1 HB.out.size
      obtain ⟨hy0, hy1⟩ := HBL.out y (by rw [hy]; exact List.getElem_mem hlt)
      have HS := Lib.hid (show needTo ts L = m + ((if (ts.getD y.toNat zeroT).state = 4 then 0 else 1) + needTo ts (L.drop (k + 1))) by rw [HN.out, needTo_drop hlt, ← hy])
      obtain ⟨s, rfl⟩ : ∃ s : Nat, y = s := ⟨y.toNat, by omega⟩
      have hsl : s < ts.length := by omega
      obtain ⟨b3, o3, _, hv3, _, _, hl3, hc3⟩ := HT.out.form (by omega) (by omega)
      have hA3 : (⟨b2, o2, none⟩ : Addr) = ⟨b3, o3, none⟩ := by injection hv3 with e; exact Option.some.inj e
      injection hA3 with e1 e2
      subst e1 e2
      obtain ⟨z, hz⟩ : ∃ z, z = ts[s] := ⟨_, rfl⟩
      obtain ⟨c0, -⟩ := tsk_cells hwr hl3 hc3 hsl z hz
      have hb3 : b2 < wr.heap.size := Nat.lt_of_lt_of_le hl3 hwr.size
      have hzg : (ts.getD (s : Int).toNat zeroT).state = z.state := by rw [Int.toNat_natCast, getD_tsk hsl z hz]
      rw [hzg] at HS
      have hk0' : (0 : Int) ≤ (k : Int) := by omega
      have hk1' : (k : Int) < (L.length : Int) := by omega
      have hs0 : (0 : Int) ≤ (s : Int) := by omega
      have hs1 : (s : Int) < (ts.length : Int) := by omega
      obtain ⟨z0, hz0'⟩ : ∃ z0, z0 = z.state := ⟨_, rfl⟩
      rw [← hz0'] at c0 HS
      have HWR := Lib.hid hwr
      clear hz hz0' hv1 hc1 hv3 hc3 hzg hy HN kt kp hwr
      by_cases e : z0 = 4
      · have HE := Lib.hid (show needTo ts L = m + needTo ts (L.drop (k + 1)) by rw [HS.out, if_pos e, Nat.zero_add])
        subst e
        clear HS
        go_wp2_with fail
        first | refine wp_region_calm_on (by kernel_rfl) (by kernel_rfl) ?_ | refine wp_region_calm_lit (by kernel_rfl) (by kernel_rfl) ?_
        repeat (go_big_quiet_step (fail))
        refine wpQuiet_nil ?_
        intro _ hw'
        obtain ⟨z1, hw''⟩ := hw'
        subst hw''
        go_wp2_with fail
        go_roundw
        case rel => exact ⟨k + 1, m, by omega, by omega, by go_num, by go_num, HE, Lib.hid (Below.calm HB.out HB.out.size)⟩
        case measure => simp [intOf]; omega
      · have HE := Lib.hid (show needTo ts L = (m + 1) + needTo ts (L.drop (k + 1)) by rw [HS.out, if_neg e]; omega)
        have t0 : (z0 == 4) = false := by simp [e]
        have t1 : (z0 != 4) = true := by simp [e]
        clear HS e
        go_wp2_with fail
        first | refine wp_region_calm_on (by kernel_rfl) (by kernel_rfl) ?_ | refine wp_region_calm_lit (by kernel_rfl) (by kernel_rfl) ?_
        repeat (go_big_quiet_step (fail))
        refine wpQuiet_nil ?_
        intro _ hw'
        obtain ⟨z1, hw''⟩ := hw'
        subst hw''
        go_wp2_with fail
        go_roundw
        case rel => exact ⟨k + 1, m + 1, by omega, by omega, by go_num, by go_num, HE, Lib.hid (Below.calm HB.out HB.out.size)⟩
        case measure => simp [intOf]; omega
    · have HE := Lib.hid (show needTo ts L = m by rw [HN.out, List.drop_of_length_le (by omega)]; rfl)
      have HE2 := Lib.hid (show nd = (m : Int) by rw [HND.out, HE.out])
      rw [HE2.out] at HR HTA
      obtain rfl : k = L.length := by omega
      have HWR := Lib.hid hwr
      have r0 := kt.cell 0
      have r1 := kt.cell 1
      have r2 := kt.cell 2
      have r3 := kt.cell 3
      simp only [List.getElem?_toArray, List.getElem?_cons_succ, List.getElem?_cons_zero] at r0 r1 r2 r3
      have rl := kt.lt
      clear hwr kp kt HN HE HE2
      obtain ⟨nd', hnd'⟩ : ∃ q : Int, q = (m : Int) := ⟨_, rfl⟩
      rw [← hnd'] at HR HTA ⊢
      clear hnd'
      have hA := HA.out
      clear HA
      obtain ⟨nd, rfl⟩ : ∃ q : Int, q = nd' := ⟨_, rfl⟩
      by_cases hB : y1 = nd
      rotate_left
      · have t0 : (y1 == nd) = false := by simp [hB]
        have t1 : (y1 != nd) = true := by simp [hB]
        have HG := Lib.hid (show R = false by rw [HR.out]; simp [taskB, hB])
        clear HTA HR hA hB
        go_wp2_with (go_at_call 69; first | ((with_reducible refine (C2.out _).mono ?_); rintro e w2 ⟨rfl, rfl⟩) | ((with_reducible refine (C3.out _).mono ?_); rintro e w2 ⟨rfl, rfl⟩))
        go_ret
        exact ⟨ret_bool HG.out.symm, HWR.out⟩
      · subst hB
        cases hC : inB y2 0 x2 with
        | false =>
          have HG := Lib.hid (show R = false by rw [HR.out]; simp [taskB, hC])
          rw [hC] at C2
          clear HTA HR hA hC
          go_wp2_with (go_at_call 69; first | ((with_reducible refine (C2.out _).mono ?_); rintro e w2 ⟨rfl, rfl⟩) | ((with_reducible refine (C3.out _).mono ?_); rintro e w2 ⟨rfl, rfl⟩))
          go_ret
          exact ⟨ret_bool HG.out.symm, HWR.out⟩
        | true =>
          by_cases hD : y0 = 3
          · subst hD
            cases hF : inB y3 1 1000000000 with
            | false =>
              have HG := Lib.hid (show R = false by rw [HR.out]; simp [taskB, hF])
              rw [hC] at C2
              rw [hF] at C3
              clear HTA HR hA hC hF
              go_wp2_with (go_at_call 69; first | ((with_reducible refine (C2.out _).mono ?_); rintro e w2 ⟨rfl, rfl⟩) | ((with_reducible refine (C3.out _).mono ?_); rintro e w2 ⟨rfl, rfl⟩))
              go_ret
              exact ⟨ret_bool HG.out.symm, HWR.out⟩
            | true =>
              by_cases hG : y1 = 0
              · subst hG
                by_cases hH : 1 ≤ y2
                · have t2 : decide (1 ≤ y2) = true := by simp [hH]
                  have HG := Lib.hid (show R = true by rw [HR.out]; simp [taskB, hF, hA, hC, hH])
                  rw [hC] at C2
                  rw [hF] at C3
                  clear HTA HR hF hA hC
                  go_wp2_with (go_at_call 69; first | ((with_reducible refine (C2.out _).mono ?_); rintro e w2 ⟨rfl, rfl⟩) | ((with_reducible refine (C3.out _).mono ?_); rintro e w2 ⟨rfl, rfl⟩))
                  go_ret
                  exact ⟨ret_bool HG.out.symm, HWR.out⟩
                · have t2 : decide (1 ≤ y2) = false := by simp [hH]
                  have HG := Lib.hid (show R = false by rw [HR.out]; simp [taskB, hF, hA, hC, hH])
                  rw [hC] at C2
                  rw [hF] at C3
                  clear HTA HR hF hA hC hH
                  go_wp2_with (go_at_call 69; first | ((with_reducible refine (C2.out _).mono ?_); rintro e w2 ⟨rfl, rfl⟩) | ((with_reducible refine (C3.out _).mono ?_); rintro e w2 ⟨rfl, rfl⟩))
                  go_ret
                  exact ⟨ret_bool HG.out.symm, HWR.out⟩
              · have t2 : (y1 == 0) = false := by simp [hG]
                have HG := Lib.hid (show R = false by rw [HR.out]; simp [taskB, hF, hA, hC, hG])
                rw [hC] at C2
                rw [hF] at C3
                clear HTA HR hF hA hC hG
                go_wp2_with (go_at_call 69; first | ((with_reducible refine (C2.out _).mono ?_); rintro e w2 ⟨rfl, rfl⟩) | ((with_reducible refine (C3.out _).mono ?_); rintro e w2 ⟨rfl, rfl⟩))
                go_ret
                exact ⟨ret_bool HG.out.symm, HWR.out⟩
          · have t3 : (y0 == 3) = false := by simp [hD]
            have t4 : (y0 != 3) = true := by simp [hD]
            by_cases hF : y3 = 0
            rotate_left
            · have t5 : (y3 == 0) = false := by simp [hF]
              have t6 : (y3 != 0) = true := by simp [hF]
              have HG := Lib.hid (show R = false by rw [HR.out]; simp [taskB, hD, hF])
              rw [hC] at C2
              clear HTA HR hA hC hD hF
              go_wp2_with (go_at_call 69; first | ((with_reducible refine (C2.out _).mono ?_); rintro e w2 ⟨rfl, rfl⟩) | ((with_reducible refine (C3.out _).mono ?_); rintro e w2 ⟨rfl, rfl⟩))
              go_ret
              exact ⟨ret_bool HG.out.symm, HWR.out⟩
            · subst hF
              have hs : y0 = 1 ∨ y0 = 2 ∨ y0 = 4 ∨ y0 = 5 ∨ y0 = 6 := by have := inB_true hA; omega
              clear hD t3 t4
              rcases hs with rfl | rfl | rfl | rfl | rfl
              · by_cases hG : 0 < y1
                · have t2 : decide (0 < y1) = true := by simp [hG]
                  have HG := Lib.hid (show R = true by rw [HR.out]; simp [taskB, hA, hC, hG])
                  rw [hC] at C2
                  clear HTA HR hA hC
                  go_wp2_with (go_at_call 69; first | ((with_reducible refine (C2.out _).mono ?_); rintro e w2 ⟨rfl, rfl⟩) | ((with_reducible refine (C3.out _).mono ?_); rintro e w2 ⟨rfl, rfl⟩))
                  go_ret
                  exact ⟨ret_bool HG.out.symm, HWR.out⟩
                · have t2 : decide (0 < y1) = false := by simp [hG]
                  have HG := Lib.hid (show R = false by rw [HR.out]; simp [taskB, hA, hC, hG])
                  rw [hC] at C2
                  clear HTA HR hA hC hG
                  go_wp2_with (go_at_call 69; first | ((with_reducible refine (C2.out _).mono ?_); rintro e w2 ⟨rfl, rfl⟩) | ((with_reducible refine (C3.out _).mono ?_); rintro e w2 ⟨rfl, rfl⟩))
                  go_ret
                  exact ⟨ret_bool HG.out.symm, HWR.out⟩
              · by_cases hG : y1 = 0
                · subst hG
                  by_cases hH : y2 < x2
                  · have t2 : decide (y2 < x2) = true := by simp [hH]
                    have HG := Lib.hid (show R = true by rw [HR.out]; simp [taskB, hA, hC, hH])
                    rw [hC] at C2
                    clear HTA HR hA hC
                    go_wp2_with (go_at_call 69; first | ((with_reducible refine (C2.out _).mono ?_); rintro e w2 ⟨rfl, rfl⟩) | ((with_reducible refine (C3.out _).mono ?_); rintro e w2 ⟨rfl, rfl⟩))
                    go_ret
                    exact ⟨ret_bool HG.out.symm, HWR.out⟩
                  · have t2 : decide (y2 < x2) = false := by simp [hH]
                    have HG := Lib.hid (show R = false by rw [HR.out]; simp [taskB, hA, hC, hH])
                    rw [hC] at C2
                    clear HTA HR hA hC hH
                    go_wp2_with (go_at_call 69; first | ((with_reducible refine (C2.out _).mono ?_); rintro e w2 ⟨rfl, rfl⟩) | ((with_reducible refine (C3.out _).mono ?_); rintro e w2 ⟨rfl, rfl⟩))
                    go_ret
                    exact ⟨ret_bool HG.out.symm, HWR.out⟩
                · have t2 : (y1 == 0) = false := by simp [hG]
                  have HG := Lib.hid (show R = false by rw [HR.out]; simp [taskB, hA, hC, hG])
                  rw [hC] at C2
                  clear HTA HR hA hC hG
                  go_wp2_with (go_at_call 69; first | ((with_reducible refine (C2.out _).mono ?_); rintro e w2 ⟨rfl, rfl⟩) | ((with_reducible refine (C3.out _).mono ?_); rintro e w2 ⟨rfl, rfl⟩))
                  go_ret
                  exact ⟨ret_bool HG.out.symm, HWR.out⟩
              · skip
                by_cases hG : y1 = 0
                · subst hG
                  by_cases hH : 1 ≤ y2
                  · have t2 : decide (1 ≤ y2) = true := by simp [hH]
                    have HG := Lib.hid (show R = true by rw [HR.out]; simp [taskB, hA, hA, hC, hH])
                    rw [hC] at C2
                    clear HTA HR hA hC
                    go_wp2_with (go_at_call 69; first | ((with_reducible refine (C2.out _).mono ?_); rintro e w2 ⟨rfl, rfl⟩) | ((with_reducible refine (C3.out _).mono ?_); rintro e w2 ⟨rfl, rfl⟩))
                    go_ret
                    exact ⟨ret_bool HG.out.symm, HWR.out⟩
                  · have t2 : decide (1 ≤ y2) = false := by simp [hH]
                    have HG := Lib.hid (show R = false by rw [HR.out]; simp [taskB, hA, hA, hC, hH])
                    rw [hC] at C2
                    clear HTA HR hA hC hH
                    go_wp2_with (go_at_call 69; first | ((with_reducible refine (C2.out _).mono ?_); rintro e w2 ⟨rfl, rfl⟩) | ((with_reducible refine (C3.out _).mono ?_); rintro e w2 ⟨rfl, rfl⟩))
                    go_ret
                    exact ⟨ret_bool HG.out.symm, HWR.out⟩
                · have t2 : (y1 == 0) = false := by simp [hG]
                  have HG := Lib.hid (show R = false by rw [HR.out]; simp [taskB, hA, hA, hC, hG])
                  rw [hC] at C2
                  clear HTA HR hA hC hG
                  go_wp2_with (go_at_call 69; first | ((with_reducible refine (C2.out _).mono ?_); rintro e w2 ⟨rfl, rfl⟩) | ((with_reducible refine (C3.out _).mono ?_); rintro e w2 ⟨rfl, rfl⟩))
                  go_ret
                  exact ⟨ret_bool HG.out.symm, HWR.out⟩
              · skip
                by_cases hG : y1 = 0
                · subst hG
                  by_cases hH : 1 ≤ y2
                  · have t2 : decide (1 ≤ y2) = true := by simp [hH]
                    have HG := Lib.hid (show R = true by rw [HR.out]; simp [taskB, hA, hA, hC, hH])
                    rw [hC] at C2
                    clear HTA HR hA hC
                    go_wp2_with (go_at_call 69; first | ((with_reducible refine (C2.out _).mono ?_); rintro e w2 ⟨rfl, rfl⟩) | ((with_reducible refine (C3.out _).mono ?_); rintro e w2 ⟨rfl, rfl⟩))
                    go_ret
                    exact ⟨ret_bool HG.out.symm, HWR.out⟩
                  · have t2 : decide (1 ≤ y2) = false := by simp [hH]
                    have HG := Lib.hid (show R = false by rw [HR.out]; simp [taskB, hA, hA, hC, hH])
                    rw [hC] at C2
                    clear HTA HR hA hC hH
                    go_wp2_with (go_at_call 69; first | ((with_reducible refine (C2.out _).mono ?_); rintro e w2 ⟨rfl, rfl⟩) | ((with_reducible refine (C3.out _).mono ?_); rintro e w2 ⟨rfl, rfl⟩))
                    go_ret
                    exact ⟨ret_bool HG.out.symm, HWR.out⟩
                · have t2 : (y1 == 0) = false := by simp [hG]
                  have HG := Lib.hid (show R = false by rw [HR.out]; simp [taskB, hA, hA, hC, hG])
                  rw [hC] at C2
                  clear HTA HR hA hC hG
                  go_wp2_with (go_at_call 69; first | ((with_reducible refine (C2.out _).mono ?_); rintro e w2 ⟨rfl, rfl⟩) | ((with_reducible refine (C3.out _).mono ?_); rintro e w2 ⟨rfl, rfl⟩))
                  go_ret
                  exact ⟨ret_bool HG.out.symm, HWR.out⟩
              · skip
                have HG := Lib.hid (show R = true by rw [HR.out]; simp [taskB, hA, hC])
                rw [hC] at C2
                clear HTA HR hA hC
                go_wp2_with (go_at_call 69; first | ((with_reducible refine (C2.out _).mono ?_); rintro e w2 ⟨rfl, rfl⟩) | ((with_reducible refine (C3.out _).mono ?_); rintro e w2 ⟨rfl, rfl⟩))
                go_ret
                exact ⟨ret_bool HG.out.symm, HWR.out⟩

end Go.Proofs.Ytbbjkldkjndfaaa

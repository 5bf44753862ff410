/- OrderOf, the program's and the reference's. -/
import Derived.Test.YtbbjkldkjndfaaaAllIn
import Derived.Test.YtbbjkldkjndfaaaBefore
namespace Go.Proofs.Ytbbjkldkjndfaaa
set_option linter.unusedSimpArgs false
open Go.RowKit Go.ChangeShapes Go.Deep

/-- The length of a slice. -/
def lenOf : Value → Nat
  | .slice _ n _ => n
  | _ => 0
theorem lenOf_own {w : World} {base size n : Nat} {e : TypeId} {u : Value} {xs : List Value} (h : w.ownsRow base e size u n xs) : lenOf u = n := by
  obtain ⟨A, c, rfl, -, -⟩ := (Rd.of_own h).shape
  rfl
theorem ready_ones {E : List Edg} {n : Nat} {out : List Int} {k : Nat} : readyB E n out k = (!(hasB out (k : Int)) && allB (beforeTo E k n) out) := rfl
theorem own_rd {w : World} {base n : Nat} {u : Value} {l : List Int} (h : w.ownsRow base 3 1 u n (intsV l)) : Rd w 1 u l.length (intsV l) := by
  have hn : n = l.length := by have := h.1; simpa [intsV] using this.symm
  subst hn
  exact Rd.of_own h
theorem own_rdB {w : World} {lo hi : Nat} {u : Value} {l : List Int} (h : Own_ints w lo hi u l) : Rd w 1 u l.length (intsV l) := OwnS.rd h

set_option maxHeartbeats 8000000 in
set_option maxRecDepth 100000 in
theorem orderOf_impl (u : Value) (x : Pln) (w : World) (h : Rd_plan w u x) (hn : cost_plan x ≤ 1048576) :
    Calls Try.prog 13 #[.agg #[.int .i64 x.prio, .int .i64 x.most, .int .i64 x.wait, .int .i64 x.tasks, u]] w (GivesI (orderOfR x) w) := by
  have HPL := Lib.hid h
  have hFF : ∃ F, F = planFaultR x := ⟨_, rfl⟩
  obtain ⟨F, hF⟩ := hFF
  obtain ⟨i0, hii, hz0, hz1, hz2⟩ := info_parts Try.infoI64
  obtain ⟨x1, x2, x3, x4, E⟩ := x
  obtain ⟨A, c, rfl, hnc, hcm⟩ := h.form
  simp only at hnc
  unfold maxLen at hcm
  obtain ⟨W0, hW0⟩ : ∃ W0, W0 = w.alloc (.cells #[.int .i64 x1, .int .i64 x2, .int .i64 x3, .int .i64 x4, .slice A E.length c] 26) := ⟨_, rfl⟩
  have hb0 : Below w.heap.size w W0 := by rw [hW0]; exact (Below.refl _ _).alloc (Nat.le_refl _) _
  have k0 : Blk W0 w.heap.size 26 #[.int .i64 x1, .int .i64 x2, .int .i64 x3, .int .i64 x4, .slice A E.length c] := by rw [hW0]; exact Blk.new _ _ _
  have HK := Lib.hid k0
  have HW := Lib.hid hW0
  have CP := Lib.hid (planFault_impl _ ⟨x1, x2, x3, x4, E⟩ W0 (HPL.out.below hb0) hn)
  rw [← hF] at CP
  clear k0 hW0 h
  by_cases h0 : F = 0
  rotate_left
  · have HR := Lib.hid (show orderOfR ⟨x1, x2, x3, x4, E⟩ = [] by rw [orderOfR, ← hF, if_neg h0])
    have t0 : (F == 0) = false := by simp [h0]
    have t1 : (F != 0) = true := by simp [h0]
    clear hF h0
    go_enter Try.func13, Try.ntmps13
    go_wp2_with fail
    rw [← HW.out]
    refine CP.out.mono ?_
    rintro e w1 ⟨rfl, hb1⟩
    go_wp2_with fail
    go_ret
    rw [HR.out]
    exact givesI_nil (hb0.trans (hb1.mono hb0.size))
  · have hz := fault_zero (hF.symm.trans h0)
    have hmm := many_false hz.1
    obtain ⟨hx0, hx1, hE, -⟩ := hmm
    have ho := hz.2.1
    have hcy := hz.2.2.2
    simp only at hx0 hx1 hE ho hcy
    obtain ⟨n, rfl⟩ : ∃ n : Nat, x4 = n := ⟨x4.toNat, by omega⟩
    have HRR := Lib.hid (show orderOfR ⟨x1, x2, x3, n, E⟩ = orderAt E n n by rw [orderOfR, ← hF, h0, if_pos rfl]; rfl)
    have HB4 := Lib.hid (fun (t : Int) => show beforeOfR ⟨x1, x2, x3, n, E⟩ t = beforeTo E t n by rw [beforeOfR, ← hF, h0, if_pos rfl]; rfl)
    have HI := Lib.hid (outB_inside ho)
    have HC := Lib.hid (show cycTo E n = false from hcy)
    have CB := Lib.hid (fun (t : Int) W (hW : Below w.heap.size w W) => beforeOf_impl _ ⟨x1, x2, x3, n, E⟩ t W (HPL.out.below hW) hn)
    rw [h0] at CP
    clear hF h0 hz ho hcy
    go_enter Try.func13, Try.ntmps13
    go_wp2_with fail
    rw [← HW.out]
    refine CP.out.mono ?_
    rintro e w1 ⟨rfl, hb1⟩
    go_wp2_with fail
    go_loopw [3] (fun u3 wr => ∃ j : Nat, j ≤ n ∧ Hid (wr.ownsRow W0.heap.size 3 1 u3 j (intsV (orderAt E n j))) ∧ Hid (Below W0.heap.size W0 wr)) (fun u3 _ => n - (lenOf u3))
    case atStart => exact ⟨0, Nat.zero_le _, Lib.hid own_nil, Lib.hid hb1⟩
    case round =>
      clear hb1
      obtain ⟨j, hj, HOWN, HB⟩ := hrel
      have hw : Below w.heap.size w wr := hb0.trans (HB.out.mono hb0.size)
      have kp := HK.out.belowV HB.out
      have p0 := kp.cell 0
      have p1 := kp.cell 1
      have p2 := kp.cell 2
      have p3 := kp.cell 3
      have p4 := kp.cell 4
      simp only [List.getElem?_toArray, List.getElem?_cons_succ, List.getElem?_cons_zero] at p0 p1 p2 p3 p4
      have hpl := kp.lt
      clear kp
      obtain ⟨A3, c3, rfl, hnc3, hcm3⟩ := (Rd.of_own HOWN.out).shape
      unfold maxLen at hcm3
      by_cases hlt : j < n
      · have HN := Lib.hid (orderAt_ready HI.out HC.out hlt)
        obtain ⟨o, hoo⟩ : ∃ o, o = orderAt E n j := ⟨_, rfl⟩
        have HO := Lib.hid hoo
        rw [← hoo] at HOWN HN
        go_wp2
        clear p0 p1 p2 p3 p4 hpl hw
        go_loopw [3, 4] (fun u3 u4 wr => ∃ k : Nat, k ≤ n ∧ u3 = .slice A3 j c3 ∧ u4 = .int .i64 k ∧ Hid (nextT E n o = firstG (readyB E n o) (n - k) k) ∧ Hid (wr.ownsRow W0.heap.size 3 1 (.slice A3 j c3) j (intsV o)) ∧ Hid (Below W0.heap.size W0 wr)) (fun _ u4 _ => n - (intOf u4).toNat)
        case atStart => exact ⟨0, Nat.zero_le _, rfl, rfl, Lib.hid rfl, HOWN, HB⟩
        case round =>
          clear HOWN HB
          obtain ⟨k, hk, rfl, rfl, HF, HOWN, HB⟩ := hrel
          have hw : Below w.heap.size w wr := hb0.trans (HB.out.mono hb0.size)
          have kp := HK.out.belowV HB.out
          have p0 := kp.cell 0
          have p1 := kp.cell 1
          have p2 := kp.cell 2
          have p3 := kp.cell 3
          have p4 := kp.cell 4
          simp only [List.getElem?_toArray, List.getElem?_cons_succ, List.getElem?_cons_zero] at p0 p1 p2 p3 p4
          have hpl := kp.lt
          have HK1 := Lib.hid kp
          clear kp
          by_cases hltk : k < n
          · have CC := Lib.hid (contInt_any _ o k wr (own_rd HOWN.out))
            have HS := Lib.hid (show nextT E n o = if readyB E n o k = true then k else firstG (readyB E n o) (n - (k + 1)) (k + 1) by
              rw [HF.out, show n - k = (n - (k + 1)) + 1 by omega]; rfl)
            have HB2 := Lib.hid (fun W (hW : Below wr.heap.size wr W) => HB.out.trans (hW.mono HB.out.size))
            cases h1 : hasB o (k : Int) with
            | true =>
              have HG := Lib.hid (show nextT E n o = firstG (readyB E n o) (n - (k + 1)) (k + 1) by rw [HS.out, ready_ones, h1]; rfl)
              rw [h1] at CC
              clear h1 hw
              go_wp2_with fail
              refine CC.out.mono ?_
              rintro e w2 ⟨rfl, hb2⟩
              go_wp2_with fail
              go_roundw
              case rel => exact ⟨k + 1, by omega, rfl, by go_num, HG, Lib.hid (own_below HOWN.out hb2), Lib.hid (HB2.out _ hb2)⟩
              case measure => simp [intOf]; omega
            | false =>
              rw [h1] at CC
              have HRD := Lib.hid (show readyB E n o k = allB (beforeTo E k n) o by rw [ready_ones, h1]; rfl)
              clear h1
              obtain ⟨bw, hbw⟩ : ∃ bw, bw = allB (beforeTo E k n) o := ⟨_, rfl⟩
              have HBW := Lib.hid hbw
              rw [← hbw] at HRD
              clear hbw
              go_wp2_with fail
              refine CC.out.mono ?_
              rintro e w2 ⟨rfl, hb2⟩
              have hw2 := hw.trans (hb2.mono hw.size)
              clear p0 p1 p2 p3 p4 hpl
              have kp := HK1.out.belowV hb2
              have p0 := kp.cell 0
              have p1 := kp.cell 1
              have p2 := kp.cell 2
              have p3 := kp.cell 3
              have p4 := kp.cell 4
              simp only [List.getElem?_toArray, List.getElem?_cons_succ, List.getElem?_cons_zero] at p0 p1 p2 p3 p4
              have hpl := kp.lt
              clear kp
              go_wp2_with fail
              refine (CB.out k _ hw2).mono ?_
              rw [HB4.out]
              rintro e w3 ⟨v3, rfl, ho3, hb3⟩
              have hb23 := hb2.trans (hb3.mono hb2.size)
              have CA := Lib.hid (allIn_any v3 (.slice A3 j c3) (beforeTo E k n) o w3 (own_rdB ho3) (own_rd (own_below HOWN.out hb23)))
              rw [← HBW.out] at CA
              have HB23 := Lib.hid hb23
              clear p0 p1 p2 p3 p4 ho3 hb23
              go_wp2_with fail
              refine CA.out.mono ?_
              rintro e w4 ⟨rfl, hb4⟩
              have hb24 := HB23.out.trans (hb4.mono HB23.out.size)
              have hownE := own_below HOWN.out hb24
              have hbE := HB2.out _ hb24
              cases bw with
              | true =>
                have HG := Lib.hid (show nextT E n o = k by rw [HS.out, HRD.out]; rfl)
                clear hw hw2
                go_wp2_with ((at_builtin; refine wpList_append_new rfl _ _ _ rfl _ _ i0 _ 1 8 Try.underlying28 hii hz0 hz1 hz2 rfl (by decide) _  j _ rfl ( hownE) ( hbE) (Below.size ( hbE)) _ 1 1 (by first | rfl | (refine slice_at_eq ?_; simp [World.setCell]; done)) rfl (by intro u hu; simp at hu; subst hu; rfl) ⟨by omega, by omega⟩ ?_; intro v1 w1 hown1 hb1 hg1 hat1; have HO1 := Lib.hid hown1; have HB1 := Lib.hid hb1; clear hown1 hb1 hg1 hat1))
                go_roundw
                case rel => exact ⟨j + 1, by omega, by
                  have e1 : orderAt E n (j + 1) = o ++ [(k : Int)] := by rw [orderAt, ← HO.out, HG.out]
                  rw [e1]; exact Lib.hid (own_push HO1.out), HB1⟩
                case measure =>
                  have e1 := lenOf_own HO1.out
                  have e2 : lenOf (.slice A3 j c3) = j := rfl
                  rw [e1, e2]; omega
              | false =>
                have HG := Lib.hid (show nextT E n o = firstG (readyB E n o) (n - (k + 1)) (k + 1) by rw [HS.out, HRD.out]; rfl)
                have HOE := Lib.hid hownE
                have HBE := Lib.hid hbE
                clear hw hw2 hownE hbE
                go_wp2_with fail
                go_roundw
                case rel => exact ⟨k + 1, by omega, rfl, by go_num, HG, HOE, HBE⟩
                case measure => simp [intOf]; omega
          · have := HF.out
            rw [show n - k = 0 by omega, firstG] at this
            have := HN.out.1
            omega
      · obtain rfl : j = n := by omega
        go_wp2
        go_ret
        rw [HRR.out]
        exact givesI hb0 HB.out HOWN.out

set_option maxHeartbeats 8000000 in
set_option maxRecDepth 100000 in
theorem orderOf_spec (u : Value) (x : Pln) (w : World) (h : Rd_plan w u x) (hn : cost_plan x ≤ 1048576) :
    Calls Try.prog 17 #[.agg #[.int .i64 x.prio, .int .i64 x.most, .int .i64 x.wait, .int .i64 x.tasks, u]] w (GivesI (orderOfR x) w) := by
  have HPL := Lib.hid h
  have hFF : ∃ F, F = planFaultR x := ⟨_, rfl⟩
  obtain ⟨F, hF⟩ := hFF
  obtain ⟨i0, hii, hz0, hz1, hz2⟩ := info_parts Try.infoI64
  obtain ⟨x1, x2, x3, x4, E⟩ := x
  obtain ⟨A, c, rfl, hnc, hcm⟩ := h.form
  simp only at hnc
  unfold maxLen at hcm
  obtain ⟨W0, hW0⟩ : ∃ W0, W0 = w.alloc (.cells #[.int .i64 x1, .int .i64 x2, .int .i64 x3, .int .i64 x4, .slice A E.length c] 26) := ⟨_, rfl⟩
  have hb0 : Below w.heap.size w W0 := by rw [hW0]; exact (Below.refl _ _).alloc (Nat.le_refl _) _
  have k0 : Blk W0 w.heap.size 26 #[.int .i64 x1, .int .i64 x2, .int .i64 x3, .int .i64 x4, .slice A E.length c] := by rw [hW0]; exact Blk.new _ _ _
  obtain ⟨W1, hW1⟩ : ∃ W1, W1 = W0.alloc (.cells #[] 3) := ⟨_, rfl⟩
  have hb1 : Below W0.heap.size W0 W1 := by rw [hW1]; exact (Below.refl _ _).alloc (Nat.le_refl _) _
  have ow1 : W1.ownsRow W0.heap.size 3 1 (.slice (some ⟨w.heap.size + 1, 0, none⟩) 0 0) 0 [] := by rw [hW1]; exact made0 (by rw [hW0]; simp) (by rw [hW0]; simp)
  have HK := Lib.hid k0
  have HOW1 := Lib.hid ow1
  have HW := Lib.hid hW0
  have HW1 := Lib.hid hW1
  have hw1 := hb0.trans (hb1.mono hb0.size)
  have CP := Lib.hid (planFault_spec _ ⟨x1, x2, x3, x4, E⟩ W1 (HPL.out.below hw1) hn)
  have kp := k0.belowV hb1
  have p0 := kp.cell 0
  have p1 := kp.cell 1
  have p2 := kp.cell 2
  have p3 := kp.cell 3
  have p4 := kp.cell 4
  simp only [List.getElem?_toArray, List.getElem?_cons_succ, List.getElem?_cons_zero] at p0 p1 p2 p3 p4
  have hpl := kp.lt
  rw [← hF] at CP
  clear k0 hW0 h kp hW1 ow1
  by_cases h0 : F = 0
  rotate_left
  · have HR := Lib.hid (show orderOfR ⟨x1, x2, x3, x4, E⟩ = [] by rw [orderOfR, ← hF, if_neg h0])
    have t0 : (F == 0) = false := by simp [h0]
    have t1 : (F != 0) = true := by simp [h0]
    clear hF h0
    go_enter Try.func17, Try.ntmps17
    go_wp2_with fail
    rw [← HW.out, ← HW1.out]
    refine CP.out.mono ?_
    rintro e w2 ⟨rfl, hb2⟩
    go_wp2_with fail
    go_ret
    rw [HR.out]
    exact givesI hb0 (hb1.trans (hb2.mono hb1.size)) (own_below HOW1.out hb2)
  · have hz := fault_zero (hF.symm.trans h0)
    have hmm := many_false hz.1
    obtain ⟨hx0, hx1, hE, -⟩ := hmm
    have hm := hz.1
    have ho := hz.2.1
    have hcy := hz.2.2.2
    simp only at hx0 hx1 hE ho hcy
    obtain ⟨n, rfl⟩ : ∃ n : Nat, x4 = n := ⟨x4.toNat, by omega⟩
    have HRR := Lib.hid (show orderOfR ⟨x1, x2, x3, n, E⟩ = orderAt E n n by rw [orderOfR, ← hF, h0, if_pos rfl]; rfl)
    have HI := Lib.hid (outB_inside ho)
    have HC := Lib.hid (show cycTo E n = false from hcy)
    have CB := Lib.hid (fun (t : Int) W (hW : Below w.heap.size w W) => l06Before_any _ ⟨x1, x2, x3, n, E⟩ t W (HPL.out.below hW) hm)
    simp only [Int.toNat_natCast] at CB
    have hmk := fun W => run_make_row' (P := Try.prog) 76 4 (.bool false) 1 Try.underlying76 Try.infoBool rfl .i64 .i64 n (by omega) (by omega) W
    have HMK := Lib.hid hmk
    rw [h0] at CP
    clear hF h0 hz ho hcy hm hmk
    go_enter Try.func17, Try.ntmps17
    go_wp2_with fail
    rw [← HW.out, ← HW1.out]
    refine CP.out.mono ?_
    rintro e w2 ⟨rfl, hb2⟩
    clear p0 p1 p2 p3 p4 hpl
    have kp := (HK.out.belowV hb1).belowV hb2
    have p0 := kp.cell 0
    have p1 := kp.cell 1
    have p2 := kp.cell 2
    have p3 := kp.cell 3
    have p4 := kp.cell 4
    simp only [List.getElem?_toArray, List.getElem?_cons_succ, List.getElem?_cons_zero] at p0 p1 p2 p3 p4
    have hpl := kp.lt
    have hmk := HMK.out
    have hw2 := hw1.trans (hb2.mono hw1.size)
    have hB2 : Below W0.heap.size W0 w2 := hb1.trans (hb2.mono hb1.size)
    have HOW2 := Lib.hid (own_below HOW1.out hb2)
    have hfar : Far w2.heap.size (w2.heap.size + 1) (.slice (some ⟨w.heap.size + 1, 0, none⟩) 0 0) := fun g hg => by
      have : w.heap.size + 1 = g := by simpa [Value.ownBlock] using hg
      have h1 := hb2.size
      have h2 : W0.heap.size + 1 = W1.heap.size := by rw [HW1.out]; simp
      have h3 : w.heap.size + 1 = W0.heap.size := by rw [HW.out]; simp
      left; omega
    have HFAR := Lib.hid hfar
    clear kp hfar
    go_wp2_with fail
    clear p0 p1 p2 p3 p4 hpl hmk
    go_loopw [3] (fun u3 wr => ∃ j : Nat, j ≤ n ∧ Hid (wr.ownsRow W0.heap.size 3 1 u3 j (intsV (orderAt E n j))) ∧ Hid (Below W0.heap.size W0 wr) ∧ Hid (wr.rowIs w2.heap.size 4 n (fun i => .bool (hasB (orderAt E n j) (i : Int)))) ∧ Hid (Far w2.heap.size (w2.heap.size + 1) u3)) (fun u3 _ => n - (lenOf u3))
    case atStart =>
      refine ⟨0, Nat.zero_le _, ?_, ?_, ?_, HFAR⟩
      · exact Lib.hid (own_below HOW2.out ((Below.refl _ _).alloc (Nat.le_refl _) _))
      · exact Lib.hid (hB2.alloc hB2.size _)
      · exact Lib.hid ((rowIs_made_at rfl).congr (fun i hi => rfl))
    case round =>
      clear HFAR HOW2
      obtain ⟨j, hj, HOWN, HB, HROW, HFAR⟩ := hrel
      have hw : Below w.heap.size w wr := hb0.trans (HB.out.mono hb0.size)
      have kp := HK.out.belowV HB.out
      have p0 := kp.cell 0
      have p1 := kp.cell 1
      have p2 := kp.cell 2
      have p3 := kp.cell 3
      have p4 := kp.cell 4
      simp only [List.getElem?_toArray, List.getElem?_cons_succ, List.getElem?_cons_zero] at p0 p1 p2 p3 p4
      have hpl := kp.lt
      clear kp
      obtain ⟨A3, c3, rfl, hnc3, hcm3⟩ := (Rd.of_own HOWN.out).shape
      unfold maxLen at hcm3
      by_cases hlt : j < n
      · have HN := Lib.hid (orderAt_ready HI.out HC.out hlt)
        have HMM := Lib.hid (orderAt_mem HI.out HC.out hj)
        obtain ⟨o, hoo⟩ : ∃ o, o = orderAt E n j := ⟨_, rfl⟩
        have HO := Lib.hid hoo
        rw [← hoo] at HOWN HN HROW HMM
        go_wp2
        clear p0 p1 p2 p3 p4 hpl hw
        go_loopw [3, 5] (fun u3 u5 wr => ∃ k : Nat, k ≤ n ∧ u3 = .slice A3 j c3 ∧ u5 = .int .i64 k ∧ Hid (nextT E n o = firstG (readyB E n o) (n - k) k) ∧ Hid (wr.ownsRow W0.heap.size 3 1 (.slice A3 j c3) j (intsV o)) ∧ Hid (Below W0.heap.size W0 wr) ∧ Hid (wr.rowIs w2.heap.size 4 n (fun i => .bool (hasB o (i : Int))))) (fun _ u5 _ => n - (intOf u5).toNat)
        case atStart => exact ⟨0, Nat.zero_le _, rfl, rfl, Lib.hid rfl, HOWN, HB, HROW⟩
        case round =>
          clear HOWN HB HROW
          obtain ⟨k, hk, rfl, rfl, HF, HOWN, HB, HROW⟩ := hrel
          have hw : Below w.heap.size w wr := hb0.trans (HB.out.mono hb0.size)
          have kp := HK.out.belowV HB.out
          have p0 := kp.cell 0
          have p1 := kp.cell 1
          have p2 := kp.cell 2
          have p3 := kp.cell 3
          have p4 := kp.cell 4
          simp only [List.getElem?_toArray, List.getElem?_cons_succ, List.getElem?_cons_zero] at p0 p1 p2 p3 p4
          have hpl := kp.lt
          have HK1 := Lib.hid kp
          clear kp
          by_cases hltk : k < n
          · have HS := Lib.hid (show nextT E n o = if readyB E n o k = true then k else firstG (readyB E n o) (n - (k + 1)) (k + 1) by
              rw [HF.out, show n - k = (n - (k + 1)) + 1 by omega]; rfl)
            have HB2 := Lib.hid (fun W (hW : Below wr.heap.size wr W) => HB.out.trans (hW.mono HB.out.size))
            have s0 := HROW.out.cell (i := k) hltk
            have hrl := HROW.out.lt
            obtain ⟨bk, hbk⟩ : ∃ bk, bk = hasB o (k : Int) := ⟨_, rfl⟩
            have HBK := Lib.hid hbk
            rw [← hbk] at s0
            have hk0 : (0 : Int) ≤ (k : Int) := by omega
            have hk1 : (k : Int) < (n : Int) := by omega
            clear hbk
            go_wp2_with fail
            refine (CB.out k _ hw).mono ?_
            rintro e w3 ⟨v3, rfl, ho3, hb3⟩
            obtain ⟨L, hL⟩ : ∃ L, L = beforeTo E k n := ⟨_, rfl⟩
            rw [← hL] at ho3
            obtain ⟨A7, c7, rfl, hnc7, hcm7⟩ := (own_rdB ho3).shape
            have HRD := Lib.hid (own_rdB ho3)
            have hll : L.length ≤ 30 := by rw [hL]; have := before_len HI.out (k : Int); omega
            have HLM := Lib.hid (show ∀ y ∈ L, 0 ≤ y ∧ y < n from fun y hy => beforeTo_mem (by rw [← hL]; exact hy))
            have hb3' := HB2.out _ hb3
            have HBB := Lib.hid hb3'
            have HOWN3 := Lib.hid (own_below HOWN.out hb3)
            have HROW3 := Lib.hid (HROW.out.of_block (hb3.block _ hrl))
            have HLL := Lib.hid hL
            unfold maxLen at hcm7
            clear p0 p1 p2 p3 p4 hpl s0 hL ho3 hw hb3' hrl
            go_wp2_with fail
            go_loop [6, 8] (fun u6 u8 => ∃ i : Nat, i ≤ L.length ∧ u8 = .int .i64 i ∧ u6 = .bool (!bk && allB (L.take i) o)) (fun _ u8 => L.length - (intOf u8).toNat)
            case atStart => exact ⟨0, Nat.zero_le _, rfl, by cases bk <;> rfl⟩
            case round =>
              obtain ⟨i, hi, rfl, rfl⟩ := hrel
              by_cases hlti : i < L.length
              · obtain ⟨b7, o7, _, hv7, _, _, hl7, hc7⟩ := HRD.out.form (by omega) (by omega)
                have hA7 : A7 = some ⟨b7, o7, none⟩ := by injection hv7
                subst hA7
                obtain ⟨y, hy⟩ : ∃ y, y = L[i] := ⟨_, rfl⟩
                have d0 := int_cell (Below.refl _ _) hl7 hc7 hlti y hy
                have hyb := HLM.out y (by rw [hy]; exact List.getElem_mem hlti)
                obtain ⟨hy0, hy1⟩ := hyb
                have HT := Lib.hid (show allB (L.take (i + 1)) o = (allB (L.take i) o && hasB o y) by
                  unfold allB
                  rw [List.take_succ_eq_append_getElem hlti, List.all_append, ← hy]
                  simp)
                obtain ⟨yn, rfl⟩ : ∃ yn : Nat, y = yn := ⟨y.toNat, by omega⟩
                have s1 := HROW3.out.cell (i := yn) (by omega)
                have hrl := HROW3.out.lt
                have hi0 : (0 : Int) ≤ (i : Int) := by omega
                have hi1 : (i : Int) < (L.length : Int) := by omega
                obtain ⟨q, hq⟩ : ∃ q, q = hasB o (yn : Int) := ⟨_, rfl⟩
                rw [← hq] at s1 HT
                obtain ⟨p, hp⟩ : ∃ p, p = (!bk && allB (L.take i) o) := ⟨_, rfl⟩
                have HP := Lib.hid (show (!bk && allB (L.take (i + 1)) o) = (p && q) by rw [HT.out, hp]; cases bk <;> simp)
                rw [← hp]
                clear hv7 hc7 hy hq hp HT
                cases p with
                | true =>
                  go_wp2
                  go_round
                  case rel => exact ⟨i + 1, by omega, by go_num, by rw [HP.out]; rfl⟩
                  case measure => simp [intOf]; omega
                | false =>
                  go_wp2
                  go_round
                  case rel => exact ⟨i + 1, by omega, by go_num, by rw [HP.out]; rfl⟩
                  case measure => simp [intOf]; omega
              · have HRY := Lib.hid (show readyB E n o k = (!bk && allB (L.take i) o) by rw [ready_ones, ← HBK.out, ← HLL.out, List.take_of_length_le (by omega)])
                obtain ⟨p, hp⟩ : ∃ p, p = (!bk && allB (L.take i) o) := ⟨_, rfl⟩
                rw [← hp] at HRY ⊢
                clear hp
                cases p with
                | true =>
                  have HG := Lib.hid (show nextT E n o = k by rw [HS.out, HRY.out]; rfl)
                  have s1 := HROW3.out.cell (i := k) (by omega)
                  have z1 := HROW3.out.frozen k
                  have hrl := HROW3.out.lt
                  have hHL := HBB.out.size
                  have HS2 := Lib.hid (own_grown HOWN3.out (only_setCell (World.grownBy.refl w3 (some w2.heap.size)) (p := ⟨w2.heap.size, k, none⟩) (.inl rfl) (.bool true)) (.inr (fun e => (HFAR.out.ne (b := w2.heap.size) (Nat.le_refl _) (Nat.lt_succ_self _)) e.symm)))
                  have HBS := Lib.hid (HBB.out.setCell (p := ⟨w2.heap.size, k, none⟩) hB2.size (.bool true))
                  have hbs := HBS.out.size
                  go_wp2_with ((at_builtin; refine wpList_append_new rfl _ _ _ rfl _ _ i0 _ 1 8 Try.underlying28 hii hz0 hz1 hz2 rfl (by decide) _  j _ rfl ( HS2.out) ( HBS.out) (Below.size ( HBS.out)) _ 1 1 (by first | rfl | (refine slice_at_eq ?_; simp [World.setCell]; done)) rfl (by intro u hu; simp at hu; subst hu; rfl) ⟨by omega, by omega⟩ ?_; intro v1 w1 hown1 hb1 hg1 hat1; have HO1 := Lib.hid hown1; have HB1 := Lib.hid hb1; have HG1 := Lib.hid hg1; have HA1 := Lib.hid hat1; clear hown1 hb1 hg1 hat1))
                  go_roundw
                  case rel =>
                    have e1 : orderAt E n (j + 1) = o ++ [(k : Int)] := by rw [orderAt, ← HO.out, HG.out]
                    refine ⟨j + 1, by omega, by rw [e1]; exact Lib.hid (own_push HO1.out), HB1, ?_, ?_⟩
                    · rw [e1]
                      have hrow := HROW3.out.set k (.bool true)
                      have hne : some w2.heap.size ≠ (Value.slice A3 j c3).ownBlock := HFAR.out.ne (Nat.le_refl _) (Nat.lt_succ_self _)
                      refine Lib.hid (((hrow.of_block (Below.heap_alloc _ (.cells #[.int .i64 k] 3) _ (by simp [World.setCell]; omega))).of_block (HG1.out.block _ (by simp [World.setCell]; omega) hne)).congr (fun i hi => ?_))
                      have e2 : hasB (o ++ [(k : Int)]) (i : Int) = (hasB o (i : Int) || (i : Int) == (k : Int)) := by unfold hasB; rw [List.contains_eq_any_beq, List.contains_eq_any_beq, List.any_append]; simp
                      rw [e2]
                      by_cases e : i = k
                      · rw [if_pos e, e]; simp
                      · rw [if_neg e, show ((i : Int) == (k : Int)) = false by simp; omega, Bool.or_false]
                    · exact Lib.hid (HFAR.out.step HA1.out (by simp [World.setCell]; omega))
                  case measure =>
                    have e1 := lenOf_own HO1.out
                    have e2 : lenOf (.slice A3 j c3) = j := rfl
                    rw [e1, e2]; omega
                | false =>
                  have HG := Lib.hid (show nextT E n o = firstG (readyB E n o) (n - (k + 1)) (k + 1) by rw [HS.out, HRY.out]; rfl)
                  go_wp2_with fail
                  go_roundw
                  case rel => exact ⟨k + 1, by omega, rfl, by go_num, HG, HOWN3, HBB, HROW3⟩
                  case measure => simp [intOf]; omega
          · have := HF.out
            rw [show n - k = 0 by omega, firstG] at this
            have := HN.out.1
            omega
      · obtain rfl : j = n := by omega
        go_wp2
        go_ret
        rw [HRR.out]
        exact givesI hb0 HB.out HOWN.out
end Go.Proofs.Ytbbjkldkjndfaaa

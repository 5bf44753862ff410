/- The walk of the law FnOrders. -/
import Derived.Test.YtbbjkldkjndfaaaDrawPl
import Derived.Test.YtbbjkldkjndfaaaOrdersL
import Derived.Test.YtbbjkldkjndfaaaSameI
import Derived.Test.YtbbjkldkjndfaaaOrder
import Derived.Test.YtbbjkldkjndfaaaDepth
import Derived.Test.YtbbjkldkjndfaaaRanks
import Derived.Test.YtbbjkldkjndfaaaInOrder
import Derived.Test.YtbbjkldkjndfaaaSchedT
import Derived.Test.YtbbjkldkjndfaaaBig
namespace Go.Proofs.Ytbbjkldkjndfaaa
set_option linter.unusedSimpArgs false
set_option linter.unusedVariables false
open Go.RowKit Go.ChangeShapes Go.Deep

theorem all_len' (D : List Int) : ∀ d, (allTo D d).length ≤ d * D.length
  | 0 => Nat.zero_le _
  | d + 1 => by
    have h1 := all_len' D d
    have h2 := rank_len D d
    rw [allTo, List.length_append, Nat.succ_mul]
    omega
/-- A plan, its tasks counted by a Nat. -/
def pl (a b c : Int) (n : Nat) (E : List Edg) : Pln := ⟨a, b, c, n, E⟩

set_option maxHeartbeats 16000000 in
set_option maxRecDepth 100000 in
theorem walk_FnOrders (v0 : Value) (w : World) (a0 : ArgBytes w v0) :
    Calls Try.prog 3 #[v0] w fun e w' => e = .returned (.bool true) ∧ Below w.heap.size w w' := by
  obtain ⟨code, hrd⟩ := a0
  by_cases hbig : code.length ≤ 1048576
  · have CB := Lib.hid (big_f w v0 code hrd hbig)
    have CD := Lib.hid (fun W (hW : Below w.heap.size w W) => drawPlan_any W v0 code (hrd.below hW) hbig)
    have hgood := planDraw_good code
    obtain ⟨X, hX⟩ : ∃ X, X = planDraw code := ⟨_, rfl⟩
    rw [← hX] at CD hgood
    have hright := good_right hgood
    have hcnt := hright.cnt
    have hE9 := hgood.edges.len
    obtain ⟨x1, x2, x3, x4, E⟩ := X
    obtain ⟨n, rfl⟩ : ∃ n : Nat, x4 = n := ⟨x4.toNat, by have := hcnt; simp only at this; omega⟩
    have HPR := Lib.hid (show PlanRight (pl x1 x2 x3 n E) from hright)
    have HGD := Lib.hid (show PlanGood (pl x1 x2 x3 n E) from hgood)
    have hn1 : 1 ≤ n := by have := hcnt.1; simp only at this; omega
    have hn2 : n ≤ 12 := by have := hcnt.2; simp only at this; omega
    have hEl : E.length ≤ 9 := by simpa using hE9
    have hcost : cost_plan (pl x1 x2 x3 n E) ≤ 1048576 := by show E.length ≤ _; omega
    have HCD := Lib.hid (show ∀ W, Below w.heap.size w W → Calls Try.prog 12 #[v0] W (GivesP (pl x1 x2 x3 n E) W) from CD.out)
    obtain ⟨i0, hii, hz0, hz1, hz2⟩ := info_parts Try.infoI64
    clear hX hrd hgood hright hcnt hE9 CD
    go_enter Try.func3, Try.ntmps3
    go_wp2_with fail
    refine CB.out.mono ?_
    rintro e w0 ⟨rfl, rfl⟩
    go_wp2_with fail
    refine (HCD.out _ (Below.refl _ _)).mono ?_
    rintro e w1 ⟨u1, rfl, ho1, hb1⟩
    obtain ⟨A1, c1, rfl⟩ := ho1.form
    have HO1 := Lib.hid ho1
    obtain ⟨W2, hW2⟩ : ∃ W, W = w1.alloc (.cells #[.int .i64 x1, .int .i64 x2, .int .i64 x3, .int .i64 n, .slice A1 E.length c1] 26) := ⟨_, rfl⟩
    have h12 : Below w1.heap.size w1 W2 := by rw [hW2]; exact (Below.refl _ _).alloc (Nat.le_refl _) _
    have HW2 := Lib.hid hW2
    have kp2 : Blk W2 w1.heap.size 26 #[.int .i64 x1, .int .i64 x2, .int .i64 x3, .int .i64 n, .slice A1 E.length c1] := by rw [hW2]; exact Blk.new _ _ _
    have HKP2 := Lib.hid kp2
    have hw2 : Below w.heap.size w W2 := hb1.trans (h12.mono hb1.size)
    clear hW2 ho1 kp2
    dsimp only [pl]
    go_wp2_with fail
    rw [← HW2.out]
    refine (HCD.out _ hw2).mono ?_
    rintro e w3 ⟨u3, rfl, ho3, hb3⟩
    obtain ⟨A3, c3, rfl⟩ := ho3.form
    obtain ⟨W4, hW4⟩ : ∃ W, W = w3.alloc (.cells #[.int .i64 x1, .int .i64 x2, .int .i64 x3, .int .i64 n, .slice A3 E.length c3] 26) := ⟨_, rfl⟩
    have h34 : Below w3.heap.size w3 W4 := by rw [hW4]; exact (Below.refl _ _).alloc (Nat.le_refl _) _
    have kq4 : Blk W4 w3.heap.size 26 #[.int .i64 x1, .int .i64 x2, .int .i64 x3, .int .i64 n, .slice A3 E.length c3] := by rw [hW4]; exact Blk.new _ _ _
    have h24 : Below W2.heap.size W2 W4 := hb3.trans (h34.mono hb3.size)
    have h14 : Below w1.heap.size w1 W4 := h12.trans (h24.mono h12.size)
    have hw4 : Below w.heap.size w W4 := hw2.trans (h24.mono hw2.size)
    have HW4 := Lib.hid hW4
    have HKQ := Lib.hid kq4
    have HKP3 := Lib.hid (HKP2.out.belowV hb3)
    have HKP := Lib.hid (HKP2.out.belowV h24)
    have R1 := Lib.hid (show Rd_plan W4 (.slice A1 E.length c1) (pl x1 x2 x3 n E) from HO1.out.rd.below h14)
    have R3 := Lib.hid (show Rd_plan W4 (.slice A3 E.length c3) (pl x1 x2 x3 n E) from ho3.rd.below h34)
    have HO4 := Lib.hid (Own_plan.below HO1.out h14)
    clear ho3 hW4 kq4
    obtain ⟨bp, hbp⟩ : ∃ bp, bp = w1.heap.size := ⟨_, rfl⟩
    obtain ⟨bq, hbq⟩ : ∃ bq, bq = w3.heap.size := ⟨_, rfl⟩
    rw [← hbp] at HKP
    rw [← hbq] at HKQ
    have HBP := Lib.hid hbp
    have HBQ := Lib.hid hbq
    have hwbp : w.heap.size ≤ bp := by rw [hbp]; exact hb1.size
    clear hbp hbq h12 h34 h24 h14 hb1 hb3 hw2 HKP2 HCD CB
    -- the contracts
    have CO := Lib.hid (show ∀  W, Below W4.heap.size W4 W → Calls Try.prog 13 #[.agg #[.int .i64 x1, .int .i64 x2, .int .i64 x3, .int .i64 n, .slice A1 E.length c1]] W (GivesI (orderOfR (pl x1 x2 x3 n E)) W) from fun  W hW => orderOf_impl _ _ W (R1.out.below hW) hcost)
    have COS := Lib.hid (show ∀  W, Below W4.heap.size W4 W → Calls Try.prog 17 #[.agg #[.int .i64 x1, .int .i64 x2, .int .i64 x3, .int .i64 n, .slice A3 E.length c3]] W (GivesI (orderOfR (pl x1 x2 x3 n E)) W) from fun  W hW => orderOf_spec _ _ W (R3.out.below hW) hcost)
    have CD := Lib.hid (show ∀  W, Below W4.heap.size W4 W → Calls Try.prog 14 #[.agg #[.int .i64 x1, .int .i64 x2, .int .i64 x3, .int .i64 n, .slice A1 E.length c1]] W (GivesI (depthOfR (pl x1 x2 x3 n E)) W) from fun  W hW => depthOf_impl _ _ W (R1.out.below hW) hcost)
    have CDS := Lib.hid (show ∀  W, Below W4.heap.size W4 W → Calls Try.prog 18 #[.agg #[.int .i64 x1, .int .i64 x2, .int .i64 x3, .int .i64 n, .slice A3 E.length c3]] W (GivesI (depthOfR (pl x1 x2 x3 n E)) W) from fun  W hW => depthOf_spec _ _ W (R3.out.below hW) hcost)
    have CK := Lib.hid (show ∀  W, Below W4.heap.size W4 W → Calls Try.prog 15 #[.agg #[.int .i64 x1, .int .i64 x2, .int .i64 x3, .int .i64 n, .slice A1 E.length c1]] W (GivesIss (ranksOfR (pl x1 x2 x3 n E)) W) from fun  W hW => ranksOf_impl _ _ W (R1.out.below hW) hcost)
    have CC := Lib.hid (show ∀ (t : Int) W, Below W4.heap.size W4 W → Calls Try.prog 19 #[.agg #[.int .i64 x1, .int .i64 x2, .int .i64 x3, .int .i64 n, .slice A1 E.length c1], .int .i64 t] W (GivesI (closeOfR (pl x1 x2 x3 n E) t) W) from fun t W hW => closeOf_impl _ _ t W (R1.out.below hW) hcost)
    have CIO := Lib.hid (show ∀ (v : Value) (l : List Int) (W : World), Below W4.heap.size W4 W → Rd W 1 v l.length (intsV l) → l.length ≤ 12 → Calls Try.prog 21 #[.agg #[.int .i64 x1, .int .i64 x2, .int .i64 x3, .int .i64 n, .slice A1 E.length c1], v] W (fun e w' => e = .returned (.bool (inOrderR (pl x1 x2 x3 n E) l)) ∧ Below W.heap.size W w') from fun v l W hW hv hl => inOrder_impl _ _ v l W (R1.out.below hW) hv hcost (by unfold cost_ints; omega))
    have HBF := Lib.hid (Below.refl W4.heap.size W4)
    dsimp only [pl]
    have kp := HKP3.out
    have p0 := kp.cell 0
    have p1 := kp.cell 1
    have p2 := kp.cell 2
    have p3 := kp.cell 3
    have p4 := kp.cell 4
    simp only [List.getElem?_toArray, List.getElem?_cons_succ, List.getElem?_cons_zero] at p0 p1 p2 p3 p4
    have hpl := kp.lt
    clear kp
    go_wp2_with fail
    rw [← HW4.out, ← HBP.out, ← HBQ.out]
    refine (CO.out _ HBF.out).mono ?_
    have holen : (orderOfR (pl x1 x2 x3 n E)).length = n := by rw [right_olen HPR.out]; rfl
    have hdlen : (depthOfR (pl x1 x2 x3 n E)).length = n := by rw [right_dlen HPR.out]; rfl
    obtain ⟨O, hO⟩ : ∃ O, O = orderOfR (pl x1 x2 x3 n E) := ⟨_, rfl⟩
    obtain ⟨D, hD⟩ : ∃ D, D = depthOfR (pl x1 x2 x3 n E) := ⟨_, rfl⟩
    rw [← hO] at holen
    rw [← hD] at hdlen
    have hol1 : O.length ≤ n := by omega
    have hol2 : n ≤ O.length := by omega
    have hdl1 : D.length ≤ n := by omega
    have hdl2 : n ≤ D.length := by omega
    clear holen hdlen
    have HI1 := Lib.hid (show inOrderR (pl x1 x2 x3 n E) O = true by rw [hO]; exact right_oin HPR.out)
    have HI2 := Lib.hid (show inOrderR (pl x1 x2 x3 n E) (allTo D (ranksN D)) = true by rw [hD]; exact right_all HPR.out)
    have HI3 := Lib.hid (show inOrderR (pl x1 x2 x3 n E) (O.drop 1) = false by rw [hO]; exact right_cut HPR.out)
    have HRK := Lib.hid (show ∀ (d : Nat) (y : Int), y ∈ rankAt D d → 0 ≤ y ∧ y < n ∧ D.getD y.toNat 0 = d from fun d y hy => by rw [hD] at hy ⊢; exact right_rank HPR.out hy)
    have HCL := Lib.hid (show ∀ (t : Nat) (y : Int), t < n → y ∈ closeOfR (pl x1 x2 x3 n E) t → 0 ≤ y ∧ y < n ∧ (y = t ∨ D.getD t 0 < D.getD y.toNat 0) from fun t y ht hy => by rw [hD]; exact right_close HPR.out (t := (t : Int)) (by omega) (by show (t : Int) < n; omega) hy)
    have HHR := Lib.hid (show ∀ (t : Nat), t < n → hasB (closeOfR (pl x1 x2 x3 n E) t) (t : Int) = true from fun t ht => right_here HPR.out (by omega) (by show (t : Int) < n; omega))
    have HKD := Lib.hid (show ranksOfR (pl x1 x2 x3 n E) = ranksTo D (ranksN D) by rw [hD]; rfl)
    rw [← hO] at CO COS ⊢
    rw [← hD] at CD CDS
    rw [HKD.out] at CK
    have hNle := ranksN_le D
    have HLEN := Lib.hid (show ∀ d, d ≤ ranksN D → (allTo D d).length ≤ 144 from fun d hd => by
      have h1 := all_len' D d
      have h2 : d * D.length ≤ 12 * 12 := Nat.mul_le_mul (by omega) (by omega)
      omega)
    have hAL := (all_order HPR.out.ins HPR.out.acy).1
    have HALL := Lib.hid (show (allTo D (ranksN D)).length = n by rw [hD, right_depth HPR.out]; exact hAL)
    obtain ⟨N, hN⟩ : ∃ N, N = ranksN D := ⟨_, rfl⟩
    rw [← hN] at CK HI2 hNle HALL HLEN
    clear hO hD hN hAL
    rintro e w5 ⟨u5, rfl, ho5, hb5⟩
    obtain ⟨A5, c5, rfl, hnc5, hcm5⟩ := (ints_rd ho5).shape
    unfold maxLen at hcm5
    have RO := Lib.hid (ints_rd ho5)
    have HB5 := Lib.hid (show Below W4.heap.size W4 w5 from hb5)
    clear p0 p1 p2 p3 p4 hpl ho5 hb5 HBF
    have kp := HKP.out.belowV HB5.out
    have p0 := kp.cell 0
    have p1 := kp.cell 1
    have p2 := kp.cell 2
    have p3 := kp.cell 3
    have p4 := kp.cell 4
    simp only [List.getElem?_toArray, List.getElem?_cons_succ, List.getElem?_cons_zero] at p0 p1 p2 p3 p4
    have hpl := kp.lt
    clear kp
    go_wp2_with fail
    refine (CD.out _ HB5.out).mono ?_
    rintro e w6 ⟨u6, rfl, ho6, hb6⟩
    obtain ⟨A6, c6, rfl, hnc6, hcm6⟩ := (ints_rd ho6).shape
    unfold maxLen at hcm6
    have RD := Lib.hid (ints_rd ho6)
    have RO := Lib.hid (RO.out.below hb6)
    have HB6 := Lib.hid (HB5.out.trans (hb6.mono HB5.out.size))
    clear p0 p1 p2 p3 p4 hpl
    clear ho6 hb6
    have kp := HKP.out.belowV HB6.out
    have p0 := kp.cell 0
    have p1 := kp.cell 1
    have p2 := kp.cell 2
    have p3 := kp.cell 3
    have p4 := kp.cell 4
    simp only [List.getElem?_toArray, List.getElem?_cons_succ, List.getElem?_cons_zero] at p0 p1 p2 p3 p4
    have hpl := kp.lt
    clear kp
    go_wp2_with fail
    refine (CK.out _ HB6.out).mono ?_
    rintro e w7 ⟨u7, rfl, ho7, hb7⟩
    have hr7 := ho7.rd
    obtain ⟨A7, c7, rfl, hnc7, hcm7⟩ : ∃ A c, u7 = .slice A N c ∧ N ≤ c ∧ c ≤ maxLen := by
      obtain ⟨vs, h1, -⟩ := hr7
      rw [ranksTo_length] at h1
      exact h1.shape
    unfold maxLen at hcm7
    have RK := Lib.hid hr7
    have RO := Lib.hid (RO.out.below hb7)
    have RD := Lib.hid (RD.out.below hb7)
    have HB7 := Lib.hid (HB6.out.trans (hb7.mono HB6.out.size))
    clear p0 p1 p2 p3 p4 hpl
    clear ho7 hb7 hr7
    have kq := HKQ.out.belowV HB7.out
    have q0 := kq.cell 0
    have q1 := kq.cell 1
    have q2 := kq.cell 2
    have q3 := kq.cell 3
    have q4 := kq.cell 4
    simp only [List.getElem?_toArray, List.getElem?_cons_succ, List.getElem?_cons_zero] at q0 q1 q2 q3 q4
    have hql := kq.lt
    clear kq
    go_wp2_with fail
    obtain ⟨W8, hW8⟩ : ∃ W, W = w7.alloc (.cells #[] 3) := ⟨_, rfl⟩
    have h78 : Below w7.heap.size w7 W8 := by rw [hW8]; exact (Below.refl _ _).alloc (Nat.le_refl _) _
    have HOW8 := Lib.hid (show W8.ownsRow w7.heap.size 3 1 (.slice (some ⟨w7.heap.size, 0, none⟩) 0 0) 0 [] by rw [hW8]; exact made0 rfl (Nat.le_refl _))
    have HB8 := Lib.hid (HB7.out.trans (h78.mono HB7.out.size))
    rw [← hW8]
    have H78 := Lib.hid h78
    clear hW8 h78
    refine (COS.out _ HB8.out).mono ?_
    rintro e w9 ⟨u9, rfl, ho9, hb9⟩
    obtain ⟨A9, c9, rfl, -, -⟩ := (ints_rd ho9).shape
    have CS1 := Lib.hid (sameInts_same _ _ O w9 (RO.out.below (H78.out.trans (hb9.mono H78.out.size))) (ints_rd ho9))
    have HB9 := Lib.hid (HB8.out.trans (hb9.mono HB8.out.size))
    have H79 := Lib.hid (H78.out.trans (hb9.mono H78.out.size))
    have HOW9 := Lib.hid (own_below HOW8.out hb9)
    clear q0 q1 q2 q3 q4 hql
    clear ho9 hb9
    go_wp2_with fail
    refine CS1.out.mono ?_
    rintro e w10 ⟨rfl, hb10⟩
    have HB10 := Lib.hid (HB9.out.trans (hb10.mono HB9.out.size))
    have H70 := Lib.hid (H79.out.trans (hb10.mono H79.out.size))
    have HOW10 := Lib.hid (own_below HOW9.out hb10)
    clear hb10
    have kq := HKQ.out.belowV HB10.out
    have q0 := kq.cell 0
    have q1 := kq.cell 1
    have q2 := kq.cell 2
    have q3 := kq.cell 3
    have q4 := kq.cell 4
    simp only [List.getElem?_toArray, List.getElem?_cons_succ, List.getElem?_cons_zero] at q0 q1 q2 q3 q4
    have hql := kq.lt
    clear kq
    go_wp2_with fail
    refine (CDS.out _ HB10.out).mono ?_
    rintro e w11 ⟨u11, rfl, ho11, hb11⟩
    obtain ⟨A11, c11, rfl, -, -⟩ := (ints_rd ho11).shape
    have CS2 := Lib.hid (sameInts_same _ _ D w11 (RD.out.below (H70.out.trans (hb11.mono H70.out.size))) (ints_rd ho11))
    have H71 := Lib.hid (H70.out.trans (hb11.mono H70.out.size))
    have HOW11 := Lib.hid (own_below HOW10.out hb11)
    clear q0 q1 q2 q3 q4 hql
    clear ho11 hb11
    go_wp2_with fail
    refine CS2.out.mono ?_
    rintro e w12 ⟨rfl, hb12⟩
    have H72 := Lib.hid (H71.out.trans (hb12.mono H71.out.size))
    have HOW12 := Lib.hid (own_below HOW11.out hb12)
    clear hb12 CS1 CS2 HB8 HB9 HB10 H78 H79 H70 H71 HOW8 HOW9 HOW10 HOW11 CO COS CD CDS CK HB5 HB6
    go_wp2_with fail
    go_loopw [9, 8] (fun u9 u8 wr => ∃ d : Nat, d ≤ N ∧ u9 = .int .i64 d ∧ Hid (wr.ownsRow w7.heap.size 3 1 u8 (allTo D d).length (intsV (allTo D d))) ∧ Hid (Below w7.heap.size w7 wr)) (fun u9 _ _ => N - (intOf u9).toNat)
    case atStart => exact ⟨0, Nat.zero_le _, rfl, HOW12, H72⟩
    case round =>
      clear HOW12 H72
      obtain ⟨d, hd, rfl, HOWN, HB⟩ := hrel
      by_cases hltd : d < N
      · obtain ⟨bk, ok, vk, hvk, hbk, hck, hrk⟩ := rank_row (n := N) RK.out hltd
        obtain ⟨Av, cv, rfl, hncv, hcmv⟩ := hrk.shape
        unfold maxLen at hcmv
        subst hvk
        have HROW := Lib.hid hrk
        have HCK := Lib.hid hck
        obtain ⟨L, hL⟩ : ∃ L, L = rankAt D d := ⟨_, rfl⟩
        have HAL := Lib.hid (show allTo D (d + 1) = allTo D d ++ L by rw [allTo, hL])
        have HLM := Lib.hid (show ∀ y ∈ L, 0 ≤ y ∧ y < n ∧ D.getD y.toNat 0 = d from fun y hy => HRK.out d y (by rw [← hL]; exact hy))
        have hLl : L.length ≤ n := by rw [hL]; exact Nat.le_trans (rank_len D d) hdl1
        rw [← hL] at HROW HCK hncv
        have hd0 : (0 : Int) ≤ (d : Int) := by omega
        have hd1 : (d : Int) < (N : Int) := by omega
        clear hL hrk hck
        go_wp2_with fail
        go_loopw [10, 8] (fun u10 u8 wi => ∃ i : Nat, i ≤ L.length ∧ u10 = .int .i64 i ∧ Hid (wi.ownsRow w7.heap.size 3 1 u8 ((allTo D d).length + i) (intsV (allTo D d ++ L.take i))) ∧ Hid (Below w7.heap.size w7 wi)) (fun u10 _ _ => L.length - (intOf u10).toNat)
        case atStart => exact ⟨0, Nat.zero_le _, rfl, by simpa using HOWN, HB⟩
        case round =>
          clear HOWN HB
          obtain ⟨i, hi, rfl, HOWN, HB⟩ := hrel
          have hck := (HB.out.cell (p := ⟨bk, ok + d, none⟩) hbk).trans HCK.out
          have hbk' : bk < wr.heap.size := Nat.lt_of_lt_of_le hbk HB.out.size
          by_cases hlti : i < L.length
          · obtain ⟨b1, o1, _, hv1, _, _, hl1, hc1⟩ := HROW.out.form (by omega) (by omega)
            have hA1 : Av = some ⟨b1, o1, none⟩ := by injection hv1
            subst hA1
            obtain ⟨y, hy⟩ : ∃ y, y = L[i] := ⟨_, rfl⟩
            have d0 := int_cell HB.out hl1 hc1 hlti y hy
            obtain ⟨hy0, hy1, hy2⟩ := HLM.out y (by rw [hy]; exact List.getElem_mem hlti)
            obtain ⟨m, rfl⟩ : ∃ m : Nat, y = m := ⟨y.toNat, by omega⟩
            have hmn : m < n := by omega
            have HTK := Lib.hid (show L.take (i + 1) = L.take i ++ [(m : Int)] by rw [List.take_succ_eq_append_getElem hlti, hy])
            obtain ⟨b2, o2, _, hv2, _, _, hl2, hc2⟩ := RD.out.form (by omega) (by omega)
            have hA2 : A6 = some ⟨b2, o2, none⟩ := by injection hv2
            subst hA2
            have d1 := int_cell HB.out hl2 hc2 (k := m) (by omega) (d : Int) (by rw [List.getD_eq_getElem?_getD, Int.toNat_natCast, List.getElem?_eq_getElem (by omega)] at hy2; exact hy2.symm)
            have hb1' : b1 < wr.heap.size := Nat.lt_of_lt_of_le hl1 HB.out.size
            have hb2' : b2 < wr.heap.size := Nat.lt_of_lt_of_le hl2 HB.out.size
            have hi0 : (0 : Int) ≤ (i : Int) := by omega
            have hi1 : (i : Int) < (L.length : Int) := by omega
            have hm0 : (0 : Int) ≤ (m : Int) := by omega
            have hm1 : (m : Int) < (n : Int) := by omega
            have hm2 : (m : Int) < (D.length : Int) := by omega
            have HB7r := Lib.hid (HB7.out.trans (HB.out.mono HB7.out.size))
            have kq := HKQ.out.belowV HB7r.out
            have q0 := kq.cell 0
            have q1 := kq.cell 1
            have q2 := kq.cell 2
            have q3 := kq.cell 3
            have q4 := kq.cell 4
            simp only [List.getElem?_toArray, List.getElem?_cons_succ, List.getElem?_cons_zero] at q0 q1 q2 q3 q4
            have hql := kq.lt
            clear kq
            have t0 : decide ((m : Int) < 0) = false := decide_eq_false (by omega)
            have t1 : decide ((n : Int) ≤ (m : Int)) = false := decide_eq_false (by omega)
            have t2 : decide (n ≤ m) = false := decide_eq_false (by omega)
            have hal : (allTo D d).length + L.length ≤ 1000 := by
              have h1 := HLEN.out d (by omega)
              omega
            clear hy hy0 hy1 hy2 hv1 hc1 hv2 hc2
            go_wp2_with fail
            first | refine wp_region_calm_on (by kernel_rfl) (by kernel_rfl) ?_ | refine wp_region_calm_lit (by kernel_rfl) (by kernel_rfl) ?_
            repeat (go_big_quiet_step (fail))
            refine wpQuiet_nil ?_
            intro _ hw'
            obtain ⟨kz, hw''⟩ := hw'
            subst hw''
            have HOK := Lib.hid (own_below HOWN.out kz.below)
            have HBK := Lib.hid (show Below w7.heap.size w7 kz.w from Below.calm HB.out HB.out.size)
            have d0 := (kz.cell b1 (o1 + i) hb1').trans d0
            have hck := (kz.cell bk (ok + d) hbk').trans hck
            have hb1' := Nat.lt_of_lt_of_le hb1' kz.size
            have hbk' := Nat.lt_of_lt_of_le hbk' kz.size
            clear q0 q1 q2 q3 q4 hql d1 hb2' t0 t1 t2
            go_wp2_with ((at_builtin; refine wpList_append_new rfl _ _ _ rfl _ _ i0 _ 1 8 Try.underlying28 hii hz0 hz1 hz2 rfl (by decide) u8  ((allTo D d).length + i) _ rfl ( HOK.out) ( HBK.out) (Below.size ( HBK.out)) _ 1 1 (by first | rfl | (refine slice_at_eq ?_; simp [World.setCell]; done)) rfl (by intro u hu; simp at hu; subst hu; rfl) ⟨by omega, by omega⟩ ?_; intro v1 w1 hown1 hb1 hg1 hat1; have HO1 := Lib.hid hown1; have HB1 := Lib.hid hb1; clear hown1 hb1 hg1 hat1))
            go_roundw
            case rel => exact ⟨i + 1, by omega, by go_num, Lib.hid (by rw [HTK.out, ← List.append_assoc]; exact own_push HO1.out), HB1⟩
            case measure => simp [intOf]; omega
          · obtain rfl : i = L.length := by omega
            rw [List.take_length, ← HAL.out] at HOWN
            have HLE := Lib.hid (show (allTo D (d + 1)).length = (allTo D d).length + L.length by rw [HAL.out, List.length_append])
            rw [← HLE.out] at HOWN
            go_wp2_with fail
            go_roundw
            case rel => exact ⟨d + 1, hltd, by go_num, HOWN, HB⟩
            case measure => simp [intOf]; omega
      · obtain rfl : d = N := by omega
        obtain ⟨A8, c8, rfl, hnc8, hcm8⟩ := (Rd.of_own HOWN.out).shape
        unfold maxLen at hcm8
        obtain ⟨AL, hALx⟩ : ∃ AL, AL = allTo D d := ⟨_, rfl⟩
        rw [← hALx] at HI2 HALL HOWN ⊢
        have hal2 : AL.length ≤ 12 := by have := HALL.out; omega
        have HBX := Lib.hid (HB7.out.trans (HB.out.mono HB7.out.size))
        have RA := Lib.hid (Rd.of_own HOWN.out)
        have ROx := Lib.hid (RO.out.below HB.out)
        have RDx := Lib.hid (RD.out.below HB.out)
        have hnc8' : AL.length ≤ c8 := by rw [hALx]; exact hnc8
        clear hALx HOWN HALL hnc8 HB RO RD RK
        obtain ⟨wA, rfl⟩ : ∃ W, W = wr := ⟨_, rfl⟩
        go_wp2_with fail
        go_loopw [11] (fun u11 wi => ∃ t : Nat, t ≤ n ∧ u11 = .int .i64 t ∧ Hid (Below wA.heap.size wA wi)) (fun u11 _ => n - (intOf u11).toNat)
        case atStart => exact ⟨0, Nat.zero_le _, rfl, Lib.hid (Below.refl _ _)⟩
        case round =>
          obtain ⟨t, ht, rfl, HT⟩ := hrel
          have HTX := Lib.hid (HBX.out.trans (HT.out.mono HBX.out.size))
          have kp := HKP.out.belowV HTX.out
          have p0 := kp.cell 0
          have p1 := kp.cell 1
          have p2 := kp.cell 2
          have p3 := kp.cell 3
          have p4 := kp.cell 4
          simp only [List.getElem?_toArray, List.getElem?_cons_succ, List.getElem?_cons_zero] at p0 p1 p2 p3 p4
          have hpl := kp.lt
          clear kp
          have kq := HKQ.out.belowV HTX.out
          have q0 := kq.cell 0
          have q1 := kq.cell 1
          have q2 := kq.cell 2
          have q3 := kq.cell 3
          have q4 := kq.cell 4
          simp only [List.getElem?_toArray, List.getElem?_cons_succ, List.getElem?_cons_zero] at q0 q1 q2 q3 q4
          have hql := kq.lt
          clear kq
          by_cases hltt : t < n
          · have ht0 : (0 : Int) ≤ (t : Int) := by omega
            have ht1 : (t : Int) < (n : Int) := by omega
            go_wp2_with fail
            refine (CC.out t _ HTX.out).mono ?_
            have hcl := closeOf_len (pl x1 x2 x3 n E) t
            have HY := Lib.hid (fun y hy => HCL.out t y hltt hy)
            have HH := Lib.hid (HHR.out t hltt)
            obtain ⟨L, hL⟩ : ∃ L, L = closeOfR (pl x1 x2 x3 n E) t := ⟨_, rfl⟩
            rw [← hL] at hcl HY HH ⊢
            clear hL
            rintro e w14 ⟨u14, rfl, ho14, hb14⟩
            obtain ⟨A14, c14, rfl, hnc14, hcm14⟩ := (ints_rd ho14).shape
            unfold maxLen at hcm14
            have HRL := Lib.hid (ints_rd ho14)
            have HT14 := Lib.hid (HT.out.trans (hb14.mono HT.out.size))
            clear p0 p1 p2 p3 p4 hpl
            clear q0 q1 q2 q3 q4 hql
            clear ho14 hb14
            go_wp2_with fail
            go_loopw [13] (fun u13 wi => ∃ i : Nat, i ≤ L.length ∧ u13 = .int .i64 i ∧ Hid (Below w14.heap.size w14 wi)) (fun u13 _ => L.length - (intOf u13).toNat)
            case atStart => exact ⟨0, Nat.zero_le _, rfl, Lib.hid (Below.refl _ _)⟩
            case round =>
              obtain ⟨i, hi, rfl, HI⟩ := hrel
              have HTI := Lib.hid (HT14.out.trans (HI.out.mono HT14.out.size))
              have HTXI := Lib.hid (HBX.out.trans (HTI.out.mono HBX.out.size))
              by_cases hlti : i < L.length
              · obtain ⟨b1, o1, _, hv1, _, _, hl1, hc1⟩ := HRL.out.form (by omega) (by omega)
                have hA1 : A14 = some ⟨b1, o1, none⟩ := by injection hv1
                subst hA1
                obtain ⟨y, hy⟩ : ∃ y, y = L[i] := ⟨_, rfl⟩
                have d0 := int_cell HI.out hl1 hc1 hlti y hy
                obtain ⟨hy0, hy1, hy2⟩ := HY.out y (by rw [hy]; exact List.getElem_mem hlti)
                obtain ⟨m, rfl⟩ : ∃ m : Nat, y = m := ⟨y.toNat, by omega⟩
                have hmn : m < n := by omega
                obtain ⟨b2, o2, _, hv2, _, _, hl2, hc2⟩ := RDx.out.form (by omega) (by omega)
                have hA2 : A6 = some ⟨b2, o2, none⟩ := by injection hv2
                subst hA2
                obtain ⟨dm, hdm⟩ : ∃ z, z = D[m]'(by omega) := ⟨_, rfl⟩
                obtain ⟨dt, hdt⟩ : ∃ z, z = D[t]'(by omega) := ⟨_, rfl⟩
                have d1 := int_cell HTI.out hl2 hc2 (k := m) (by omega) dm hdm
                have d2 := int_cell HTI.out hl2 hc2 (k := t) (by omega) dt hdt
                have hb1' : b1 < wr.heap.size := Nat.lt_of_lt_of_le hl1 HI.out.size
                have hb2' : b2 < wr.heap.size := Nat.lt_of_lt_of_le hl2 HTI.out.size
                have hcase : m = t ∨ dt < dm := by
                  rcases hy2 with h | h
                  · exact .inl (by omega)
                  · rw [List.getD_eq_getElem?_getD, List.getD_eq_getElem?_getD, Int.toNat_natCast, List.getElem?_eq_getElem (show t < D.length by omega), List.getElem?_eq_getElem (show m < D.length by omega)] at h
                    exact .inr (by rw [hdm, hdt]; exact h)
                have hi0 : (0 : Int) ≤ (i : Int) := by omega
                have hi1 : (i : Int) < (L.length : Int) := by omega
                have hm0 : (0 : Int) ≤ (m : Int) := by omega
                have hm1 : (m : Int) < (n : Int) := by omega
                have hm2 : (m : Int) < (D.length : Int) := by omega
                have ht2 : (t : Int) < (D.length : Int) := by omega
                have kq := HKQ.out.belowV HTXI.out
                have q0 := kq.cell 0
                have q1 := kq.cell 1
                have q2 := kq.cell 2
                have q3 := kq.cell 3
                have q4 := kq.cell 4
                simp only [List.getElem?_toArray, List.getElem?_cons_succ, List.getElem?_cons_zero] at q0 q1 q2 q3 q4
                have hql := kq.lt
                clear kq
                have t0 : decide ((m : Int) < 0) = false := decide_eq_false (by omega)
                have t1 : decide ((n : Int) ≤ (m : Int)) = false := decide_eq_false (by omega)
                have t2 : decide (n ≤ m) = false := decide_eq_false (by omega)
                clear hdm hdt hy hy0 hy1 hy2 hv1 hc1 hv2 hc2
                by_cases hmt : m = t
                · subst hmt
                  clear hcase
                  go_wp2_with fail
                  first | refine wp_region_calm_on (by kernel_rfl) (by kernel_rfl) ?_ | refine wp_region_calm_lit (by kernel_rfl) (by kernel_rfl) ?_
                  repeat (go_big_quiet_step (fail))
                  refine wpQuiet_nil ?_
                  intro _ hw'
                  obtain ⟨kz, hw''⟩ := hw'
                  subst hw''
                  go_wp2_with fail
                  go_roundw
                  case rel => exact ⟨i + 1, by omega, by go_num, Lib.hid (Below.calm HI.out HI.out.size)⟩
                  case measure => simp [intOf]; omega
                · have t3 : ((m : Int) != (t : Int)) = true := by simp; omega
                  have t4 : decide (dm ≤ dt) = false := decide_eq_false (by omega)
                  clear hcase
                  go_wp2_with fail
                  first | refine wp_region_calm_on (by kernel_rfl) (by kernel_rfl) ?_ | refine wp_region_calm_lit (by kernel_rfl) (by kernel_rfl) ?_
                  repeat (go_big_quiet_step (fail))
                  refine wpQuiet_nil ?_
                  intro _ hw'
                  obtain ⟨kz, hw''⟩ := hw'
                  subst hw''
                  go_wp2_with fail
                  go_roundw
                  case rel => exact ⟨i + 1, by omega, by go_num, Lib.hid (Below.calm HI.out HI.out.size)⟩
                  case measure => simp [intOf]; omega
              · have CH := Lib.hid (hasInt_any _ L t _ (HRL.out.below HI.out))
                rw [HH.out] at CH
                go_wp2_with fail
                refine CH.out.mono ?_
                rintro e w15 ⟨rfl, hb15⟩
                go_wp2_with fail
                go_roundw
                case rel => exact ⟨t + 1, by omega, by go_num, Lib.hid (HTI.out.trans (hb15.mono HTI.out.size))⟩
                case measure => simp [intOf]; omega
          · obtain ⟨u1, hs1, r1⟩ := cut_loI ROx.out (k := 1) (by omega)
            replace hs1 : ∀ W, (Instr.slice 28 (.slice A5 O.length c5) (some (.int .i64 1)) none none).run Try.prog W = .ok u1 W := hs1
            have R1x := Lib.hid (Rd.below r1 HT.out)
            have C1 := Lib.hid (fun W (hW : Below wr.heap.size wr W) => CIO.out _ O W (HTX.out.trans (hW.mono HTX.out.size)) ((ROx.out.below HT.out).below hW) (by omega))
            have C2 := Lib.hid (fun W (hW : Below wr.heap.size wr W) => CIO.out _ AL W (HTX.out.trans (hW.mono HTX.out.size)) ((RA.out.below HT.out).below hW) (by omega))
            have C3 := Lib.hid (fun W (hW : Below wr.heap.size wr W) => CIO.out u1 (O.drop 1) W (HTX.out.trans (hW.mono HTX.out.size)) (R1x.out.below hW) (by rw [List.length_drop]; omega))
            rw [HI1.out] at C1
            rw [HI2.out] at C2
            rw [HI3.out] at C3
            have hol3 : (1 : Int) ≤ (O.length : Int) := by omega
            clear r1
            go_wp2_with fail
            first | refine wp_region_calm_on (by kernel_rfl) (by kernel_rfl) ?_ | refine wp_region_calm_lit (by kernel_rfl) (by kernel_rfl) ?_
            repeat (go_big_quiet_step ((go_at_call 21; first | (with_reducible exact calm_of (C1.out _ (Calm.below _))) | (with_reducible exact calm_of (C2.out _ (Calm.below _))) | (with_reducible exact calm_of (C3.out _ (Calm.below _))))))
            refine wpQuiet_nil ?_
            intro _ hw'
            obtain ⟨kz, hw''⟩ := hw'
            subst hw''
            go_wp2_with fail
            go_ret
            exact ⟨rfl, Below.calm ((hw4.trans (HTX.out.mono hw4.size))) (by have := (hw4.trans (HTX.out.mono hw4.size)).size; exact this)⟩
  · have CB := Lib.hid (big_t w v0 code hrd (by omega))
    go_enter Try.func3, Try.ntmps3
    go_wp2_with fail
    refine CB.out.mono ?_
    rintro e w0 ⟨rfl, rfl⟩
    go_wp2_with fail
    go_ret
    exact ⟨rfl, Below.refl _ _⟩
end Go.Proofs.Ytbbjkldkjndfaaa

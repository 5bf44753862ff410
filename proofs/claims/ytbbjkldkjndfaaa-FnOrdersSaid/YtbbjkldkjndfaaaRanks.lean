/- RanksOf, the program's and the reference's. -/
import Derived.Test.YtbbjkldkjndfaaaRanksP
import Derived.Test.YtbbjkldkjndfaaaDepth
namespace Go.Proofs.Ytbbjkldkjndfaaa
set_option linter.unusedSimpArgs false
open Go.RowKit Go.ChangeShapes Go.Deep

theorem Try.infoIs : (Try.prog.info? 28).map (fun i => (i.zero, i.size, i.bytes)) = some (some (.slice none 0 0), 1, 24) := by kernel_rfl
/-- Rows of the call's own in a row of the call's own. -/
def OwnIss (w : World) (base : Nat) (u : Value) (ls : List (List Int)) (vs : List Value) : Prop :=
  w.ownsRow base 28 1 u ls.length vs ∧ Sundry vs ∧ ∀ i, i < ls.length → ∃ v, vs[i]? = some v ∧ w.ownsRow base 3 1 v (ls.getD i []).length (intsV (ls.getD i []))
theorem OwnIss.nil {w : World} {base : Nat} : OwnIss w base (.slice none 0 0) [] [] := ⟨own_nil, fun _ _ _ _ _ h => by simp at h, fun i hi => absurd hi (by simp)⟩
theorem OwnIss.below {w w' : World} {base : Nat} {u : Value} {ls : List (List Int)} {vs : List Value} (h : OwnIss w base u ls vs) (hb : Below w.heap.size w w') : OwnIss w' base u ls vs := by
  obtain ⟨h1, h2, h3⟩ := h
  refine ⟨own_below h1 hb, h2, fun i hi => ?_⟩
  obtain ⟨v, h4, h5⟩ := h3 i hi
  exact ⟨v, h4, own_below h5 hb⟩
theorem OwnIss.push {wo wi w1 : World} {base : Nat} {u u' v : Value} {ls : List (List Int)} {l : List Int} {vs : List Value} {o : Obj} (h : OwnIss wo base u ls vs) (hb : Below wo.heap.size wo wi)
    (hv : wi.ownsRow wo.heap.size 3 1 v l.length (intsV l)) (hbase : base ≤ wo.heap.size) (hg : (wi.alloc o).grownBy w1 u.ownBlock) (hown : w1.ownsRow base 28 1 u' (ls.length + 1) (vs ++ [v])) : OwnIss w1 base u' (ls ++ [l]) (vs ++ [v]) := by
  obtain ⟨h1, h2, h3⟩ := h
  have hl : vs.length = ls.length := by have := h1.1; omega
  have hal : Below wi.heap.size wi (wi.alloc o) := (Below.refl _ _).alloc (Nat.le_refl _) _
  have keep : ∀ {b n : Nat} {y : Value} {xs : List Value}, wi.ownsRow b 3 1 y n xs → w1.ownsRow b 3 1 y n xs := fun hy =>
    own_grown (own_below hy hal) hg (own_types_ne hy (own_below h1 hb) (by decide))
  refine ⟨by rw [List.length_append]; exact hown, fun i j y y' hij hi hj => ?_, fun i hi => ?_⟩
  · have hjl : j < (vs ++ [v]).length := (List.getElem?_eq_some_iff.1 hj).1
    rw [List.length_append, List.length_singleton] at hjl
    rw [List.getElem?_append_left (by omega)] at hi
    by_cases e : j = vs.length
    · subst e
      rw [List.getElem?_append_right (Nat.le_refl _), Nat.sub_self, List.getElem?_cons_zero, Option.some.injEq] at hj
      subst hj
      obtain ⟨z, hz, hzr⟩ := h3 i (by omega)
      rw [hi, Option.some.injEq] at hz
      subst hz
      rcases hyb : y.ownBlock with _ | b
      · exact .inl rfl
      · right
        intro e
        have a1 := (hzr.lt b hyb).2
        have a2 := (hv.lt b e.symm).1
        omega
    · rw [List.getElem?_append_left (by omega)] at hj
      exact h2 i j y y' hij hi hj
  · rw [List.length_append, List.length_singleton] at hi
    by_cases e : i = ls.length
    · subst e
      refine ⟨v, by rw [← hl, List.getElem?_append_right (Nat.le_refl _)]; simp, ?_⟩
      have hg : (ls ++ [l]).getD ls.length [] = l := by rw [List.getD_eq_getElem?_getD, List.getElem?_append_right (Nat.le_refl _)]; simp
      rw [hg]
      exact own_more (keep hv) hbase
    · obtain ⟨y, hy, hyr⟩ := h3 i (by omega)
      refine ⟨y, by rw [List.getElem?_append_left (by omega)]; exact hy, ?_⟩
      have hg : (ls ++ [l]).getD i [] = ls.getD i [] := by rw [List.getD_eq_getElem?_getD, List.getElem?_append_left (by omega), ← List.getD_eq_getElem?_getD]
      rw [hg]
      exact keep (own_below hyr hb)
def GivesIss (ls : List (List Int)) (w0 : World) (e : Ending) (w' : World) : Prop := ∃ u, e = .returned u ∧ Own_intss w' w0.heap.size w'.heap.size u ls ∧ Below w0.heap.size w0 w'
theorem givesIss {w W0 w' : World} {u : Value} {ls : List (List Int)} {vs : List Value} (hb0 : Below w.heap.size w W0) (hB : Below W0.heap.size W0 w') (h : OwnIss w' W0.heap.size u ls vs) : GivesIss ls w (.returned u) w' := by
  obtain ⟨h1, h2, h3⟩ := h
  refine ⟨u, rfl, ⟨vs, OwnS.of_own (own_more h1 hb0.size), h2, fun i hi => ?_⟩, hb0.trans (hB.mono hb0.size)⟩
  obtain ⟨v, h4, h5⟩ := h3 i hi
  exact ⟨v, h4, OwnS.of_own (own_more h5 hb0.size)⟩
theorem rankTo_getD {D : List Int} {r : Int} {k : Nat} (h : k < D.length) (y : Int) (hy : y = D[k]) : rankTo D r (k + 1) = if y = r then rankTo D r k ++ [(k : Int)] else rankTo D r k := by
  rw [rankTo, hy, List.getD_eq_getElem?_getD, List.getElem?_eq_getElem h]
  rfl

set_option maxHeartbeats 8000000 in
set_option maxRecDepth 100000 in
theorem ranksOf_impl (u : Value) (x : Pln) (w : World) (h : Rd_plan w u x) (hn : cost_plan x ≤ 1048576) :
    Calls Try.prog 15 #[.agg #[.int .i64 x.prio, .int .i64 x.most, .int .i64 x.wait, .int .i64 x.tasks, u]] w (GivesIss (ranksOfR x) w) := by
  have HPL := Lib.hid h
  obtain ⟨i0, hii, hz0, hz1, hz2⟩ := info_parts Try.infoI64
  obtain ⟨j0, hjj, hj0, hj1, hj2⟩ := info_parts Try.infoIs
  have hdl := depthOf_le x
  have hnl := ranksN_le (depthOfR x)
  have HN1 := Lib.hid (fun r (h : r < ranksN (depthOfR x)) => ranksN_lt h)
  have HN2 := Lib.hid (ranksN_not (depthOfR x))
  have HRR := Lib.hid (show ranksOfR x = ranksTo (depthOfR x) (ranksN (depthOfR x)) from rfl)
  have CD := Lib.hid (fun W (hW : Below w.heap.size w W) => depthOf_impl u x W (HPL.out.below hW) hn)
  obtain ⟨N, hN⟩ : ∃ N, N = ranksN (depthOfR x) := ⟨_, rfl⟩
  rw [← hN] at hnl HN1 HN2 HRR
  obtain ⟨D, hD⟩ : ∃ D, D = depthOfR x := ⟨_, rfl⟩
  rw [← hD] at hdl hnl HN1 HN2 HRR CD
  clear hN hD
  obtain ⟨x1, x2, x3, x4, E⟩ := x
  obtain ⟨A, c, rfl, hnc, hcm⟩ := h.form
  simp only at hnc CD
  unfold maxLen at hcm
  obtain ⟨W0, hW0⟩ : ∃ W0, W0 = w.alloc (.cells #[.int .i64 x1, .int .i64 x2, .int .i64 x3, .int .i64 x4, .slice A E.length c] 26) := ⟨_, rfl⟩
  have hb0 : Below w.heap.size w W0 := by rw [hW0]; exact (Below.refl _ _).alloc (Nat.le_refl _) _
  have HW := Lib.hid hW0
  clear hW0 h
  go_enter Try.func15, Try.ntmps15
  go_wp2_with fail
  rw [← HW.out]
  refine (CD.out _ hb0).mono ?_
  rintro e w2 ⟨u2, rfl, ho2, hb2⟩
  obtain ⟨A4, c4, rfl, hnc4, hcm4⟩ := (own_rdB ho2).shape
  have HRD := Lib.hid (own_rdB ho2)
  have hw2 := hb0.trans (hb2.mono hb0.size)
  unfold maxLen at hcm4
  clear ho2
  go_wp2_with fail
  go_loopw [3, 5] (fun u3 u5 wr => ∃ r : Nat, r ≤ N ∧ u5 = .int .i64 r ∧ Hid (∃ vs, OwnIss wr w2.heap.size u3 (ranksTo D r) vs) ∧ Hid (Below w2.heap.size w2 wr)) (fun _ u5 _ => N - (intOf u5).toNat)
  case atStart => exact ⟨0, Nat.zero_le _, rfl, Lib.hid ⟨[], OwnIss.nil⟩, Lib.hid (Below.refl _ _)⟩
  case round =>
    obtain ⟨r, hr, rfl, HOWN, HB⟩ := hrel
    have CC := Lib.hid (contInt_any _ D r wr (HRD.out.below HB.out))
    have hrl := ranksTo_length D r
    by_cases hlt : r < N
    · rw [HN1.out r hlt] at CC
      go_wp2_with fail
      refine CC.out.mono ?_
      rintro e w3 ⟨rfl, hb3⟩
      obtain ⟨vs, hvs⟩ := HOWN.out
      have HO3 := Lib.hid (hvs.below hb3)
      have hw3 := HB.out.trans (hb3.mono HB.out.size)
      have HW3 := Lib.hid hw3
      have HS3 := Lib.hid (hw3.size)
      clear hvs hw3 HOWN HB
      go_wp2_with fail
      go_loopw [6, 18] (fun u6 u18 wi => ∃ k m : Nat, k ≤ D.length ∧ m ≤ k ∧ u18 = .int .i64 k ∧ Hid (wi.ownsRow w3.heap.size 3 1 u6 m (intsV (rankTo D r k))) ∧ Hid (Below w3.heap.size w3 wi)) (fun _ u18 _ => D.length - (intOf u18).toNat)
      case atStart => exact ⟨0, 0, Nat.zero_le _, Nat.le_refl _, rfl, Lib.hid own_nil, Lib.hid (Below.refl _ _)⟩
      case round =>
        obtain ⟨k, m, hk, hmk, rfl, HOWN, HB⟩ := hrel
        by_cases hltk : k < D.length
        · obtain ⟨b1, o1, _, hv1, _, _, hl1, hc1⟩ := ((HRD.out.below HW3.out).below HB.out).form (by omega) (by omega)
          have hA1 : A4 = some ⟨b1, o1, none⟩ := by injection hv1
          subst hA1
          obtain ⟨y, hy⟩ : ∃ y, y = D[k] := ⟨_, rfl⟩
          have d0 := int_cell (Below.refl _ _) hl1 hc1 hltk y hy
          have hk0 : (0 : Int) ≤ (k : Int) := by omega
          have hk1 : (k : Int) < (D.length : Int) := by omega
          have HS0 := Lib.hid (rankTo_getD (r := r) hltk y hy)
          clear hy hv1 hc1
          by_cases e : y = r
          · have HS := Lib.hid (HS0.out.trans (if_pos e))
            have t0 : (y == (r : Int)) = true := by simp [e]
            clear e HS0
            go_wp2_with ((at_builtin; refine wpList_append_new rfl _ _ _ rfl _ _ i0 _ 1 8 Try.underlying28 hii hz0 hz1 hz2 rfl (by decide) u6  m _ rfl ( HOWN.out) ( HB.out) (Below.size ( HB.out)) _ 1 1 (by first | rfl | (refine slice_at_eq ?_; simp [World.setCell]; done)) rfl (by intro u hu; simp at hu; subst hu; rfl) ⟨by omega, by omega⟩ ?_; intro v1 w1 hown1 hb1 hg1 hat1; have HO1 := Lib.hid hown1; have HB1 := Lib.hid hb1; clear hown1 hb1 hg1 hat1))
            go_roundw
            case rel => exact ⟨k + 1, m + 1, by omega, by omega, by go_num, by rw [HS.out]; exact Lib.hid (own_push HO1.out), HB1⟩
            case measure => simp [intOf]; omega
          · have HS := Lib.hid (HS0.out.trans (if_neg e))
            have t0 : (y == (r : Int)) = false := by simp [e]
            clear e HS0
            go_wp2_with fail
            go_roundw
            case rel => exact ⟨k + 1, m, by omega, by omega, by go_num, by rw [HS.out]; exact HOWN, HB⟩
            case measure => simp [intOf]; omega
        · obtain rfl : k = D.length := by omega
          have hml : m = (rankAt D r).length := by have := HOWN.out.1; simp [intsV] at this; exact this.symm
          have HV := Lib.hid (show wr.ownsRow w3.heap.size 3 1 u6 (rankAt D r).length (intsV (rankAt D r)) by rw [← hml]; exact HOWN.out)
          obtain ⟨A6, c6, rfl, hnc6, hcm6⟩ := (Rd.of_own HV.out).shape
          have h1 := own_below HO3.out.1 HB.out
          rw [hrl] at h1
          have hbE : Below w2.heap.size w2 wr := HW3.out.trans (HB.out.mono HS3.out)
          clear hml HOWN
          go_wp2_with (at_builtin; refine wpList_append_new rfl _ _ _ rfl _ _ j0 _ 1 24 Try.underlying30 hjj hj0 hj1 hj2 rfl (by decide) u3 r _ rfl h1 hbE (Below.size hbE) _ 1 1 (by first | rfl | (refine slice_at_eq ?_; simp [World.setCell]; done)) rfl (by intro u hu; simp at hu; subst hu; rfl) ⟨by omega, by omega⟩ ?_; intro v1 w1 hown1 hb1 hg1 hat1; have HO1 := Lib.hid hown1; have HB1 := Lib.hid hb1; have HG1 := Lib.hid hg1; clear hown1 hb1 hg1 hat1)
          go_roundw
          case rel => exact ⟨r + 1, by omega, by go_num, Lib.hid ⟨_, OwnIss.push HO3.out HB.out HV.out HS3.out HG1.out (by rw [hrl]; exact HO1.out)⟩, HB1⟩
          case measure => simp [intOf]; omega
    · obtain rfl : r = N := by omega
      rw [HN2.out] at CC
      go_wp2_with fail
      refine CC.out.mono ?_
      rintro e w3 ⟨rfl, hb3⟩
      go_wp2_with fail
      go_ret
      obtain ⟨vs, hvs⟩ := HOWN.out
      rw [HRR.out]
      exact givesIss hw2 (HB.out.trans (hb3.mono HB.out.size)) (hvs.below hb3)

set_option maxHeartbeats 8000000 in
set_option maxRecDepth 100000 in
theorem ranksOf_spec (u : Value) (x : Pln) (w : World) (h : Rd_plan w u x) (hn : cost_plan x ≤ 1048576) :
    Calls Try.prog 29 #[.agg #[.int .i64 x.prio, .int .i64 x.most, .int .i64 x.wait, .int .i64 x.tasks, u]] w (GivesIss (ranksOfR x) w) := by
  have HPL := Lib.hid h
  obtain ⟨i0, hii, hz0, hz1, hz2⟩ := info_parts Try.infoI64
  obtain ⟨j0, hjj, hj0, hj1, hj2⟩ := info_parts Try.infoIs
  have hdl := depthOf_le x
  have hnl := ranksN_le (depthOfR x)
  have HN1 := Lib.hid (fun r (h : r < ranksN (depthOfR x)) => ranksN_lt h)
  have HN2 := Lib.hid (ranksN_not (depthOfR x))
  have HRR := Lib.hid (show ranksOfR x = ranksTo (depthOfR x) (ranksN (depthOfR x)) from rfl)
  have CD := Lib.hid (fun W (hW : Below w.heap.size w W) => depthOf_spec u x W (HPL.out.below hW) hn)
  obtain ⟨N, hN⟩ : ∃ N, N = ranksN (depthOfR x) := ⟨_, rfl⟩
  rw [← hN] at hnl HN1 HN2 HRR
  obtain ⟨D, hD⟩ : ∃ D, D = depthOfR x := ⟨_, rfl⟩
  rw [← hD] at hdl hnl HN1 HN2 HRR CD
  clear hN hD
  obtain ⟨x1, x2, x3, x4, E⟩ := x
  obtain ⟨A, c, rfl, hnc, hcm⟩ := h.form
  simp only at hnc CD
  unfold maxLen at hcm
  obtain ⟨W0, hW0⟩ : ∃ W0, W0 = (w.alloc (.cells #[.int .i64 x1, .int .i64 x2, .int .i64 x3, .int .i64 x4, .slice A E.length c] 26)).alloc (.cells #[] 28) := ⟨_, rfl⟩
  have hb0 : Below w.heap.size w W0 := by rw [hW0]; exact ((Below.refl _ _).alloc (Nat.le_refl _) _).alloc (by simp) _
  have ow0 : W0.ownsRow w.heap.size 28 1 (.slice (some ⟨w.heap.size + 1, 0, none⟩) 0 0) 0 [] := by rw [hW0]; exact made0 (by simp) (by omega)
  have HOW0 := Lib.hid ow0
  have HW := Lib.hid hW0
  clear hW0 h ow0
  go_enter Try.func29, Try.ntmps29
  go_wp2_with fail
  rw [← HW.out]
  refine (CD.out _ hb0).mono ?_
  rintro e w2 ⟨u2, rfl, ho2, hb2⟩
  obtain ⟨A4, c4, rfl, hnc4, hcm4⟩ := (own_rdB ho2).shape
  have hw2 := hb0.trans (hb2.mono hb0.size)
  have HRD := Lib.hid (own_more ho2.1 hb0.size)
  have HW2 := Lib.hid hw2
  have HOW2 := Lib.hid (own_below HOW0.out hb2)
  unfold maxLen at hcm4
  clear ho2 hw2
  go_wp2_with fail
  go_loopw [3, 5] (fun u3 u5 wr => ∃ r : Nat, r ≤ N ∧ u5 = .int .i64 r ∧ Hid (∃ vs, OwnIss wr w.heap.size u3 (ranksTo D r) vs) ∧ Hid (Below w.heap.size w wr) ∧ Hid (wr.ownsRow w.heap.size 3 1 (.slice A4 D.length c4) D.length (intsV D))) (fun _ u5 _ => N - (intOf u5).toNat)
  case atStart => exact ⟨0, Nat.zero_le _, rfl, Lib.hid ⟨[], HOW2.out, fun _ _ _ _ _ h => by simp at h, fun i hi => absurd hi (by simp [ranksTo])⟩, HW2, HRD⟩
  case round =>
    clear HW2 HRD HOW2
    obtain ⟨r, hr, rfl, HOWN, HB, HRD⟩ := hrel
    have hrl := ranksTo_length D r
    have HEND := Lib.hid (fun (w' : World) (hb : Below wr.heap.size wr w') => show r = N → GivesIss (ranksOfR ⟨x1, x2, x3, x4, E⟩) w (.returned u3) w' from fun e => by
      obtain ⟨vs, h1, h2, h3⟩ := HOWN.out.choose_spec.below hb |> fun h => (⟨_, h⟩ : ∃ vs, OwnIss w' w.heap.size u3 (ranksTo D r) vs)
      rw [HRR.out, ← e]
      refine ⟨u3, rfl, ⟨vs, OwnS.of_own h1, h2, fun i hi => ?_⟩, HB.out.trans (hb.mono HB.out.size)⟩
      obtain ⟨v, h4, h5⟩ := h3 i hi
      exact ⟨v, h4, OwnS.of_own h5⟩)
    by_cases hltD : r < D.length
    · obtain ⟨vs, hvs⟩ := HOWN.out
      obtain ⟨w3, hw3⟩ : ∃ w3, w3 = wr.alloc (.cells #[] 3) := ⟨_, rfl⟩
      have hb3 : Below wr.heap.size wr w3 := by rw [hw3]; exact (Below.refl _ _).alloc (Nat.le_refl _) _
      have ow3 : w3.ownsRow wr.heap.size 3 1 (.slice (some ⟨wr.heap.size, 0, none⟩) 0 0) 0 [] := by rw [hw3]; exact made0 rfl (Nat.le_refl _)
      have HWE := Lib.hid hw3
      have HO3 := Lib.hid hvs
      have HOW3 := Lib.hid ow3
      have HB3 := Lib.hid hb3
      clear hw3 hb3 ow3 hvs
      go_wp2_with fail
      rw [← HWE.out]
      clear HOWN
      obtain ⟨wo, rfl⟩ : ∃ wo : World, wo = wr := ⟨_, rfl⟩
      go_loopw [6, 7] (fun u6 u7 wi => ∃ k m : Nat, k ≤ D.length ∧ m ≤ k ∧ u7 = .int .i64 k ∧ Hid (wi.ownsRow wo.heap.size 3 1 u6 m (intsV (rankTo D r k))) ∧ Hid (Below wo.heap.size wo wi)) (fun _ u7 _ => D.length - (intOf u7).toNat)
      case atStart => exact ⟨0, 0, Nat.zero_le _, Nat.le_refl _, rfl, HOW3, HB3⟩
      case round =>
        clear HOW3 HB3
        obtain ⟨k, m, hk, hmk, rfl, HOWN, HB2⟩ := hrel
        by_cases hltk : k < D.length
        · obtain ⟨b1, o1, _, hv1, _, _, hl1, hc1⟩ := (Rd.below (Rd.of_own HRD.out) HB2.out).form (by omega) (by omega)
          have hA1 : A4 = some ⟨b1, o1, none⟩ := by injection hv1
          subst hA1
          obtain ⟨y, hy⟩ : ∃ y, y = D[k] := ⟨_, rfl⟩
          have d0 := int_cell (Below.refl _ _) hl1 hc1 hltk y hy
          have hk0 : (0 : Int) ≤ (k : Int) := by omega
          have hk1 : (k : Int) < (D.length : Int) := by omega
          have HS0 := Lib.hid (rankTo_getD (r := r) hltk y hy)
          clear hy hv1 hc1
          by_cases e : y = r
          · have HS := Lib.hid (HS0.out.trans (if_pos e))
            have t0 : (y == (r : Int)) = true := by simp [e]
            clear e HS0
            go_wp2_with ((at_builtin; refine wpList_append_new rfl _ _ _ rfl _ _ i0 _ 1 8 Try.underlying28 hii hz0 hz1 hz2 rfl (by decide) u6  m _ rfl ( HOWN.out) ( HB2.out) (Below.size ( HB2.out)) _ 1 1 (by first | rfl | (refine slice_at_eq ?_; simp [World.setCell]; done)) rfl (by intro u hu; simp at hu; subst hu; rfl) ⟨by omega, by omega⟩ ?_; intro v1 w1 hown1 hb1 hg1 hat1; have HO1 := Lib.hid hown1; have HB1 := Lib.hid hb1; clear hown1 hb1 hg1 hat1))
            go_roundw
            case rel => exact ⟨k + 1, m + 1, by omega, by omega, by go_num, by rw [HS.out]; exact Lib.hid (own_push HO1.out), HB1⟩
            case measure => simp [intOf]; omega
          · have HS := Lib.hid (HS0.out.trans (if_neg e))
            have t0 : (y == (r : Int)) = false := by simp [e]
            clear e HS0
            go_wp2_with fail
            go_roundw
            case rel => exact ⟨k + 1, m, by omega, by omega, by go_num, by rw [HS.out]; exact HOWN, HB2⟩
            case measure => simp [intOf]; omega
        · obtain rfl : k = D.length := by omega
          have hml : m = (rankAt D r).length := by have := HOWN.out.1; simp [intsV] at this; exact this.symm
          have HV := Lib.hid (show wr.ownsRow wo.heap.size 3 1 u6 (rankAt D r).length (intsV (rankAt D r)) by rw [← hml]; exact HOWN.out)
          have HNIL := Lib.hid (rankAt_nil (D := D) (r := r))
          have hral := rankTo_le D r D.length
          obtain ⟨q, hq⟩ : ∃ q, q = (rankAt D r).length := ⟨_, rfl⟩
          have hq30 : q ≤ 12 := by rw [hq]; unfold rankAt; omega
          rw [← hq] at HV HNIL
          obtain ⟨A6, c6, rfl, hnc6, hcm6⟩ := (Rd.of_own HV.out).shape
          have h1 := own_below HO3.out.1 HB2.out
          rw [hrl] at h1
          have hsz : w.heap.size ≤ wo.heap.size := HB.out.size
          have hbE : Below w.heap.size w wr := HB.out.trans (HB2.out.mono hsz)
          have HD2 := Lib.hid (own_below HRD.out HB2.out)
          have HH1 := Lib.hid h1
          have HQ := Lib.hid hq
          have HV' := Lib.hid (show wr.ownsRow wo.heap.size 3 1 (.slice A6 q c6) (rankAt D r).length (intsV (rankAt D r)) by rw [← HQ.out]; exact HV.out)
          clear hml HOWN hq hral
          by_cases hq0 : q = 0
          · have hrN : r = N := by
              rcases Nat.lt_or_ge r N with h | h
              · have h3 := HNIL.out.1 hq0; rw [HN1.out r h] at h3; cases h3
              · omega
            have HRN := Lib.hid hrN
            have HQ0 := Lib.hid hq0
            subst hq0
            clear hrN
            go_wp2_with fail
            go_ret
            exact HEND.out _ HB2.out HRN.out
          · have hrN : r < N := by
              rcases Nat.lt_or_ge r N with h | h
              · exact h
              · have e : r = N := by omega
                exact absurd (HNIL.out.2 (by rw [e]; exact HN2.out)) hq0
            have t0 : ((q : Int) == 0) = false := by simp; omega
            clear hq0
            go_wp2_with (at_builtin; refine wpList_append_new (w0 := w) rfl _ _ _ rfl _ _ j0 _ 1 24 Try.underlying30 hjj hj0 hj1 hj2 rfl (by decide) u3 r _ rfl h1 hbE (Below.size hbE) _ 1 1 (by first | rfl | (refine slice_at_eq ?_; simp [World.setCell]; done)) rfl (by intro u hu; simp at hu; subst hu; rfl) ⟨by omega, by omega⟩ ?_; intro v1 w1 hown1 hb1 hg1 hat1; have HO1 := Lib.hid hown1; have HB1 := Lib.hid hb1; have HG1 := Lib.hid hg1; clear hown1 hb1 hg1 hat1)
            go_roundw
            case rel => exact ⟨r + 1, by omega, by go_num, Lib.hid ⟨_, OwnIss.push HO3.out HB2.out HV'.out hsz HG1.out (by rw [hrl]; exact HO1.out)⟩, HB1, Lib.hid (own_grown (own_below HD2.out ((Below.refl _ _).alloc (Nat.le_refl _) _)) HG1.out (own_types_ne HD2.out HH1.out (by decide)))⟩
            case measure => simp [intOf]; omega
    · have hrN : r = N := by omega
      have HF := Lib.hid (HEND.out wr (Below.refl _ _) hrN)
      clear hrN HEND
      go_wp2_with fail
      go_ret
      exact HF.out
end Go.Proofs.Ytbbjkldkjndfaaa

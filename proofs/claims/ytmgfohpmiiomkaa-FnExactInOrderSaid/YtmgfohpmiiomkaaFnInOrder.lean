/- The law FnExactInOrder returns true for every argument; no conditions. -/
import Derived.Test.YtmgfohpmiiomkaaInOrder
import Derived.Test.YtmgfohpmiiomkaaPlanK
import Derived.Test.YtmgfohpmiiomkaaIntsK
import Derived.Test.YtmgfohpmiiomkaaArgs
namespace Go.Proofs.Ytmgfohpmiiomkaa
set_option linter.unusedSimpArgs false
open Go.RowKit Go.ChangeShapes

set_option maxHeartbeats 8000000 in
set_option maxRecDepth 100000 in
theorem walk_FnExactInOrder (v0 v1 : Value) (w : World) (a0 : ArgPlan w v0) (a1 : ArgInts w v1) :
    Calls Try.prog 10 #[v0, v1] w fun e w' => e = .returned (.bool true) ∧ Below w.heap.size w w' := by
  obtain ⟨z0_0, x0, rfl, hx0⟩ := a0
  replace hx0 : Rd_plan w z0_0 x0 := hx0
  obtain ⟨x1, hx1⟩ := a1
  replace hx1 : Rd_ints w v1 x1 := hx1
  obtain ⟨A1, c1, hv1, hnc1, hcm1⟩ := Rd_ints.shape hx1
  unfold maxLen at hcm1
  subst hv1
  have hw0 : Below w.heap.size w w := Below.refl _ _
  obtain ⟨w1, hv1⟩ : ∃ W, W = w.alloc (.cells #[.int .i64 x0.prio, .int .i64 x0.most, .int .i64 x0.wait, .int .i64 x0.tasks, z0_0] 38) := ⟨_, rfl⟩
  have hb1 : Below w.heap.size w w1 := by rw [hv1]; exact (Below.refl _ _).alloc (Nat.le_refl _) _
  have k1 : Blk w1 w.heap.size 38 #[.int .i64 x0.prio, .int .i64 x0.most, .int .i64 x0.wait, .int .i64 x0.tasks, z0_0] := by rw [hv1]; exact Blk.new _ _ _
  have HV1 := Lib.hid hv1
  clear hv1
  have hg1 := k1.lt
  have hw1 := hw0.trans (hb1.mono hw0.size)
  have hs1 := hb1.size
  by_cases hn1 : cost_ints x1 ≤ 1048576
  rotate_left
  · skip
    go_enter Try.func10, Try.ntmps10
    go_wp2_with fail
    go_ret
    first | exact ⟨rfl, hw1⟩ | (rw [HV1.out] at *; exact ⟨rfl, (by repeat first | exact Below.refl _ _ | assumption | refine Below.drew ?_ | refine below_drewN ?_ _ | refine Below.calm ?_ (by first | exact Nat.le_refl _ | (simp; done) | (simp; omega) | omega) | refine Below.alloc ?_ (by first | exact Nat.le_refl _ | (simp; done) | (simp; omega) | omega) _ | refine Below.setCell ?_ (by first | exact Nat.le_refl _ | (simp; done) | (simp; omega) | omega) _)⟩)
  have HZ0 := Lib.hid (fun (W : World) (hW : Below w.heap.size w W) => sz_plan z0_0 x0 (1048576) W (hx0.below hW) (by omega) (by omega))
  by_cases hn0 : (1048576) - (cost_plan x0 : Int) < 0
  · skip
    unfold szv at HZ0
    rw [if_pos hn0] at HZ0
    go_enter Try.func10, Try.ntmps10
    have Qk1 := k1.cellsV
    simp only [CellsV, Nat.zero_add, Nat.reduceAdd] at Qk1
    have Bk1 := k1.lt
    go_wp2_with fail
    rw [← HV1.out]
    clear Bk1 Qk1
    refine (HZ0.out _ hw1).mono ?_
    rintro e w2 ⟨rfl, hb2⟩
    have hw2 := hw1.trans (hb2.mono hw1.size)
    have hs2 := hb2.size
    have k1 := k1.belowV hb2
    go_wp2_with fail
    go_ret
    first | exact ⟨rfl, hw2⟩ | (rw [HV1.out] at *; exact ⟨rfl, (by repeat first | exact Below.refl _ _ | assumption | refine Below.drew ?_ | refine below_drewN ?_ _ | refine Below.calm ?_ (by first | exact Nat.le_refl _ | (simp; done) | (simp; omega) | omega) | refine Below.alloc ?_ (by first | exact Nat.le_refl _ | (simp; done) | (simp; omega) | omega) _ | refine Below.setCell ?_ (by first | exact Nat.le_refl _ | (simp; done) | (simp; omega) | omega) _)⟩)
  unfold szv at HZ0
  rw [if_neg hn0] at HZ0
  have hc0 : cost_plan x0 ≤ 1048576 := by omega
  have hc1 : cost_ints x1 ≤ 1048576 := hn1
  go_enter Try.func10, Try.ntmps10
  have Qk1 := k1.cellsV
  simp only [CellsV, Nat.zero_add, Nat.reduceAdd] at Qk1
  have Bk1 := k1.lt
  go_wp2_with fail
  rw [← HV1.out]
  clear Bk1 Qk1
  refine (HZ0.out _ hw1).mono ?_
  rintro e w2 ⟨rfl, hb2⟩
  have hw2 := hw1.trans (hb2.mono hw1.size)
  have hs2 := hb2.size
  have k1 := k1.belowV hb2
  clear HZ0
  have Qk1 := k1.cellsV
  simp only [CellsV, Nat.zero_add, Nat.reduceAdd] at Qk1
  obtain ⟨Ck10, Ck11, Ck12, Ck13, Ck14⟩ := Qk1
  have Bk1 := k1.lt
  go_wp2_with fail
  clear Bk1 Ck10 Ck11 Ck12 Ck13 Ck14
  refine (to_plan z0_0 x0 _ (hx0.below hw2) hc0).mono ?_
  rintro e w3 ⟨t3_0, rfl, o3, hb3⟩
  have hw3 := hw2.trans (hb3.mono hw2.size)
  have hs3 := hb3.size
  have k1 := k1.belowV hb3
  have Qk1 := k1.cellsV
  simp only [CellsV, Nat.zero_add, Nat.reduceAdd] at Qk1
  obtain ⟨Ck10, Ck11, Ck12, Ck13, Ck14⟩ := Qk1
  have Bk1 := k1.lt
  go_wp2_with fail
  clear Bk1 Ck10 Ck11 Ck12 Ck13 Ck14
  refine (to_ints (.slice A1 (cost_ints x1) c1) x1 _ (hx1.below hw3) hc1).mono ?_
  rintro e w4 ⟨t4_0, rfl, o4, hb4⟩
  have hw4 := hw3.trans (hb4.mono hw3.size)
  have hs4 := hb4.size
  have o3 := o3.below hb4
  have k1 := k1.belowV hb4
  have Qk1 := k1.cellsV
  simp only [CellsV, Nat.zero_add, Nat.reduceAdd] at Qk1
  obtain ⟨Ck10, Ck11, Ck12, Ck13, Ck14⟩ := Qk1
  have Bk1 := k1.lt
  go_wp2_with fail
  clear Bk1 Ck10 Ck11 Ck12 Ck13 Ck14
  refine (inOrder_spec t3_0 x0 t4_0 x1 _ o3.rd o4.rd hc0 hc1).mono ?_
  rintro e w5 ⟨rfl, hb5⟩
  have hw5 := hw4.trans (hb5.mono hw4.size)
  have hs5 := hb5.size
  have o3 := o3.below hb5
  have o4 := o4.below hb5
  have k1 := k1.belowV hb5
  have Qk1 := k1.cellsV
  simp only [CellsV, Nat.zero_add, Nat.reduceAdd] at Qk1
  obtain ⟨Ck10, Ck11, Ck12, Ck13, Ck14⟩ := Qk1
  have Bk1 := k1.lt
  go_wp2_with fail
  clear Bk1 Ck10 Ck11 Ck12 Ck13 Ck14
  refine (to_plan z0_0 x0 _ (hx0.below hw5) hc0).mono ?_
  rintro e w6 ⟨t6_0, rfl, o6, hb6⟩
  have hw6 := hw5.trans (hb6.mono hw5.size)
  have hs6 := hb6.size
  have k1 := k1.belowV hb6
  obtain ⟨B6_0, C6_0, rfl⟩ := o6.form
  have Qk1 := k1.cellsV
  simp only [CellsV, Nat.zero_add, Nat.reduceAdd] at Qk1
  obtain ⟨Ck10, Ck11, Ck12, Ck13, Ck14⟩ := Qk1
  have Bk1 := k1.lt
  go_wp2_with fail
  clear Bk1 Ck10 Ck11 Ck12 Ck13 Ck14
  obtain ⟨w7, hv7⟩ : ∃ W, W = w6.alloc (.cells #[.int .i64 x0.prio, .int .i64 x0.most, .int .i64 x0.wait, .int .i64 x0.tasks, (.slice B6_0 (List.length x0.edges) C6_0)] 26) := ⟨_, rfl⟩
  rw [← hv7]
  have hb7 : Below w6.heap.size w6 w7 := by rw [hv7]; exact (Below.refl _ _).alloc (Nat.le_refl _) _
  have k7 : Blk w7 w6.heap.size 26 #[.int .i64 x0.prio, .int .i64 x0.most, .int .i64 x0.wait, .int .i64 x0.tasks, (.slice B6_0 (List.length x0.edges) C6_0)] := by rw [hv7]; exact Blk.new _ _ _
  clear hv7
  have hg7 := k7.lt
  have hw7 := hw6.trans (hb7.mono hw6.size)
  have hs7 := hb7.size
  have o6 := o6.below hb7
  have k1 := k1.belowV hb7
  refine (to_ints (.slice A1 (cost_ints x1) c1) x1 _ (hx1.below hw7) hc1).mono ?_
  rintro e w8 ⟨t8_0, rfl, o8, hb8⟩
  have hw8 := hw7.trans (hb8.mono hw7.size)
  have hs8 := hb8.size
  have o6 := o6.below hb8
  have k1 := k1.belowV hb8
  have k7 := k7.belowV hb8
  have Qk1 := k1.cellsV
  simp only [CellsV, Nat.zero_add, Nat.reduceAdd] at Qk1
  obtain ⟨Ck10, Ck11, Ck12, Ck13, Ck14⟩ := Qk1
  have Bk1 := k1.lt
  have Qk7 := k7.cellsV
  simp only [CellsV, Nat.zero_add, Nat.reduceAdd] at Qk7
  obtain ⟨Ck70, Ck71, Ck72, Ck73, Ck74⟩ := Qk7
  have Bk7 := k7.lt
  go_wp2_with fail
  clear Bk1 Ck10 Ck11 Ck12 Ck13 Ck14
  clear Bk7 Ck70 Ck71 Ck72 Ck73 Ck74
  refine (inOrder_impl (.slice B6_0 (List.length x0.edges) C6_0) x0 t8_0 x1 _ o6.rd o8.rd hc0 hc1).mono ?_
  rintro e w9 ⟨rfl, hb9⟩
  have hw9 := hw8.trans (hb9.mono hw8.size)
  have hs9 := hb9.size
  have o6 := o6.below hb9
  have o8 := o8.below hb9
  have k1 := k1.belowV hb9
  have k7 := k7.belowV hb9
  have Qk1 := k1.cellsV
  simp only [CellsV, Nat.zero_add, Nat.reduceAdd] at Qk1
  obtain ⟨Ck10, Ck11, Ck12, Ck13, Ck14⟩ := Qk1
  have Bk1 := k1.lt
  have Qk7 := k7.cellsV
  simp only [CellsV, Nat.zero_add, Nat.reduceAdd] at Qk7
  obtain ⟨Ck70, Ck71, Ck72, Ck73, Ck74⟩ := Qk7
  have Bk7 := k7.lt
  go_wp2_with fail
  have hb10 : Below w9.heap.size w9 w9.drew := (Below.refl _ _).drew
  have hw10 := hw9.trans (hb10.mono hw9.size)
  have hs10 := hb10.size
  have o6 := o6.below hb10
  have o8 := o8.below hb10
  have k1 := k1.belowV hb10
  have k7 := k7.belowV hb10
  have hq10 := hb10
  refine wp_region_sched [(0, true), (1, true), (2, false), (3, false), (4, true)] [(true, _), (true, _), (false, _), (false, _), (true, _)] rfl (by kernel_rfl) (by kernel_rfl) (KeptS _ none) (KeptS.refl _ _).drew ?_
  try simp only [List.getElem_toArray, List.getElem_cons_succ, List.getElem_cons_zero]
  (refine wpS_held (by rfl) ?_ (fun W hW => ?_) ?_; rotate_left; (· (obtain ⟨kq, rfl⟩ := hW; go_simp; try with_reducible rfl)); try simp only [Act.put, List.setIfInBounds_toArray, List.set_cons_succ, List.set_cons_zero])
  (refine wpS_held (by rfl) ?_ (fun W hW => ?_) ?_; rotate_left; (· (obtain ⟨kq, rfl⟩ := hW; go_simp; try with_reducible rfl)); try simp only [Act.put, List.setIfInBounds_toArray, List.set_cons_succ, List.set_cons_zero])
  (refine wpS_call 27 (by rfl) (by rfl) Try.func27 (by kernel_rfl) (by rfl) (by rfl) ?_; (conv => arg 3; simp [Act.eval]); (first | ((with_reducible refine (to_plan z0_0 x0 _ (hx0.below hw10) hc0).mono ?_); rintro e w11 ⟨t11_0, rfl, o11, hb11⟩; have hw11 := hw10.trans (hb11.mono hw10.size); have hs11 := hb11.size; have hq11 := hq10.trans (hb11.mono hq10.size); have o6 := o6.below hb11; have o8 := o8.below hb11; have k1 := k1.belowV hb11; have k7 := k7.belowV hb11) | ((with_reducible refine (eq_plan (.slice B6_0 (List.length x0.edges) C6_0) t11_0 x0 _ o6.rd o11.rd).mono ?_); rintro e w12 ⟨rfl, hb12⟩; have hw12 := hw11.trans (hb12.mono hw11.size); have hs12 := hb12.size; have hq12 := hq11.trans (hb12.mono hq11.size); have o6 := o6.below hb12; have o8 := o8.below hb12; have k1 := k1.belowV hb12; have k7 := k7.belowV hb12)); refine ⟨_, rfl, ?_, ?_⟩; (· (repeat first | exact KeptS.refl _ _ | exact KeptS.of (only_of_below (by assumption) _) | assumption | refine KeptS.drew ?_ | refine KeptS.alloc ?_ _ | refine KeptS.grown ?_ (by assumption) | refine KeptS.below ?_ (by assumption) | refine KeptS.belowAt ?_ (by assumption) | refine KeptS.setRow ?_ (by simp; done) _ | refine KeptS.setNew ?_ (by simp) _)); try simp only [Act.put, List.setIfInBounds_toArray, List.set_cons_succ, List.set_cons_zero])
  (refine wpS_call 29 (by rfl) (by rfl) Try.func29 (by kernel_rfl) (by rfl) (by rfl) ?_; (conv => arg 3; simp [Act.eval]); (first | ((with_reducible refine (to_plan z0_0 x0 _ (hx0.below hw10) hc0).mono ?_); rintro e w11 ⟨t11_0, rfl, o11, hb11⟩; have hw11 := hw10.trans (hb11.mono hw10.size); have hs11 := hb11.size; have hq11 := hq10.trans (hb11.mono hq10.size); have o6 := o6.below hb11; have o8 := o8.below hb11; have k1 := k1.belowV hb11; have k7 := k7.belowV hb11) | ((with_reducible refine (eq_plan (.slice B6_0 (List.length x0.edges) C6_0) t11_0 x0 _ o6.rd o11.rd).mono ?_); rintro e w12 ⟨rfl, hb12⟩; have hw12 := hw11.trans (hb12.mono hw11.size); have hs12 := hb12.size; have hq12 := hq11.trans (hb12.mono hq11.size); have o6 := o6.below hb12; have o8 := o8.below hb12; have k1 := k1.belowV hb12; have k7 := k7.belowV hb12)); refine ⟨_, rfl, ?_, ?_⟩; (· (repeat first | exact KeptS.refl _ _ | exact KeptS.of (only_of_below (by assumption) _) | assumption | refine KeptS.drew ?_ | refine KeptS.alloc ?_ _ | refine KeptS.grown ?_ (by assumption) | refine KeptS.below ?_ (by assumption) | refine KeptS.belowAt ?_ (by assumption) | refine KeptS.setRow ?_ (by simp; done) _ | refine KeptS.setNew ?_ (by simp) _)); try simp only [Act.put, List.setIfInBounds_toArray, List.set_cons_succ, List.set_cons_zero])
  (refine wpS_held (by rfl) ?_ (fun W hW => ?_) ?_; rotate_left; (· (obtain ⟨kq, rfl⟩ := hW; go_simp; try with_reducible rfl)); try simp only [Act.put, List.setIfInBounds_toArray, List.set_cons_succ, List.set_cons_zero])
  refine wpS_nil ?_
  try simp only [List.getElem_toArray, List.getElem_cons_succ, List.getElem_cons_zero]
  clear Bk1 Ck10 Ck11 Ck12 Ck13 Ck14
  clear Bk7 Ck70 Ck71 Ck72 Ck73 Ck74
  have Qk1 := k1.cellsV
  simp only [CellsV, Nat.zero_add, Nat.reduceAdd] at Qk1
  obtain ⟨Ck10, Ck11, Ck12, Ck13, Ck14⟩ := Qk1
  have Bk1 := k1.lt
  have Qk7 := k7.cellsV
  simp only [CellsV, Nat.zero_add, Nat.reduceAdd] at Qk7
  obtain ⟨Ck70, Ck71, Ck72, Ck73, Ck74⟩ := Qk7
  have Bk7 := k7.lt
  go_wp2_with fail
  clear Bk1 Ck10 Ck11 Ck12 Ck13 Ck14
  clear Bk7 Ck70 Ck71 Ck72 Ck73 Ck74
  refine (to_ints (.slice A1 (cost_ints x1) c1) x1 _ (hx1.below hw12) hc1).mono ?_
  rintro e w13 ⟨t13_0, rfl, o13, hb13⟩
  have hw13 := hw12.trans (hb13.mono hw12.size)
  have hs13 := hb13.size
  have o6 := o6.below hb13
  have o8 := o8.below hb13
  have k1 := k1.belowV hb13
  have k7 := k7.belowV hb13
  have Qk1 := k1.cellsV
  simp only [CellsV, Nat.zero_add, Nat.reduceAdd] at Qk1
  obtain ⟨Ck10, Ck11, Ck12, Ck13, Ck14⟩ := Qk1
  have Bk1 := k1.lt
  have Qk7 := k7.cellsV
  simp only [CellsV, Nat.zero_add, Nat.reduceAdd] at Qk7
  obtain ⟨Ck70, Ck71, Ck72, Ck73, Ck74⟩ := Qk7
  have Bk7 := k7.lt
  go_wp2_with fail
  clear Bk1 Ck10 Ck11 Ck12 Ck13 Ck14
  clear Bk7 Ck70 Ck71 Ck72 Ck73 Ck74
  refine (eq_ints t8_0 t13_0 x1 _ o8.rd o13.rd).mono ?_
  rintro e w14 ⟨rfl, hb14⟩
  have hw14 := hw13.trans (hb14.mono hw13.size)
  have hs14 := hb14.size
  have o6 := o6.below hb14
  have o8 := o8.below hb14
  have k1 := k1.belowV hb14
  have k7 := k7.belowV hb14
  have Qk1 := k1.cellsV
  simp only [CellsV, Nat.zero_add, Nat.reduceAdd] at Qk1
  obtain ⟨Ck10, Ck11, Ck12, Ck13, Ck14⟩ := Qk1
  have Bk1 := k1.lt
  have Qk7 := k7.cellsV
  simp only [CellsV, Nat.zero_add, Nat.reduceAdd] at Qk7
  obtain ⟨Ck70, Ck71, Ck72, Ck73, Ck74⟩ := Qk7
  have Bk7 := k7.lt
  go_wp2_with fail
  clear Bk1 Ck10 Ck11 Ck12 Ck13 Ck14
  clear Bk7 Ck70 Ck71 Ck72 Ck73 Ck74
  go_ret
  exact ⟨rfl, hw14⟩

namespace fnExactInOrder
open Go.ChangeShapes Go.WideShapes Go.ChangeAt Go.RowKit
theorem own : ownKnob Try.prog.godebug = none := by kernel_rfl
theorem laidOut : laidOutB Try.prog = true := by kernel_rfl

set_option maxRecDepth 100000 in
theorem lifted (os : Os) (started : os.Started) (H : Type) (enc : TypeId × Value → H) :
    ReturnsInHanded {} Try.checked os 10 .any (Rows.fnExactInOrderSpec.pre6 enc Try.prog Try.f10 Rows.fnExactInOrderRow.domain false) (Rows.fnExactInOrderSpec.post enc Try.prog Try.f10 false true false false) := by
  refine returnsInHanded_of_change (C := Try.checked) own started (by kernel_rfl) Try.func10
    (ChangeSpec.witness6 (enc := enc) (C := Try.checked) false ⟨#[], #[.agg #[.int .i64 0, .int .i64 0, .int .i64 0, .int .i64 0, .slice none 0 0], .slice none 0 0], []⟩ 8 (by kernel_rfl) (by kernel_rfl) (by kernel_rfl) (by kernel_rfl)) ?_
  intro W base args ds gs before hval0 hW hcnd _
  have hval : ∀ (j : Nat) t v, Try.f10.params[j]? = some t → args[j]? = some v → Value.okWide Try.prog W .any base t v := hval0
  have hW' := hW
  obtain ⟨p, q, hA0, hV, rfl, hfz, hnd⟩ := hW
  have hA : DataW.TrodAll enc Try.prog W 0 (fun _ => true) true Try.f10.params.toList args.toList ds p := hA0
  rw [Try.params10] at hA hval
  obtain ⟨v0, vs0, d0, ds0, p0, q0, hargs, rfl, rfl, h0, r0⟩ := trodAll_cons hA
  obtain ⟨v1, vs1, d1, ds1, p1, q1, rfl, rfl, rfl, h1, r1⟩ := trodAll_cons r0
  obtain ⟨rfl, rfl, rfl⟩ := trodAll_nil r1
  obtain rfl : args = #[v0, v1] := by cases args; simp_all
  obtain ⟨rfl, rfl⟩ := trodVars_none hV
  have lt0 : ∀ x ∈ p0, x.block < W.heap.size := by obtain ⟨m, hm⟩ := h0; exact DataW.trod_lt m _ _ _ hm
  have a0 := arg_plan (hval 0 38 v0 rfl rfl) h0
  have lt1 : ∀ x ∈ p1, x.block < W.heap.size := by obtain ⟨m, hm⟩ := h1; exact DataW.trod_lt m _ _ _ hm
  have a1 := arg_ints (hval 1 28 v1 rfl rfl) h1
  clear hA0 hval0
  refine (walk_FnExactInOrder v0 v1 W a0 a1).mono fun e W' ⟨he, bel⟩ => ?_
  subst he
  exact ⟨_, rfl, _, _, _, [], _, [], hW', trodAll_mk1 (shut_bool Try.underlying4 _), (trodAll_cons_mk (Below.trod laidOut (by kernel_rfl) (of_decide_eq_true (by kernel_rfl)) h0 bel lt0) (trodAll_cons_mk (Below.trod laidOut (by kernel_rfl) (of_decide_eq_true (by kernel_rfl)) h1 bel lt1) trodAll_mk0)), rfl, bel.frame _, fun h => by cases h⟩

theorem over : Rows.fnExactInOrderRow.holds Try.pinned (OpenSpec.ofChange Rows.fnExactInOrderSpec) :=
  OpenClaim.holds_of_wide 10 Try.f10 rfl rfl rfl rfl rfl rfl rfl ⟨rfl, rfl, rfl, rfl, rfl⟩ rfl rfl rfl rfl rfl (by kernel_rfl) Try.func10 (by kernel_rfl)
    (of_decide_eq_true (by kernel_rfl)) (by unfold Func.isWrapper; first | (rw [if_pos (by decide +kernel)]; kernel_rfl) | (rw [if_neg (by decide +kernel)]; exact ⟨rfl, rfl⟩))
    (fun os started H enc _ => lifted os started H enc)

/-- The statement. -/
theorem proved : Rows.FnExactInOrderSaid :=
  over
#print axioms proved
end fnExactInOrder

end Go.Proofs.Ytmgfohpmiiomkaa

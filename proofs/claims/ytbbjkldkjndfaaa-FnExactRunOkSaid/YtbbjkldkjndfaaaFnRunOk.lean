/- The law FnExactRunOk returns true for every argument; no conditions. -/
import Derived.Test.YtbbjkldkjndfaaaRunOk
import Derived.Test.YtbbjkldkjndfaaaRunK
import Derived.Test.YtbbjkldkjndfaaaArgs
namespace Go.Proofs.Ytbbjkldkjndfaaa
set_option linter.unusedSimpArgs false
open Go.RowKit Go.ChangeShapes

set_option maxHeartbeats 8000000 in
set_option maxRecDepth 100000 in
theorem walk_FnExactRunOk (v0 : Value) (w : World) (a0 : ArgRun w v0) :
    Calls Try.prog 9 #[v0] w fun e w' => e = .returned (.bool true) ∧ Below w.heap.size w w' := by
  obtain ⟨z0_0, z0_1, x0, rfl, hx0⟩ := a0
  replace hx0 : Rd_run w z0_0 z0_1 x0 := hx0
  have hw0 : Below w.heap.size w w := Below.refl _ _
  obtain ⟨w1, hv1⟩ : ∃ W, W = w.alloc (.cells #[.int .i64 x0.id, .int .i64 x0.plan.prio, .int .i64 x0.plan.most, .int .i64 x0.plan.wait, .int .i64 x0.plan.tasks, z0_0, .int .i64 x0.state, z0_1] 65) := ⟨_, rfl⟩
  have hb1 : Below w.heap.size w w1 := by rw [hv1]; exact (Below.refl _ _).alloc (Nat.le_refl _) _
  have k1 : Blk w1 w.heap.size 65 #[.int .i64 x0.id, .int .i64 x0.plan.prio, .int .i64 x0.plan.most, .int .i64 x0.plan.wait, .int .i64 x0.plan.tasks, z0_0, .int .i64 x0.state, z0_1] := by rw [hv1]; exact Blk.new _ _ _
  have HV1 := Lib.hid hv1
  clear hv1
  have hg1 := k1.lt
  have hw1 := hw0.trans (hb1.mono hw0.size)
  have hs1 := hb1.size
  have HZ0 := Lib.hid (fun (W : World) (hW : Below w.heap.size w W) => sz_run z0_0 z0_1 x0 (1048576) W (hx0.below hW) (by omega) (by omega))
  by_cases hn0 : (1048576) - (cost_run x0 : Int) < 0
  · skip
    unfold szv at HZ0
    rw [if_pos hn0] at HZ0
    go_enter Try.func9, Try.ntmps9
    have Qk1 := k1.cellsV
    simp only [CellsV, Nat.zero_add, Nat.reduceAdd] at Qk1
    have Bk1 := k1.lt
    go_wp2_with fail
    rw [← HV1.out]
    clear Bk1 Qk1
    refine (HZ0.out _ hw1).mono ?_
    rintro e w2 ⟨rfl, hb2⟩
    have hw2 := hw1.trans (hb2.mono hw1.size)
    have hs2 := hb2.size
    have k1 := k1.belowV hb2
    go_wp2_with fail
    go_ret
    first | exact ⟨rfl, hw2⟩ | (rw [HV1.out] at *; exact ⟨rfl, (by repeat first | exact Below.refl _ _ | assumption | refine Below.drew ?_ | refine below_drewN ?_ _ | refine Below.calm ?_ (by first | exact Nat.le_refl _ | (simp; done) | (simp; omega) | omega) | refine Below.alloc ?_ (by first | exact Nat.le_refl _ | (simp; done) | (simp; omega) | omega) _ | refine Below.setCell ?_ (by first | exact Nat.le_refl _ | (simp; done) | (simp; omega) | omega) _)⟩)
  unfold szv at HZ0
  rw [if_neg hn0] at HZ0
  have hc0 : cost_run x0 ≤ 1048576 := by omega
  go_enter Try.func9, Try.ntmps9
  have Qk1 := k1.cellsV
  simp only [CellsV, Nat.zero_add, Nat.reduceAdd] at Qk1
  have Bk1 := k1.lt
  go_wp2_with fail
  rw [← HV1.out]
  clear Bk1 Qk1
  refine (HZ0.out _ hw1).mono ?_
  rintro e w2 ⟨rfl, hb2⟩
  have hw2 := hw1.trans (hb2.mono hw1.size)
  have hs2 := hb2.size
  have k1 := k1.belowV hb2
  clear HZ0
  have Qk1 := k1.cellsV
  simp only [CellsV, Nat.zero_add, Nat.reduceAdd] at Qk1
  obtain ⟨Ck10, Ck11, Ck12, Ck13, Ck14, Ck15, Ck16, Ck17⟩ := Qk1
  have Bk1 := k1.lt
  go_wp2_with fail
  clear Bk1 Ck10 Ck11 Ck12 Ck13 Ck14 Ck15 Ck16 Ck17
  refine (to_run z0_0 z0_1 x0 _ (hx0.below hw2) hc0).mono ?_
  rintro e w3 ⟨t3_0, t3_1, rfl, o3, hb3⟩
  have hw3 := hw2.trans (hb3.mono hw2.size)
  have hs3 := hb3.size
  have k1 := k1.belowV hb3
  have Qk1 := k1.cellsV
  simp only [CellsV, Nat.zero_add, Nat.reduceAdd] at Qk1
  obtain ⟨Ck10, Ck11, Ck12, Ck13, Ck14, Ck15, Ck16, Ck17⟩ := Qk1
  have Bk1 := k1.lt
  go_wp2_with fail
  clear Bk1 Ck10 Ck11 Ck12 Ck13 Ck14 Ck15 Ck16 Ck17
  refine (runOk_spec t3_0 t3_1 x0 _ o3.rd hc0).mono ?_
  rintro e w4 ⟨rfl, hb4⟩
  have hw4 := hw3.trans (hb4.mono hw3.size)
  have hs4 := hb4.size
  have o3 := o3.below hb4
  have k1 := k1.belowV hb4
  have Qk1 := k1.cellsV
  simp only [CellsV, Nat.zero_add, Nat.reduceAdd] at Qk1
  obtain ⟨Ck10, Ck11, Ck12, Ck13, Ck14, Ck15, Ck16, Ck17⟩ := Qk1
  have Bk1 := k1.lt
  go_wp2_with fail
  clear Bk1 Ck10 Ck11 Ck12 Ck13 Ck14 Ck15 Ck16 Ck17
  refine (to_run z0_0 z0_1 x0 _ (hx0.below hw4) hc0).mono ?_
  rintro e w5 ⟨t5_0, t5_1, rfl, o5, hb5⟩
  have hw5 := hw4.trans (hb5.mono hw4.size)
  have hs5 := hb5.size
  have k1 := k1.belowV hb5
  obtain ⟨B5_0, C5_0, B5_1, C5_1, rfl, rfl⟩ := o5.form
  have Qk1 := k1.cellsV
  simp only [CellsV, Nat.zero_add, Nat.reduceAdd] at Qk1
  obtain ⟨Ck10, Ck11, Ck12, Ck13, Ck14, Ck15, Ck16, Ck17⟩ := Qk1
  have Bk1 := k1.lt
  go_wp2_with fail
  clear Bk1 Ck10 Ck11 Ck12 Ck13 Ck14 Ck15 Ck16 Ck17
  obtain ⟨w6, hv6⟩ : ∃ W, W = w5.alloc (.cells #[.int .i64 x0.id, .int .i64 x0.plan.prio, .int .i64 x0.plan.most, .int .i64 x0.plan.wait, .int .i64 x0.plan.tasks, (.slice B5_0 (List.length x0.plan.edges) C5_0), .int .i64 x0.state, (.slice B5_1 (List.length x0.tasks) C5_1)] 52) := ⟨_, rfl⟩
  rw [← hv6]
  have hb6 : Below w5.heap.size w5 w6 := by rw [hv6]; exact (Below.refl _ _).alloc (Nat.le_refl _) _
  have k6 : Blk w6 w5.heap.size 52 #[.int .i64 x0.id, .int .i64 x0.plan.prio, .int .i64 x0.plan.most, .int .i64 x0.plan.wait, .int .i64 x0.plan.tasks, (.slice B5_0 (List.length x0.plan.edges) C5_0), .int .i64 x0.state, (.slice B5_1 (List.length x0.tasks) C5_1)] := by rw [hv6]; exact Blk.new _ _ _
  clear hv6
  have hg6 := k6.lt
  have hw6 := hw5.trans (hb6.mono hw5.size)
  have hs6 := hb6.size
  have o5 := o5.below hb6
  have k1 := k1.belowV hb6
  refine (runOk_impl (.slice B5_0 (List.length x0.plan.edges) C5_0) (.slice B5_1 (List.length x0.tasks) C5_1) x0 _ o5.rd hc0).mono ?_
  rintro e w7 ⟨rfl, hb7⟩
  have hw7 := hw6.trans (hb7.mono hw6.size)
  have hs7 := hb7.size
  have o5 := o5.below hb7
  have k1 := k1.belowV hb7
  have k6 := k6.belowV hb7
  have Qk1 := k1.cellsV
  simp only [CellsV, Nat.zero_add, Nat.reduceAdd] at Qk1
  obtain ⟨Ck10, Ck11, Ck12, Ck13, Ck14, Ck15, Ck16, Ck17⟩ := Qk1
  have Bk1 := k1.lt
  have Qk6 := k6.cellsV
  simp only [CellsV, Nat.zero_add, Nat.reduceAdd] at Qk6
  obtain ⟨Ck60, Ck61, Ck62, Ck63, Ck64, Ck65, Ck66, Ck67⟩ := Qk6
  have Bk6 := k6.lt
  go_wp2_with fail
  have hb8 : Below w7.heap.size w7 w7.drew := (Below.refl _ _).drew
  have hw8 := hw7.trans (hb8.mono hw7.size)
  have hs8 := hb8.size
  have o5 := o5.below hb8
  have k1 := k1.belowV hb8
  have k6 := k6.belowV hb8
  have hq8 := hb8
  refine wp_region_sched [(0, true), (1, true), (2, false), (3, false), (4, true)] [(true, _), (true, _), (false, _), (false, _), (true, _)] rfl (by kernel_rfl) (by kernel_rfl) (KeptS _ none) (KeptS.refl _ _).drew ?_
  try simp only [List.getElem_toArray, List.getElem_cons_succ, List.getElem_cons_zero]
  (refine wpS_held (by rfl) ?_ (fun W hW => ?_) ?_; rotate_left; (· (obtain ⟨kq, rfl⟩ := hW; go_simp; try with_reducible rfl)); try simp only [Act.put, List.setIfInBounds_toArray, List.set_cons_succ, List.set_cons_zero])
  (refine wpS_held (by rfl) ?_ (fun W hW => ?_) ?_; rotate_left; (· (obtain ⟨kq, rfl⟩ := hW; go_simp; try with_reducible rfl)); try simp only [Act.put, List.setIfInBounds_toArray, List.set_cons_succ, List.set_cons_zero])
  (refine wpS_call 49 (by rfl) (by rfl) Try.func49 (by kernel_rfl) (by rfl) (by rfl) ?_; (conv => arg 3; simp [Act.eval]); (first | ((with_reducible refine (to_run z0_0 z0_1 x0 _ (hx0.below hw8) hc0).mono ?_); rintro e w9 ⟨t9_0, t9_1, rfl, o9, hb9⟩; have hw9 := hw8.trans (hb9.mono hw8.size); have hs9 := hb9.size; have hq9 := hq8.trans (hb9.mono hq8.size); have o5 := o5.below hb9; have k1 := k1.belowV hb9; have k6 := k6.belowV hb9) | ((with_reducible refine (eq_run (.slice B5_0 (List.length x0.plan.edges) C5_0) (.slice B5_1 (List.length x0.tasks) C5_1) t9_0 t9_1 x0 _ o5.rd o9.rd).mono ?_); rintro e w10 ⟨rfl, hb10⟩; have hw10 := hw9.trans (hb10.mono hw9.size); have hs10 := hb10.size; have hq10 := hq9.trans (hb10.mono hq9.size); have o5 := o5.below hb10; have k1 := k1.belowV hb10; have k6 := k6.belowV hb10)); refine ⟨_, rfl, ?_, ?_⟩; (· (repeat first | exact KeptS.refl _ _ | exact KeptS.of (only_of_below (by assumption) _) | assumption | refine KeptS.drew ?_ | refine KeptS.alloc ?_ _ | refine KeptS.grown ?_ (by assumption) | refine KeptS.below ?_ (by assumption) | refine KeptS.belowAt ?_ (by assumption) | refine KeptS.setRow ?_ (by simp; done) _ | refine KeptS.setNew ?_ (by simp) _)); try simp only [Act.put, List.setIfInBounds_toArray, List.set_cons_succ, List.set_cons_zero])
  (refine wpS_call 51 (by rfl) (by rfl) Try.func51 (by kernel_rfl) (by rfl) (by rfl) ?_; (conv => arg 3; simp [Act.eval]); (first | ((with_reducible refine (to_run z0_0 z0_1 x0 _ (hx0.below hw8) hc0).mono ?_); rintro e w9 ⟨t9_0, t9_1, rfl, o9, hb9⟩; have hw9 := hw8.trans (hb9.mono hw8.size); have hs9 := hb9.size; have hq9 := hq8.trans (hb9.mono hq8.size); have o5 := o5.below hb9; have k1 := k1.belowV hb9; have k6 := k6.belowV hb9) | ((with_reducible refine (eq_run (.slice B5_0 (List.length x0.plan.edges) C5_0) (.slice B5_1 (List.length x0.tasks) C5_1) t9_0 t9_1 x0 _ o5.rd o9.rd).mono ?_); rintro e w10 ⟨rfl, hb10⟩; have hw10 := hw9.trans (hb10.mono hw9.size); have hs10 := hb10.size; have hq10 := hq9.trans (hb10.mono hq9.size); have o5 := o5.below hb10; have k1 := k1.belowV hb10; have k6 := k6.belowV hb10)); refine ⟨_, rfl, ?_, ?_⟩; (· (repeat first | exact KeptS.refl _ _ | exact KeptS.of (only_of_below (by assumption) _) | assumption | refine KeptS.drew ?_ | refine KeptS.alloc ?_ _ | refine KeptS.grown ?_ (by assumption) | refine KeptS.below ?_ (by assumption) | refine KeptS.belowAt ?_ (by assumption) | refine KeptS.setRow ?_ (by simp; done) _ | refine KeptS.setNew ?_ (by simp) _)); try simp only [Act.put, List.setIfInBounds_toArray, List.set_cons_succ, List.set_cons_zero])
  (refine wpS_held (by rfl) ?_ (fun W hW => ?_) ?_; rotate_left; (· (obtain ⟨kq, rfl⟩ := hW; go_simp; try with_reducible rfl)); try simp only [Act.put, List.setIfInBounds_toArray, List.set_cons_succ, List.set_cons_zero])
  refine wpS_nil ?_
  try simp only [List.getElem_toArray, List.getElem_cons_succ, List.getElem_cons_zero]
  clear Bk1 Ck10 Ck11 Ck12 Ck13 Ck14 Ck15 Ck16 Ck17
  clear Bk6 Ck60 Ck61 Ck62 Ck63 Ck64 Ck65 Ck66 Ck67
  have Qk1 := k1.cellsV
  simp only [CellsV, Nat.zero_add, Nat.reduceAdd] at Qk1
  obtain ⟨Ck10, Ck11, Ck12, Ck13, Ck14, Ck15, Ck16, Ck17⟩ := Qk1
  have Bk1 := k1.lt
  have Qk6 := k6.cellsV
  simp only [CellsV, Nat.zero_add, Nat.reduceAdd] at Qk6
  obtain ⟨Ck60, Ck61, Ck62, Ck63, Ck64, Ck65, Ck66, Ck67⟩ := Qk6
  have Bk6 := k6.lt
  go_wp2_with fail
  clear Bk1 Ck10 Ck11 Ck12 Ck13 Ck14 Ck15 Ck16 Ck17
  clear Bk6 Ck60 Ck61 Ck62 Ck63 Ck64 Ck65 Ck66 Ck67
  go_ret
  exact ⟨rfl, hw10⟩

namespace fnExactRunOk
open Go.ChangeShapes Go.WideShapes Go.ChangeAt Go.RowKit
theorem own : ownKnob Try.prog.godebug = none := by kernel_rfl
theorem laidOut : laidOutB Try.prog = true := by kernel_rfl

set_option maxRecDepth 100000 in
theorem lifted (os : Os) (started : os.Started) (H : Type) (enc : TypeId × Value → H) :
    ReturnsInHanded {} Try.checked os 9 .any (Rows.fnExactRunOkSpec.pre6 enc Try.prog Try.f9 Rows.fnExactRunOkRow.domain false) (Rows.fnExactRunOkSpec.post enc Try.prog Try.f9 false true false false) := by
  refine returnsInHanded_of_change (C := Try.checked) own started (by kernel_rfl) Try.func9
    (ChangeSpec.witness6 (enc := enc) (C := Try.checked) false ⟨#[], #[.agg #[.int .i64 0, .int .i64 0, .int .i64 0, .int .i64 0, .int .i64 0, .slice none 0 0, .int .i64 0, .slice none 0 0]], []⟩ 8 (by kernel_rfl) (by kernel_rfl) (by kernel_rfl) (by kernel_rfl)) ?_
  intro W base args ds gs before hval0 hW hcnd _
  have hval : ∀ (j : Nat) t v, Try.f9.params[j]? = some t → args[j]? = some v → Value.okWide Try.prog W .any base t v := hval0
  have hW' := hW
  obtain ⟨p, q, hA0, hV, rfl, hfz, hnd⟩ := hW
  have hA : DataW.TrodAll enc Try.prog W 0 (fun _ => true) true Try.f9.params.toList args.toList ds p := hA0
  rw [Try.params9] at hA hval
  obtain ⟨v0, vs0, d0, ds0, p0, q0, hargs, rfl, rfl, h0, r0⟩ := trodAll_cons hA
  obtain ⟨rfl, rfl, rfl⟩ := trodAll_nil r0
  obtain rfl : args = #[v0] := by cases args; simp_all
  obtain ⟨rfl, rfl⟩ := trodVars_none hV
  have lt0 : ∀ x ∈ p0, x.block < W.heap.size := by obtain ⟨m, hm⟩ := h0; exact DataW.trod_lt m _ _ _ hm
  have a0 := arg_run (hval 0 65 v0 rfl rfl) h0
  clear hA0 hval0
  refine (walk_FnExactRunOk v0 W a0).mono fun e W' ⟨he, bel⟩ => ?_
  subst he
  exact ⟨_, rfl, _, _, _, [], _, [], hW', trodAll_mk1 (shut_bool Try.underlying4 _), (trodAll_cons_mk (Below.trod laidOut (by kernel_rfl) (of_decide_eq_true (by kernel_rfl)) h0 bel lt0) trodAll_mk0), rfl, bel.frame _, fun h => by cases h⟩

theorem over : Rows.fnExactRunOkRow.holds Try.pinned (OpenSpec.ofChange Rows.fnExactRunOkSpec) :=
  OpenClaim.holds_of_wide 9 Try.f9 rfl rfl rfl rfl rfl rfl rfl ⟨rfl, rfl, rfl, rfl, rfl⟩ rfl rfl rfl rfl rfl (by kernel_rfl) Try.func9 (by kernel_rfl)
    (of_decide_eq_true (by kernel_rfl)) (by unfold Func.isWrapper; first | (rw [if_pos (by decide +kernel)]; kernel_rfl) | (rw [if_neg (by decide +kernel)]; exact ⟨rfl, rfl⟩))
    (fun os started H enc _ => lifted os started H enc)

/-- The statement. -/
theorem proved : Rows.FnExactRunOkSaid :=
  over
#print axioms proved
end fnExactRunOk

end Go.Proofs.Ytbbjkldkjndfaaa

/- The law FnExactMerged returns true for every argument; no conditions. -/
import Derived.Test.YtngoagjnaphmhaaMerge
import Derived.Test.YtngoagjnaphmhaaArgEnt
import Derived.Test.YtngoagjnaphmhaaArgs
namespace Go.Proofs.Ytngoagjnaphmhaa
open Go.RowKit Go.ChangeShapes

set_option maxHeartbeats 8000000 in
set_option maxRecDepth 100000 in
theorem walk_FnExactMerged (v0 v1 : Value) (w : World) (a0 : ArgEntries w v0) (a1 : ArgEntries w v1) :
    Calls Try.prog 8 #[v0, v1] w fun e w' => e = .returned (.bool true) ∧ Below w.heap.size w w' := by
  obtain ⟨x0, hx0⟩ := a0
  obtain ⟨x1, hx1⟩ := a1
  have hw0 : Below w.heap.size w w := Below.refl _ _
  have HZ0 := Lib.hid (sz_entries v0 x0 (1048576) w (hx0.below hw0) (by omega) (by omega))
  by_cases hn0 : (1048576) - (cost_entries x0 : Int) < 0
  · skip
    unfold szv at HZ0
    rw [if_pos hn0] at HZ0
    go_enter Try.func8, Try.ntmps8
    go_wp2_with fail
    refine HZ0.out.mono ?_
    rintro e w0 ⟨rfl, rfl⟩
    go_wp2_with fail
    go_ret
    exact ⟨rfl, Below.refl _ _⟩
  unfold szv at HZ0
  rw [if_neg hn0] at HZ0
  have HZ1 := Lib.hid (sz_entries v1 x1 (1048576 - (cost_entries x0 : Int)) w (hx1.below hw0) (by omega) (by omega))
  by_cases hn1 : (1048576 - (cost_entries x0 : Int)) - (cost_entries x1 : Int) < 0
  · skip
    unfold szv at HZ1
    rw [if_pos hn1] at HZ1
    go_enter Try.func8, Try.ntmps8
    go_wp2_with fail
    refine HZ0.out.mono ?_
    rintro e w0 ⟨rfl, rfl⟩
    go_wp2_with fail
    refine HZ1.out.mono ?_
    rintro e w0 ⟨rfl, rfl⟩
    go_wp2_with fail
    go_ret
    exact ⟨rfl, Below.refl _ _⟩
  unfold szv at HZ1
  rw [if_neg hn1] at HZ1
  have hc0 : cost_entries x0 ≤ 1048576 := by omega
  have hc1 : cost_entries x1 ≤ 1048576 := by omega
  have hce0 := cells_le_entries x0
  have hce1 := cells_le_entries x1
  go_enter Try.func8, Try.ntmps8
  go_wp2_with fail
  refine HZ0.out.mono ?_
  rintro e w0 ⟨rfl, rfl⟩
  go_wp2_with fail
  refine HZ1.out.mono ?_
  rintro e w0 ⟨rfl, rfl⟩
  clear HZ0
  clear HZ1
  go_wp2_with fail
  refine (to_entries v0 x0 _ (hx0.below hw0) hc0).mono ?_
  rintro e w1 ⟨t1_0, rfl, o1, hb1⟩
  have hw1 := hw0.trans (hb1.mono hw0.size)
  have hs1 := hb1.size
  go_wp2_with fail
  refine (to_entries v1 x1 _ (hx1.below hw1) hc1).mono ?_
  rintro e w2 ⟨t2_0, rfl, o2, hb2⟩
  have hw2 := hw1.trans (hb2.mono hw1.size)
  have hs2 := hb2.size
  have o1 := o1.below hb2
  go_wp2_with fail
  refine (merged_spec t1_0 x0 t2_0 x1 _ o1.rd o2.rd hc0 hc1).mono ?_
  rintro e w3 ⟨u3_0_0, rfl, q3_0, hb3⟩
  have hw3 := hw2.trans (hb3.mono hw2.size)
  have hs3 := hb3.size
  have o1 := o1.below hb3
  have o2 := o2.below hb3
  go_wp2_with fail
  refine (to_entries v0 x0 _ (hx0.below hw3) hc0).mono ?_
  rintro e w4 ⟨t4_0, rfl, o4, hb4⟩
  have hw4 := hw3.trans (hb4.mono hw3.size)
  have hs4 := hb4.size
  have q3_0 := q3_0.below hb4
  go_wp2_with fail
  refine (to_entries v1 x1 _ (hx1.below hw4) hc1).mono ?_
  rintro e w5 ⟨t5_0, rfl, o5, hb5⟩
  have hw5 := hw4.trans (hb5.mono hw4.size)
  have hs5 := hb5.size
  have o4 := o4.below hb5
  have q3_0 := q3_0.below hb5
  go_wp2_with fail
  refine (merged_impl t4_0 x0 t5_0 x1 _ o4.rd o5.rd hc0 hc1).mono ?_
  rintro e w6 ⟨u6_0_0, rfl, q6_0, hb6⟩
  have hw6 := hw5.trans (hb6.mono hw5.size)
  have hs6 := hb6.size
  have o4 := o4.below hb6
  have o5 := o5.below hb6
  have q3_0 := q3_0.below hb6
  go_wp2_with fail
  refine (eq_entries u6_0_0 u3_0_0 (mergedR x0 x1) _ q6_0.rd q3_0.rd).mono ?_
  rintro e w7 ⟨rfl, hb7⟩
  have hw7 := hw6.trans (hb7.mono hw6.size)
  have hs7 := hb7.size
  have o4 := o4.below hb7
  have o5 := o5.below hb7
  have q3_0 := q3_0.below hb7
  have q6_0 := q6_0.below hb7
  go_wp2_with fail
  refine (to_entries v0 x0 _ (hx0.below hw7) hc0).mono ?_
  rintro e w8 ⟨t8_0, rfl, o8, hb8⟩
  have hw8 := hw7.trans (hb8.mono hw7.size)
  have hs8 := hb8.size
  have o4 := o4.below hb8
  have o5 := o5.below hb8
  have q3_0 := q3_0.below hb8
  have q6_0 := q6_0.below hb8
  go_wp2_with fail
  refine (eq_entries t4_0 t8_0 x0 _ o4.rd o8.rd).mono ?_
  rintro e w9 ⟨rfl, hb9⟩
  have hw9 := hw8.trans (hb9.mono hw8.size)
  have hs9 := hb9.size
  have o4 := o4.below hb9
  have o5 := o5.below hb9
  have q3_0 := q3_0.below hb9
  have q6_0 := q6_0.below hb9
  go_wp2_with fail
  refine (to_entries v1 x1 _ (hx1.below hw9) hc1).mono ?_
  rintro e w10 ⟨t10_0, rfl, o10, hb10⟩
  have hw10 := hw9.trans (hb10.mono hw9.size)
  have hs10 := hb10.size
  have o4 := o4.below hb10
  have o5 := o5.below hb10
  have q3_0 := q3_0.below hb10
  have q6_0 := q6_0.below hb10
  go_wp2_with fail
  refine (eq_entries t5_0 t10_0 x1 _ o5.rd o10.rd).mono ?_
  rintro e w11 ⟨rfl, hb11⟩
  have hw11 := hw10.trans (hb11.mono hw10.size)
  have hs11 := hb11.size
  have o4 := o4.below hb11
  have o5 := o5.below hb11
  have q3_0 := q3_0.below hb11
  have q6_0 := q6_0.below hb11
  go_wp2_with fail
  refine (mark_entries t4_0 x0 _ _ (1) _ o4 (by omega) (by omega) (by omega)).mono ?_
  rintro e w12 ⟨rfl, -, hp12⟩
  have hw12 := Part.to_below hw11 hp12 (by omega) (Nat.le_refl _)
  have hs12 := hp12.size
  have o5 := o5.keep hp12 (by omega)
  have q3_0 := q3_0.keep hp12 (by omega)
  have q6_0 := q6_0.keep hp12 (by omega)
  go_wp2_with fail
  refine (mark_entries t5_0 x1 _ _ (1 + ((cells_entries x0 : Nat) : Int)) _ o5 (by omega) (by omega) (by omega)).mono ?_
  rintro e w13 ⟨rfl, -, hp13⟩
  have hw13 := Part.to_below hw12 hp13 (by omega) (Nat.le_refl _)
  have hs13 := hp13.size
  have q3_0 := q3_0.keep hp13 (by omega)
  have q6_0 := q6_0.keep hp13 (by omega)
  go_wp2_with fail
  refine (eq_entries u6_0_0 u3_0_0 (mergedR x0 x1) _ q6_0.rd q3_0.rd).mono ?_
  rintro e w14 ⟨rfl, hb14⟩
  have hw14 := hw13.trans (hb14.mono hw13.size)
  have hs14 := hb14.size
  have q3_0 := q3_0.below hb14
  have q6_0 := q6_0.below hb14
  have hr0 : cells_entries (mergedR x0 x1) ≤ 5000000 := by (unfold cells_entries; have := mergedR_length x0 x1; unfold cost_entries at *; omega)
  go_wp2_with fail
  refine (mark_entries u6_0_0 (mergedR x0 x1) _ _ (1) _ q6_0 (by omega) (by omega) (by omega)).mono ?_
  rintro e w15 ⟨rfl, f15, hp15⟩
  have hw15 := Part.to_below hw14 hp15 (by omega) (Nat.le_refl _)
  have hs15 := hp15.size
  have q3_0 := q3_0.keep hp15 (by omega)
  go_wp2_with fail
  refine (held_entries u6_0_0 (mergedR x0 x1) _ _ (1) _ f15 (by omega) (by omega) (by omega)).mono ?_
  rintro e w16 ⟨rfl, hb16⟩
  have hw16 := hw15.trans (hb16.mono hw15.size)
  have hs16 := hb16.size
  have f15 := f15.below hb16
  have q3_0 := q3_0.below hb16
  go_wp2_with fail
  refine (to_entries v0 x0 _ (hx0.below hw16) hc0).mono ?_
  rintro e w17 ⟨t17_0, rfl, o17, hb17⟩
  have hw17 := hw16.trans (hb17.mono hw16.size)
  have hs17 := hb17.size
  have f15 := f15.below hb17
  have q3_0 := q3_0.below hb17
  go_wp2_with fail
  refine (to_entries v1 x1 _ (hx1.below hw17) hc1).mono ?_
  rintro e w18 ⟨t18_0, rfl, o18, hb18⟩
  have hw18 := hw17.trans (hb18.mono hw17.size)
  have hs18 := hb18.size
  have f15 := f15.below hb18
  have o17 := o17.below hb18
  have q3_0 := q3_0.below hb18
  go_wp2_with fail
  refine (merged_impl t17_0 x0 t18_0 x1 _ o17.rd o18.rd hc0 hc1).mono ?_
  rintro e w19 ⟨u19_0_0, rfl, q19_0, hb19⟩
  have hw19 := hw18.trans (hb19.mono hw18.size)
  have hs19 := hb19.size
  have f15 := f15.below hb19
  have o17 := o17.below hb19
  have o18 := o18.below hb19
  have q3_0 := q3_0.below hb19
  go_wp2_with fail
  refine (eq_entries u19_0_0 u3_0_0 (mergedR x0 x1) _ q19_0.rd q3_0.rd).mono ?_
  rintro e w20 ⟨rfl, hb20⟩
  have hw20 := hw19.trans (hb20.mono hw19.size)
  have hs20 := hb20.size
  have f15 := f15.below hb20
  have q19_0 := q19_0.below hb20
  have q3_0 := q3_0.below hb20
  go_wp2_with fail
  refine (held_entries u6_0_0 (mergedR x0 x1) _ _ (1) _ f15 (by omega) (by omega) (by omega)).mono ?_
  rintro e w21 ⟨rfl, hb21⟩
  have hw21 := hw20.trans (hb21.mono hw20.size)
  have hs21 := hb21.size
  have f15 := f15.below hb21
  have q19_0 := q19_0.below hb21
  have q3_0 := q3_0.below hb21
  go_wp2_with fail
  go_ret
  exact ⟨rfl, hw21⟩

namespace fnExactMerged
open Go.ChangeShapes Go.WideShapes Go.ChangeAt Go.RowKit
theorem own : ownKnob Try.prog.godebug = none := by kernel_rfl
theorem laidOut : laidOutB Try.prog = true := by kernel_rfl

set_option maxRecDepth 100000 in
theorem lifted (os : Os) (started : os.Started) (H : Type) (enc : TypeId × Value → H) :
    ReturnsInHanded {} Try.checked os 8 .any (Rows.fnExactMergedSpec.pre6 enc Try.prog Try.f8 Rows.fnExactMergedRow.domain false) (Rows.fnExactMergedSpec.post enc Try.prog Try.f8 false true false false) := by
  refine returnsInHanded_of_change (C := Try.checked) own started (by kernel_rfl) Try.func8
    (ChangeSpec.witness6 (enc := enc) (C := Try.checked) false ⟨#[], #[.slice none 0 0, .slice none 0 0], []⟩ 8 (by kernel_rfl) (by kernel_rfl) (by kernel_rfl) (by kernel_rfl)) ?_
  intro W base args ds gs before hval0 hW hcnd _
  have hval : ∀ (j : Nat) t v, Try.f8.params[j]? = some t → args[j]? = some v → Value.okWide Try.prog W .any base t v := hval0
  have hW' := hW
  obtain ⟨p, q, hA0, hV, rfl, hfz, hnd⟩ := hW
  have hA : DataW.TrodAll enc Try.prog W 0 (fun _ => true) true Try.f8.params.toList args.toList ds p := hA0
  rw [Try.params8] at hA hval
  obtain ⟨v0, vs0, d0, ds0, p0, q0, hargs, rfl, rfl, h0, r0⟩ := trodAll_cons hA
  obtain ⟨v1, vs1, d1, ds1, p1, q1, rfl, rfl, rfl, h1, r1⟩ := trodAll_cons r0
  obtain ⟨rfl, rfl, rfl⟩ := trodAll_nil r1
  obtain rfl : args = #[v0, v1] := by cases args; simp_all
  obtain ⟨rfl, rfl⟩ := trodVars_none hV
  have lt0 : ∀ x ∈ p0, x.block < W.heap.size := by obtain ⟨m, hm⟩ := h0; exact DataW.trod_lt m _ _ _ hm
  have a0 := arg_entries (hval 0 22 v0 rfl rfl) h0
  have lt1 : ∀ x ∈ p1, x.block < W.heap.size := by obtain ⟨m, hm⟩ := h1; exact DataW.trod_lt m _ _ _ hm
  have a1 := arg_entries (hval 1 22 v1 rfl rfl) h1
  clear hA0 hval0
  refine (walk_FnExactMerged v0 v1 W a0 a1).mono fun e W' ⟨he, bel⟩ => ?_
  subst he
  exact ⟨_, rfl, _, _, _, [], _, [], hW', trodAll_mk1 (shut_bool Try.underlying4 _), (trodAll_cons_mk (Below.trod laidOut (by kernel_rfl) (of_decide_eq_true (by kernel_rfl)) h0 bel lt0) (trodAll_cons_mk (Below.trod laidOut (by kernel_rfl) (of_decide_eq_true (by kernel_rfl)) h1 bel lt1) trodAll_mk0)), rfl, bel.frame _, fun h => by cases h⟩

theorem over : Rows.fnExactMergedRow.holds Try.pinned (OpenSpec.ofChange Rows.fnExactMergedSpec) :=
  OpenClaim.holds_of_wide 8 Try.f8 rfl rfl rfl rfl rfl rfl rfl ⟨rfl, rfl, rfl, rfl, rfl⟩ rfl rfl rfl rfl rfl (by kernel_rfl) Try.func8 (by kernel_rfl)
    (of_decide_eq_true (by kernel_rfl)) (by unfold Func.isWrapper; first | (rw [if_pos (by decide +kernel)]; kernel_rfl) | (rw [if_neg (by decide +kernel)]; exact ⟨rfl, rfl⟩))
    (fun os started H enc _ => lifted os started H enc)

/-- The statement. -/
theorem proved : Rows.FnExactMergedSaid :=
  over
#print axioms proved
end fnExactMerged

end Go.Proofs.Ytngoagjnaphmhaa

/- The law FnExactHalfOf returns true for every argument; no conditions. -/
import Derived.Test.YtngoagjnaphmhaaHalf
import Derived.Test.YtngoagjnaphmhaaArgEnt
import Derived.Test.YtngoagjnaphmhaaArgs
namespace Go.Proofs.Ytngoagjnaphmhaa
open Go.RowKit Go.ChangeShapes

set_option maxHeartbeats 4000000 in
set_option maxRecDepth 100000 in
theorem walk_FnExactHalfOf (v0 : Value) (w : World) (a0 : ArgEntries w v0) :
    Calls Try.prog 4 #[v0] w fun e w' => e = .returned (.bool true) ∧ Below w.heap.size w w' := by
  obtain ⟨x0, hx0⟩ := a0
  have HZ0 := Lib.hid (sz_entries v0 x0 (1048576) w hx0 (by omega) (by omega))
  by_cases hn0 : (1048576) - (cost_entries x0 : Int) < 0
  · skip
    unfold szv at HZ0
    rw [if_pos hn0] at HZ0
    go_enter Try.func4, Try.ntmps4
    go_wp2_with fail
    refine HZ0.out.mono ?_
    rintro e w0 ⟨rfl, rfl⟩
    go_wp2_with fail
    go_ret
    exact ⟨rfl, Below.refl _ _⟩
  unfold szv at HZ0
  rw [if_neg hn0] at HZ0
  have hc0 : cost_entries x0 ≤ 1048576 := by omega
  have hce0 := cells_le_entries x0
  have hs0 : w.heap.size ≤ w.heap.size := Nat.le_refl _
  go_enter Try.func4, Try.ntmps4
  go_wp2_with fail
  refine HZ0.out.mono ?_
  rintro e w0 ⟨rfl, rfl⟩
  clear HZ0
  have hw0 : Below w.heap.size w w := Below.refl _ _
  go_wp2_with fail
  refine (to_entries v0 x0 _ (hx0.below hw0) hc0).mono ?_
  rintro e w1 ⟨t1, rfl, o1, hb1⟩
  have hw1 := hw0.trans (hb1.mono hw0.size)
  have hs1 := hb1.size
  go_wp2_with fail
  refine (halfOf_spec t1 x0 _ o1.rd hc0).mono ?_
  rintro e w2 ⟨u2_0, u2_1, rfl, q2_0, q2_1, hb2⟩
  have hw2 := hw1.trans (hb2.mono hw1.size)
  have hs2 := hb2.size
  have o1 := o1.below hb2
  go_wp2_with fail
  refine (to_entries v0 x0 _ (hx0.below hw2) hc0).mono ?_
  rintro e w3 ⟨t3, rfl, o3, hb3⟩
  have hw3 := hw2.trans (hb3.mono hw2.size)
  have hs3 := hb3.size
  have q2_0 := q2_0.below hb3
  have q2_1 := q2_1.below hb3
  go_wp2_with fail
  refine (halfOf_impl t3 x0 _ o3.rd hc0).mono ?_
  rintro e w4 ⟨u4_0, u4_1, m4_0, rfl, q4_0, q4_1, ⟨m4_0a, m4_0b⟩, hb4⟩
  have hw4 := hw3.trans (hb4.mono hw3.size)
  have hs4 := hb4.size
  have q2_0 := q2_0.below hb4
  have q2_1 := q2_1.below hb4
  have o3 := o3.below hb4
  go_wp2_with fail
  refine (eq_entries u4_0 u2_0 (halfOfR0 x0) _ q4_0.rd q2_0.rd).mono ?_
  rintro e w5 ⟨rfl, hb5⟩
  have hw5 := hw4.trans (hb5.mono hw4.size)
  have hs5 := hb5.size
  have q2_0 := q2_0.below hb5
  have q2_1 := q2_1.below hb5
  have o3 := o3.below hb5
  have q4_0 := q4_0.below hb5
  have q4_1 := q4_1.below hb5
  go_wp2_with fail
  refine (eq_entries u4_1 u2_1 (halfOfR1 x0) _ q4_1.rd q2_1.rd).mono ?_
  rintro e w6 ⟨rfl, hb6⟩
  have hw6 := hw5.trans (hb6.mono hw5.size)
  have hs6 := hb6.size
  have q2_0 := q2_0.below hb6
  have q2_1 := q2_1.below hb6
  have o3 := o3.below hb6
  have q4_0 := q4_0.below hb6
  have q4_1 := q4_1.below hb6
  go_wp2_with fail
  refine (to_entries v0 x0 _ (hx0.below hw6) hc0).mono ?_
  rintro e w7 ⟨t7, rfl, o7, hb7⟩
  have hw7 := hw6.trans (hb7.mono hw6.size)
  have hs7 := hb7.size
  have q2_0 := q2_0.below hb7
  have q2_1 := q2_1.below hb7
  have o3 := o3.below hb7
  have q4_0 := q4_0.below hb7
  have q4_1 := q4_1.below hb7
  go_wp2_with fail
  refine (eq_entries t3 t7 x0 _ o3.rd o7.rd).mono ?_
  rintro e w8 ⟨rfl, hb8⟩
  have hw8 := hw7.trans (hb8.mono hw7.size)
  have hs8 := hb8.size
  have q2_0 := q2_0.below hb8
  have q2_1 := q2_1.below hb8
  have o3 := o3.below hb8
  have q4_0 := q4_0.below hb8
  have q4_1 := q4_1.below hb8
  go_wp2_with fail
  refine (mark_entries t3 x0 _ _ (1) _ o3 (by omega) (by omega) (by omega)).mono ?_
  rintro e w9 ⟨rfl, -, hp9⟩
  have hw9 := Part.to_below hw8 hp9 (by omega) (Nat.le_refl _)
  have hs9 := hp9.size
  have q2_0 := q2_0.keep hp9 (by omega)
  have q2_1 := q2_1.keep hp9 (by omega)
  have q4_0 := q4_0.keep hp9 (by omega)
  have q4_1 := q4_1.keep hp9 (by omega)
  -- the sum of the marks is not below 0
  go_wp2_with fail
  refine (eq_entries u4_0 u2_0 (halfOfR0 x0) _ q4_0.rd q2_0.rd).mono ?_
  rintro e w10 ⟨rfl, hb10⟩
  have hw10 := hw9.trans (hb10.mono hw9.size)
  have hs10 := hb10.size
  have q2_0 := q2_0.below hb10
  have q2_1 := q2_1.below hb10
  have q4_0 := q4_0.below hb10
  have q4_1 := q4_1.below hb10
  go_wp2_with fail
  refine (eq_entries u4_1 u2_1 (halfOfR1 x0) _ q4_1.rd q2_1.rd).mono ?_
  rintro e w11 ⟨rfl, hb11⟩
  have hw11 := hw10.trans (hb11.mono hw10.size)
  have hs11 := hb11.size
  have q2_0 := q2_0.below hb11
  have q2_1 := q2_1.below hb11
  have q4_0 := q4_0.below hb11
  have q4_1 := q4_1.below hb11
  have hr0 : cells_entries (halfOfR0 x0) ≤ 5000000 := by (unfold cells_entries halfOfR0; rw [List.length_take]; unfold cost_entries at hc0; omega)
  have hr1 : cells_entries (halfOfR1 x0) ≤ 5000000 := by (unfold cells_entries halfOfR1; rw [List.length_drop]; unfold cost_entries at hc0; omega)
  go_wp2_with fail
  refine (mark_entries u4_0 (halfOfR0 x0) _ _ (1) _ q4_0 (by omega) (by omega) (by omega)).mono ?_
  rintro e w12 ⟨rfl, k12, hp12⟩
  have hw12 := Part.to_below hw11 hp12 (by omega) (Nat.le_refl _)
  have hs12 := hp12.size
  have q2_0 := q2_0.keep hp12 (by omega)
  have q2_1 := q2_1.keep hp12 (by omega)
  have q4_1 := q4_1.keep hp12 (by omega)
  go_wp2_with fail
  refine (mark_entries u4_1 (halfOfR1 x0) _ _ (1 + ((cells_entries (halfOfR0 x0) : Nat) : Int)) _ q4_1 (by omega) (by omega) (by omega)).mono ?_
  rintro e w13 ⟨rfl, k13, hp13⟩
  have hw13 := Part.to_below hw12 hp13 (by omega) (Nat.le_refl _)
  have hs13 := hp13.size
  have q2_0 := q2_0.keep hp13 (by omega)
  have q2_1 := q2_1.keep hp13 (by omega)
  have k12 := k12.keep hp13 (by omega)
  go_wp2_with fail
  refine (held_entries u4_0 (halfOfR0 x0) _ _ (1) _ k12 (by omega) (by omega) (by omega)).mono ?_
  rintro e w14 ⟨rfl, hb14⟩
  have hw14 := hw13.trans (hb14.mono hw13.size)
  have hs14 := hb14.size
  have q2_0 := q2_0.below hb14
  have q2_1 := q2_1.below hb14
  have k12 := k12.below hb14
  have k13 := k13.below hb14
  go_wp2_with fail
  refine (held_entries u4_1 (halfOfR1 x0) _ _ (1 + ((cells_entries (halfOfR0 x0) : Nat) : Int)) _ k13 (by omega) (by omega) (by omega)).mono ?_
  rintro e w15 ⟨rfl, hb15⟩
  have hw15 := hw14.trans (hb15.mono hw14.size)
  have hs15 := hb15.size
  have q2_0 := q2_0.below hb15
  have q2_1 := q2_1.below hb15
  have k12 := k12.below hb15
  have k13 := k13.below hb15
  go_wp2_with fail
  refine (to_entries v0 x0 _ (hx0.below hw15) hc0).mono ?_
  rintro e w16 ⟨t16, rfl, o16, hb16⟩
  have hw16 := hw15.trans (hb16.mono hw15.size)
  have hs16 := hb16.size
  have q2_0 := q2_0.below hb16
  have q2_1 := q2_1.below hb16
  have k12 := k12.below hb16
  have k13 := k13.below hb16
  go_wp2_with fail
  refine (halfOf_impl t16 x0 _ o16.rd hc0).mono ?_
  rintro e w17 ⟨u17_0, u17_1, m17_0, rfl, q17_0, q17_1, ⟨m17_0a, m17_0b⟩, hb17⟩
  have hw17 := hw16.trans (hb17.mono hw16.size)
  have hs17 := hb17.size
  have q2_0 := q2_0.below hb17
  have q2_1 := q2_1.below hb17
  have k12 := k12.below hb17
  have k13 := k13.below hb17
  have o16 := o16.below hb17
  go_wp2_with fail
  refine (eq_entries u17_0 u2_0 (halfOfR0 x0) _ q17_0.rd q2_0.rd).mono ?_
  rintro e w18 ⟨rfl, hb18⟩
  have hw18 := hw17.trans (hb18.mono hw17.size)
  have hs18 := hb18.size
  have q2_0 := q2_0.below hb18
  have q2_1 := q2_1.below hb18
  have k12 := k12.below hb18
  have k13 := k13.below hb18
  have q17_0 := q17_0.below hb18
  have q17_1 := q17_1.below hb18
  go_wp2_with fail
  refine (eq_entries u17_1 u2_1 (halfOfR1 x0) _ q17_1.rd q2_1.rd).mono ?_
  rintro e w19 ⟨rfl, hb19⟩
  have hw19 := hw18.trans (hb19.mono hw18.size)
  have hs19 := hb19.size
  have q2_0 := q2_0.below hb19
  have q2_1 := q2_1.below hb19
  have k12 := k12.below hb19
  have k13 := k13.below hb19
  have q17_0 := q17_0.below hb19
  have q17_1 := q17_1.below hb19
  go_wp2_with fail
  refine (held_entries u4_0 (halfOfR0 x0) _ _ (1) _ k12 (by omega) (by omega) (by omega)).mono ?_
  rintro e w20 ⟨rfl, hb20⟩
  have hw20 := hw19.trans (hb20.mono hw19.size)
  have hs20 := hb20.size
  have q2_0 := q2_0.below hb20
  have q2_1 := q2_1.below hb20
  have k12 := k12.below hb20
  have k13 := k13.below hb20
  have q17_0 := q17_0.below hb20
  have q17_1 := q17_1.below hb20
  go_wp2_with fail
  refine (held_entries u4_1 (halfOfR1 x0) _ _ (1 + ((cells_entries (halfOfR0 x0) : Nat) : Int)) _ k13 (by omega) (by omega) (by omega)).mono ?_
  rintro e w21 ⟨rfl, hb21⟩
  have hw21 := hw20.trans (hb21.mono hw20.size)
  have hs21 := hb21.size
  have q2_0 := q2_0.below hb21
  have q2_1 := q2_1.below hb21
  have k12 := k12.below hb21
  have k13 := k13.below hb21
  have q17_0 := q17_0.below hb21
  have q17_1 := q17_1.below hb21
  go_wp2_with fail
  go_ret
  exact ⟨rfl, hw21⟩

namespace fnExactHalfOf
open Go.ChangeShapes Go.WideShapes Go.ChangeAt Go.RowKit
theorem own : ownKnob Try.prog.godebug = none := by kernel_rfl
theorem laidOut : laidOutB Try.prog = true := by kernel_rfl

set_option maxRecDepth 100000 in
theorem lifted (os : Os) (started : os.Started) (H : Type) (enc : TypeId × Value → H) :
    ReturnsInHanded {} Try.checked os 4 .any (Rows.fnExactHalfOfSpec.pre6 enc Try.prog Try.f4 Rows.fnExactHalfOfRow.domain false) (Rows.fnExactHalfOfSpec.post enc Try.prog Try.f4 false true false false) := by
  refine returnsInHanded_of_change (C := Try.checked) own started (by kernel_rfl) Try.func4
    (ChangeSpec.witness6 (enc := enc) (C := Try.checked) false ⟨#[], #[.slice none 0 0], []⟩ 8 (by kernel_rfl) (by kernel_rfl) (by kernel_rfl) (by kernel_rfl)) ?_
  intro W base args ds gs before hval0 hW hcnd _
  have hval : ∀ (j : Nat) t v, Try.f4.params[j]? = some t → args[j]? = some v → Value.okWide Try.prog W .any base t v := hval0
  have hW' := hW
  obtain ⟨p, q, hA0, hV, rfl, hfz, hnd⟩ := hW
  have hA : DataW.TrodAll enc Try.prog W 0 (fun _ => true) true Try.f4.params.toList args.toList ds p := hA0
  rw [Try.params4] at hA hval
  obtain ⟨v0, vs0, d0, ds0, p0, q0, hargs, rfl, rfl, h0, r0⟩ := trodAll_cons hA
  obtain ⟨rfl, rfl, rfl⟩ := trodAll_nil r0
  obtain rfl : args = #[v0] := by cases args; simp_all
  obtain ⟨rfl, rfl⟩ := trodVars_none hV
  have lt0 : ∀ x ∈ p0, x.block < W.heap.size := by obtain ⟨m, hm⟩ := h0; exact DataW.trod_lt m _ _ _ hm
  have a0 := arg_entries (hval 0 22 v0 rfl rfl) h0
  clear hA0 hval0
  refine (walk_FnExactHalfOf v0 W a0).mono fun e W' ⟨he, bel⟩ => ?_
  subst he
  exact ⟨_, rfl, _, _, _, [], _, [], hW', trodAll_mk1 (shut_bool Try.underlying4 _), (trodAll_cons_mk (Below.trod laidOut (by kernel_rfl) (of_decide_eq_true (by kernel_rfl)) h0 bel lt0) trodAll_mk0), rfl, bel.frame _, fun h => by cases h⟩

theorem over : Rows.fnExactHalfOfRow.holds Try.pinned (OpenSpec.ofChange Rows.fnExactHalfOfSpec) :=
  OpenClaim.holds_of_wide 4 Try.f4 rfl rfl rfl rfl rfl rfl rfl ⟨rfl, rfl, rfl, rfl, rfl⟩ rfl rfl rfl rfl rfl (by kernel_rfl) Try.func4 (by kernel_rfl)
    (of_decide_eq_true (by kernel_rfl)) (by unfold Func.isWrapper; first | (rw [if_pos (by decide +kernel)]; kernel_rfl) | (rw [if_neg (by decide +kernel)]; exact ⟨rfl, rfl⟩))
    (fun os started H enc _ => lifted os started H enc)

/-- The statement. -/
theorem proved : Rows.FnExactHalfOfSaid :=
  over
#print axioms proved
end fnExactHalfOf

end Go.Proofs.Ytngoagjnaphmhaa

/- The law FnExactScanOf returns true for every argument; no conditions. -/
import Derived.Test.YtcdkccbmehdceaaFrames
import Derived.Test.YtcdkccbmehdceaaArgs
namespace Go.Proofs.Ytcdkccbmehdceaa
open Go.RowKit Go.ChangeShapes

set_option maxHeartbeats 2000000 in
set_option maxRecDepth 100000 in
theorem walk_FnExactScanOf (v0 : Value) (w : World) (a0 : ArgString w v0) :
    Calls Try.prog 12 #[v0] w fun e w' => e = .returned (.bool true) ∧ Below w.heap.size w w' := by
  obtain ⟨s, rfl, hs⟩ := a0
  unfold maxLen at hs
  by_cases hl : s.size ≤ 1048576
  · have hn := scanL_len s
    have CI := Lib.hid (fun w => scanOf_impl s w hl)
    have CS := Lib.hid (scanOf_spec s w hl)
    obtain ⟨l, hll⟩ : ∃ l, l = scanL s := ⟨_, rfl⟩
    obtain ⟨x, hx⟩ : ∃ x, x = scanE s := ⟨_, rfl⟩
    rw [← hll, ← hx] at CI CS
    rw [← hll] at hn
    clear hll hx
    go_enter Try.func12, Try.ntmps12
    go_wp2_with fail
    refine CS.out.mono ?_
    rintro e w1 ⟨u1, rfl, ho1, hb1⟩
    go_wp2_with fail
    refine (CI.out _).mono ?_
    rintro e w2 ⟨u2, rfl, ho2, hb2⟩
    have hw2 := hb1.trans (hb2.mono hb1.size)
    have p1 := own_below ho1 hb2
    go_wp2_with fail
    refine (eqStringS_any u2 u1 l _ (Rd.of_own ho2) (Rd.of_own p1)).mono ?_
    rintro e w3 ⟨rfl, hb3⟩
    have hw3 := hw2.trans (hb3.mono hw2.size)
    have p1 := own_below p1 hb3
    have ho2 := own_below ho2 hb3
    go_wp2_with fail
    refine (markStringS_any u2 l.length _ _ 1 _ ho2 (by omega) (by omega) (by omega)).mono ?_
    rintro e w4 ⟨rfl, q2, hg4⟩
    have hap : u1.ownBlock = none ∨ u1.ownBlock ≠ u2.ownBlock := own_apart ho1 ho2 (Nat.le_refl _)
    have p1 := own_grown p1 hg4 hap
    have hw4 : Below w.heap.size w w4 := hw3.grown hg4 hw3.size (fun k hk => by have := ho2.lt k hk; have := hb1.size; omega)
    rw [Nat.mul_one] at q2
    rw [Nat.mul_one]
    go_wp2_with fail
    refine (heldStringS_any u2 l.length 1 _ (Rd.of_own q2) (by omega) (by omega) (by omega)).mono ?_
    rintro e w5 ⟨rfl, hb5⟩
    have hw5 := hw4.trans (hb5.mono hw4.size)
    have p1 := own_below p1 hb5
    have q2 := own_below q2 hb5
    go_wp2_with fail
    refine (CI.out _).mono ?_
    rintro e w6 ⟨u6, rfl, ho6, hb6⟩
    have hw6 := hw5.trans (hb6.mono hw5.size)
    have p1 := own_below p1 hb6
    have q2 := own_below q2 hb6
    go_wp2_with fail
    refine (eqStringS_any u6 u1 l _ (Rd.of_own ho6) (Rd.of_own p1)).mono ?_
    rintro e w7 ⟨rfl, hb7⟩
    have hw7 := hw6.trans (hb7.mono hw6.size)
    have q2 := own_below q2 hb7
    go_wp2_with fail
    refine (heldStringS_any u2 l.length 1 _ (Rd.of_own q2) (by omega) (by omega) (by omega)).mono ?_
    rintro e w8 ⟨rfl, hb8⟩
    have hw8 := hw7.trans (hb8.mono hw7.size)
    go_wp2_with fail
    go_ret
    exact ⟨rfl, hw8⟩
  · go_enter Try.func12, Try.ntmps12
    go_wp2
    go_ret
    exact ⟨rfl, Below.refl _ _⟩

namespace fnExactScanOf
open Go.ChangeShapes Go.WideShapes Go.ChangeAt Go.RowKit
theorem own : ownKnob Try.prog.godebug = none := by kernel_rfl
theorem laidOut : laidOutB Try.prog = true := by kernel_rfl

set_option maxRecDepth 100000 in
theorem lifted (os : Os) (started : os.Started) (H : Type) (enc : TypeId × Value → H) :
    ReturnsInHanded {} Try.checked os 12 .any (Rows.fnExactScanOfSpec.pre6 enc Try.prog Try.f12 Rows.fnExactScanOfRow.domain false) (Rows.fnExactScanOfSpec.post enc Try.prog Try.f12 false true false false) := by
  refine returnsInHanded_of_change (C := Try.checked) own started (by kernel_rfl) Try.func12
    (ChangeSpec.witness6 (enc := enc) (C := Try.checked) false ⟨#[], #[.string ⟨#[]⟩], []⟩ 8 (by kernel_rfl) (by kernel_rfl) (by kernel_rfl) (by kernel_rfl)) ?_
  intro W base args ds gs before hval0 hW hcnd _
  have hval : ∀ (j : Nat) t v, Try.f12.params[j]? = some t → args[j]? = some v → Value.okWide Try.prog W .any base t v := hval0
  have hW' := hW
  obtain ⟨p, q, hA0, hV, rfl, hfz, hnd⟩ := hW
  have hA : DataW.TrodAll enc Try.prog W 0 (fun _ => true) true Try.f12.params.toList args.toList ds p := hA0
  rw [Try.params12] at hA hval
  obtain ⟨v0, vs0, d0, ds0, p0, q0, hargs, rfl, rfl, h0, r0⟩ := trodAll_cons hA
  obtain ⟨rfl, rfl, rfl⟩ := trodAll_nil r0
  obtain rfl : args = #[v0] := by cases args; simp_all
  obtain ⟨rfl, rfl⟩ := trodVars_none hV
  have lt0 : ∀ x ∈ p0, x.block < W.heap.size := by obtain ⟨m, hm⟩ := h0; exact DataW.trod_lt m _ _ _ hm
  have a0 := arg_string (hval 0 9 v0 rfl rfl) h0
  clear hA0 hval0
  refine (walk_FnExactScanOf v0 W a0).mono fun e W' ⟨he, bel⟩ => ?_
  subst he
  exact ⟨_, rfl, _, _, _, [], _, [], hW', trodAll_mk1 (shut_bool Try.underlying4 _), (trodAll_cons_mk (Below.trod laidOut (by kernel_rfl) (of_decide_eq_true (by kernel_rfl)) h0 bel lt0) trodAll_mk0), rfl, bel.frame _, fun h => by cases h⟩

theorem over : Rows.fnExactScanOfRow.holds Try.pinned (OpenSpec.ofChange Rows.fnExactScanOfSpec) :=
  OpenClaim.holds_of_wide 12 Try.f12 rfl rfl rfl rfl rfl rfl rfl ⟨rfl, rfl, rfl, rfl, rfl⟩ rfl rfl rfl rfl rfl (by kernel_rfl) Try.func12 (by kernel_rfl)
    (of_decide_eq_true (by kernel_rfl)) (by unfold Func.isWrapper; first | (rw [if_pos (by decide +kernel)]; kernel_rfl) | (rw [if_neg (by decide +kernel)]; exact ⟨rfl, rfl⟩))
    (fun os started H enc _ => lifted os started H enc)

/-- The statement. -/
theorem proved : Rows.FnExactScanOfSaid :=
  over
#print axioms proved
end fnExactScanOf
end Go.Proofs.Ytcdkccbmehdceaa

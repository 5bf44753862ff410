/- The law FnExactShelfOk returns true for every argument; no conditions. -/
import Derived.Test.YtngoagjnaphmhaaShelfOk
import Derived.Test.YtngoagjnaphmhaaArgEnt
namespace Go.Proofs.Ytngoagjnaphmhaa
open Go.RowKit Go.ChangeShapes

set_option maxHeartbeats 2000000 in
set_option maxRecDepth 100000 in
theorem walk_FnExactShelfOk (v0 : Value) (w : World) (a0 : ArgEntries w v0) :
    Calls Try.prog 3 #[v0] w fun e w' => e = .returned (.bool true) ∧ Below w.heap.size w w' := by
  obtain ⟨l, hl⟩ := a0
  have CZ := Lib.hid (szEntryS_any v0 l 1048576 w hl (by omega) (by omega))
  by_cases hn : l.length ≤ 1048576
  · rw [if_neg (by omega)] at CZ
    go_enter Try.func3, Try.ntmps3
    go_wp2_with fail
    refine CZ.out.mono ?_
    rintro e w0 ⟨rfl, rfl⟩
    go_wp2_with fail
    refine (toEntryS_any v0 l _ hl hn).mono ?_
    rintro e w1 ⟨u1, rfl, ho1, hb1⟩
    have hl1 := hl.below hb1
    go_wp2_with fail
    refine (shelfOk_spec u1 l _ (Rd.of_own ho1) hn).mono ?_
    rintro e w2 ⟨rfl, hb2⟩
    have hw2 := hb1.trans (hb2.mono hb1.size)
    have hl2 := hl1.below hb2
    go_wp2_with fail
    refine (toEntryS_any v0 l _ hl2 hn).mono ?_
    rintro e w3 ⟨u3, rfl, ho3, hb3⟩
    have hw3 := hw2.trans (hb3.mono hw2.size)
    have hl3 := hl2.below hb3
    go_wp2_with fail
    refine (shelfOk_impl u3 l _ (Rd.of_own ho3) hn).mono ?_
    rintro e w4 ⟨rfl, hb4⟩
    have hw4 := hw3.trans (hb4.mono hw3.size)
    have hl4 := hl3.below hb4
    have p3 := own_below ho3 hb4
    go_wp2_with fail
    refine (toEntryS_any v0 l _ hl4 hn).mono ?_
    rintro e w5 ⟨u5, rfl, ho5, hb5⟩
    have hw5 := hw4.trans (hb5.mono hw4.size)
    have p3 := own_below p3 hb5
    go_wp2_with fail
    refine (eqEntryS_any u3 u5 l _ (Rd.of_own p3) (Rd.of_own ho5)).mono ?_
    rintro e w6 ⟨rfl, hb6⟩
    have hw6 := hw5.trans (hb6.mono hw5.size)
    go_wp2_with fail
    go_ret
    exact ⟨rfl, hw6⟩
  · rw [if_pos (by omega)] at CZ
    go_enter Try.func3, Try.ntmps3
    go_wp2_with fail
    refine CZ.out.mono ?_
    rintro e w0 ⟨rfl, rfl⟩
    go_wp2_with fail
    go_ret
    exact ⟨rfl, Below.refl _ _⟩

namespace fnExactShelfOk
open Go.ChangeShapes Go.WideShapes Go.ChangeAt Go.RowKit
theorem own : ownKnob Try.prog.godebug = none := by kernel_rfl
theorem laidOut : laidOutB Try.prog = true := by kernel_rfl

set_option maxRecDepth 100000 in
theorem lifted (os : Os) (started : os.Started) (H : Type) (enc : TypeId × Value → H) :
    ReturnsInHanded {} Try.checked os 3 .any (Rows.fnExactShelfOkSpec.pre6 enc Try.prog Try.f3 Rows.fnExactShelfOkRow.domain false) (Rows.fnExactShelfOkSpec.post enc Try.prog Try.f3 false true false false) := by
  refine returnsInHanded_of_change (C := Try.checked) own started (by kernel_rfl) Try.func3
    (ChangeSpec.witness6 (enc := enc) (C := Try.checked) false ⟨#[], #[.slice none 0 0], []⟩ 8 (by kernel_rfl) (by kernel_rfl) (by kernel_rfl) (by kernel_rfl)) ?_
  intro W base args ds gs before hval0 hW hcnd _
  have hval : ∀ (j : Nat) t v, Try.f3.params[j]? = some t → args[j]? = some v → Value.okWide Try.prog W .any base t v := hval0
  have hW' := hW
  obtain ⟨p, q, hA0, hV, rfl, hfz, hnd⟩ := hW
  have hA : DataW.TrodAll enc Try.prog W 0 (fun _ => true) true Try.f3.params.toList args.toList ds p := hA0
  rw [Try.params3] at hA hval
  obtain ⟨v0, vs0, d0, ds0, p0, q0, hargs, rfl, rfl, h0, r0⟩ := trodAll_cons hA
  obtain ⟨rfl, rfl, rfl⟩ := trodAll_nil r0
  obtain rfl : args = #[v0] := by cases args; simp_all
  obtain ⟨rfl, rfl⟩ := trodVars_none hV
  have lt0 : ∀ x ∈ p0, x.block < W.heap.size := by obtain ⟨m, hm⟩ := h0; exact DataW.trod_lt m _ _ _ hm
  have a0 := arg_entries (hval 0 22 v0 rfl rfl) h0
  clear hA0 hval0
  refine (walk_FnExactShelfOk v0 W a0).mono fun e W' ⟨he, bel⟩ => ?_
  subst he
  exact ⟨_, rfl, _, _, _, [], _, [], hW', trodAll_mk1 (shut_bool Try.underlying4 _), (trodAll_cons_mk (Below.trod laidOut (by kernel_rfl) (of_decide_eq_true (by kernel_rfl)) h0 bel lt0) trodAll_mk0), rfl, bel.frame _, fun h => by cases h⟩

theorem over : Rows.fnExactShelfOkRow.holds Try.pinned (OpenSpec.ofChange Rows.fnExactShelfOkSpec) :=
  OpenClaim.holds_of_wide 3 Try.f3 rfl rfl rfl rfl rfl rfl rfl ⟨rfl, rfl, rfl, rfl, rfl⟩ rfl rfl rfl rfl rfl (by kernel_rfl) Try.func3 (by kernel_rfl)
    (of_decide_eq_true (by kernel_rfl)) (by unfold Func.isWrapper; first | (rw [if_pos (by decide +kernel)]; kernel_rfl) | (rw [if_neg (by decide +kernel)]; exact ⟨rfl, rfl⟩))
    (fun os started H enc _ => lifted os started H enc)

/-- The statement. -/
theorem proved : Rows.FnExactShelfOkSaid :=
  over
#print axioms proved
end fnExactShelfOk

end Go.Proofs.Ytngoagjnaphmhaa

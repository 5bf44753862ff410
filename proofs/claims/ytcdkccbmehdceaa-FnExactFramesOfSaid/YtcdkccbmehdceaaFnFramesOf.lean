/- The law FnExactFramesOf returns true for every argument; no conditions. -/
import Derived.Test.YtcdkccbmehdceaaFrames
import Derived.Test.YtcdkccbmehdceaaArgStr
namespace Go.Proofs.Ytcdkccbmehdceaa
open Go.RowKit Go.ChangeShapes

theorem sizes_mem : ∀ {l : List ByteArray} {b : ByteArray}, b ∈ l → b.size ≤ sizes l
  | c :: r, b, h => by
    rcases List.mem_cons.1 h with rfl | h
    · simp [sizes]
    · have := sizes_mem h; simp only [sizes]; omega

set_option maxHeartbeats 1000000 in
set_option maxRecDepth 100000 in
theorem walk_FnExactFramesOf (v0 : Value) (w : World) (a0 : ArgStrings w v0) :
    Calls Try.prog 9 #[v0] w fun e w' => e = .returned (.bool true) ∧ Below w.heap.size w w' := by
  obtain ⟨l, h, hmax⟩ := a0
  have CS := Lib.hid (szStringS_any v0 l 1048576 w h (by omega) (by omega) (fun b hb => by have := hmax b hb; unfold maxLen at this; omega))
  by_cases hneg : szStr 1048576 l < 0
  · obtain ⟨r, hr⟩ : ∃ r, r = szStr 1048576 l := ⟨_, rfl⟩
    rw [← hr] at hneg CS
    clear hr
    go_enter Try.func9, Try.ntmps9
    go_wp2_with fail
    refine CS.out.mono ?_
    rintro e w' ⟨rfl, rfl⟩
    go_wp2_with fail
    go_ret
    exact ⟨rfl, Below.refl _ _⟩
  · have hok := szStr_ok (left := 1048576) (l := l) (by omega)
    have hn : l.length ≤ 1048576 := by omega
    have hsz : ∀ b ∈ l, b.size ≤ 1048576 := fun b hb => by have := sizes_mem hb; omega
    obtain ⟨r, hr⟩ : ∃ r, r = szStr 1048576 l := ⟨_, rfl⟩
    rw [← hr] at hneg CS
    clear hr hok
    have HSZ := Lib.hid hsz
    clear hsz
    go_enter Try.func9, Try.ntmps9
    go_wp2_with fail
    refine CS.out.mono ?_
    rintro e w' ⟨rfl, rfl⟩
    go_wp2_with fail
    refine (toStringS_any _ l _ h hn).mono ?_
    rintro e w1 ⟨u1, rfl, ho1, hb1⟩
    go_wp2_with fail
    refine (framesOf_spec u1 l _ (Rd.of_own ho1) hn HSZ.out).mono ?_
    rintro e w2 ⟨rfl, hb2⟩
    have hw2 := hb1.trans (hb2.mono hb1.size)
    go_wp2_with fail
    refine (toStringS_any _ l _ (h.below hw2) hn).mono ?_
    rintro e w3 ⟨u3, rfl, ho3, hb3⟩
    have hw3 := hw2.trans (hb3.mono hw2.size)
    go_wp2_with fail
    refine (framesOf_impl u3 l _ (Rd.of_own ho3) hn HSZ.out).mono ?_
    rintro e w4 ⟨rfl, hb4⟩
    have hw4 := hw3.trans (hb4.mono hw3.size)
    go_wp2_with fail
    refine (toStringS_any _ l _ (h.below hw4) hn).mono ?_
    rintro e w5 ⟨u5, rfl, ho5, hb5⟩
    have hw5 := hw4.trans (hb5.mono hw4.size)
    go_wp2_with fail
    refine (eqStringS_any u3 u5 l _ (Rd.of_own (own_below (own_below ho3 hb4) hb5)) (Rd.of_own ho5)).mono ?_
    rintro e w6 ⟨rfl, hb6⟩
    have hw6 := hw5.trans (hb6.mono hw5.size)
    go_wp2_with fail
    go_ret
    exact ⟨rfl, hw6⟩

namespace fnExactFramesOf
open Go.ChangeShapes Go.WideShapes Go.ChangeAt Go.RowKit
theorem own : ownKnob Try.prog.godebug = none := by kernel_rfl
theorem laidOut : laidOutB Try.prog = true := by kernel_rfl

set_option maxRecDepth 100000 in
theorem lifted (os : Os) (started : os.Started) (H : Type) (enc : TypeId × Value → H) :
    ReturnsInHanded {} Try.checked os 9 .any (Rows.fnExactFramesOfSpec.pre6 enc Try.prog Try.f9 Rows.fnExactFramesOfRow.domain false) (Rows.fnExactFramesOfSpec.post enc Try.prog Try.f9 false true false false) := by
  refine returnsInHanded_of_change (C := Try.checked) own started (by kernel_rfl) Try.func9
    (ChangeSpec.witness6 (enc := enc) (C := Try.checked) false ⟨#[], #[.slice none 0 0], []⟩ 8 (by kernel_rfl) (by kernel_rfl) (by kernel_rfl) (by kernel_rfl)) ?_
  intro W base args ds gs before hval0 hW hcnd _
  have hval : ∀ (j : Nat) t v, Try.f9.params[j]? = some t → args[j]? = some v → Value.okWide Try.prog W .any base t v := hval0
  have hW' := hW
  obtain ⟨p, q, hA0, hV, rfl, hfz, hnd⟩ := hW
  have hA : DataW.TrodAll enc Try.prog W 0 (fun _ => true) true Try.f9.params.toList args.toList ds p := hA0
  rw [Try.params9] at hA hval
  obtain ⟨v0, vs0, d0, ds0, p0, q0, hargs, rfl, rfl, h0, r0⟩ := trodAll_cons hA
  obtain ⟨rfl, rfl, rfl⟩ := trodAll_nil r0
  obtain rfl : args = #[v0] := by cases args; simp_all
  obtain ⟨rfl, rfl⟩ := trodVars_none hV
  have lt0 : ∀ x ∈ p0, x.block < W.heap.size := by obtain ⟨m, hm⟩ := h0; exact DataW.trod_lt m _ _ _ hm
  have a0 := arg_strings (hval 0 37 v0 rfl rfl) h0
  clear hA0 hval0
  refine (walk_FnExactFramesOf v0 W a0).mono fun e W' ⟨he, bel⟩ => ?_
  subst he
  exact ⟨_, rfl, _, _, _, [], _, [], hW', trodAll_mk1 (shut_bool Try.underlying4 _), (trodAll_cons_mk (Below.trod laidOut (by kernel_rfl) (of_decide_eq_true (by kernel_rfl)) h0 bel lt0) trodAll_mk0), rfl, bel.frame _, fun h => by cases h⟩

theorem over : Rows.fnExactFramesOfRow.holds Try.pinned (OpenSpec.ofChange Rows.fnExactFramesOfSpec) :=
  OpenClaim.holds_of_wide 9 Try.f9 rfl rfl rfl rfl rfl rfl rfl ⟨rfl, rfl, rfl, rfl, rfl⟩ rfl rfl rfl rfl rfl (by kernel_rfl) Try.func9 (by kernel_rfl)
    (of_decide_eq_true (by kernel_rfl)) (by unfold Func.isWrapper; first | (rw [if_pos (by decide +kernel)]; kernel_rfl) | (rw [if_neg (by decide +kernel)]; exact ⟨rfl, rfl⟩))
    (fun os started H enc _ => lifted os started H enc)

/-- The statement. -/
theorem proved : Rows.FnExactFramesOfSaid :=
  over
#print axioms proved
end fnExactFramesOf
end Go.Proofs.Ytcdkccbmehdceaa

/- The tied card of the law FnExactPartsOf: it returns true for every argument, where the listed tables read as the program's text lays them. -/
import Derived.Test.YtfcgijhiedlfgaaDoorParts
import Derived.Test.YtfcgijhiedlfgaaDoorArgs
import Derived.Test.YtfcgijhiedlfgaaDoorCards
import Derived.Test.YtfcgijhiedlfgaaDoorTie
import Derived.LaidMore
import Derived.Stop.Joined
import Derived.Stop.LaidErr
import Derived.SevenTiedAt
namespace Go.Proofs.YtfcgijhiedlfgaaDoor
open Go.RowKit Go.ChangeShapes

theorem space_data : (Rows.laid_strings_asciiSpace : DataW Unit) = Lib.tabData .u8 Lib.asciiSpaceTab := by kernel_rfl
theorem tabSp_laid {r : List (String × DataW Unit)} {W : World} (h : laidMet Tryd.prog (("strings.asciiSpace", Rows.laid_strings_asciiSpace) :: r) W) : TabSp W := by
  rw [space_data] at h
  exact Lib.tabIs_of_head (g := 0) (by kernel_rfl) (by kernel_rfl) Tryd.underlying51 Tryd.underlying5 (by kernel_rfl) (by kernel_rfl) h
theorem laid_FnExactPartsOf {W : World} (h : laidMetH Tryd.prog Rows.fnExactPartsOfRow.laid W) : TabSp W := by
  rw [MakeChecks.laidMetH_plain _ _ _ (by kernel_rfl)] at h
  have h : laidMet Tryd.prog [_, _] W := h
  exact tabSp_laid h.tail

set_option maxHeartbeats 2000000 in
set_option maxRecDepth 100000 in
theorem walk_FnExactPartsOf (v0 : Value) (w : World) (a0 : ArgString w v0) (hT : TabSp w) :
    Calls Tryd.prog 4 #[v0] w fun e w' => e = .returned (.bool true) ∧ Below w.heap.size w w' := by
  obtain ⟨s, rfl, hs⟩ := a0
  unfold maxLen at hs
  by_cases hl : s.size ≤ 1048576
  · have hn := partsS_le s
    have CI := Lib.hid (fun W (hW : Below w.heap.size w W) => partsOf_impl s W (by omega) (tabSp_below hT hW))
    have CS := Lib.hid (partsOf_spec s w (by omega))
    unfold IsParts at CI CS
    obtain ⟨l, hll⟩ : ∃ l, l = partsS s := ⟨_, rfl⟩
    obtain ⟨x, hx⟩ : ∃ x, x = partsB s.data.toList := ⟨_, rfl⟩
    rw [← hll, ← hx] at CI CS
    rw [← hll] at hn
    have t0 : decide ((1048576 : Int) < (s.size : Int)) = false := decide_eq_false (by omega)
    clear hll hx hT hl
    go_enter Tryd.func4, Tryd.ntmps4
    go_wp2_with fail
    refine CS.out.mono ?_
    rintro e w1 ⟨u1, rfl, ho1, hb1⟩
    go_wp2_with fail
    refine (CI.out _ hb1).mono ?_
    rintro e w2 ⟨u2, rfl, ho2, hb2⟩
    have hw2 := hb1.trans (hb2.mono hb1.size)
    have p1 := own_below ho1 hb2
    go_wp2_with fail
    refine (eqStringS_any u2 u1 l _ (Rd.of_own ho2) (Rd.of_own p1)).mono ?_
    rintro e w3 ⟨rfl, hb3⟩
    have hw3 := hw2.trans (hb3.mono hw2.size)
    have p1 := own_below p1 hb3
    have ho2 := own_below ho2 hb3
    cases x
    all_goals
      go_wp2_with fail
      refine (markStringS_any u2 l.length _ _ 1 _ ho2 (by omega) (by omega) (by omega)).mono ?_
      rintro e w4 ⟨rfl, q2, hg4⟩
      have hap : u1.ownBlock = none ∨ u1.ownBlock ≠ u2.ownBlock := own_apart ho1 ho2 (Nat.le_refl _)
      have p1 := own_grown p1 hg4 hap
      have hw4 : Below w.heap.size w w4 := hw3.grown hg4 hw3.size (fun k hk => by have := ho2.lt k hk; have := hb1.size; omega)
      rw [Nat.mul_one] at q2
      rw [Nat.mul_one]
      go_wp2_with fail
      refine (heldStringS_any u2 l.length 1 _ (Rd.of_own q2) (by omega) (by omega) (by omega)).mono ?_
      rintro e w5 ⟨rfl, hb5⟩
      have hw5 := hw4.trans (hb5.mono hw4.size)
      have p1 := own_below p1 hb5
      have q2 := own_below q2 hb5
      go_wp2_with fail
      refine (CI.out _ hw5).mono ?_
      rintro e w6 ⟨u6, rfl, ho6, hb6⟩
      have hw6 := hw5.trans (hb6.mono hw5.size)
      have p1 := own_below p1 hb6
      have q2 := own_below q2 hb6
      go_wp2_with fail
      refine (eqStringS_any u6 u1 l _ (Rd.of_own ho6) (Rd.of_own p1)).mono ?_
      rintro e w7 ⟨rfl, hb7⟩
      have hw7 := hw6.trans (hb7.mono hw6.size)
      have q2 := own_below q2 hb7
      go_wp2_with fail
      refine (heldStringS_any u2 l.length 1 _ (Rd.of_own q2) (by omega) (by omega) (by omega)).mono ?_
      rintro e w8 ⟨rfl, hb8⟩
      have hw8 := hw7.trans (hb8.mono hw7.size)
      go_wp2_with fail
      go_ret
      exact ⟨rfl, hw8⟩
  · have t0 : decide ((1048576 : Int) < (s.size : Int)) = true := decide_eq_true (by omega)
    clear hT hl
    go_enter Tryd.func4, Tryd.ntmps4
    go_wp2_with fail
    go_ret
    exact ⟨rfl, Below.refl _ _⟩

namespace fnExactPartsOf
open Go.ChangeShapes Go.WideShapes Go.ChangeAt Go.RowKit
theorem own : ownKnob Tryd.prog.godebug = none := by kernel_rfl
theorem laidOut : laidOutB Tryd.prog = true := by kernel_rfl
/-- The door's own heap meets the condition. -/
theorem door_met (os : Os) (args : Array Value) : laidMetH Tryd.prog Rows.fnExactPartsOfRow.laid ((World.doorLaid Tryd.prog 86 os).forCall (fun _ _ => 0) ⟨#[], args, []⟩).memory :=
  laidMetH_of_parts3 (fuel := 8) (laidMet_of_run' 8 (by kernel_rfl) (by kernel_rfl)) (by kernel_rfl) (by kernel_rfl)

set_option maxRecDepth 100000 in
theorem lifted (os : Os) (started : os.Started) (H : Type) (enc : TypeId × Value → H) :
    ReturnsInHanded {} Tryd.checked os 4 .any (fun w args => (Rows.fnExactPartsOfSpec.pre enc Tryd.prog Tryd.f4 [] false w args ∧ laidMetH Tryd.prog Rows.fnExactPartsOfRow.laid w) ∧ sizedMet enc Tryd.prog Tryd.f4 (OpenSpec.ofChange Rows.fnExactPartsOfSpec) false w args) (Rows.fnExactPartsOfSpec.post enc Tryd.prog Tryd.f4 false true false false) := by
  refine returnsInHanded_of_change_and (C := Tryd.checked) (X := fun w _ => laidMetH Tryd.prog Rows.fnExactPartsOfRow.laid w) (fun _ _ _ hh h => h.of_heap hh) own started (by kernel_rfl) Tryd.func4
    (ChangeSpec.witness_shaped (enc := enc) (C := Tryd.checked) (os := os) (X := fun w _ => laidMetH Tryd.prog Rows.fnExactPartsOfRow.laid w) false (World.doorLaid Tryd.prog 86 os) #[.string ⟨#[]⟩] 8 rfl (World.shaped_of_RefB (by kernel_rfl) (by kernel_rfl)) (by kernel_rfl) (by kernel_rfl) (by kernel_rfl) (door_met os _)) ?_
  intro W base args ds gs before hval0 hW _ _ hL _
  have hval : ∀ (j : Nat) t v, Tryd.f4.params[j]? = some t → args[j]? = some v → Value.okWide Tryd.prog W .any base t v := hval0
  have hW' := hW
  obtain ⟨p, q, hA0, hV, rfl, hfz, hnd⟩ := hW
  have hA : DataW.TrodAll enc Tryd.prog W 0 (fun _ => true) true Tryd.f4.params.toList args.toList ds p := hA0
  rw [Tryd.params4] at hA hval
  obtain ⟨v0, vs0, d0, ds0, p0, q0, hargs, rfl, rfl, h0, r0⟩ := trodAll_cons hA
  obtain ⟨rfl, rfl, rfl⟩ := trodAll_nil r0
  obtain rfl : args = #[v0] := by cases args; simp_all
  obtain ⟨rfl, rfl⟩ := trodVars_none hV
  have lt0 : ∀ x ∈ p0, x.block < W.heap.size := by obtain ⟨m, hm⟩ := h0; exact DataW.trod_lt m _ _ _ hm
  have a0 := arg_string (hval 0 9 v0 rfl rfl) h0
  clear hA0 hval0
  refine (walk_FnExactPartsOf v0 W a0 (laid_FnExactPartsOf hL)).mono fun e W' ⟨he, bel⟩ => ?_
  subst he
  exact ⟨_, rfl, _, _, _, [], _, [], hW', trodAll_mk1 (shut_bool Tryd.underlying4 _), (trodAll_cons_mk (Below.trod laidOut (by kernel_rfl) (of_decide_eq_true (by kernel_rfl)) h0 bel lt0) trodAll_mk0), rfl, bel.frame _, fun h => by cases h⟩

theorem over : Rows.fnExactPartsOfRow.holds Tryd.pinned (OpenSpec.ofChange Rows.fnExactPartsOfSpec) :=
  OpenClaim.holds_of_wide 4 Tryd.f4 rfl rfl rfl rfl rfl rfl rfl ⟨rfl, rfl, rfl, rfl, rfl⟩ rfl rfl rfl rfl rfl (by kernel_rfl) Tryd.func4 (by kernel_rfl)
    (of_decide_eq_true (by kernel_rfl)) (by unfold Func.isWrapper; first | (rw [if_pos (by decide +kernel)]; kernel_rfl) | (rw [if_neg (by decide +kernel)]; exact ⟨rfl, rfl⟩))
    (fun os started H enc _ => lifted os started H enc)

/-- The statement: the tied card. -/
theorem proved : Rows.FnExactPartsOfCardSaid :=
  Claim7.holds_tied_plain_at .later [] [.listed, .data] true Rows.fnExactPartsOfCard.stood.harness true
    over (fun _ h => by cases h) (by kernel_rfl) (fun _ h => by cases h) fnExactPartsOf_row_tie rfl ⟨rfl, rfl⟩ (by kernel_rfl) rfl
    (fun f fn hf hfn => by
      obtain rfl : f = 4 := Option.some.inj ((show Tryd.prog.funcNamed Rows.fnExactPartsOfRow.func = some 4 by kernel_rfl).symm.trans hf) |>.symm
      obtain rfl : fn = Tryd.f4 := (Option.some.inj (Tryd.func4.symm.trans hfn)).symm
      exact ⟨by kernel_rfl, fun j t ht => by
        rw [Tryd.params4] at ht
        have hm : t ∈ [9] := by simpa using Array.mem_of_getElem? ht
        have hall : ([9].all fun u => !Tryd.prog.wantsStandIn u) = true := by kernel_rfl
        exact (show Tryd.prog.wantsStandIn t = false by simpa using List.all_eq_true.1 hall t hm)⟩)
    (by kernel_rfl)
#print axioms proved
end fnExactPartsOf

end Go.Proofs.YtfcgijhiedlfgaaDoor

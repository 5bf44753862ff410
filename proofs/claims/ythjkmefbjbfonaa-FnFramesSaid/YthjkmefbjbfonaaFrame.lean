/- The walks of FrameOf, the program's and the reference's. -/
import Derived.Test.YthjkmefbjbfonaaSum
import Derived.Test.YthjkmefbjbfonaaFourAt
import Derived.Test.YthjkmefbjbfonaaVarAt
namespace Go.Proofs.Ythjkmefbjbfonaa
open Go.RowKit Go.ChangeShapes

def frameOf (s : ByteArray) : ByteArray := if 1 ≤ s.size ∧ s.size ≤ 400 then varText (s.size : Int) ++ fourOf (sumOf s : Int) ++ s else ⟨#[]⟩
theorem frameOf_size (s : ByteArray) : (frameOf s).size ≤ 409 := by
  unfold frameOf
  by_cases h : 1 ≤ s.size ∧ s.size ≤ 400
  · rw [if_pos h, ByteArray.size_append, ByteArray.size_append]
    have := varText_size (s.size : Int)
    have := fourOf_size (sumOf s : Int)
    omega
  · rw [if_neg h]; show 0 ≤ 409; omega

set_option maxRecDepth 100000 in
theorem frameOf_impl (s : ByteArray) (w : World) (h1 : 1 ≤ s.size) (h2 : s.size ≤ 400) :
    Calls Try.prog 16 #[.string s] w fun e w' => e = .returned (.string (frameOf s)) ∧ Below w.heap.size w w' := by
  have hr : frameOf s = varText (s.size : Int) ++ fourOf (sumOf s : Int) ++ s := by rw [frameOf, if_pos ⟨h1, h2⟩]
  have hz1 := varText_size (s.size : Int)
  have hz2 := fourOf_size (sumOf s : Int)
  have C1 := Lib.hid (varText_impl_any (s.size : Int))
  have C2 := Lib.hid (fourOf_impl_any (sumOf s : Int))
  obtain ⟨z1, e1⟩ : ∃ z, z = varText (s.size : Int) := ⟨_, rfl⟩
  obtain ⟨z2, e2⟩ : ∃ z, z = fourOf (sumOf s : Int) := ⟨_, rfl⟩
  rw [← e1] at hr hz1 C1
  rw [← e2] at hr hz2 C2
  have HR := Lib.hid hr
  have hne : s.toList.isEmpty = false := by
    rw [ByteArray.toList_eq]
    have : s.data.toList.length = s.size := by rw [Array.length_toList]; rfl
    cases hl : s.data.toList with
    | nil => rw [hl] at this; simp at this; omega
    | cons a b => rfl
  clear e1 e2 hr
  go_enter Try.func16, Try.ntmps16
  go_wp2_with (first | (go_at_call 54; refine (within_t _ _ _ _ (by omega) (by omega)).mono ?_; rintro e w' ⟨rfl, rfl⟩) | (go_at_call 55; refine (C1.out _).mono ?_; rintro e w1 ⟨rfl, hb1⟩) | (go_at_call 57; refine (sumOf_impl s _ (by omega)).mono ?_; rintro e w' ⟨rfl, rfl⟩) | (go_at_call 56; refine (C2.out _).mono ?_; rintro e w2 ⟨rfl, hb2⟩))
  go_ret
  exact ⟨ret_str (by rw [HR.out]), hb1.trans (hb2.mono hb1.size)⟩

set_option maxRecDepth 100000 in
theorem frameOf_impl_no (s : ByteArray) (w : World) (h : ¬ (1 ≤ s.size ∧ s.size ≤ 400)) (hs : s.size ≤ 1048576) :
    Calls Try.prog 16 #[.string s] w fun e w' => e = .returned (.string (frameOf s)) ∧ Below w.heap.size w w' := by
  have HR := Lib.hid (show frameOf s = ⟨#[]⟩ by rw [frameOf, if_neg h])
  have H := Lib.hid (show (s.size : Int) < 1 ∨ 400 < (s.size : Int) by omega)
  clear h
  go_enter Try.func16, Try.ntmps16
  go_wp2_with (go_at_call 54; refine (within_f _ _ _ _ H.out).mono ?_; rintro e w' ⟨rfl, rfl⟩)
  go_ret
  exact ⟨ret_str HR.out.symm, Below.refl _ _⟩
theorem frameOf_impl_any (s : ByteArray) (w : World) (hs : s.size ≤ 1048576) : Calls Try.prog 16 #[.string s] w fun e w' => e = .returned (.string (frameOf s)) ∧ Below w.heap.size w w' := by
  by_cases h : 1 ≤ s.size ∧ s.size ≤ 400
  · exact frameOf_impl s w h.1 h.2
  · exact frameOf_impl_no s w h hs
end Go.Proofs.Ythjkmefbjbfonaa

/- The walks of FourOf, the program's and the reference's. -/
import Derived.Test.YthjkmefbjbfonaaVarText
namespace Go.Proofs.Ythjkmefbjbfonaa
open Go.RowKit Go.ChangeShapes

set_option maxRecDepth 100000 in
theorem fourOf_impl (n : Int) (w : World) (h0 : 0 ≤ n) (h1 : n ≤ 4294967295) :
    Calls Try.prog 56 #[.int .i64 n] w fun e w' => e = .returned (.string (strOfNums (fourL n))) ∧ Below w.heap.size w w' := by
  have hcv := run_string_block (P := Try.prog) (dst := 9) Try.underlying22 Try.underlying5 Try.underlying9 w (fourL n) 4 4 rfl
  simp only [fourL, List.map_cons, List.map_nil] at hcv
  go_enter Try.func56, Try.ntmps56
  go_wp2_with (first | (go_at_call 54; refine (within_t _ _ _ _ (by omega) (by omega)).mono ?_; rintro e w' ⟨rfl, rfl⟩))
  go_ret
  exact ⟨rfl, (Below.refl _ _).alloc (Nat.le_refl _) _⟩

set_option maxRecDepth 100000 in
theorem fourOf_impl_no (n : Int) (w : World) (h : n < 0 ∨ 4294967295 < n) :
    Calls Try.prog 56 #[.int .i64 n] w fun e w' => e = .returned (.string ⟨#[]⟩) ∧ Below w.heap.size w w' := by
  have H := Lib.hid h
  clear h
  go_enter Try.func56, Try.ntmps56
  go_wp2_with (go_at_call 54; refine (within_f _ _ _ _ H.out).mono ?_; rintro e w' ⟨rfl, rfl⟩)
  go_ret
  exact ⟨rfl, Below.refl _ _⟩

theorem fourOf_impl_any (n : Int) (w : World) : Calls Try.prog 56 #[.int .i64 n] w fun e w' => e = .returned (.string (fourOf n)) ∧ Below w.heap.size w w' := by
  by_cases h : 0 ≤ n ∧ n ≤ 4294967295
  · rw [fourOf, if_pos h]; exact fourOf_impl n w h.1 h.2
  · rw [fourOf, if_neg h]; exact fourOf_impl_no n w (by omega)

end Go.Proofs.Ythjkmefbjbfonaa

/- Crashed: the plain facts; Brought. -/
import Derived.Test.YthjkmefbjbfonaaWriteP
namespace Go.Proofs.Ythjkmefbjbfonaa
set_option linter.unusedSimpArgs false
set_option linter.unusedVariables false
open Go.RowKit Go.ChangeShapes Go.Deep

def broughtR (n a b : Int) : Int := if b < a ∨ n < a then a else if b < n then b else n
theorem brought_in {n a b : Int} (h : a ≤ b) : a ≤ broughtR n a b ∧ broughtR n a b ≤ b := by unfold broughtR; split <;> (try split) <;> omega
theorem brought_zero {b : Int} (h : 0 ≤ b) : broughtR 0 0 b = 0 := by unfold broughtR; split <;> (try split) <;> omega
def leftF (x : Fil) (m : Int) : Fil := let n := x.safe + broughtR m 0 ((x.data.size : Int) - x.safe); ⟨x.name, x.data.extract 0 n.toNat, n⟩
def crashL (d : List Fil) (keep : List Int) : List Fil := d.mapIdx fun i f => leftF f (keep.getD i 0)
def crashedR (d : List Fil) (keep : List Int) : List Fil := if diskOkR d then crashL d keep else d
theorem crashL_length (d : List Fil) (keep : List Int) : (crashL d keep).length = d.length := by unfold crashL; simp
theorem crashL_at {d : List Fil} {keep : List Int} {i : Nat} (h : i < d.length) : (crashL d keep)[i]'(by rw [crashL_length]; exact h) = leftF d[i] (keep.getD i 0) := by unfold crashL; simp
/-- How far the crash has come. -/
def crashAt (d : List Fil) (keep : List Int) (i : Nat) : List Fil := (crashL d keep).take i ++ d.drop i
theorem crashAt_length {d : List Fil} {keep : List Int} {i : Nat} (h : i ≤ d.length) : (crashAt d keep i).length = d.length := by unfold crashAt; rw [List.length_append, List.length_take, crashL_length, List.length_drop]; omega
theorem crashAt_zero (d : List Fil) (keep : List Int) : crashAt d keep 0 = d := by simp [crashAt]
theorem crashAt_end (d : List Fil) (keep : List Int) : crashAt d keep d.length = crashL d keep := by
  unfold crashAt
  rw [List.drop_length, List.append_nil, List.take_of_length_le (by rw [crashL_length]; exact Nat.le_refl _)]
theorem crashAt_get {d : List Fil} {keep : List Int} {i : Nat} (h : i < d.length) : (crashAt d keep i)[i]'(by rw [crashAt_length (by omega)]; exact h) = d[i] := by
  unfold crashAt
  rw [List.getElem_append_right (by rw [List.length_take, crashL_length]; omega)]
  simp [List.length_take, crashL_length, Nat.min_eq_left (Nat.le_of_lt h)]
theorem crashAt_set {d : List Fil} {keep : List Int} {i : Nat} (h : i < d.length) : (crashAt d keep i).set i (leftF d[i] (keep.getD i 0)) = crashAt d keep (i + 1) := by
  apply List.ext_getElem?
  intro j
  have hl := crashAt_length (d := d) (keep := keep) (i := i) (by omega)
  rw [List.getElem?_set]
  unfold crashAt
  by_cases e : i = j
  · subst e
    rw [if_pos rfl, if_pos (by unfold crashAt at hl; omega), List.getElem?_append_left (by rw [List.length_take, crashL_length]; omega), List.getElem?_take_of_lt (by omega), List.getElem?_eq_getElem (by rw [crashL_length]; exact h), crashL_at h]
  · rw [if_neg e]
    by_cases h1 : j < i
    · rw [List.getElem?_append_left (by rw [List.length_take, crashL_length]; omega), List.getElem?_append_left (by rw [List.length_take, crashL_length]; omega), List.getElem?_take_of_lt (by omega), List.getElem?_take_of_lt (by omega)]
    · rw [List.getElem?_append_right (by rw [List.length_take, crashL_length]; omega), List.getElem?_append_right (by rw [List.length_take, crashL_length]; omega), List.length_take, List.length_take, crashL_length, List.getElem?_drop, List.getElem?_drop]
      congr 1
      omega

set_option maxRecDepth 100000 in
theorem brought_impl (n a b : Int) (w : World) : Calls Try.prog 63 #[.int .i64 n, .int .i64 a, .int .i64 b] w fun e w' => e = .returned (.int .i64 (broughtR n a b)) ∧ Below w.heap.size w w' := by
  by_cases h1 : b < a
  · have e : broughtR n a b = a := by unfold broughtR; rw [if_pos (.inl h1)]
    rw [e]
    go_enter Try.func63, Try.ntmps63
    go_wp2
    go_ret
    exact ⟨rfl, by exact (by repeat first | exact Below.refl _ _ | assumption | refine Below.drew ?_ | refine below_drewN ?_ _ | refine Below.calm ?_ (by first | exact Nat.le_refl _ | (simp; done) | (simp; omega) | omega) | refine Below.alloc ?_ (by first | exact Nat.le_refl _ | (simp; done) | (simp; omega) | omega) _ | refine Below.setCell ?_ (by first | exact Nat.le_refl _ | (simp; done) | (simp; omega) | omega) _)⟩
  · by_cases h2 : n < a
    · have e : broughtR n a b = a := by unfold broughtR; rw [if_pos (.inr h2)]
      rw [e]
      go_enter Try.func63, Try.ntmps63
      go_wp2
      go_ret
      exact ⟨rfl, by exact (by repeat first | exact Below.refl _ _ | assumption | refine Below.drew ?_ | refine below_drewN ?_ _ | refine Below.calm ?_ (by first | exact Nat.le_refl _ | (simp; done) | (simp; omega) | omega) | refine Below.alloc ?_ (by first | exact Nat.le_refl _ | (simp; done) | (simp; omega) | omega) _ | refine Below.setCell ?_ (by first | exact Nat.le_refl _ | (simp; done) | (simp; omega) | omega) _)⟩
    · by_cases h3 : b < n
      · have e : broughtR n a b = b := by unfold broughtR; rw [if_neg (by omega), if_pos h3]
        rw [e]
        go_enter Try.func63, Try.ntmps63
        go_wp2
        go_ret
        exact ⟨rfl, by exact (by repeat first | exact Below.refl _ _ | assumption | refine Below.drew ?_ | refine below_drewN ?_ _ | refine Below.calm ?_ (by first | exact Nat.le_refl _ | (simp; done) | (simp; omega) | omega) | refine Below.alloc ?_ (by first | exact Nat.le_refl _ | (simp; done) | (simp; omega) | omega) _ | refine Below.setCell ?_ (by first | exact Nat.le_refl _ | (simp; done) | (simp; omega) | omega) _)⟩
      · have e : broughtR n a b = n := by unfold broughtR; rw [if_neg (by omega), if_neg h3]
        rw [e]
        go_enter Try.func63, Try.ntmps63
        go_wp2
        go_ret
        exact ⟨rfl, by exact (by repeat first | exact Below.refl _ _ | assumption | refine Below.drew ?_ | refine below_drewN ?_ _ | refine Below.calm ?_ (by first | exact Nat.le_refl _ | (simp; done) | (simp; omega) | omega) | refine Below.alloc ?_ (by first | exact Nat.le_refl _ | (simp; done) | (simp; omega) | omega) _ | refine Below.setCell ?_ (by first | exact Nat.le_refl _ | (simp; done) | (simp; omega) | omega) _)⟩
set_option maxRecDepth 100000 in
theorem brought_spec (n a b : Int) (w : World) : Calls Try.prog 67 #[.int .i64 n, .int .i64 a, .int .i64 b] w fun e w' => e = .returned (.int .i64 (broughtR n a b)) ∧ Below w.heap.size w w' := by
  by_cases h1 : b < a
  · have e : broughtR n a b = a := by unfold broughtR; rw [if_pos (.inl h1)]
    rw [e]
    go_enter Try.func67, Try.ntmps67
    go_wp2
    go_ret
    exact ⟨rfl, by exact (by repeat first | exact Below.refl _ _ | assumption | refine Below.drew ?_ | refine below_drewN ?_ _ | refine Below.calm ?_ (by first | exact Nat.le_refl _ | (simp; done) | (simp; omega) | omega) | refine Below.alloc ?_ (by first | exact Nat.le_refl _ | (simp; done) | (simp; omega) | omega) _ | refine Below.setCell ?_ (by first | exact Nat.le_refl _ | (simp; done) | (simp; omega) | omega) _)⟩
  · by_cases h2 : n < a
    · have e : broughtR n a b = a := by unfold broughtR; rw [if_pos (.inr h2)]
      rw [e]
      go_enter Try.func67, Try.ntmps67
      go_wp2
      go_ret
      exact ⟨rfl, by exact (by repeat first | exact Below.refl _ _ | assumption | refine Below.drew ?_ | refine below_drewN ?_ _ | refine Below.calm ?_ (by first | exact Nat.le_refl _ | (simp; done) | (simp; omega) | omega) | refine Below.alloc ?_ (by first | exact Nat.le_refl _ | (simp; done) | (simp; omega) | omega) _ | refine Below.setCell ?_ (by first | exact Nat.le_refl _ | (simp; done) | (simp; omega) | omega) _)⟩
    · by_cases h3 : b < n
      · have e : broughtR n a b = b := by unfold broughtR; rw [if_neg (by omega), if_pos h3]
        rw [e]
        go_enter Try.func67, Try.ntmps67
        go_wp2
        go_ret
        exact ⟨rfl, by exact (by repeat first | exact Below.refl _ _ | assumption | refine Below.drew ?_ | refine below_drewN ?_ _ | refine Below.calm ?_ (by first | exact Nat.le_refl _ | (simp; done) | (simp; omega) | omega) | refine Below.alloc ?_ (by first | exact Nat.le_refl _ | (simp; done) | (simp; omega) | omega) _ | refine Below.setCell ?_ (by first | exact Nat.le_refl _ | (simp; done) | (simp; omega) | omega) _)⟩
      · have e : broughtR n a b = n := by unfold broughtR; rw [if_neg (by omega), if_neg h3]
        rw [e]
        go_enter Try.func67, Try.ntmps67
        go_wp2
        go_ret
        exact ⟨rfl, by exact (by repeat first | exact Below.refl _ _ | assumption | refine Below.drew ?_ | refine below_drewN ?_ _ | refine Below.calm ?_ (by first | exact Nat.le_refl _ | (simp; done) | (simp; omega) | omega) | refine Below.alloc ?_ (by first | exact Nat.le_refl _ | (simp; done) | (simp; omega) | omega) _ | refine Below.setCell ?_ (by first | exact Nat.le_refl _ | (simp; done) | (simp; omega) | omega) _)⟩
end Go.Proofs.Ythjkmefbjbfonaa

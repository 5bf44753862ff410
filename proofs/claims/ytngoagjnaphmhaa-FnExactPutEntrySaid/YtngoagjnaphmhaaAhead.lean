/- Entries: the copies of the law, and Ahead, the program's and the reference's. -/
import Derived.Test.YtngoagjnaphmhaaWords
import Derived.Test.YtngoagjnaphmhaaRows
import Derived.WalkKit
namespace Go.Proofs.Ytngoagjnaphmhaa
open Go.RowKit Go.ChangeShapes

set_option maxRecDepth 100000 in
theorem toEntry_any (p s r t : Int) (w : World) :
    Calls Try.prog 22 #[.agg #[.int .i64 p, .int .i64 s, .int .i64 r, .int .i64 t]] w fun e w' => e = .returned (.agg #[.int .i64 p, .int .i64 s, .int .i64 r, .int .i64 t]) ∧ Below w.heap.size w w' := by
  go_enter Try.func22, Try.ntmps22
  go_wp2
  exact bodyPost_ret (v := .agg #[.int .i64 p, .int .i64 s, .int .i64 r, .int .i64 t]) (by simp [results, Try.results22, go_sem]) rfl ⟨rfl, (by repeat first | exact Below.refl _ _ | assumption | refine Below.drew ?_ | refine below_drewN ?_ _ | refine Below.calm ?_ (by first | exact Nat.le_refl _ | (simp; done) | (simp; omega) | omega) | refine Below.alloc ?_ (by first | exact Nat.le_refl _ | (simp; done) | (simp; omega) | omega) _ | refine Below.setCell ?_ (by first | exact Nat.le_refl _ | (simp; done) | (simp; omega) | omega) _)⟩

def aheadB (p s p' s' : Int) : Bool := decide (p > p' ∨ (p = p' ∧ s < s'))

set_option maxRecDepth 100000 in
theorem ahead_impl (p s r t p' s' r' t' : Int) (w : World) :
    Calls Try.prog 27 #[.agg #[.int .i64 p, .int .i64 s, .int .i64 r, .int .i64 t], .agg #[.int .i64 p', .int .i64 s', .int .i64 r', .int .i64 t']] w fun e w' => e = .returned (.bool (aheadB p s p' s')) ∧ Below w.heap.size w w' := by
  rcases (show (p' < p) ∨ (p < p') ∨ (p = p' ∧ s < s') ∨ (p = p' ∧ ¬ s < s') by omega) with h | h | ⟨rfl, h⟩ | ⟨rfl, h⟩
  · have hr : aheadB p s p' s' = true := by simp [aheadB]; omega
    rw [hr]
    clear hr
    go_enter Try.func27, Try.ntmps27
    go_wp2
    go_ret
    exact ⟨rfl, (by repeat first | exact Below.refl _ _ | assumption | refine Below.drew ?_ | refine below_drewN ?_ _ | refine Below.calm ?_ (by first | exact Nat.le_refl _ | (simp; done) | (simp; omega) | omega) | refine Below.alloc ?_ (by first | exact Nat.le_refl _ | (simp; done) | (simp; omega) | omega) _ | refine Below.setCell ?_ (by first | exact Nat.le_refl _ | (simp; done) | (simp; omega) | omega) _)⟩
  · have hr : aheadB p s p' s' = false := by simp [aheadB]; omega
    rw [hr]
    clear hr
    have h1 : decide (p' < p) = false := by simp; omega
    have h2 : (p == p') = false := by simp; omega
    go_enter Try.func27, Try.ntmps27
    go_wp2
    go_ret
    exact ⟨rfl, (by repeat first | exact Below.refl _ _ | assumption | refine Below.drew ?_ | refine below_drewN ?_ _ | refine Below.calm ?_ (by first | exact Nat.le_refl _ | (simp; done) | (simp; omega) | omega) | refine Below.alloc ?_ (by first | exact Nat.le_refl _ | (simp; done) | (simp; omega) | omega) _ | refine Below.setCell ?_ (by first | exact Nat.le_refl _ | (simp; done) | (simp; omega) | omega) _)⟩
  · have hr : aheadB p s p s' = true := by simp [aheadB]; omega
    rw [hr]
    clear hr
    have h1 : decide (p < p) = false := by simp
    go_enter Try.func27, Try.ntmps27
    go_wp2
    go_ret
    exact ⟨rfl, (by repeat first | exact Below.refl _ _ | assumption | refine Below.drew ?_ | refine below_drewN ?_ _ | refine Below.calm ?_ (by first | exact Nat.le_refl _ | (simp; done) | (simp; omega) | omega) | refine Below.alloc ?_ (by first | exact Nat.le_refl _ | (simp; done) | (simp; omega) | omega) _ | refine Below.setCell ?_ (by first | exact Nat.le_refl _ | (simp; done) | (simp; omega) | omega) _)⟩
  · have hr : aheadB p s p s' = false := by simp [aheadB]; omega
    rw [hr]
    clear hr
    have h1 : decide (p < p) = false := by simp
    have h2 : decide (s < s') = false := by simp; omega
    go_enter Try.func27, Try.ntmps27
    go_wp2
    go_ret
    exact ⟨rfl, (by repeat first | exact Below.refl _ _ | assumption | refine Below.drew ?_ | refine below_drewN ?_ _ | refine Below.calm ?_ (by first | exact Nat.le_refl _ | (simp; done) | (simp; omega) | omega) | refine Below.alloc ?_ (by first | exact Nat.le_refl _ | (simp; done) | (simp; omega) | omega) _ | refine Below.setCell ?_ (by first | exact Nat.le_refl _ | (simp; done) | (simp; omega) | omega) _)⟩

set_option maxRecDepth 100000 in
theorem ahead_spec (p s r t p' s' r' t' : Int) (w : World) :
    Calls Try.prog 31 #[.agg #[.int .i64 p, .int .i64 s, .int .i64 r, .int .i64 t], .agg #[.int .i64 p', .int .i64 s', .int .i64 r', .int .i64 t']] w fun e w' => e = .returned (.bool (aheadB p s p' s')) ∧ Below w.heap.size w w' := by
  rcases (show (p' < p) ∨ (p < p') ∨ (p = p' ∧ s < s') ∨ (p = p' ∧ ¬ s < s') by omega) with h | h | ⟨rfl, h⟩ | ⟨rfl, h⟩
  · have hr : aheadB p s p' s' = true := by simp [aheadB]; omega
    rw [hr]
    clear hr
    go_enter Try.func31, Try.ntmps31
    go_wp2
    go_ret
    exact ⟨rfl, (by repeat first | exact Below.refl _ _ | assumption | refine Below.drew ?_ | refine below_drewN ?_ _ | refine Below.calm ?_ (by first | exact Nat.le_refl _ | (simp; done) | (simp; omega) | omega) | refine Below.alloc ?_ (by first | exact Nat.le_refl _ | (simp; done) | (simp; omega) | omega) _ | refine Below.setCell ?_ (by first | exact Nat.le_refl _ | (simp; done) | (simp; omega) | omega) _)⟩
  · have hr : aheadB p s p' s' = false := by simp [aheadB]; omega
    rw [hr]
    clear hr
    have h1 : decide (p' < p) = false := by simp; omega
    have h2 : (p == p') = false := by simp; omega
    go_enter Try.func31, Try.ntmps31
    go_wp2
    go_ret
    exact ⟨rfl, (by repeat first | exact Below.refl _ _ | assumption | refine Below.drew ?_ | refine below_drewN ?_ _ | refine Below.calm ?_ (by first | exact Nat.le_refl _ | (simp; done) | (simp; omega) | omega) | refine Below.alloc ?_ (by first | exact Nat.le_refl _ | (simp; done) | (simp; omega) | omega) _ | refine Below.setCell ?_ (by first | exact Nat.le_refl _ | (simp; done) | (simp; omega) | omega) _)⟩
  · have hr : aheadB p s p s' = true := by simp [aheadB]; omega
    rw [hr]
    clear hr
    have h1 : decide (p < p) = false := by simp
    go_enter Try.func31, Try.ntmps31
    go_wp2
    go_ret
    exact ⟨rfl, (by repeat first | exact Below.refl _ _ | assumption | refine Below.drew ?_ | refine below_drewN ?_ _ | refine Below.calm ?_ (by first | exact Nat.le_refl _ | (simp; done) | (simp; omega) | omega) | refine Below.alloc ?_ (by first | exact Nat.le_refl _ | (simp; done) | (simp; omega) | omega) _ | refine Below.setCell ?_ (by first | exact Nat.le_refl _ | (simp; done) | (simp; omega) | omega) _)⟩
  · have hr : aheadB p s p s' = false := by simp [aheadB]; omega
    rw [hr]
    clear hr
    have h1 : decide (p < p) = false := by simp
    have h2 : decide (s < s') = false := by simp; omega
    go_enter Try.func31, Try.ntmps31
    go_wp2
    go_ret
    exact ⟨rfl, (by repeat first | exact Below.refl _ _ | assumption | refine Below.drew ?_ | refine below_drewN ?_ _ | refine Below.calm ?_ (by first | exact Nat.le_refl _ | (simp; done) | (simp; omega) | omega) | refine Below.alloc ?_ (by first | exact Nat.le_refl _ | (simp; done) | (simp; omega) | omega) _ | refine Below.setCell ?_ (by first | exact Nat.le_refl _ | (simp; done) | (simp; omega) | omega) _)⟩
end Go.Proofs.Ytngoagjnaphmhaa

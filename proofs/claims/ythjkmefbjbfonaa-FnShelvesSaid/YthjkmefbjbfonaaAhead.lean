/- Entries: the copies of the law, and Ahead, the program's and the reference's. -/
import Derived.Test.YthjkmefbjbfonaaWords
import Derived.Test.YthjkmefbjbfonaaRows
import Derived.WalkKit
namespace Go.Proofs.Ythjkmefbjbfonaa
open Go.RowKit Go.ChangeShapes

def aheadB (p s p' s' : Int) : Bool := decide (p > p' ∨ (p = p' ∧ s < s'))

set_option maxRecDepth 100000 in
theorem ahead_impl (p s r t p' s' r' t' : Int) (w : World) :
    Calls Try.prog 42 #[.agg #[.int .i64 p, .int .i64 s, .int .i64 r, .int .i64 t], .agg #[.int .i64 p', .int .i64 s', .int .i64 r', .int .i64 t']] w fun e w' => e = .returned (.bool (aheadB p s p' s')) ∧ Below w.heap.size w w' := by
  rcases (show (p' < p) ∨ (p < p') ∨ (p = p' ∧ s < s') ∨ (p = p' ∧ ¬ s < s') by omega) with h | h | ⟨rfl, h⟩ | ⟨rfl, h⟩
  · have hr : aheadB p s p' s' = true := by simp [aheadB]; omega
    rw [hr]
    clear hr
    go_enter Try.func42, Try.ntmps42
    go_wp2
    go_ret
    exact ⟨rfl, (by repeat first | exact Below.refl _ _ | assumption | refine Below.drew ?_ | refine below_drewN ?_ _ | refine Below.calm ?_ (by first | exact Nat.le_refl _ | (simp; done) | (simp; omega) | omega) | refine Below.alloc ?_ (by first | exact Nat.le_refl _ | (simp; done) | (simp; omega) | omega) _ | refine Below.setCell ?_ (by first | exact Nat.le_refl _ | (simp; done) | (simp; omega) | omega) _)⟩
  · have hr : aheadB p s p' s' = false := by simp [aheadB]; omega
    rw [hr]
    clear hr
    have h1 : decide (p' < p) = false := by simp; omega
    have h2 : (p == p') = false := by simp; omega
    go_enter Try.func42, Try.ntmps42
    go_wp2
    go_ret
    exact ⟨rfl, (by repeat first | exact Below.refl _ _ | assumption | refine Below.drew ?_ | refine below_drewN ?_ _ | refine Below.calm ?_ (by first | exact Nat.le_refl _ | (simp; done) | (simp; omega) | omega) | refine Below.alloc ?_ (by first | exact Nat.le_refl _ | (simp; done) | (simp; omega) | omega) _ | refine Below.setCell ?_ (by first | exact Nat.le_refl _ | (simp; done) | (simp; omega) | omega) _)⟩
  · have hr : aheadB p s p s' = true := by simp [aheadB]; omega
    rw [hr]
    clear hr
    have h1 : decide (p < p) = false := by simp
    go_enter Try.func42, Try.ntmps42
    go_wp2
    go_ret
    exact ⟨rfl, (by repeat first | exact Below.refl _ _ | assumption | refine Below.drew ?_ | refine below_drewN ?_ _ | refine Below.calm ?_ (by first | exact Nat.le_refl _ | (simp; done) | (simp; omega) | omega) | refine Below.alloc ?_ (by first | exact Nat.le_refl _ | (simp; done) | (simp; omega) | omega) _ | refine Below.setCell ?_ (by first | exact Nat.le_refl _ | (simp; done) | (simp; omega) | omega) _)⟩
  · have hr : aheadB p s p s' = false := by simp [aheadB]; omega
    rw [hr]
    clear hr
    have h1 : decide (p < p) = false := by simp
    have h2 : decide (s < s') = false := by simp; omega
    go_enter Try.func42, Try.ntmps42
    go_wp2
    go_ret
    exact ⟨rfl, (by repeat first | exact Below.refl _ _ | assumption | refine Below.drew ?_ | refine below_drewN ?_ _ | refine Below.calm ?_ (by first | exact Nat.le_refl _ | (simp; done) | (simp; omega) | omega) | refine Below.alloc ?_ (by first | exact Nat.le_refl _ | (simp; done) | (simp; omega) | omega) _ | refine Below.setCell ?_ (by first | exact Nat.le_refl _ | (simp; done) | (simp; omega) | omega) _)⟩

set_option maxRecDepth 100000 in
theorem ahead_spec (p s r t p' s' r' t' : Int) (w : World) :
    Calls Try.prog 101 #[.agg #[.int .i64 p, .int .i64 s, .int .i64 r, .int .i64 t], .agg #[.int .i64 p', .int .i64 s', .int .i64 r', .int .i64 t']] w fun e w' => e = .returned (.bool (aheadB p s p' s')) ∧ Below w.heap.size w w' := by
  rcases (show (p' < p) ∨ (p < p') ∨ (p = p' ∧ s < s') ∨ (p = p' ∧ ¬ s < s') by omega) with h | h | ⟨rfl, h⟩ | ⟨rfl, h⟩
  · have hr : aheadB p s p' s' = true := by simp [aheadB]; omega
    rw [hr]
    clear hr
    go_enter Try.func101, Try.ntmps101
    go_wp2
    go_ret
    exact ⟨rfl, (by repeat first | exact Below.refl _ _ | assumption | refine Below.drew ?_ | refine below_drewN ?_ _ | refine Below.calm ?_ (by first | exact Nat.le_refl _ | (simp; done) | (simp; omega) | omega) | refine Below.alloc ?_ (by first | exact Nat.le_refl _ | (simp; done) | (simp; omega) | omega) _ | refine Below.setCell ?_ (by first | exact Nat.le_refl _ | (simp; done) | (simp; omega) | omega) _)⟩
  · have hr : aheadB p s p' s' = false := by simp [aheadB]; omega
    rw [hr]
    clear hr
    have h1 : decide (p' < p) = false := by simp; omega
    have h2 : (p == p') = false := by simp; omega
    go_enter Try.func101, Try.ntmps101
    go_wp2
    go_ret
    exact ⟨rfl, (by repeat first | exact Below.refl _ _ | assumption | refine Below.drew ?_ | refine below_drewN ?_ _ | refine Below.calm ?_ (by first | exact Nat.le_refl _ | (simp; done) | (simp; omega) | omega) | refine Below.alloc ?_ (by first | exact Nat.le_refl _ | (simp; done) | (simp; omega) | omega) _ | refine Below.setCell ?_ (by first | exact Nat.le_refl _ | (simp; done) | (simp; omega) | omega) _)⟩
  · have hr : aheadB p s p s' = true := by simp [aheadB]; omega
    rw [hr]
    clear hr
    have h1 : decide (p < p) = false := by simp
    go_enter Try.func101, Try.ntmps101
    go_wp2
    go_ret
    exact ⟨rfl, (by repeat first | exact Below.refl _ _ | assumption | refine Below.drew ?_ | refine below_drewN ?_ _ | refine Below.calm ?_ (by first | exact Nat.le_refl _ | (simp; done) | (simp; omega) | omega) | refine Below.alloc ?_ (by first | exact Nat.le_refl _ | (simp; done) | (simp; omega) | omega) _ | refine Below.setCell ?_ (by first | exact Nat.le_refl _ | (simp; done) | (simp; omega) | omega) _)⟩
  · have hr : aheadB p s p s' = false := by simp [aheadB]; omega
    rw [hr]
    clear hr
    have h1 : decide (p < p) = false := by simp
    have h2 : decide (s < s') = false := by simp; omega
    go_enter Try.func101, Try.ntmps101
    go_wp2
    go_ret
    exact ⟨rfl, (by repeat first | exact Below.refl _ _ | assumption | refine Below.drew ?_ | refine below_drewN ?_ _ | refine Below.calm ?_ (by first | exact Nat.le_refl _ | (simp; done) | (simp; omega) | omega) | refine Below.alloc ?_ (by first | exact Nat.le_refl _ | (simp; done) | (simp; omega) | omega) _ | refine Below.setCell ?_ (by first | exact Nat.le_refl _ | (simp; done) | (simp; omega) | omega) _)⟩
end Go.Proofs.Ythjkmefbjbfonaa

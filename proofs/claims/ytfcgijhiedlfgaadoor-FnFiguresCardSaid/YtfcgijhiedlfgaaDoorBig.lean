/- The laws' own test of a code's length. -/
import Derived.Test.YtfcgijhiedlfgaaDoorSlices
import Derived.Test.YtfcgijhiedlfgaaDoorVarText
import Derived.Test.YtfcgijhiedlfgaaDoorArgBytes
namespace Go.Proofs.YtfcgijhiedlfgaaDoor
open Go.RowKit Go.ChangeShapes

set_option maxRecDepth 100000 in
theorem big_t (w : World) (v : Value) (code : List UInt8) (h : Rd w 1 v code.length (bytesV code)) (hn : 1048576 < code.length) : Calls Tryd.prog 16 #[v] w fun e w' => e = .returned (.bool true) ∧ w = w' := by
  obtain ⟨A, cp, rfl, hnc, hcm⟩ := h.shape
  have t0 : decide ((1048576 : Int) < (code.length : Int)) = true := by simp; omega
  clear h
  go_enter Tryd.func16, Tryd.ntmps16
  go_wp2
  go_ret
  exact ⟨rfl, rfl⟩
set_option maxRecDepth 100000 in
theorem big_f (w : World) (v : Value) (code : List UInt8) (h : Rd w 1 v code.length (bytesV code)) (hn : code.length ≤ 1048576) : Calls Tryd.prog 16 #[v] w fun e w' => e = .returned (.bool false) ∧ w = w' := by
  obtain ⟨A, cp, rfl, hnc, hcm⟩ := h.shape
  have t0 : decide ((1048576 : Int) < (code.length : Int)) = false := by simp; omega
  clear h
  go_enter Tryd.func16, Tryd.ntmps16
  go_wp2
  go_ret
  exact ⟨rfl, rfl⟩
end Go.Proofs.YtfcgijhiedlfgaaDoor

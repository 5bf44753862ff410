/- The walks of Hex, the program's and the reference's. -/
import Derived.Test.YthjkmefbjbfonaaVarText
import Derived.Test.YthjkmefbjbfonaaHexPlain
import Derived.Test.YthjkmefbjbfonaaSched
import Derived.IntWalk
namespace Go.Proofs.Ythjkmefbjbfonaa
open Go.RowKit Go.ChangeShapes

set_option maxRecDepth 100000 in
theorem l01Figure_any (y : Int) (w : World) (h0 : 0 ≤ y) (h1 : y < 16) : Calls Try.prog 77 #[.int .i64 y] w fun e w' => e = .returned (.int .u8 (fig y)) ∧ w = w' := by
  by_cases h : y < 10
  · have H := Lib.hid (show fig y = 48 + y by rw [fig, if_pos h])
    go_enter Try.func77, Try.ntmps77
    go_wp2
    go_ret
    exact ⟨ret_int (by rw [H.out]), rfl⟩
  · have H := Lib.hid (show fig y = 97 + y - 10 by rw [fig, if_neg h]; omega)
    go_enter Try.func77, Try.ntmps77
    go_wp2
    go_ret
    exact ⟨ret_int (by rw [H.out]), rfl⟩

def hexS (s : ByteArray) : ByteArray := if s.size ≤ 20000 then ⟨(hexL s.data.toList).toArray⟩ else ⟨#[]⟩
def hexOk (s : ByteArray) : Bool := decide (s.size ≤ 20000)

end Go.Proofs.Ythjkmefbjbfonaa

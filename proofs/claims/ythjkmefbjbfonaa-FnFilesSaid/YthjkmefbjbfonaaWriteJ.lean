/- WriteFile, the reference's. -/
import Derived.Test.YthjkmefbjbfonaaWriteF
import Derived.Test.YthjkmefbjbfonaaWriteN
namespace Go.Proofs.Ythjkmefbjbfonaa
open Go.RowKit Go.ChangeShapes Go.Deep
theorem writeFile_spec (v : Value) (d : List Fil) (nm more : ByteArray) (w : World) (h : Rd_disk w v d) (hn : cost_disk d ≤ 1048576) (hnm : nm.size ≤ 1048576) (hmr : more.size ≤ 1048576) :
    Calls Try.prog 25 #[.agg #[v], .string nm, .string more] w (GivesDB (writeFileR0 d nm more) (writeFileR1 d nm more) w) := by
  by_cases ha : atF nm d < d.length
  · exact writeFile_specF v d nm more w h hn hnm hmr ha
  · exact writeFile_specN v d nm more w h hn hnm hmr ha
theorem writeFileR0_length (d : List Fil) (nm more : ByteArray) : (writeFileR0 d nm more).length ≤ d.length + 1 := by
  unfold writeFileR0
  have := baseF_length d nm
  split
  · rw [writeTo_length]; omega
  · omega
end Go.Proofs.Ythjkmefbjbfonaa

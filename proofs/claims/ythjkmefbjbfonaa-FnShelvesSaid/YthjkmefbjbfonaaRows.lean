/-
  No cell of these rows narrows 'for every input' (looked for: loops, veiled, ifaces, maps, wideKeys, modest, calm, conditions, laid).
  DERIVED. THE GIVEN ROWS OF THIS SEAT. 7 by the template 'for every input the law returns true; each argument reads behind the call as it read before'; 0 by the template 'total and deterministic' (their statements: YthjkmefbjbfonaaTotals.lean).
  GIVEN WITH THE SEED: the statements are not yours to turn. If you find one false, say at which input.
  Laid BY PROGRAM, IN A SANDBOX (cutbox-rows.mjs): the forced cells as the released guide's own fill.sh prints them over the translation 0ce088488c08da1c… (all of the seat's roots in one cut). By AI agents, Wed Nov 11 2026. No macro, syntax, notation, axiom, sorry.
-/
import Derived.Test.YthjkmefbjbfonaaChecked
import GoSem.Claim
import GoSem.ClaimJoined
import GoSem.ClaimMapViews
import Derived.JoinedTies
import Derived.KernelRfl
namespace Go.Proofs.Ythjkmefbjbfonaa
/- THE CELL 'sum', in the pinned program and in every row, IS THE sha256 OF THE DUMP (.gsa) THAT YthjkmefbjbfonaaProg.lean LOADS. Nothing in Lean hashes anything: it is a label: what it is worth is what the hold of that sum in a sandbox is worth. -/
noncomputable def Try.pinned : Pinned := { name := "ythjkmefbjbfonaa", sum := "0ce088488c08da1c87ae236d04bbce17034ab253390e980159cdbf1da5e7f4d4", checked := Try.checked }
namespace Rows
def none {H : Type} : Left H := { results := [], args := [] }

/-- 'laws.FnFrames': WHATEVER THE INPUT: true; the input reads as it did. -/
def fnFramesSpec : ChangeSpec := { name := "fnFrames", fn := fun _ => fun
  | [d] => { results := [.lit (.bool true)], args := [d] }
  | _ => none }
def fnFramesRow : OpenClaim := { program := "ythjkmefbjbfonaa", sum := "0ce088488c08da1c87ae236d04bbce17034ab253390e980159cdbf1da5e7f4d4", func := "loop.example/g00965/laws.FnFrames", spec := "fnFrames", apart := false }
def FnFramesSaid : Prop := fnFramesRow.holds Try.pinned (OpenSpec.ofChange fnFramesSpec)

/-- ITS FALSE NEIGHBOUR: 'it returns false'. Refute it at one input. -/
def fnFramesWrong : ChangeSpec := { name := "fnFrames", fn := fun _ => fun
  | [d] => { results := [.lit (.bool false)], args := [d] }
  | _ => none }
def FnFramesWrongFalsely : Prop := fnFramesRow.holds Try.pinned (OpenSpec.ofChange fnFramesWrong)

/-- 'laws.FnCrashes': WHATEVER THE INPUT: true; the input reads as it did. -/
def fnCrashesSpec : ChangeSpec := { name := "fnCrashes", fn := fun _ => fun
  | [d] => { results := [.lit (.bool true)], args := [d] }
  | _ => none }
def fnCrashesRow : OpenClaim := { program := "ythjkmefbjbfonaa", sum := "0ce088488c08da1c87ae236d04bbce17034ab253390e980159cdbf1da5e7f4d4", func := "loop.example/g00965/laws.FnCrashes", spec := "fnCrashes", unfollowed := true, recurses := true, apart := false }
def FnCrashesSaid : Prop := fnCrashesRow.holds Try.pinned (OpenSpec.ofChange fnCrashesSpec)

/-- ITS FALSE NEIGHBOUR: 'it returns false'. Refute it at one input. -/
def fnCrashesWrong : ChangeSpec := { name := "fnCrashes", fn := fun _ => fun
  | [d] => { results := [.lit (.bool false)], args := [d] }
  | _ => none }
def FnCrashesWrongFalsely : Prop := fnCrashesRow.holds Try.pinned (OpenSpec.ofChange fnCrashesWrong)

/-- 'laws.FnExactWriteFile': WHATEVER THE INPUT: true; the input reads as it did. -/
def fnExactWriteFileSpec : ChangeSpec := { name := "fnExactWriteFile", fn := fun _ => fun
  | [d1, d2, d3] => { results := [.lit (.bool true)], args := [d1, d2, d3] }
  | _ => none }
def fnExactWriteFileRow : OpenClaim := { program := "ythjkmefbjbfonaa", sum := "0ce088488c08da1c87ae236d04bbce17034ab253390e980159cdbf1da5e7f4d4", func := "loop.example/g00965/laws.FnExactWriteFile", spec := "fnExactWriteFile", unfollowed := true, recurses := true, apart := false }
def FnExactWriteFileSaid : Prop := fnExactWriteFileRow.holds Try.pinned (OpenSpec.ofChange fnExactWriteFileSpec)

/-- ITS FALSE NEIGHBOUR: 'it returns false'. Refute it at one input. -/
def fnExactWriteFileWrong : ChangeSpec := { name := "fnExactWriteFile", fn := fun _ => fun
  | [d1, d2, d3] => { results := [.lit (.bool false)], args := [d1, d2, d3] }
  | _ => none }
def FnExactWriteFileWrongFalsely : Prop := fnExactWriteFileRow.holds Try.pinned (OpenSpec.ofChange fnExactWriteFileWrong)

/-- 'laws.FnFiles': WHATEVER THE INPUT: true; the input reads as it did. -/
def fnFilesSpec : ChangeSpec := { name := "fnFiles", fn := fun _ => fun
  | [d] => { results := [.lit (.bool true)], args := [d] }
  | _ => none }
def fnFilesRow : OpenClaim := { program := "ythjkmefbjbfonaa", sum := "0ce088488c08da1c87ae236d04bbce17034ab253390e980159cdbf1da5e7f4d4", func := "loop.example/g00965/laws.FnFiles", spec := "fnFiles", unfollowed := true, recurses := true, apart := false }
def FnFilesSaid : Prop := fnFilesRow.holds Try.pinned (OpenSpec.ofChange fnFilesSpec)

/-- ITS FALSE NEIGHBOUR: 'it returns false'. Refute it at one input. -/
def fnFilesWrong : ChangeSpec := { name := "fnFiles", fn := fun _ => fun
  | [d] => { results := [.lit (.bool false)], args := [d] }
  | _ => none }
def FnFilesWrongFalsely : Prop := fnFilesRow.holds Try.pinned (OpenSpec.ofChange fnFilesWrong)

/-- 'laws.FnExactMoveFile': WHATEVER THE INPUT: true; the input reads as it did. -/
def fnExactMoveFileSpec : ChangeSpec := { name := "fnExactMoveFile", fn := fun _ => fun
  | [d1, d2, d3] => { results := [.lit (.bool true)], args := [d1, d2, d3] }
  | _ => none }
def fnExactMoveFileRow : OpenClaim := { program := "ythjkmefbjbfonaa", sum := "0ce088488c08da1c87ae236d04bbce17034ab253390e980159cdbf1da5e7f4d4", func := "loop.example/g00965/laws.FnExactMoveFile", spec := "fnExactMoveFile", unfollowed := true, recurses := true, apart := false }
def FnExactMoveFileSaid : Prop := fnExactMoveFileRow.holds Try.pinned (OpenSpec.ofChange fnExactMoveFileSpec)

/-- ITS FALSE NEIGHBOUR: 'it returns false'. Refute it at one input. -/
def fnExactMoveFileWrong : ChangeSpec := { name := "fnExactMoveFile", fn := fun _ => fun
  | [d1, d2, d3] => { results := [.lit (.bool false)], args := [d1, d2, d3] }
  | _ => none }
def FnExactMoveFileWrongFalsely : Prop := fnExactMoveFileRow.holds Try.pinned (OpenSpec.ofChange fnExactMoveFileWrong)

/-- 'laws.FnShelves': WHATEVER THE INPUT: true; the input reads as it did. -/
def fnShelvesSpec : ChangeSpec := { name := "fnShelves", fn := fun _ => fun
  | [d] => { results := [.lit (.bool true)], args := [d] }
  | _ => none }
def fnShelvesRow : OpenClaim := { program := "ythjkmefbjbfonaa", sum := "0ce088488c08da1c87ae236d04bbce17034ab253390e980159cdbf1da5e7f4d4", func := "loop.example/g00965/laws.FnShelves", spec := "fnShelves", inPlace := ["slices.overlaps[loop.example/g00965/impl.Entry]"], unfollowed := true, recurses := true, apart := false }
def FnShelvesSaid : Prop := fnShelvesRow.holds Try.pinned (OpenSpec.ofChange fnShelvesSpec)

/-- ITS FALSE NEIGHBOUR: 'it returns false'. Refute it at one input. -/
def fnShelvesWrong : ChangeSpec := { name := "fnShelves", fn := fun _ => fun
  | [d] => { results := [.lit (.bool false)], args := [d] }
  | _ => none }
def FnShelvesWrongFalsely : Prop := fnShelvesRow.holds Try.pinned (OpenSpec.ofChange fnShelvesWrong)

/-- 'laws.FnExactCrashed': WHATEVER THE INPUT: true; the input reads as it did. -/
def fnExactCrashedSpec : ChangeSpec := { name := "fnExactCrashed", fn := fun _ => fun
  | [d1, d2] => { results := [.lit (.bool true)], args := [d1, d2] }
  | _ => none }
def fnExactCrashedRow : OpenClaim := { program := "ythjkmefbjbfonaa", sum := "0ce088488c08da1c87ae236d04bbce17034ab253390e980159cdbf1da5e7f4d4", func := "loop.example/g00965/laws.FnExactCrashed", spec := "fnExactCrashed", unfollowed := true, recurses := true, apart := false }
def FnExactCrashedSaid : Prop := fnExactCrashedRow.holds Try.pinned (OpenSpec.ofChange fnExactCrashedSpec)

/-- ITS FALSE NEIGHBOUR: 'it returns false'. Refute it at one input. -/
def fnExactCrashedWrong : ChangeSpec := { name := "fnExactCrashed", fn := fun _ => fun
  | [d1, d2] => { results := [.lit (.bool false)], args := [d1, d2] }
  | _ => none }
def FnExactCrashedWrongFalsely : Prop := fnExactCrashedRow.holds Try.pinned (OpenSpec.ofChange fnExactCrashedWrong)

/- THE SECOND FORM. 'bulk': how many values and letters a reading holds, each counted each time it is reached (what is shared counts as often as it is met; a slice's spare places count too). A statement '..UptoSaid' is the law's where the arguments, and the package variables that the reading takes, are together of bulk at most 1048576: NARROWER than '..Said'. Prove '..Said' where nothing that the law and all that it calls make is longer than what came in: it says more and counts as full. Else prove '..UptoSaid'. A law counts once. -/
mutual
def uptoBulk {H : Type} : DataW H → Nat
  | .lit (.string bytes) => bytes.length + 1
  | .lit _ => 1
  | .nil => 1
  | .ptr d => uptoBulk d + 1
  | .slice elems spare => uptoBulkAll elems + uptoBulkAll spare + 1
  | .agg parts => uptoBulkAll parts + 1
  | .iface _ d => uptoBulk d + 1
  | .map entries => uptoBulkEntries entries + 1
  | .held _ => 1
def uptoBulkAll {H : Type} : List (DataW H) → Nat
  | [] => 0
  | d :: r => uptoBulk d + uptoBulkAll r
def uptoBulkEntries {H : Type} : List (Lit × DataW H) → Nat
  | [] => 0
  | x :: r => uptoBulkEntry x + uptoBulkEntries r
def uptoBulkEntry {H : Type} : Lit × DataW H → Nat
  | (.string bytes, d) => bytes.length + uptoBulk d + 1
  | (_, d) => uptoBulk d + 1
 end
def uptoSmall : (H : Type) → List (DataW H) → Bool := fun _ ds => decide (uptoBulkAll ds ≤ 1048576)
def OpenSpec.upto (s : _root_.Go.ChangeSpec) : _root_.Go.OpenSpec := { _root_.Go.OpenSpec.ofChange s with cond := some uptoSmall }

/-- 'laws.FnFrames', WHERE WHAT IT READS IS OF BULK AT MOST 1048576: true; the input reads as it did. -/
def fnFramesUptoRow : OpenClaim := { program := "ythjkmefbjbfonaa", sum := "0ce088488c08da1c87ae236d04bbce17034ab253390e980159cdbf1da5e7f4d4", func := "loop.example/g00965/laws.FnFrames", spec := "fnFrames", apart := false, narrowed := true }
def FnFramesUptoSaid : Prop := fnFramesUptoRow.holds Try.pinned (OpenSpec.upto fnFramesSpec)

/-- 'laws.FnCrashes', WHERE WHAT IT READS IS OF BULK AT MOST 1048576: true; the input reads as it did. -/
def fnCrashesUptoRow : OpenClaim := { program := "ythjkmefbjbfonaa", sum := "0ce088488c08da1c87ae236d04bbce17034ab253390e980159cdbf1da5e7f4d4", func := "loop.example/g00965/laws.FnCrashes", spec := "fnCrashes", unfollowed := true, recurses := true, apart := false, narrowed := true }
def FnCrashesUptoSaid : Prop := fnCrashesUptoRow.holds Try.pinned (OpenSpec.upto fnCrashesSpec)

/-- 'laws.FnExactWriteFile', WHERE WHAT IT READS IS OF BULK AT MOST 1048576: true; the input reads as it did. -/
def fnExactWriteFileUptoRow : OpenClaim := { program := "ythjkmefbjbfonaa", sum := "0ce088488c08da1c87ae236d04bbce17034ab253390e980159cdbf1da5e7f4d4", func := "loop.example/g00965/laws.FnExactWriteFile", spec := "fnExactWriteFile", unfollowed := true, recurses := true, apart := false, narrowed := true }
def FnExactWriteFileUptoSaid : Prop := fnExactWriteFileUptoRow.holds Try.pinned (OpenSpec.upto fnExactWriteFileSpec)

/-- 'laws.FnFiles', WHERE WHAT IT READS IS OF BULK AT MOST 1048576: true; the input reads as it did. -/
def fnFilesUptoRow : OpenClaim := { program := "ythjkmefbjbfonaa", sum := "0ce088488c08da1c87ae236d04bbce17034ab253390e980159cdbf1da5e7f4d4", func := "loop.example/g00965/laws.FnFiles", spec := "fnFiles", unfollowed := true, recurses := true, apart := false, narrowed := true }
def FnFilesUptoSaid : Prop := fnFilesUptoRow.holds Try.pinned (OpenSpec.upto fnFilesSpec)

/-- 'laws.FnExactMoveFile', WHERE WHAT IT READS IS OF BULK AT MOST 1048576: true; the input reads as it did. -/
def fnExactMoveFileUptoRow : OpenClaim := { program := "ythjkmefbjbfonaa", sum := "0ce088488c08da1c87ae236d04bbce17034ab253390e980159cdbf1da5e7f4d4", func := "loop.example/g00965/laws.FnExactMoveFile", spec := "fnExactMoveFile", unfollowed := true, recurses := true, apart := false, narrowed := true }
def FnExactMoveFileUptoSaid : Prop := fnExactMoveFileUptoRow.holds Try.pinned (OpenSpec.upto fnExactMoveFileSpec)

/-- 'laws.FnShelves', WHERE WHAT IT READS IS OF BULK AT MOST 1048576: true; the input reads as it did. -/
def fnShelvesUptoRow : OpenClaim := { program := "ythjkmefbjbfonaa", sum := "0ce088488c08da1c87ae236d04bbce17034ab253390e980159cdbf1da5e7f4d4", func := "loop.example/g00965/laws.FnShelves", spec := "fnShelves", inPlace := ["slices.overlaps[loop.example/g00965/impl.Entry]"], unfollowed := true, recurses := true, apart := false, narrowed := true }
def FnShelvesUptoSaid : Prop := fnShelvesUptoRow.holds Try.pinned (OpenSpec.upto fnShelvesSpec)

/-- 'laws.FnExactCrashed', WHERE WHAT IT READS IS OF BULK AT MOST 1048576: true; the input reads as it did. -/
def fnExactCrashedUptoRow : OpenClaim := { program := "ythjkmefbjbfonaa", sum := "0ce088488c08da1c87ae236d04bbce17034ab253390e980159cdbf1da5e7f4d4", func := "loop.example/g00965/laws.FnExactCrashed", spec := "fnExactCrashed", unfollowed := true, recurses := true, apart := false, narrowed := true }
def FnExactCrashedUptoSaid : Prop := fnExactCrashedUptoRow.holds Try.pinned (OpenSpec.upto fnExactCrashedSpec)

end Rows
end Go.Proofs.Ythjkmefbjbfonaa

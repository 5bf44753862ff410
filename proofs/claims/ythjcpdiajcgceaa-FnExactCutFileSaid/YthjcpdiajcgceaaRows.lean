/-
  No cell of these rows narrows 'for every input' (looked for: loops, veiled, ifaces, maps, wideKeys, modest, calm, conditions, laid).
  DERIVED. THE GIVEN ROWS OF THIS SEAT. 11 by the template 'for every input the law returns true; each argument reads behind the call as it read before'; 0 by the template 'total and deterministic' (their statements: YthjcpdiajcgceaaTotals.lean).
  GIVEN WITH THE SEED: the statements are not yours to turn. If you find one false, say at which input.
  Laid BY PROGRAM, IN A SANDBOX (cutbox-rows.mjs): the forced cells as the released guide's own fill.sh prints them over the translation 25db5798fdd720f0… (all of the seat's roots in one cut). By AI agents, Wed Nov 11 2026. No macro, syntax, notation, axiom, sorry.
-/
import Derived.Test.YthjcpdiajcgceaaChecked
import GoSem.Claim
import GoSem.ClaimJoined
import GoSem.ClaimMapViews
import Derived.JoinedTies
import Derived.KernelRfl
namespace Go.Proofs.Ythjcpdiajcgceaa
/- THE CELL 'sum', in the pinned program and in every row, IS THE sha256 OF THE DUMP (.gsa) THAT YthjcpdiajcgceaaProg.lean LOADS. Nothing in Lean hashes anything: it is a label: what it is worth is what the hold of that sum in a sandbox is worth. -/
noncomputable def Try.pinned : Pinned := { name := "ythjcpdiajcgceaa", sum := "25db5798fdd720f07e2b12587ed760a2b4e905971dc3dbf3ee36e532f10f3c19", checked := Try.checked }
namespace Rows
def none {H : Type} : Left H := { results := [], args := [] }

/-- 'laws.FnExactAllSafe': WHATEVER THE INPUT: true; the input reads as it did. -/
def fnExactAllSafeSpec : ChangeSpec := { name := "fnExactAllSafe", fn := fun _ => fun
  | [d] => { results := [.lit (.bool true)], args := [d] }
  | _ => none }
def fnExactAllSafeRow : OpenClaim := { program := "ythjcpdiajcgceaa", sum := "25db5798fdd720f07e2b12587ed760a2b4e905971dc3dbf3ee36e532f10f3c19", func := "loop.example/g00965/laws.FnExactAllSafe", spec := "fnExactAllSafe", apart := false }
def FnExactAllSafeSaid : Prop := fnExactAllSafeRow.holds Try.pinned (OpenSpec.ofChange fnExactAllSafeSpec)

/-- ITS FALSE NEIGHBOUR: 'it returns false'. Refute it at one input. -/
def fnExactAllSafeWrong : ChangeSpec := { name := "fnExactAllSafe", fn := fun _ => fun
  | [d] => { results := [.lit (.bool false)], args := [d] }
  | _ => none }
def FnExactAllSafeWrongFalsely : Prop := fnExactAllSafeRow.holds Try.pinned (OpenSpec.ofChange fnExactAllSafeWrong)

/-- 'laws.FnExactReadFile': WHATEVER THE INPUT: true; the input reads as it did. -/
def fnExactReadFileSpec : ChangeSpec := { name := "fnExactReadFile", fn := fun _ => fun
  | [d1, d2] => { results := [.lit (.bool true)], args := [d1, d2] }
  | _ => none }
def fnExactReadFileRow : OpenClaim := { program := "ythjcpdiajcgceaa", sum := "25db5798fdd720f07e2b12587ed760a2b4e905971dc3dbf3ee36e532f10f3c19", func := "loop.example/g00965/laws.FnExactReadFile", spec := "fnExactReadFile", unfollowed := true, recurses := true, apart := false }
def FnExactReadFileSaid : Prop := fnExactReadFileRow.holds Try.pinned (OpenSpec.ofChange fnExactReadFileSpec)

/-- ITS FALSE NEIGHBOUR: 'it returns false'. Refute it at one input. -/
def fnExactReadFileWrong : ChangeSpec := { name := "fnExactReadFile", fn := fun _ => fun
  | [d1, d2] => { results := [.lit (.bool false)], args := [d1, d2] }
  | _ => none }
def FnExactReadFileWrongFalsely : Prop := fnExactReadFileRow.holds Try.pinned (OpenSpec.ofChange fnExactReadFileWrong)

/-- 'laws.FnExactDiskOk': WHATEVER THE INPUT: true; the input reads as it did. -/
def fnExactDiskOkSpec : ChangeSpec := { name := "fnExactDiskOk", fn := fun _ => fun
  | [d] => { results := [.lit (.bool true)], args := [d] }
  | _ => none }
def fnExactDiskOkRow : OpenClaim := { program := "ythjcpdiajcgceaa", sum := "25db5798fdd720f07e2b12587ed760a2b4e905971dc3dbf3ee36e532f10f3c19", func := "loop.example/g00965/laws.FnExactDiskOk", spec := "fnExactDiskOk", unfollowed := true, recurses := true, apart := false }
def FnExactDiskOkSaid : Prop := fnExactDiskOkRow.holds Try.pinned (OpenSpec.ofChange fnExactDiskOkSpec)

/-- ITS FALSE NEIGHBOUR: 'it returns false'. Refute it at one input. -/
def fnExactDiskOkWrong : ChangeSpec := { name := "fnExactDiskOk", fn := fun _ => fun
  | [d] => { results := [.lit (.bool false)], args := [d] }
  | _ => none }
def FnExactDiskOkWrongFalsely : Prop := fnExactDiskOkRow.holds Try.pinned (OpenSpec.ofChange fnExactDiskOkWrong)

/-- 'laws.FnExactMayBe': WHATEVER THE INPUT: true; the input reads as it did. -/
def fnExactMayBeSpec : ChangeSpec := { name := "fnExactMayBe", fn := fun _ => fun
  | [d1, d2] => { results := [.lit (.bool true)], args := [d1, d2] }
  | _ => none }
def fnExactMayBeRow : OpenClaim := { program := "ythjcpdiajcgceaa", sum := "25db5798fdd720f07e2b12587ed760a2b4e905971dc3dbf3ee36e532f10f3c19", func := "loop.example/g00965/laws.FnExactMayBe", spec := "fnExactMayBe", unfollowed := true, recurses := true, apart := false }
def FnExactMayBeSaid : Prop := fnExactMayBeRow.holds Try.pinned (OpenSpec.ofChange fnExactMayBeSpec)

/-- ITS FALSE NEIGHBOUR: 'it returns false'. Refute it at one input. -/
def fnExactMayBeWrong : ChangeSpec := { name := "fnExactMayBe", fn := fun _ => fun
  | [d1, d2] => { results := [.lit (.bool false)], args := [d1, d2] }
  | _ => none }
def FnExactMayBeWrongFalsely : Prop := fnExactMayBeRow.holds Try.pinned (OpenSpec.ofChange fnExactMayBeWrong)

/-- 'laws.FnExactSyncFile': WHATEVER THE INPUT: true; the input reads as it did. -/
def fnExactSyncFileSpec : ChangeSpec := { name := "fnExactSyncFile", fn := fun _ => fun
  | [d1, d2] => { results := [.lit (.bool true)], args := [d1, d2] }
  | _ => none }
def fnExactSyncFileRow : OpenClaim := { program := "ythjcpdiajcgceaa", sum := "25db5798fdd720f07e2b12587ed760a2b4e905971dc3dbf3ee36e532f10f3c19", func := "loop.example/g00965/laws.FnExactSyncFile", spec := "fnExactSyncFile", unfollowed := true, recurses := true, apart := false }
def FnExactSyncFileSaid : Prop := fnExactSyncFileRow.holds Try.pinned (OpenSpec.ofChange fnExactSyncFileSpec)

/-- ITS FALSE NEIGHBOUR: 'it returns false'. Refute it at one input. -/
def fnExactSyncFileWrong : ChangeSpec := { name := "fnExactSyncFile", fn := fun _ => fun
  | [d1, d2] => { results := [.lit (.bool false)], args := [d1, d2] }
  | _ => none }
def FnExactSyncFileWrongFalsely : Prop := fnExactSyncFileRow.holds Try.pinned (OpenSpec.ofChange fnExactSyncFileWrong)

/-- 'laws.FnExactCutFile': WHATEVER THE INPUT: true; the input reads as it did. -/
def fnExactCutFileSpec : ChangeSpec := { name := "fnExactCutFile", fn := fun _ => fun
  | [d1, d2, d3] => { results := [.lit (.bool true)], args := [d1, d2, d3] }
  | _ => none }
def fnExactCutFileRow : OpenClaim := { program := "ythjcpdiajcgceaa", sum := "25db5798fdd720f07e2b12587ed760a2b4e905971dc3dbf3ee36e532f10f3c19", func := "loop.example/g00965/laws.FnExactCutFile", spec := "fnExactCutFile", unfollowed := true, recurses := true, apart := false }
def FnExactCutFileSaid : Prop := fnExactCutFileRow.holds Try.pinned (OpenSpec.ofChange fnExactCutFileSpec)

/-- ITS FALSE NEIGHBOUR: 'it returns false'. Refute it at one input. -/
def fnExactCutFileWrong : ChangeSpec := { name := "fnExactCutFile", fn := fun _ => fun
  | [d1, d2, d3] => { results := [.lit (.bool false)], args := [d1, d2, d3] }
  | _ => none }
def FnExactCutFileWrongFalsely : Prop := fnExactCutFileRow.holds Try.pinned (OpenSpec.ofChange fnExactCutFileWrong)

/-- 'laws.FnCrashes': WHATEVER THE INPUT: true; the input reads as it did. -/
def fnCrashesSpec : ChangeSpec := { name := "fnCrashes", fn := fun _ => fun
  | [d] => { results := [.lit (.bool true)], args := [d] }
  | _ => none }
def fnCrashesRow : OpenClaim := { program := "ythjcpdiajcgceaa", sum := "25db5798fdd720f07e2b12587ed760a2b4e905971dc3dbf3ee36e532f10f3c19", func := "loop.example/g00965/laws.FnCrashes", spec := "fnCrashes", unfollowed := true, recurses := true, apart := false }
def FnCrashesSaid : Prop := fnCrashesRow.holds Try.pinned (OpenSpec.ofChange fnCrashesSpec)

/-- ITS FALSE NEIGHBOUR: 'it returns false'. Refute it at one input. -/
def fnCrashesWrong : ChangeSpec := { name := "fnCrashes", fn := fun _ => fun
  | [d] => { results := [.lit (.bool false)], args := [d] }
  | _ => none }
def FnCrashesWrongFalsely : Prop := fnCrashesRow.holds Try.pinned (OpenSpec.ofChange fnCrashesWrong)

/-- 'laws.FnExactWriteFile': WHATEVER THE INPUT: true; the input reads as it did. -/
def fnExactWriteFileSpec : ChangeSpec := { name := "fnExactWriteFile", fn := fun _ => fun
  | [d1, d2, d3] => { results := [.lit (.bool true)], args := [d1, d2, d3] }
  | _ => none }
def fnExactWriteFileRow : OpenClaim := { program := "ythjcpdiajcgceaa", sum := "25db5798fdd720f07e2b12587ed760a2b4e905971dc3dbf3ee36e532f10f3c19", func := "loop.example/g00965/laws.FnExactWriteFile", spec := "fnExactWriteFile", unfollowed := true, recurses := true, apart := false }
def FnExactWriteFileSaid : Prop := fnExactWriteFileRow.holds Try.pinned (OpenSpec.ofChange fnExactWriteFileSpec)

/-- ITS FALSE NEIGHBOUR: 'it returns false'. Refute it at one input. -/
def fnExactWriteFileWrong : ChangeSpec := { name := "fnExactWriteFile", fn := fun _ => fun
  | [d1, d2, d3] => { results := [.lit (.bool false)], args := [d1, d2, d3] }
  | _ => none }
def FnExactWriteFileWrongFalsely : Prop := fnExactWriteFileRow.holds Try.pinned (OpenSpec.ofChange fnExactWriteFileWrong)

/-- 'laws.FnFiles': WHATEVER THE INPUT: true; the input reads as it did. -/
def fnFilesSpec : ChangeSpec := { name := "fnFiles", fn := fun _ => fun
  | [d] => { results := [.lit (.bool true)], args := [d] }
  | _ => none }
def fnFilesRow : OpenClaim := { program := "ythjcpdiajcgceaa", sum := "25db5798fdd720f07e2b12587ed760a2b4e905971dc3dbf3ee36e532f10f3c19", func := "loop.example/g00965/laws.FnFiles", spec := "fnFiles", unfollowed := true, recurses := true, apart := false }
def FnFilesSaid : Prop := fnFilesRow.holds Try.pinned (OpenSpec.ofChange fnFilesSpec)

/-- ITS FALSE NEIGHBOUR: 'it returns false'. Refute it at one input. -/
def fnFilesWrong : ChangeSpec := { name := "fnFiles", fn := fun _ => fun
  | [d] => { results := [.lit (.bool false)], args := [d] }
  | _ => none }
def FnFilesWrongFalsely : Prop := fnFilesRow.holds Try.pinned (OpenSpec.ofChange fnFilesWrong)

/-- 'laws.FnExactMoveFile': WHATEVER THE INPUT: true; the input reads as it did. -/
def fnExactMoveFileSpec : ChangeSpec := { name := "fnExactMoveFile", fn := fun _ => fun
  | [d1, d2, d3] => { results := [.lit (.bool true)], args := [d1, d2, d3] }
  | _ => none }
def fnExactMoveFileRow : OpenClaim := { program := "ythjcpdiajcgceaa", sum := "25db5798fdd720f07e2b12587ed760a2b4e905971dc3dbf3ee36e532f10f3c19", func := "loop.example/g00965/laws.FnExactMoveFile", spec := "fnExactMoveFile", unfollowed := true, recurses := true, apart := false }
def FnExactMoveFileSaid : Prop := fnExactMoveFileRow.holds Try.pinned (OpenSpec.ofChange fnExactMoveFileSpec)

/-- ITS FALSE NEIGHBOUR: 'it returns false'. Refute it at one input. -/
def fnExactMoveFileWrong : ChangeSpec := { name := "fnExactMoveFile", fn := fun _ => fun
  | [d1, d2, d3] => { results := [.lit (.bool false)], args := [d1, d2, d3] }
  | _ => none }
def FnExactMoveFileWrongFalsely : Prop := fnExactMoveFileRow.holds Try.pinned (OpenSpec.ofChange fnExactMoveFileWrong)

/-- 'laws.FnExactCrashed': WHATEVER THE INPUT: true; the input reads as it did. -/
def fnExactCrashedSpec : ChangeSpec := { name := "fnExactCrashed", fn := fun _ => fun
  | [d1, d2] => { results := [.lit (.bool true)], args := [d1, d2] }
  | _ => none }
def fnExactCrashedRow : OpenClaim := { program := "ythjcpdiajcgceaa", sum := "25db5798fdd720f07e2b12587ed760a2b4e905971dc3dbf3ee36e532f10f3c19", func := "loop.example/g00965/laws.FnExactCrashed", spec := "fnExactCrashed", unfollowed := true, recurses := true, apart := false }
def FnExactCrashedSaid : Prop := fnExactCrashedRow.holds Try.pinned (OpenSpec.ofChange fnExactCrashedSpec)

/-- ITS FALSE NEIGHBOUR: 'it returns false'. Refute it at one input. -/
def fnExactCrashedWrong : ChangeSpec := { name := "fnExactCrashed", fn := fun _ => fun
  | [d1, d2] => { results := [.lit (.bool false)], args := [d1, d2] }
  | _ => none }
def FnExactCrashedWrongFalsely : Prop := fnExactCrashedRow.holds Try.pinned (OpenSpec.ofChange fnExactCrashedWrong)

/- THE SECOND FORM. 'bulk': how many values and letters a reading holds, each counted each time it is reached (what is shared counts as often as it is met; a slice's spare places count too). A statement '..UptoSaid' is the law's where the arguments, and the package variables that the reading takes, are together of bulk at most 1048576: NARROWER than '..Said'. Prove '..Said' where nothing that the law and all that it calls make is longer than what came in: it says more and counts as full. Else prove '..UptoSaid'. A law counts once. -/
mutual
def uptoBulk {H : Type} : DataW H → Nat
  | .lit (.string bytes) => bytes.length + 1
  | .lit _ => 1
  | .nil => 1
  | .ptr d => uptoBulk d + 1
  | .slice elems spare => uptoBulkAll elems + uptoBulkAll spare + 1
  | .agg parts => uptoBulkAll parts + 1
  | .iface _ d => uptoBulk d + 1
  | .map entries => uptoBulkEntries entries + 1
  | .held _ => 1
def uptoBulkAll {H : Type} : List (DataW H) → Nat
  | [] => 0
  | d :: r => uptoBulk d + uptoBulkAll r
def uptoBulkEntries {H : Type} : List (Lit × DataW H) → Nat
  | [] => 0
  | x :: r => uptoBulkEntry x + uptoBulkEntries r
def uptoBulkEntry {H : Type} : Lit × DataW H → Nat
  | (.string bytes, d) => bytes.length + uptoBulk d + 1
  | (_, d) => uptoBulk d + 1
 end
def uptoSmall : (H : Type) → List (DataW H) → Bool := fun _ ds => decide (uptoBulkAll ds ≤ 1048576)
def OpenSpec.upto (s : _root_.Go.ChangeSpec) : _root_.Go.OpenSpec := { _root_.Go.OpenSpec.ofChange s with cond := some uptoSmall }

/-- 'laws.FnExactAllSafe', WHERE WHAT IT READS IS OF BULK AT MOST 1048576: true; the input reads as it did. -/
def fnExactAllSafeUptoRow : OpenClaim := { program := "ythjcpdiajcgceaa", sum := "25db5798fdd720f07e2b12587ed760a2b4e905971dc3dbf3ee36e532f10f3c19", func := "loop.example/g00965/laws.FnExactAllSafe", spec := "fnExactAllSafe", apart := false, narrowed := true }
def FnExactAllSafeUptoSaid : Prop := fnExactAllSafeUptoRow.holds Try.pinned (OpenSpec.upto fnExactAllSafeSpec)

/-- 'laws.FnExactReadFile', WHERE WHAT IT READS IS OF BULK AT MOST 1048576: true; the input reads as it did. -/
def fnExactReadFileUptoRow : OpenClaim := { program := "ythjcpdiajcgceaa", sum := "25db5798fdd720f07e2b12587ed760a2b4e905971dc3dbf3ee36e532f10f3c19", func := "loop.example/g00965/laws.FnExactReadFile", spec := "fnExactReadFile", unfollowed := true, recurses := true, apart := false, narrowed := true }
def FnExactReadFileUptoSaid : Prop := fnExactReadFileUptoRow.holds Try.pinned (OpenSpec.upto fnExactReadFileSpec)

/-- 'laws.FnExactDiskOk', WHERE WHAT IT READS IS OF BULK AT MOST 1048576: true; the input reads as it did. -/
def fnExactDiskOkUptoRow : OpenClaim := { program := "ythjcpdiajcgceaa", sum := "25db5798fdd720f07e2b12587ed760a2b4e905971dc3dbf3ee36e532f10f3c19", func := "loop.example/g00965/laws.FnExactDiskOk", spec := "fnExactDiskOk", unfollowed := true, recurses := true, apart := false, narrowed := true }
def FnExactDiskOkUptoSaid : Prop := fnExactDiskOkUptoRow.holds Try.pinned (OpenSpec.upto fnExactDiskOkSpec)

/-- 'laws.FnExactMayBe', WHERE WHAT IT READS IS OF BULK AT MOST 1048576: true; the input reads as it did. -/
def fnExactMayBeUptoRow : OpenClaim := { program := "ythjcpdiajcgceaa", sum := "25db5798fdd720f07e2b12587ed760a2b4e905971dc3dbf3ee36e532f10f3c19", func := "loop.example/g00965/laws.FnExactMayBe", spec := "fnExactMayBe", unfollowed := true, recurses := true, apart := false, narrowed := true }
def FnExactMayBeUptoSaid : Prop := fnExactMayBeUptoRow.holds Try.pinned (OpenSpec.upto fnExactMayBeSpec)

/-- 'laws.FnExactSyncFile', WHERE WHAT IT READS IS OF BULK AT MOST 1048576: true; the input reads as it did. -/
def fnExactSyncFileUptoRow : OpenClaim := { program := "ythjcpdiajcgceaa", sum := "25db5798fdd720f07e2b12587ed760a2b4e905971dc3dbf3ee36e532f10f3c19", func := "loop.example/g00965/laws.FnExactSyncFile", spec := "fnExactSyncFile", unfollowed := true, recurses := true, apart := false, narrowed := true }
def FnExactSyncFileUptoSaid : Prop := fnExactSyncFileUptoRow.holds Try.pinned (OpenSpec.upto fnExactSyncFileSpec)

/-- 'laws.FnExactCutFile', WHERE WHAT IT READS IS OF BULK AT MOST 1048576: true; the input reads as it did. -/
def fnExactCutFileUptoRow : OpenClaim := { program := "ythjcpdiajcgceaa", sum := "25db5798fdd720f07e2b12587ed760a2b4e905971dc3dbf3ee36e532f10f3c19", func := "loop.example/g00965/laws.FnExactCutFile", spec := "fnExactCutFile", unfollowed := true, recurses := true, apart := false, narrowed := true }
def FnExactCutFileUptoSaid : Prop := fnExactCutFileUptoRow.holds Try.pinned (OpenSpec.upto fnExactCutFileSpec)

/-- 'laws.FnCrashes', WHERE WHAT IT READS IS OF BULK AT MOST 1048576: true; the input reads as it did. -/
def fnCrashesUptoRow : OpenClaim := { program := "ythjcpdiajcgceaa", sum := "25db5798fdd720f07e2b12587ed760a2b4e905971dc3dbf3ee36e532f10f3c19", func := "loop.example/g00965/laws.FnCrashes", spec := "fnCrashes", unfollowed := true, recurses := true, apart := false, narrowed := true }
def FnCrashesUptoSaid : Prop := fnCrashesUptoRow.holds Try.pinned (OpenSpec.upto fnCrashesSpec)

/-- 'laws.FnExactWriteFile', WHERE WHAT IT READS IS OF BULK AT MOST 1048576: true; the input reads as it did. -/
def fnExactWriteFileUptoRow : OpenClaim := { program := "ythjcpdiajcgceaa", sum := "25db5798fdd720f07e2b12587ed760a2b4e905971dc3dbf3ee36e532f10f3c19", func := "loop.example/g00965/laws.FnExactWriteFile", spec := "fnExactWriteFile", unfollowed := true, recurses := true, apart := false, narrowed := true }
def FnExactWriteFileUptoSaid : Prop := fnExactWriteFileUptoRow.holds Try.pinned (OpenSpec.upto fnExactWriteFileSpec)

/-- 'laws.FnFiles', WHERE WHAT IT READS IS OF BULK AT MOST 1048576: true; the input reads as it did. -/
def fnFilesUptoRow : OpenClaim := { program := "ythjcpdiajcgceaa", sum := "25db5798fdd720f07e2b12587ed760a2b4e905971dc3dbf3ee36e532f10f3c19", func := "loop.example/g00965/laws.FnFiles", spec := "fnFiles", unfollowed := true, recurses := true, apart := false, narrowed := true }
def FnFilesUptoSaid : Prop := fnFilesUptoRow.holds Try.pinned (OpenSpec.upto fnFilesSpec)

/-- 'laws.FnExactMoveFile', WHERE WHAT IT READS IS OF BULK AT MOST 1048576: true; the input reads as it did. -/
def fnExactMoveFileUptoRow : OpenClaim := { program := "ythjcpdiajcgceaa", sum := "25db5798fdd720f07e2b12587ed760a2b4e905971dc3dbf3ee36e532f10f3c19", func := "loop.example/g00965/laws.FnExactMoveFile", spec := "fnExactMoveFile", unfollowed := true, recurses := true, apart := false, narrowed := true }
def FnExactMoveFileUptoSaid : Prop := fnExactMoveFileUptoRow.holds Try.pinned (OpenSpec.upto fnExactMoveFileSpec)

/-- 'laws.FnExactCrashed', WHERE WHAT IT READS IS OF BULK AT MOST 1048576: true; the input reads as it did. -/
def fnExactCrashedUptoRow : OpenClaim := { program := "ythjcpdiajcgceaa", sum := "25db5798fdd720f07e2b12587ed760a2b4e905971dc3dbf3ee36e532f10f3c19", func := "loop.example/g00965/laws.FnExactCrashed", spec := "fnExactCrashed", unfollowed := true, recurses := true, apart := false, narrowed := true }
def FnExactCrashedUptoSaid : Prop := fnExactCrashedUptoRow.holds Try.pinned (OpenSpec.upto fnExactCrashedSpec)

end Rows
end Go.Proofs.Ythjcpdiajcgceaa

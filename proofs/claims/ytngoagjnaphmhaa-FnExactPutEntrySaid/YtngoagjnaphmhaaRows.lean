/-
  No cell of these rows narrows 'for every input' (looked for: loops, veiled, ifaces, maps, wideKeys, modest, calm, conditions, laid).
  DERIVED. THE GIVEN ROWS OF THIS SEAT. 6 by the template 'for every input the law returns true; each argument reads behind the call as it read before'; 0 by the template 'total and deterministic' (their statements: YtngoagjnaphmhaaTotals.lean).
  GIVEN WITH THE SEED: the statements are not yours to turn. If you find one false, say at which input.
  Laid BY PROGRAM, IN A SANDBOX (cutbox-rows.mjs): the forced cells as the released guide's own fill.sh prints them over the translation dc180760e561826d… (all of the seat's roots in one cut). By AI agents, Wed Nov 11 2026. No macro, syntax, notation, axiom, sorry.
-/
import Derived.Test.YtngoagjnaphmhaaChecked
import GoSem.Claim
import GoSem.ClaimJoined
import GoSem.ClaimMapViews
import Derived.JoinedTies
import Derived.KernelRfl
namespace Go.Proofs.Ytngoagjnaphmhaa
/- THE CELL 'sum', in the pinned program and in every row, IS THE sha256 OF THE DUMP (.gsa) THAT YtngoagjnaphmhaaProg.lean LOADS. Nothing in Lean hashes anything: it is a label: what it is worth is what the hold of that sum in a sandbox is worth. -/
noncomputable def Try.pinned : Pinned := { name := "ytngoagjnaphmhaa", sum := "dc180760e561826d35975f434c566d1d394b3f73e627c6ab457f19a26a6f7edd", checked := Try.checked }
namespace Rows
def none {H : Type} : Left H := { results := [], args := [] }

/-- 'laws.FnExactShelfOk': WHATEVER THE INPUT: true; the input reads as it did. -/
def fnExactShelfOkSpec : ChangeSpec := { name := "fnExactShelfOk", fn := fun _ => fun
  | [d] => { results := [.lit (.bool true)], args := [d] }
  | _ => none }
def fnExactShelfOkRow : OpenClaim := { program := "ytngoagjnaphmhaa", sum := "dc180760e561826d35975f434c566d1d394b3f73e627c6ab457f19a26a6f7edd", func := "loop.example/g00965/laws.FnExactShelfOk", spec := "fnExactShelfOk", apart := false }
def FnExactShelfOkSaid : Prop := fnExactShelfOkRow.holds Try.pinned (OpenSpec.ofChange fnExactShelfOkSpec)

/-- ITS FALSE NEIGHBOUR: 'it returns false'. Refute it at one input. -/
def fnExactShelfOkWrong : ChangeSpec := { name := "fnExactShelfOk", fn := fun _ => fun
  | [d] => { results := [.lit (.bool false)], args := [d] }
  | _ => none }
def FnExactShelfOkWrongFalsely : Prop := fnExactShelfOkRow.holds Try.pinned (OpenSpec.ofChange fnExactShelfOkWrong)

/-- 'laws.FnExactHalfOf': WHATEVER THE INPUT: true; the input reads as it did. -/
def fnExactHalfOfSpec : ChangeSpec := { name := "fnExactHalfOf", fn := fun _ => fun
  | [d] => { results := [.lit (.bool true)], args := [d] }
  | _ => none }
def fnExactHalfOfRow : OpenClaim := { program := "ytngoagjnaphmhaa", sum := "dc180760e561826d35975f434c566d1d394b3f73e627c6ab457f19a26a6f7edd", func := "loop.example/g00965/laws.FnExactHalfOf", spec := "fnExactHalfOf", apart := false }
def FnExactHalfOfSaid : Prop := fnExactHalfOfRow.holds Try.pinned (OpenSpec.ofChange fnExactHalfOfSpec)

/-- ITS FALSE NEIGHBOUR: 'it returns false'. Refute it at one input. -/
def fnExactHalfOfWrong : ChangeSpec := { name := "fnExactHalfOf", fn := fun _ => fun
  | [d] => { results := [.lit (.bool false)], args := [d] }
  | _ => none }
def FnExactHalfOfWrongFalsely : Prop := fnExactHalfOfRow.holds Try.pinned (OpenSpec.ofChange fnExactHalfOfWrong)

/-- 'laws.FnExactTakeEntry': WHATEVER THE INPUT: true; the input reads as it did. -/
def fnExactTakeEntrySpec : ChangeSpec := { name := "fnExactTakeEntry", fn := fun _ => fun
  | [d] => { results := [.lit (.bool true)], args := [d] }
  | _ => none }
def fnExactTakeEntryRow : OpenClaim := { program := "ytngoagjnaphmhaa", sum := "dc180760e561826d35975f434c566d1d394b3f73e627c6ab457f19a26a6f7edd", func := "loop.example/g00965/laws.FnExactTakeEntry", spec := "fnExactTakeEntry", apart := false }
def FnExactTakeEntrySaid : Prop := fnExactTakeEntryRow.holds Try.pinned (OpenSpec.ofChange fnExactTakeEntrySpec)

/-- ITS FALSE NEIGHBOUR: 'it returns false'. Refute it at one input. -/
def fnExactTakeEntryWrong : ChangeSpec := { name := "fnExactTakeEntry", fn := fun _ => fun
  | [d] => { results := [.lit (.bool false)], args := [d] }
  | _ => none }
def FnExactTakeEntryWrongFalsely : Prop := fnExactTakeEntryRow.holds Try.pinned (OpenSpec.ofChange fnExactTakeEntryWrong)

/-- 'laws.FnExactPutEntry': WHATEVER THE INPUT: true; the input reads as it did. -/
def fnExactPutEntrySpec : ChangeSpec := { name := "fnExactPutEntry", fn := fun _ => fun
  | [d1, d2] => { results := [.lit (.bool true)], args := [d1, d2] }
  | _ => none }
def fnExactPutEntryRow : OpenClaim := { program := "ytngoagjnaphmhaa", sum := "dc180760e561826d35975f434c566d1d394b3f73e627c6ab457f19a26a6f7edd", func := "loop.example/g00965/laws.FnExactPutEntry", spec := "fnExactPutEntry", inPlace := ["slices.overlaps[loop.example/g00965/impl.Entry]"], unfollowed := true, recurses := true, apart := false }
def FnExactPutEntrySaid : Prop := fnExactPutEntryRow.holds Try.pinned (OpenSpec.ofChange fnExactPutEntrySpec)

/-- ITS FALSE NEIGHBOUR: 'it returns false'. Refute it at one input. -/
def fnExactPutEntryWrong : ChangeSpec := { name := "fnExactPutEntry", fn := fun _ => fun
  | [d1, d2] => { results := [.lit (.bool false)], args := [d1, d2] }
  | _ => none }
def FnExactPutEntryWrongFalsely : Prop := fnExactPutEntryRow.holds Try.pinned (OpenSpec.ofChange fnExactPutEntryWrong)

/-- 'laws.FnShelves': WHATEVER THE INPUT: true; the input reads as it did. -/
def fnShelvesSpec : ChangeSpec := { name := "fnShelves", fn := fun _ => fun
  | [d] => { results := [.lit (.bool true)], args := [d] }
  | _ => none }
def fnShelvesRow : OpenClaim := { program := "ytngoagjnaphmhaa", sum := "dc180760e561826d35975f434c566d1d394b3f73e627c6ab457f19a26a6f7edd", func := "loop.example/g00965/laws.FnShelves", spec := "fnShelves", inPlace := ["slices.overlaps[loop.example/g00965/impl.Entry]"], unfollowed := true, recurses := true, apart := false }
def FnShelvesSaid : Prop := fnShelvesRow.holds Try.pinned (OpenSpec.ofChange fnShelvesSpec)

/-- ITS FALSE NEIGHBOUR: 'it returns false'. Refute it at one input. -/
def fnShelvesWrong : ChangeSpec := { name := "fnShelves", fn := fun _ => fun
  | [d] => { results := [.lit (.bool false)], args := [d] }
  | _ => none }
def FnShelvesWrongFalsely : Prop := fnShelvesRow.holds Try.pinned (OpenSpec.ofChange fnShelvesWrong)

/-- 'laws.FnExactMerged': WHATEVER THE INPUT: true; the input reads as it did. -/
def fnExactMergedSpec : ChangeSpec := { name := "fnExactMerged", fn := fun _ => fun
  | [d1, d2] => { results := [.lit (.bool true)], args := [d1, d2] }
  | _ => none }
def fnExactMergedRow : OpenClaim := { program := "ytngoagjnaphmhaa", sum := "dc180760e561826d35975f434c566d1d394b3f73e627c6ab457f19a26a6f7edd", func := "loop.example/g00965/laws.FnExactMerged", spec := "fnExactMerged", inPlace := ["slices.overlaps[loop.example/g00965/impl.Entry]"], unfollowed := true, recurses := true, apart := false }
def FnExactMergedSaid : Prop := fnExactMergedRow.holds Try.pinned (OpenSpec.ofChange fnExactMergedSpec)

/-- ITS FALSE NEIGHBOUR: 'it returns false'. Refute it at one input. -/
def fnExactMergedWrong : ChangeSpec := { name := "fnExactMerged", fn := fun _ => fun
  | [d1, d2] => { results := [.lit (.bool false)], args := [d1, d2] }
  | _ => none }
def FnExactMergedWrongFalsely : Prop := fnExactMergedRow.holds Try.pinned (OpenSpec.ofChange fnExactMergedWrong)

/- THE SECOND FORM. 'bulk': how many values and letters a reading holds, each counted each time it is reached (what is shared counts as often as it is met; a slice's spare places count too). A statement '..UptoSaid' is the law's where the arguments, and the package variables that the reading takes, are together of bulk at most 1048576: NARROWER than '..Said'. Prove '..Said' where nothing that the law and all that it calls make is longer than what came in: it says more and counts as full. Else prove '..UptoSaid'. A law counts once. -/
mutual
def uptoBulk {H : Type} : DataW H → Nat
  | .lit (.string bytes) => bytes.length + 1
  | .lit _ => 1
  | .nil => 1
  | .ptr d => uptoBulk d + 1
  | .slice elems spare => uptoBulkAll elems + uptoBulkAll spare + 1
  | .agg parts => uptoBulkAll parts + 1
  | .iface _ d => uptoBulk d + 1
  | .map entries => uptoBulkEntries entries + 1
  | .held _ => 1
def uptoBulkAll {H : Type} : List (DataW H) → Nat
  | [] => 0
  | d :: r => uptoBulk d + uptoBulkAll r
def uptoBulkEntries {H : Type} : List (Lit × DataW H) → Nat
  | [] => 0
  | x :: r => uptoBulkEntry x + uptoBulkEntries r
def uptoBulkEntry {H : Type} : Lit × DataW H → Nat
  | (.string bytes, d) => bytes.length + uptoBulk d + 1
  | (_, d) => uptoBulk d + 1
 end
def uptoSmall : (H : Type) → List (DataW H) → Bool := fun _ ds => decide (uptoBulkAll ds ≤ 1048576)
def OpenSpec.upto (s : _root_.Go.ChangeSpec) : _root_.Go.OpenSpec := { _root_.Go.OpenSpec.ofChange s with cond := some uptoSmall }

/-- 'laws.FnExactShelfOk', WHERE WHAT IT READS IS OF BULK AT MOST 1048576: true; the input reads as it did. -/
def fnExactShelfOkUptoRow : OpenClaim := { program := "ytngoagjnaphmhaa", sum := "dc180760e561826d35975f434c566d1d394b3f73e627c6ab457f19a26a6f7edd", func := "loop.example/g00965/laws.FnExactShelfOk", spec := "fnExactShelfOk", apart := false, narrowed := true }
def FnExactShelfOkUptoSaid : Prop := fnExactShelfOkUptoRow.holds Try.pinned (OpenSpec.upto fnExactShelfOkSpec)

/-- 'laws.FnExactHalfOf', WHERE WHAT IT READS IS OF BULK AT MOST 1048576: true; the input reads as it did. -/
def fnExactHalfOfUptoRow : OpenClaim := { program := "ytngoagjnaphmhaa", sum := "dc180760e561826d35975f434c566d1d394b3f73e627c6ab457f19a26a6f7edd", func := "loop.example/g00965/laws.FnExactHalfOf", spec := "fnExactHalfOf", apart := false, narrowed := true }
def FnExactHalfOfUptoSaid : Prop := fnExactHalfOfUptoRow.holds Try.pinned (OpenSpec.upto fnExactHalfOfSpec)

/-- 'laws.FnExactTakeEntry', WHERE WHAT IT READS IS OF BULK AT MOST 1048576: true; the input reads as it did. -/
def fnExactTakeEntryUptoRow : OpenClaim := { program := "ytngoagjnaphmhaa", sum := "dc180760e561826d35975f434c566d1d394b3f73e627c6ab457f19a26a6f7edd", func := "loop.example/g00965/laws.FnExactTakeEntry", spec := "fnExactTakeEntry", apart := false, narrowed := true }
def FnExactTakeEntryUptoSaid : Prop := fnExactTakeEntryUptoRow.holds Try.pinned (OpenSpec.upto fnExactTakeEntrySpec)

/-- 'laws.FnExactPutEntry', WHERE WHAT IT READS IS OF BULK AT MOST 1048576: true; the input reads as it did. -/
def fnExactPutEntryUptoRow : OpenClaim := { program := "ytngoagjnaphmhaa", sum := "dc180760e561826d35975f434c566d1d394b3f73e627c6ab457f19a26a6f7edd", func := "loop.example/g00965/laws.FnExactPutEntry", spec := "fnExactPutEntry", inPlace := ["slices.overlaps[loop.example/g00965/impl.Entry]"], unfollowed := true, recurses := true, apart := false, narrowed := true }
def FnExactPutEntryUptoSaid : Prop := fnExactPutEntryUptoRow.holds Try.pinned (OpenSpec.upto fnExactPutEntrySpec)

/-- 'laws.FnShelves', WHERE WHAT IT READS IS OF BULK AT MOST 1048576: true; the input reads as it did. -/
def fnShelvesUptoRow : OpenClaim := { program := "ytngoagjnaphmhaa", sum := "dc180760e561826d35975f434c566d1d394b3f73e627c6ab457f19a26a6f7edd", func := "loop.example/g00965/laws.FnShelves", spec := "fnShelves", inPlace := ["slices.overlaps[loop.example/g00965/impl.Entry]"], unfollowed := true, recurses := true, apart := false, narrowed := true }
def FnShelvesUptoSaid : Prop := fnShelvesUptoRow.holds Try.pinned (OpenSpec.upto fnShelvesSpec)

/-- 'laws.FnExactMerged', WHERE WHAT IT READS IS OF BULK AT MOST 1048576: true; the input reads as it did. -/
def fnExactMergedUptoRow : OpenClaim := { program := "ytngoagjnaphmhaa", sum := "dc180760e561826d35975f434c566d1d394b3f73e627c6ab457f19a26a6f7edd", func := "loop.example/g00965/laws.FnExactMerged", spec := "fnExactMerged", inPlace := ["slices.overlaps[loop.example/g00965/impl.Entry]"], unfollowed := true, recurses := true, apart := false, narrowed := true }
def FnExactMergedUptoSaid : Prop := fnExactMergedUptoRow.holds Try.pinned (OpenSpec.upto fnExactMergedSpec)

end Rows
end Go.Proofs.Ytngoagjnaphmhaa

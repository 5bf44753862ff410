/-
  No cell of these rows narrows 'for every input' (looked for: loops, veiled, ifaces, maps, wideKeys, modest, calm, conditions, laid).
  DERIVED. THE GIVEN ROWS OF THIS SEAT. 6 by the template 'for every input the law returns true; each argument reads behind the call as it read before'; 0 by the template 'total and deterministic' (their statements: YthbjcgpfcjencaaTotals.lean).
  GIVEN WITH THE SEED: the statements are not yours to turn. If you find one false, say at which input.
  Laid BY PROGRAM, IN A SANDBOX (cutbox-rows.mjs): the forced cells as the released guide's own fill.sh prints them over the translation e25a5a7a0a68d6b8… (all of the seat's roots in one cut). By AI agents, Wed Nov 11 2026. No macro, syntax, notation, axiom, sorry.
-/
import Derived.Test.YthbjcgpfcjencaaChecked
import GoSem.Claim
import GoSem.ClaimJoined
import GoSem.ClaimMapViews
import Derived.JoinedTies
import Derived.KernelRfl
namespace Go.Proofs.Ythbjcgpfcjencaa
/- THE CELL 'sum', in the pinned program and in every row, IS THE sha256 OF THE DUMP (.gsa) THAT YthbjcgpfcjencaaProg.lean LOADS. Nothing in Lean hashes anything: it is a label: what it is worth is what the hold of that sum in a sandbox is worth. -/
noncomputable def Try.pinned : Pinned := { name := "ythbjcgpfcjencaa", sum := "e25a5a7a0a68d6b8cf3f97abd2a5897264206a4dc2ee347be238c0cd5cd3f0be", checked := Try.checked }
namespace Rows
def none {H : Type} : Left H := { results := [], args := [] }

/-- 'laws.FnExactConstants': WHATEVER THE INPUT: true; the input reads as it did. -/
def fnExactConstantsSpec : ChangeSpec := { name := "fnExactConstants", fn := fun _ => fun
  | [] => { results := [.lit (.bool true)], args := [] }
  | _ => none }
def fnExactConstantsRow : OpenClaim := { program := "ythbjcgpfcjencaa", sum := "e25a5a7a0a68d6b8cf3f97abd2a5897264206a4dc2ee347be238c0cd5cd3f0be", func := "loop.example/g00965/laws.FnExactConstants", spec := "fnExactConstants", apart := false }
def FnExactConstantsSaid : Prop := fnExactConstantsRow.holds Try.pinned (OpenSpec.ofChange fnExactConstantsSpec)

/-- ITS FALSE NEIGHBOUR: 'it returns false'. Refute it at one input. -/
def fnExactConstantsWrong : ChangeSpec := { name := "fnExactConstants", fn := fun _ => fun
  | [] => { results := [.lit (.bool false)], args := [] }
  | _ => none }
def FnExactConstantsWrongFalsely : Prop := fnExactConstantsRow.holds Try.pinned (OpenSpec.ofChange fnExactConstantsWrong)

/-- 'laws.FnExactAhead': WHATEVER THE INPUT: true; the input reads as it did. -/
def fnExactAheadSpec : ChangeSpec := { name := "fnExactAhead", fn := fun _ => fun
  | [d1, d2] => { results := [.lit (.bool true)], args := [d1, d2] }
  | _ => none }
def fnExactAheadRow : OpenClaim := { program := "ythbjcgpfcjencaa", sum := "e25a5a7a0a68d6b8cf3f97abd2a5897264206a4dc2ee347be238c0cd5cd3f0be", func := "loop.example/g00965/laws.FnExactAhead", spec := "fnExactAhead", apart := false }
def FnExactAheadSaid : Prop := fnExactAheadRow.holds Try.pinned (OpenSpec.ofChange fnExactAheadSpec)

/-- ITS FALSE NEIGHBOUR: 'it returns false'. Refute it at one input. -/
def fnExactAheadWrong : ChangeSpec := { name := "fnExactAhead", fn := fun _ => fun
  | [d1, d2] => { results := [.lit (.bool false)], args := [d1, d2] }
  | _ => none }
def FnExactAheadWrongFalsely : Prop := fnExactAheadRow.holds Try.pinned (OpenSpec.ofChange fnExactAheadWrong)

/-- 'laws.FnExactFourOf': WHATEVER THE INPUT: true; the input reads as it did. -/
def fnExactFourOfSpec : ChangeSpec := { name := "fnExactFourOf", fn := fun _ => fun
  | [d] => { results := [.lit (.bool true)], args := [d] }
  | _ => none }
def fnExactFourOfRow : OpenClaim := { program := "ythbjcgpfcjencaa", sum := "e25a5a7a0a68d6b8cf3f97abd2a5897264206a4dc2ee347be238c0cd5cd3f0be", func := "loop.example/g00965/laws.FnExactFourOf", spec := "fnExactFourOf", apart := false }
def FnExactFourOfSaid : Prop := fnExactFourOfRow.holds Try.pinned (OpenSpec.ofChange fnExactFourOfSpec)

/-- ITS FALSE NEIGHBOUR: 'it returns false'. Refute it at one input. -/
def fnExactFourOfWrong : ChangeSpec := { name := "fnExactFourOf", fn := fun _ => fun
  | [d] => { results := [.lit (.bool false)], args := [d] }
  | _ => none }
def FnExactFourOfWrongFalsely : Prop := fnExactFourOfRow.holds Try.pinned (OpenSpec.ofChange fnExactFourOfWrong)

/-- 'laws.FnExactBrought': WHATEVER THE INPUT: true; the input reads as it did. -/
def fnExactBroughtSpec : ChangeSpec := { name := "fnExactBrought", fn := fun _ => fun
  | [d1, d2, d3] => { results := [.lit (.bool true)], args := [d1, d2, d3] }
  | _ => none }
def fnExactBroughtRow : OpenClaim := { program := "ythbjcgpfcjencaa", sum := "e25a5a7a0a68d6b8cf3f97abd2a5897264206a4dc2ee347be238c0cd5cd3f0be", func := "loop.example/g00965/laws.FnExactBrought", spec := "fnExactBrought", apart := false }
def FnExactBroughtSaid : Prop := fnExactBroughtRow.holds Try.pinned (OpenSpec.ofChange fnExactBroughtSpec)

/-- ITS FALSE NEIGHBOUR: 'it returns false'. Refute it at one input. -/
def fnExactBroughtWrong : ChangeSpec := { name := "fnExactBrought", fn := fun _ => fun
  | [d1, d2, d3] => { results := [.lit (.bool false)], args := [d1, d2, d3] }
  | _ => none }
def FnExactBroughtWrongFalsely : Prop := fnExactBroughtRow.holds Try.pinned (OpenSpec.ofChange fnExactBroughtWrong)

/-- 'laws.FnExactFourAt': WHATEVER THE INPUT: true; the input reads as it did. -/
def fnExactFourAtSpec : ChangeSpec := { name := "fnExactFourAt", fn := fun _ => fun
  | [d1, d2] => { results := [.lit (.bool true)], args := [d1, d2] }
  | _ => none }
def fnExactFourAtRow : OpenClaim := { program := "ythbjcgpfcjencaa", sum := "e25a5a7a0a68d6b8cf3f97abd2a5897264206a4dc2ee347be238c0cd5cd3f0be", func := "loop.example/g00965/laws.FnExactFourAt", spec := "fnExactFourAt", apart := false }
def FnExactFourAtSaid : Prop := fnExactFourAtRow.holds Try.pinned (OpenSpec.ofChange fnExactFourAtSpec)

/-- ITS FALSE NEIGHBOUR: 'it returns false'. Refute it at one input. -/
def fnExactFourAtWrong : ChangeSpec := { name := "fnExactFourAt", fn := fun _ => fun
  | [d1, d2] => { results := [.lit (.bool false)], args := [d1, d2] }
  | _ => none }
def FnExactFourAtWrongFalsely : Prop := fnExactFourAtRow.holds Try.pinned (OpenSpec.ofChange fnExactFourAtWrong)

/-- 'laws.FnExactVarText': WHATEVER THE INPUT: true; the input reads as it did. -/
def fnExactVarTextSpec : ChangeSpec := { name := "fnExactVarText", fn := fun _ => fun
  | [d] => { results := [.lit (.bool true)], args := [d] }
  | _ => none }
def fnExactVarTextRow : OpenClaim := { program := "ythbjcgpfcjencaa", sum := "e25a5a7a0a68d6b8cf3f97abd2a5897264206a4dc2ee347be238c0cd5cd3f0be", func := "loop.example/g00965/laws.FnExactVarText", spec := "fnExactVarText", apart := false }
def FnExactVarTextSaid : Prop := fnExactVarTextRow.holds Try.pinned (OpenSpec.ofChange fnExactVarTextSpec)

/-- ITS FALSE NEIGHBOUR: 'it returns false'. Refute it at one input. -/
def fnExactVarTextWrong : ChangeSpec := { name := "fnExactVarText", fn := fun _ => fun
  | [d] => { results := [.lit (.bool false)], args := [d] }
  | _ => none }
def FnExactVarTextWrongFalsely : Prop := fnExactVarTextRow.holds Try.pinned (OpenSpec.ofChange fnExactVarTextWrong)

/- THE SECOND FORM. 'bulk': how many values and letters a reading holds, each counted each time it is reached (what is shared counts as often as it is met; a slice's spare places count too). A statement '..UptoSaid' is the law's where the arguments, and the package variables that the reading takes, are together of bulk at most 1048576: NARROWER than '..Said'. Prove '..Said' where nothing that the law and all that it calls make is longer than what came in: it says more and counts as full. Else prove '..UptoSaid'. A law counts once. -/
mutual
def uptoBulk {H : Type} : DataW H → Nat
  | .lit (.string bytes) => bytes.length + 1
  | .lit _ => 1
  | .nil => 1
  | .ptr d => uptoBulk d + 1
  | .slice elems spare => uptoBulkAll elems + uptoBulkAll spare + 1
  | .agg parts => uptoBulkAll parts + 1
  | .iface _ d => uptoBulk d + 1
  | .map entries => uptoBulkEntries entries + 1
  | .held _ => 1
def uptoBulkAll {H : Type} : List (DataW H) → Nat
  | [] => 0
  | d :: r => uptoBulk d + uptoBulkAll r
def uptoBulkEntries {H : Type} : List (Lit × DataW H) → Nat
  | [] => 0
  | x :: r => uptoBulkEntry x + uptoBulkEntries r
def uptoBulkEntry {H : Type} : Lit × DataW H → Nat
  | (.string bytes, d) => bytes.length + uptoBulk d + 1
  | (_, d) => uptoBulk d + 1
 end
def uptoSmall : (H : Type) → List (DataW H) → Bool := fun _ ds => decide (uptoBulkAll ds ≤ 1048576)
def OpenSpec.upto (s : _root_.Go.ChangeSpec) : _root_.Go.OpenSpec := { _root_.Go.OpenSpec.ofChange s with cond := some uptoSmall }

/-- 'laws.FnExactConstants', WHERE WHAT IT READS IS OF BULK AT MOST 1048576: true; the input reads as it did. -/
def fnExactConstantsUptoRow : OpenClaim := { program := "ythbjcgpfcjencaa", sum := "e25a5a7a0a68d6b8cf3f97abd2a5897264206a4dc2ee347be238c0cd5cd3f0be", func := "loop.example/g00965/laws.FnExactConstants", spec := "fnExactConstants", apart := false, narrowed := true }
def FnExactConstantsUptoSaid : Prop := fnExactConstantsUptoRow.holds Try.pinned (OpenSpec.upto fnExactConstantsSpec)

/-- 'laws.FnExactAhead', WHERE WHAT IT READS IS OF BULK AT MOST 1048576: true; the input reads as it did. -/
def fnExactAheadUptoRow : OpenClaim := { program := "ythbjcgpfcjencaa", sum := "e25a5a7a0a68d6b8cf3f97abd2a5897264206a4dc2ee347be238c0cd5cd3f0be", func := "loop.example/g00965/laws.FnExactAhead", spec := "fnExactAhead", apart := false, narrowed := true }
def FnExactAheadUptoSaid : Prop := fnExactAheadUptoRow.holds Try.pinned (OpenSpec.upto fnExactAheadSpec)

/-- 'laws.FnExactFourOf', WHERE WHAT IT READS IS OF BULK AT MOST 1048576: true; the input reads as it did. -/
def fnExactFourOfUptoRow : OpenClaim := { program := "ythbjcgpfcjencaa", sum := "e25a5a7a0a68d6b8cf3f97abd2a5897264206a4dc2ee347be238c0cd5cd3f0be", func := "loop.example/g00965/laws.FnExactFourOf", spec := "fnExactFourOf", apart := false, narrowed := true }
def FnExactFourOfUptoSaid : Prop := fnExactFourOfUptoRow.holds Try.pinned (OpenSpec.upto fnExactFourOfSpec)

/-- 'laws.FnExactBrought', WHERE WHAT IT READS IS OF BULK AT MOST 1048576: true; the input reads as it did. -/
def fnExactBroughtUptoRow : OpenClaim := { program := "ythbjcgpfcjencaa", sum := "e25a5a7a0a68d6b8cf3f97abd2a5897264206a4dc2ee347be238c0cd5cd3f0be", func := "loop.example/g00965/laws.FnExactBrought", spec := "fnExactBrought", apart := false, narrowed := true }
def FnExactBroughtUptoSaid : Prop := fnExactBroughtUptoRow.holds Try.pinned (OpenSpec.upto fnExactBroughtSpec)

/-- 'laws.FnExactFourAt', WHERE WHAT IT READS IS OF BULK AT MOST 1048576: true; the input reads as it did. -/
def fnExactFourAtUptoRow : OpenClaim := { program := "ythbjcgpfcjencaa", sum := "e25a5a7a0a68d6b8cf3f97abd2a5897264206a4dc2ee347be238c0cd5cd3f0be", func := "loop.example/g00965/laws.FnExactFourAt", spec := "fnExactFourAt", apart := false, narrowed := true }
def FnExactFourAtUptoSaid : Prop := fnExactFourAtUptoRow.holds Try.pinned (OpenSpec.upto fnExactFourAtSpec)

/-- 'laws.FnExactVarText', WHERE WHAT IT READS IS OF BULK AT MOST 1048576: true; the input reads as it did. -/
def fnExactVarTextUptoRow : OpenClaim := { program := "ythbjcgpfcjencaa", sum := "e25a5a7a0a68d6b8cf3f97abd2a5897264206a4dc2ee347be238c0cd5cd3f0be", func := "loop.example/g00965/laws.FnExactVarText", spec := "fnExactVarText", apart := false, narrowed := true }
def FnExactVarTextUptoSaid : Prop := fnExactVarTextUptoRow.holds Try.pinned (OpenSpec.upto fnExactVarTextSpec)

end Rows
end Go.Proofs.Ythbjcgpfcjencaa

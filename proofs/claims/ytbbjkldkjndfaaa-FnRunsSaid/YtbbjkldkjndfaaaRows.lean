/-
  No cell of these rows narrows 'for every input' (looked for: loops, veiled, ifaces, maps, wideKeys, modest, calm, conditions, laid).
  DERIVED. THE GIVEN ROWS OF THIS SEAT. 8 by the template 'for every input the law returns true; each argument reads behind the call as it read before'; 0 by the template 'total and deterministic' (their statements: YtbbjkldkjndfaaaTotals.lean).
  GIVEN WITH THE SEED: the statements are not yours to turn. If you find one false, say at which input.
  Laid BY PROGRAM, IN A SANDBOX (cutbox-rows.mjs): the forced cells as the released guide's own fill.sh prints them over the translation 05ed6cf95d43126b… (all of the seat's roots in one cut). By AI agents, Wed Nov 11 2026. No macro, syntax, notation, axiom, sorry.
-/
import Derived.Test.YtbbjkldkjndfaaaChecked
import GoSem.Claim
import GoSem.ClaimJoined
import GoSem.ClaimMapViews
import Derived.JoinedTies
import Derived.KernelRfl
namespace Go.Proofs.Ytbbjkldkjndfaaa
/- THE CELL 'sum', in the pinned program and in every row, IS THE sha256 OF THE DUMP (.gsa) THAT YtbbjkldkjndfaaaProg.lean LOADS. Nothing in Lean hashes anything: it is a label: what it is worth is what the hold of that sum in a sandbox is worth. -/
noncomputable def Try.pinned : Pinned := { name := "ytbbjkldkjndfaaa", sum := "05ed6cf95d43126b6a080b2686c24683f9460370c790d8edd8bf945432d414de", checked := Try.checked }
namespace Rows
def none {H : Type} : Left H := { results := [], args := [] }

/-- 'laws.FnOrders': WHATEVER THE INPUT: true; the input reads as it did. -/
def fnOrdersSpec : ChangeSpec := { name := "fnOrders", fn := fun _ => fun
  | [d] => { results := [.lit (.bool true)], args := [d] }
  | _ => none }
def fnOrdersRow : OpenClaim := { program := "ytbbjkldkjndfaaa", sum := "05ed6cf95d43126b6a080b2686c24683f9460370c790d8edd8bf945432d414de", func := "loop.example/g00965/laws.FnOrders", spec := "fnOrders", unfollowed := true, recurses := true, apart := false }
def FnOrdersSaid : Prop := fnOrdersRow.holds Try.pinned (OpenSpec.ofChange fnOrdersSpec)

/-- ITS FALSE NEIGHBOUR: 'it returns false'. Refute it at one input. -/
def fnOrdersWrong : ChangeSpec := { name := "fnOrders", fn := fun _ => fun
  | [d] => { results := [.lit (.bool false)], args := [d] }
  | _ => none }
def FnOrdersWrongFalsely : Prop := fnOrdersRow.holds Try.pinned (OpenSpec.ofChange fnOrdersWrong)

/-- 'laws.FnPlans': WHATEVER THE INPUT: true; the input reads as it did. -/
def fnPlansSpec : ChangeSpec := { name := "fnPlans", fn := fun _ => fun
  | [d] => { results := [.lit (.bool true)], args := [d] }
  | _ => none }
def fnPlansRow : OpenClaim := { program := "ytbbjkldkjndfaaa", sum := "05ed6cf95d43126b6a080b2686c24683f9460370c790d8edd8bf945432d414de", func := "loop.example/g00965/laws.FnPlans", spec := "fnPlans", recurses := true, apart := false }
def FnPlansSaid : Prop := fnPlansRow.holds Try.pinned (OpenSpec.ofChange fnPlansSpec)

/-- ITS FALSE NEIGHBOUR: 'it returns false'. Refute it at one input. -/
def fnPlansWrong : ChangeSpec := { name := "fnPlans", fn := fun _ => fun
  | [d] => { results := [.lit (.bool false)], args := [d] }
  | _ => none }
def FnPlansWrongFalsely : Prop := fnPlansRow.holds Try.pinned (OpenSpec.ofChange fnPlansWrong)

/-- 'laws.FnExactRanksOf': WHATEVER THE INPUT: true; the input reads as it did. -/
def fnExactRanksOfSpec : ChangeSpec := { name := "fnExactRanksOf", fn := fun _ => fun
  | [d] => { results := [.lit (.bool true)], args := [d] }
  | _ => none }
def fnExactRanksOfRow : OpenClaim := { program := "ytbbjkldkjndfaaa", sum := "05ed6cf95d43126b6a080b2686c24683f9460370c790d8edd8bf945432d414de", func := "loop.example/g00965/laws.FnExactRanksOf", spec := "fnExactRanksOf", unfollowed := true, recurses := true, apart := false }
def FnExactRanksOfSaid : Prop := fnExactRanksOfRow.holds Try.pinned (OpenSpec.ofChange fnExactRanksOfSpec)

/-- ITS FALSE NEIGHBOUR: 'it returns false'. Refute it at one input. -/
def fnExactRanksOfWrong : ChangeSpec := { name := "fnExactRanksOf", fn := fun _ => fun
  | [d] => { results := [.lit (.bool false)], args := [d] }
  | _ => none }
def FnExactRanksOfWrongFalsely : Prop := fnExactRanksOfRow.holds Try.pinned (OpenSpec.ofChange fnExactRanksOfWrong)

/-- 'laws.FnRuns': WHATEVER THE INPUT: true; the input reads as it did. -/
def fnRunsSpec : ChangeSpec := { name := "fnRuns", fn := fun _ => fun
  | [d] => { results := [.lit (.bool true)], args := [d] }
  | _ => none }
def fnRunsRow : OpenClaim := { program := "ytbbjkldkjndfaaa", sum := "05ed6cf95d43126b6a080b2686c24683f9460370c790d8edd8bf945432d414de", func := "loop.example/g00965/laws.FnRuns", spec := "fnRuns", recurses := true, apart := false }
def FnRunsSaid : Prop := fnRunsRow.holds Try.pinned (OpenSpec.ofChange fnRunsSpec)

/-- ITS FALSE NEIGHBOUR: 'it returns false'. Refute it at one input. -/
def fnRunsWrong : ChangeSpec := { name := "fnRuns", fn := fun _ => fun
  | [d] => { results := [.lit (.bool false)], args := [d] }
  | _ => none }
def FnRunsWrongFalsely : Prop := fnRunsRow.holds Try.pinned (OpenSpec.ofChange fnRunsWrong)

/-- 'laws.FnExactTasksIn': WHATEVER THE INPUT: true; the input reads as it did. -/
def fnExactTasksInSpec : ChangeSpec := { name := "fnExactTasksIn", fn := fun _ => fun
  | [d1, d2] => { results := [.lit (.bool true)], args := [d1, d2] }
  | _ => none }
def fnExactTasksInRow : OpenClaim := { program := "ytbbjkldkjndfaaa", sum := "05ed6cf95d43126b6a080b2686c24683f9460370c790d8edd8bf945432d414de", func := "loop.example/g00965/laws.FnExactTasksIn", spec := "fnExactTasksIn", apart := false }
def FnExactTasksInSaid : Prop := fnExactTasksInRow.holds Try.pinned (OpenSpec.ofChange fnExactTasksInSpec)

/-- ITS FALSE NEIGHBOUR: 'it returns false'. Refute it at one input. -/
def fnExactTasksInWrong : ChangeSpec := { name := "fnExactTasksIn", fn := fun _ => fun
  | [d1, d2] => { results := [.lit (.bool false)], args := [d1, d2] }
  | _ => none }
def FnExactTasksInWrongFalsely : Prop := fnExactTasksInRow.holds Try.pinned (OpenSpec.ofChange fnExactTasksInWrong)

/-- 'laws.FnExactRunNew': WHATEVER THE INPUT: true; the input reads as it did. -/
def fnExactRunNewSpec : ChangeSpec := { name := "fnExactRunNew", fn := fun _ => fun
  | [d1, d2] => { results := [.lit (.bool true)], args := [d1, d2] }
  | _ => none }
def fnExactRunNewRow : OpenClaim := { program := "ytbbjkldkjndfaaa", sum := "05ed6cf95d43126b6a080b2686c24683f9460370c790d8edd8bf945432d414de", func := "loop.example/g00965/laws.FnExactRunNew", spec := "fnExactRunNew", recurses := true, apart := false }
def FnExactRunNewSaid : Prop := fnExactRunNewRow.holds Try.pinned (OpenSpec.ofChange fnExactRunNewSpec)

/-- ITS FALSE NEIGHBOUR: 'it returns false'. Refute it at one input. -/
def fnExactRunNewWrong : ChangeSpec := { name := "fnExactRunNew", fn := fun _ => fun
  | [d1, d2] => { results := [.lit (.bool false)], args := [d1, d2] }
  | _ => none }
def FnExactRunNewWrongFalsely : Prop := fnExactRunNewRow.holds Try.pinned (OpenSpec.ofChange fnExactRunNewWrong)

/-- 'laws.FnExactRunOk': WHATEVER THE INPUT: true; the input reads as it did. -/
def fnExactRunOkSpec : ChangeSpec := { name := "fnExactRunOk", fn := fun _ => fun
  | [d] => { results := [.lit (.bool true)], args := [d] }
  | _ => none }
def fnExactRunOkRow : OpenClaim := { program := "ytbbjkldkjndfaaa", sum := "05ed6cf95d43126b6a080b2686c24683f9460370c790d8edd8bf945432d414de", func := "loop.example/g00965/laws.FnExactRunOk", spec := "fnExactRunOk", recurses := true, apart := false }
def FnExactRunOkSaid : Prop := fnExactRunOkRow.holds Try.pinned (OpenSpec.ofChange fnExactRunOkSpec)

/-- ITS FALSE NEIGHBOUR: 'it returns false'. Refute it at one input. -/
def fnExactRunOkWrong : ChangeSpec := { name := "fnExactRunOk", fn := fun _ => fun
  | [d] => { results := [.lit (.bool false)], args := [d] }
  | _ => none }
def FnExactRunOkWrongFalsely : Prop := fnExactRunOkRow.holds Try.pinned (OpenSpec.ofChange fnExactRunOkWrong)

/-- 'laws.FnExactRunLeft': WHATEVER THE INPUT: true; the input reads as it did. -/
def fnExactRunLeftSpec : ChangeSpec := { name := "fnExactRunLeft", fn := fun _ => fun
  | [d] => { results := [.lit (.bool true)], args := [d] }
  | _ => none }
def fnExactRunLeftRow : OpenClaim := { program := "ytbbjkldkjndfaaa", sum := "05ed6cf95d43126b6a080b2686c24683f9460370c790d8edd8bf945432d414de", func := "loop.example/g00965/laws.FnExactRunLeft", spec := "fnExactRunLeft", recurses := true, apart := false }
def FnExactRunLeftSaid : Prop := fnExactRunLeftRow.holds Try.pinned (OpenSpec.ofChange fnExactRunLeftSpec)

/-- ITS FALSE NEIGHBOUR: 'it returns false'. Refute it at one input. -/
def fnExactRunLeftWrong : ChangeSpec := { name := "fnExactRunLeft", fn := fun _ => fun
  | [d] => { results := [.lit (.bool false)], args := [d] }
  | _ => none }
def FnExactRunLeftWrongFalsely : Prop := fnExactRunLeftRow.holds Try.pinned (OpenSpec.ofChange fnExactRunLeftWrong)

/- THE SECOND FORM. 'bulk': how many values and letters a reading holds, each counted each time it is reached (what is shared counts as often as it is met; a slice's spare places count too). A statement '..UptoSaid' is the law's where the arguments, and the package variables that the reading takes, are together of bulk at most 1048576: NARROWER than '..Said'. Prove '..Said' where nothing that the law and all that it calls make is longer than what came in: it says more and counts as full. Else prove '..UptoSaid'. A law counts once. -/
mutual
def uptoBulk {H : Type} : DataW H → Nat
  | .lit (.string bytes) => bytes.length + 1
  | .lit _ => 1
  | .nil => 1
  | .ptr d => uptoBulk d + 1
  | .slice elems spare => uptoBulkAll elems + uptoBulkAll spare + 1
  | .agg parts => uptoBulkAll parts + 1
  | .iface _ d => uptoBulk d + 1
  | .map entries => uptoBulkEntries entries + 1
  | .held _ => 1
def uptoBulkAll {H : Type} : List (DataW H) → Nat
  | [] => 0
  | d :: r => uptoBulk d + uptoBulkAll r
def uptoBulkEntries {H : Type} : List (Lit × DataW H) → Nat
  | [] => 0
  | x :: r => uptoBulkEntry x + uptoBulkEntries r
def uptoBulkEntry {H : Type} : Lit × DataW H → Nat
  | (.string bytes, d) => bytes.length + uptoBulk d + 1
  | (_, d) => uptoBulk d + 1
 end
def uptoSmall : (H : Type) → List (DataW H) → Bool := fun _ ds => decide (uptoBulkAll ds ≤ 1048576)
def OpenSpec.upto (s : _root_.Go.ChangeSpec) : _root_.Go.OpenSpec := { _root_.Go.OpenSpec.ofChange s with cond := some uptoSmall }

/-- 'laws.FnOrders', WHERE WHAT IT READS IS OF BULK AT MOST 1048576: true; the input reads as it did. -/
def fnOrdersUptoRow : OpenClaim := { program := "ytbbjkldkjndfaaa", sum := "05ed6cf95d43126b6a080b2686c24683f9460370c790d8edd8bf945432d414de", func := "loop.example/g00965/laws.FnOrders", spec := "fnOrders", unfollowed := true, recurses := true, apart := false, narrowed := true }
def FnOrdersUptoSaid : Prop := fnOrdersUptoRow.holds Try.pinned (OpenSpec.upto fnOrdersSpec)

/-- 'laws.FnPlans', WHERE WHAT IT READS IS OF BULK AT MOST 1048576: true; the input reads as it did. -/
def fnPlansUptoRow : OpenClaim := { program := "ytbbjkldkjndfaaa", sum := "05ed6cf95d43126b6a080b2686c24683f9460370c790d8edd8bf945432d414de", func := "loop.example/g00965/laws.FnPlans", spec := "fnPlans", recurses := true, apart := false, narrowed := true }
def FnPlansUptoSaid : Prop := fnPlansUptoRow.holds Try.pinned (OpenSpec.upto fnPlansSpec)

/-- 'laws.FnExactRanksOf', WHERE WHAT IT READS IS OF BULK AT MOST 1048576: true; the input reads as it did. -/
def fnExactRanksOfUptoRow : OpenClaim := { program := "ytbbjkldkjndfaaa", sum := "05ed6cf95d43126b6a080b2686c24683f9460370c790d8edd8bf945432d414de", func := "loop.example/g00965/laws.FnExactRanksOf", spec := "fnExactRanksOf", unfollowed := true, recurses := true, apart := false, narrowed := true }
def FnExactRanksOfUptoSaid : Prop := fnExactRanksOfUptoRow.holds Try.pinned (OpenSpec.upto fnExactRanksOfSpec)

/-- 'laws.FnRuns', WHERE WHAT IT READS IS OF BULK AT MOST 1048576: true; the input reads as it did. -/
def fnRunsUptoRow : OpenClaim := { program := "ytbbjkldkjndfaaa", sum := "05ed6cf95d43126b6a080b2686c24683f9460370c790d8edd8bf945432d414de", func := "loop.example/g00965/laws.FnRuns", spec := "fnRuns", recurses := true, apart := false, narrowed := true }
def FnRunsUptoSaid : Prop := fnRunsUptoRow.holds Try.pinned (OpenSpec.upto fnRunsSpec)

/-- 'laws.FnExactTasksIn', WHERE WHAT IT READS IS OF BULK AT MOST 1048576: true; the input reads as it did. -/
def fnExactTasksInUptoRow : OpenClaim := { program := "ytbbjkldkjndfaaa", sum := "05ed6cf95d43126b6a080b2686c24683f9460370c790d8edd8bf945432d414de", func := "loop.example/g00965/laws.FnExactTasksIn", spec := "fnExactTasksIn", apart := false, narrowed := true }
def FnExactTasksInUptoSaid : Prop := fnExactTasksInUptoRow.holds Try.pinned (OpenSpec.upto fnExactTasksInSpec)

/-- 'laws.FnExactRunNew', WHERE WHAT IT READS IS OF BULK AT MOST 1048576: true; the input reads as it did. -/
def fnExactRunNewUptoRow : OpenClaim := { program := "ytbbjkldkjndfaaa", sum := "05ed6cf95d43126b6a080b2686c24683f9460370c790d8edd8bf945432d414de", func := "loop.example/g00965/laws.FnExactRunNew", spec := "fnExactRunNew", recurses := true, apart := false, narrowed := true }
def FnExactRunNewUptoSaid : Prop := fnExactRunNewUptoRow.holds Try.pinned (OpenSpec.upto fnExactRunNewSpec)

/-- 'laws.FnExactRunOk', WHERE WHAT IT READS IS OF BULK AT MOST 1048576: true; the input reads as it did. -/
def fnExactRunOkUptoRow : OpenClaim := { program := "ytbbjkldkjndfaaa", sum := "05ed6cf95d43126b6a080b2686c24683f9460370c790d8edd8bf945432d414de", func := "loop.example/g00965/laws.FnExactRunOk", spec := "fnExactRunOk", recurses := true, apart := false, narrowed := true }
def FnExactRunOkUptoSaid : Prop := fnExactRunOkUptoRow.holds Try.pinned (OpenSpec.upto fnExactRunOkSpec)

/-- 'laws.FnExactRunLeft', WHERE WHAT IT READS IS OF BULK AT MOST 1048576: true; the input reads as it did. -/
def fnExactRunLeftUptoRow : OpenClaim := { program := "ytbbjkldkjndfaaa", sum := "05ed6cf95d43126b6a080b2686c24683f9460370c790d8edd8bf945432d414de", func := "loop.example/g00965/laws.FnExactRunLeft", spec := "fnExactRunLeft", recurses := true, apart := false, narrowed := true }
def FnExactRunLeftUptoSaid : Prop := fnExactRunLeftUptoRow.holds Try.pinned (OpenSpec.upto fnExactRunLeftSpec)

end Rows
end Go.Proofs.Ytbbjkldkjndfaaa

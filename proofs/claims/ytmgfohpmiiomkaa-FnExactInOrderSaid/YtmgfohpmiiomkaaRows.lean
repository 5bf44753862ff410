/-
  No cell of these rows narrows 'for every input' (looked for: loops, veiled, ifaces, maps, wideKeys, modest, calm, conditions, laid).
  DERIVED. THE GIVEN ROWS OF THIS SEAT. 11 by the template 'for every input the law returns true; each argument reads behind the call as it read before'; 0 by the template 'total and deterministic' (their statements: YtmgfohpmiiomkaaTotals.lean).
  GIVEN WITH THE SEED: the statements are not yours to turn. If you find one false, say at which input.
  Laid BY PROGRAM, IN A SANDBOX (cutbox-rows.mjs): the forced cells as the released guide's own fill.sh prints them over the translation 89184d91a3284cf1… (all of the seat's roots in one cut). By AI agents, Wed Nov 11 2026. No macro, syntax, notation, axiom, sorry.
-/
import Derived.Test.YtmgfohpmiiomkaaChecked
import GoSem.Claim
import GoSem.ClaimJoined
import GoSem.ClaimMapViews
import Derived.JoinedTies
import Derived.KernelRfl
namespace Go.Proofs.Ytmgfohpmiiomkaa
/- THE CELL 'sum', in the pinned program and in every row, IS THE sha256 OF THE DUMP (.gsa) THAT YtmgfohpmiiomkaaProg.lean LOADS. Nothing in Lean hashes anything: it is a label: what it is worth is what the hold of that sum in a sandbox is worth. -/
noncomputable def Try.pinned : Pinned := { name := "ytmgfohpmiiomkaa", sum := "89184d91a3284cf109bd579ca8ef48163d59c14dbb728348a68a06dd03d5d3fe", checked := Try.checked }
namespace Rows
def none {H : Type} : Left H := { results := [], args := [] }

/-- 'laws.FnOrders': WHATEVER THE INPUT: true; the input reads as it did. -/
def fnOrdersSpec : ChangeSpec := { name := "fnOrders", fn := fun _ => fun
  | [d] => { results := [.lit (.bool true)], args := [d] }
  | _ => none }
def fnOrdersRow : OpenClaim := { program := "ytmgfohpmiiomkaa", sum := "89184d91a3284cf109bd579ca8ef48163d59c14dbb728348a68a06dd03d5d3fe", func := "loop.example/g00965/laws.FnOrders", spec := "fnOrders", unfollowed := true, recurses := true, apart := false }
def FnOrdersSaid : Prop := fnOrdersRow.holds Try.pinned (OpenSpec.ofChange fnOrdersSpec)

/-- ITS FALSE NEIGHBOUR: 'it returns false'. Refute it at one input. -/
def fnOrdersWrong : ChangeSpec := { name := "fnOrders", fn := fun _ => fun
  | [d] => { results := [.lit (.bool false)], args := [d] }
  | _ => none }
def FnOrdersWrongFalsely : Prop := fnOrdersRow.holds Try.pinned (OpenSpec.ofChange fnOrdersWrong)

/-- 'laws.FnExactPlanFault': WHATEVER THE INPUT: true; the input reads as it did. -/
def fnExactPlanFaultSpec : ChangeSpec := { name := "fnExactPlanFault", fn := fun _ => fun
  | [d] => { results := [.lit (.bool true)], args := [d] }
  | _ => none }
def fnExactPlanFaultRow : OpenClaim := { program := "ytmgfohpmiiomkaa", sum := "89184d91a3284cf109bd579ca8ef48163d59c14dbb728348a68a06dd03d5d3fe", func := "loop.example/g00965/laws.FnExactPlanFault", spec := "fnExactPlanFault", apart := false }
def FnExactPlanFaultSaid : Prop := fnExactPlanFaultRow.holds Try.pinned (OpenSpec.ofChange fnExactPlanFaultSpec)

/-- ITS FALSE NEIGHBOUR: 'it returns false'. Refute it at one input. -/
def fnExactPlanFaultWrong : ChangeSpec := { name := "fnExactPlanFault", fn := fun _ => fun
  | [d] => { results := [.lit (.bool false)], args := [d] }
  | _ => none }
def FnExactPlanFaultWrongFalsely : Prop := fnExactPlanFaultRow.holds Try.pinned (OpenSpec.ofChange fnExactPlanFaultWrong)

/-- 'laws.FnExactReaches': WHATEVER THE INPUT: true; the input reads as it did. -/
def fnExactReachesSpec : ChangeSpec := { name := "fnExactReaches", fn := fun _ => fun
  | [d1, d2, d3] => { results := [.lit (.bool true)], args := [d1, d2, d3] }
  | _ => none }
def fnExactReachesRow : OpenClaim := { program := "ytmgfohpmiiomkaa", sum := "89184d91a3284cf109bd579ca8ef48163d59c14dbb728348a68a06dd03d5d3fe", func := "loop.example/g00965/laws.FnExactReaches", spec := "fnExactReaches", apart := false }
def FnExactReachesSaid : Prop := fnExactReachesRow.holds Try.pinned (OpenSpec.ofChange fnExactReachesSpec)

/-- ITS FALSE NEIGHBOUR: 'it returns false'. Refute it at one input. -/
def fnExactReachesWrong : ChangeSpec := { name := "fnExactReaches", fn := fun _ => fun
  | [d1, d2, d3] => { results := [.lit (.bool false)], args := [d1, d2, d3] }
  | _ => none }
def FnExactReachesWrongFalsely : Prop := fnExactReachesRow.holds Try.pinned (OpenSpec.ofChange fnExactReachesWrong)

/-- 'laws.FnExactCloseOf': WHATEVER THE INPUT: true; the input reads as it did. -/
def fnExactCloseOfSpec : ChangeSpec := { name := "fnExactCloseOf", fn := fun _ => fun
  | [d1, d2] => { results := [.lit (.bool true)], args := [d1, d2] }
  | _ => none }
def fnExactCloseOfRow : OpenClaim := { program := "ytmgfohpmiiomkaa", sum := "89184d91a3284cf109bd579ca8ef48163d59c14dbb728348a68a06dd03d5d3fe", func := "loop.example/g00965/laws.FnExactCloseOf", spec := "fnExactCloseOf", apart := false }
def FnExactCloseOfSaid : Prop := fnExactCloseOfRow.holds Try.pinned (OpenSpec.ofChange fnExactCloseOfSpec)

/-- ITS FALSE NEIGHBOUR: 'it returns false'. Refute it at one input. -/
def fnExactCloseOfWrong : ChangeSpec := { name := "fnExactCloseOf", fn := fun _ => fun
  | [d1, d2] => { results := [.lit (.bool false)], args := [d1, d2] }
  | _ => none }
def FnExactCloseOfWrongFalsely : Prop := fnExactCloseOfRow.holds Try.pinned (OpenSpec.ofChange fnExactCloseOfWrong)

/-- 'laws.FnPlans': WHATEVER THE INPUT: true; the input reads as it did. -/
def fnPlansSpec : ChangeSpec := { name := "fnPlans", fn := fun _ => fun
  | [d] => { results := [.lit (.bool true)], args := [d] }
  | _ => none }
def fnPlansRow : OpenClaim := { program := "ytmgfohpmiiomkaa", sum := "89184d91a3284cf109bd579ca8ef48163d59c14dbb728348a68a06dd03d5d3fe", func := "loop.example/g00965/laws.FnPlans", spec := "fnPlans", recurses := true, apart := false }
def FnPlansSaid : Prop := fnPlansRow.holds Try.pinned (OpenSpec.ofChange fnPlansSpec)

/-- ITS FALSE NEIGHBOUR: 'it returns false'. Refute it at one input. -/
def fnPlansWrong : ChangeSpec := { name := "fnPlans", fn := fun _ => fun
  | [d] => { results := [.lit (.bool false)], args := [d] }
  | _ => none }
def FnPlansWrongFalsely : Prop := fnPlansRow.holds Try.pinned (OpenSpec.ofChange fnPlansWrong)

/-- 'laws.FnExactBeforeOf': WHATEVER THE INPUT: true; the input reads as it did. -/
def fnExactBeforeOfSpec : ChangeSpec := { name := "fnExactBeforeOf", fn := fun _ => fun
  | [d1, d2] => { results := [.lit (.bool true)], args := [d1, d2] }
  | _ => none }
def fnExactBeforeOfRow : OpenClaim := { program := "ytmgfohpmiiomkaa", sum := "89184d91a3284cf109bd579ca8ef48163d59c14dbb728348a68a06dd03d5d3fe", func := "loop.example/g00965/laws.FnExactBeforeOf", spec := "fnExactBeforeOf", recurses := true, apart := false }
def FnExactBeforeOfSaid : Prop := fnExactBeforeOfRow.holds Try.pinned (OpenSpec.ofChange fnExactBeforeOfSpec)

/-- ITS FALSE NEIGHBOUR: 'it returns false'. Refute it at one input. -/
def fnExactBeforeOfWrong : ChangeSpec := { name := "fnExactBeforeOf", fn := fun _ => fun
  | [d1, d2] => { results := [.lit (.bool false)], args := [d1, d2] }
  | _ => none }
def FnExactBeforeOfWrongFalsely : Prop := fnExactBeforeOfRow.holds Try.pinned (OpenSpec.ofChange fnExactBeforeOfWrong)

/-- 'laws.FnExactBehindOf': WHATEVER THE INPUT: true; the input reads as it did. -/
def fnExactBehindOfSpec : ChangeSpec := { name := "fnExactBehindOf", fn := fun _ => fun
  | [d1, d2] => { results := [.lit (.bool true)], args := [d1, d2] }
  | _ => none }
def fnExactBehindOfRow : OpenClaim := { program := "ytmgfohpmiiomkaa", sum := "89184d91a3284cf109bd579ca8ef48163d59c14dbb728348a68a06dd03d5d3fe", func := "loop.example/g00965/laws.FnExactBehindOf", spec := "fnExactBehindOf", recurses := true, apart := false }
def FnExactBehindOfSaid : Prop := fnExactBehindOfRow.holds Try.pinned (OpenSpec.ofChange fnExactBehindOfSpec)

/-- ITS FALSE NEIGHBOUR: 'it returns false'. Refute it at one input. -/
def fnExactBehindOfWrong : ChangeSpec := { name := "fnExactBehindOf", fn := fun _ => fun
  | [d1, d2] => { results := [.lit (.bool false)], args := [d1, d2] }
  | _ => none }
def FnExactBehindOfWrongFalsely : Prop := fnExactBehindOfRow.holds Try.pinned (OpenSpec.ofChange fnExactBehindOfWrong)

/-- 'laws.FnExactInOrder': WHATEVER THE INPUT: true; the input reads as it did. -/
def fnExactInOrderSpec : ChangeSpec := { name := "fnExactInOrder", fn := fun _ => fun
  | [d1, d2] => { results := [.lit (.bool true)], args := [d1, d2] }
  | _ => none }
def fnExactInOrderRow : OpenClaim := { program := "ytmgfohpmiiomkaa", sum := "89184d91a3284cf109bd579ca8ef48163d59c14dbb728348a68a06dd03d5d3fe", func := "loop.example/g00965/laws.FnExactInOrder", spec := "fnExactInOrder", unfollowed := true, recurses := true, apart := false }
def FnExactInOrderSaid : Prop := fnExactInOrderRow.holds Try.pinned (OpenSpec.ofChange fnExactInOrderSpec)

/-- ITS FALSE NEIGHBOUR: 'it returns false'. Refute it at one input. -/
def fnExactInOrderWrong : ChangeSpec := { name := "fnExactInOrder", fn := fun _ => fun
  | [d1, d2] => { results := [.lit (.bool false)], args := [d1, d2] }
  | _ => none }
def FnExactInOrderWrongFalsely : Prop := fnExactInOrderRow.holds Try.pinned (OpenSpec.ofChange fnExactInOrderWrong)

/-- 'laws.FnExactOrderOf': WHATEVER THE INPUT: true; the input reads as it did. -/
def fnExactOrderOfSpec : ChangeSpec := { name := "fnExactOrderOf", fn := fun _ => fun
  | [d] => { results := [.lit (.bool true)], args := [d] }
  | _ => none }
def fnExactOrderOfRow : OpenClaim := { program := "ytmgfohpmiiomkaa", sum := "89184d91a3284cf109bd579ca8ef48163d59c14dbb728348a68a06dd03d5d3fe", func := "loop.example/g00965/laws.FnExactOrderOf", spec := "fnExactOrderOf", unfollowed := true, recurses := true, apart := false }
def FnExactOrderOfSaid : Prop := fnExactOrderOfRow.holds Try.pinned (OpenSpec.ofChange fnExactOrderOfSpec)

/-- ITS FALSE NEIGHBOUR: 'it returns false'. Refute it at one input. -/
def fnExactOrderOfWrong : ChangeSpec := { name := "fnExactOrderOf", fn := fun _ => fun
  | [d] => { results := [.lit (.bool false)], args := [d] }
  | _ => none }
def FnExactOrderOfWrongFalsely : Prop := fnExactOrderOfRow.holds Try.pinned (OpenSpec.ofChange fnExactOrderOfWrong)

/-- 'laws.FnExactDepthOf': WHATEVER THE INPUT: true; the input reads as it did. -/
def fnExactDepthOfSpec : ChangeSpec := { name := "fnExactDepthOf", fn := fun _ => fun
  | [d] => { results := [.lit (.bool true)], args := [d] }
  | _ => none }
def fnExactDepthOfRow : OpenClaim := { program := "ytmgfohpmiiomkaa", sum := "89184d91a3284cf109bd579ca8ef48163d59c14dbb728348a68a06dd03d5d3fe", func := "loop.example/g00965/laws.FnExactDepthOf", spec := "fnExactDepthOf", unfollowed := true, recurses := true, apart := false }
def FnExactDepthOfSaid : Prop := fnExactDepthOfRow.holds Try.pinned (OpenSpec.ofChange fnExactDepthOfSpec)

/-- ITS FALSE NEIGHBOUR: 'it returns false'. Refute it at one input. -/
def fnExactDepthOfWrong : ChangeSpec := { name := "fnExactDepthOf", fn := fun _ => fun
  | [d] => { results := [.lit (.bool false)], args := [d] }
  | _ => none }
def FnExactDepthOfWrongFalsely : Prop := fnExactDepthOfRow.holds Try.pinned (OpenSpec.ofChange fnExactDepthOfWrong)

/-- 'laws.FnExactRanksOf': WHATEVER THE INPUT: true; the input reads as it did. -/
def fnExactRanksOfSpec : ChangeSpec := { name := "fnExactRanksOf", fn := fun _ => fun
  | [d] => { results := [.lit (.bool true)], args := [d] }
  | _ => none }
def fnExactRanksOfRow : OpenClaim := { program := "ytmgfohpmiiomkaa", sum := "89184d91a3284cf109bd579ca8ef48163d59c14dbb728348a68a06dd03d5d3fe", func := "loop.example/g00965/laws.FnExactRanksOf", spec := "fnExactRanksOf", unfollowed := true, recurses := true, apart := false }
def FnExactRanksOfSaid : Prop := fnExactRanksOfRow.holds Try.pinned (OpenSpec.ofChange fnExactRanksOfSpec)

/-- ITS FALSE NEIGHBOUR: 'it returns false'. Refute it at one input. -/
def fnExactRanksOfWrong : ChangeSpec := { name := "fnExactRanksOf", fn := fun _ => fun
  | [d] => { results := [.lit (.bool false)], args := [d] }
  | _ => none }
def FnExactRanksOfWrongFalsely : Prop := fnExactRanksOfRow.holds Try.pinned (OpenSpec.ofChange fnExactRanksOfWrong)

/- THE SECOND FORM. 'bulk': how many values and letters a reading holds, each counted each time it is reached (what is shared counts as often as it is met; a slice's spare places count too). A statement '..UptoSaid' is the law's where the arguments, and the package variables that the reading takes, are together of bulk at most 1048576: NARROWER than '..Said'. Prove '..Said' where nothing that the law and all that it calls make is longer than what came in: it says more and counts as full. Else prove '..UptoSaid'. A law counts once. -/
mutual
def uptoBulk {H : Type} : DataW H → Nat
  | .lit (.string bytes) => bytes.length + 1
  | .lit _ => 1
  | .nil => 1
  | .ptr d => uptoBulk d + 1
  | .slice elems spare => uptoBulkAll elems + uptoBulkAll spare + 1
  | .agg parts => uptoBulkAll parts + 1
  | .iface _ d => uptoBulk d + 1
  | .map entries => uptoBulkEntries entries + 1
  | .held _ => 1
def uptoBulkAll {H : Type} : List (DataW H) → Nat
  | [] => 0
  | d :: r => uptoBulk d + uptoBulkAll r
def uptoBulkEntries {H : Type} : List (Lit × DataW H) → Nat
  | [] => 0
  | x :: r => uptoBulkEntry x + uptoBulkEntries r
def uptoBulkEntry {H : Type} : Lit × DataW H → Nat
  | (.string bytes, d) => bytes.length + uptoBulk d + 1
  | (_, d) => uptoBulk d + 1
 end
def uptoSmall : (H : Type) → List (DataW H) → Bool := fun _ ds => decide (uptoBulkAll ds ≤ 1048576)
def OpenSpec.upto (s : _root_.Go.ChangeSpec) : _root_.Go.OpenSpec := { _root_.Go.OpenSpec.ofChange s with cond := some uptoSmall }

/-- 'laws.FnOrders', WHERE WHAT IT READS IS OF BULK AT MOST 1048576: true; the input reads as it did. -/
def fnOrdersUptoRow : OpenClaim := { program := "ytmgfohpmiiomkaa", sum := "89184d91a3284cf109bd579ca8ef48163d59c14dbb728348a68a06dd03d5d3fe", func := "loop.example/g00965/laws.FnOrders", spec := "fnOrders", unfollowed := true, recurses := true, apart := false, narrowed := true }
def FnOrdersUptoSaid : Prop := fnOrdersUptoRow.holds Try.pinned (OpenSpec.upto fnOrdersSpec)

/-- 'laws.FnExactPlanFault', WHERE WHAT IT READS IS OF BULK AT MOST 1048576: true; the input reads as it did. -/
def fnExactPlanFaultUptoRow : OpenClaim := { program := "ytmgfohpmiiomkaa", sum := "89184d91a3284cf109bd579ca8ef48163d59c14dbb728348a68a06dd03d5d3fe", func := "loop.example/g00965/laws.FnExactPlanFault", spec := "fnExactPlanFault", apart := false, narrowed := true }
def FnExactPlanFaultUptoSaid : Prop := fnExactPlanFaultUptoRow.holds Try.pinned (OpenSpec.upto fnExactPlanFaultSpec)

/-- 'laws.FnExactReaches', WHERE WHAT IT READS IS OF BULK AT MOST 1048576: true; the input reads as it did. -/
def fnExactReachesUptoRow : OpenClaim := { program := "ytmgfohpmiiomkaa", sum := "89184d91a3284cf109bd579ca8ef48163d59c14dbb728348a68a06dd03d5d3fe", func := "loop.example/g00965/laws.FnExactReaches", spec := "fnExactReaches", apart := false, narrowed := true }
def FnExactReachesUptoSaid : Prop := fnExactReachesUptoRow.holds Try.pinned (OpenSpec.upto fnExactReachesSpec)

/-- 'laws.FnExactCloseOf', WHERE WHAT IT READS IS OF BULK AT MOST 1048576: true; the input reads as it did. -/
def fnExactCloseOfUptoRow : OpenClaim := { program := "ytmgfohpmiiomkaa", sum := "89184d91a3284cf109bd579ca8ef48163d59c14dbb728348a68a06dd03d5d3fe", func := "loop.example/g00965/laws.FnExactCloseOf", spec := "fnExactCloseOf", apart := false, narrowed := true }
def FnExactCloseOfUptoSaid : Prop := fnExactCloseOfUptoRow.holds Try.pinned (OpenSpec.upto fnExactCloseOfSpec)

/-- 'laws.FnPlans', WHERE WHAT IT READS IS OF BULK AT MOST 1048576: true; the input reads as it did. -/
def fnPlansUptoRow : OpenClaim := { program := "ytmgfohpmiiomkaa", sum := "89184d91a3284cf109bd579ca8ef48163d59c14dbb728348a68a06dd03d5d3fe", func := "loop.example/g00965/laws.FnPlans", spec := "fnPlans", recurses := true, apart := false, narrowed := true }
def FnPlansUptoSaid : Prop := fnPlansUptoRow.holds Try.pinned (OpenSpec.upto fnPlansSpec)

/-- 'laws.FnExactBeforeOf', WHERE WHAT IT READS IS OF BULK AT MOST 1048576: true; the input reads as it did. -/
def fnExactBeforeOfUptoRow : OpenClaim := { program := "ytmgfohpmiiomkaa", sum := "89184d91a3284cf109bd579ca8ef48163d59c14dbb728348a68a06dd03d5d3fe", func := "loop.example/g00965/laws.FnExactBeforeOf", spec := "fnExactBeforeOf", recurses := true, apart := false, narrowed := true }
def FnExactBeforeOfUptoSaid : Prop := fnExactBeforeOfUptoRow.holds Try.pinned (OpenSpec.upto fnExactBeforeOfSpec)

/-- 'laws.FnExactBehindOf', WHERE WHAT IT READS IS OF BULK AT MOST 1048576: true; the input reads as it did. -/
def fnExactBehindOfUptoRow : OpenClaim := { program := "ytmgfohpmiiomkaa", sum := "89184d91a3284cf109bd579ca8ef48163d59c14dbb728348a68a06dd03d5d3fe", func := "loop.example/g00965/laws.FnExactBehindOf", spec := "fnExactBehindOf", recurses := true, apart := false, narrowed := true }
def FnExactBehindOfUptoSaid : Prop := fnExactBehindOfUptoRow.holds Try.pinned (OpenSpec.upto fnExactBehindOfSpec)

/-- 'laws.FnExactInOrder', WHERE WHAT IT READS IS OF BULK AT MOST 1048576: true; the input reads as it did. -/
def fnExactInOrderUptoRow : OpenClaim := { program := "ytmgfohpmiiomkaa", sum := "89184d91a3284cf109bd579ca8ef48163d59c14dbb728348a68a06dd03d5d3fe", func := "loop.example/g00965/laws.FnExactInOrder", spec := "fnExactInOrder", unfollowed := true, recurses := true, apart := false, narrowed := true }
def FnExactInOrderUptoSaid : Prop := fnExactInOrderUptoRow.holds Try.pinned (OpenSpec.upto fnExactInOrderSpec)

/-- 'laws.FnExactOrderOf', WHERE WHAT IT READS IS OF BULK AT MOST 1048576: true; the input reads as it did. -/
def fnExactOrderOfUptoRow : OpenClaim := { program := "ytmgfohpmiiomkaa", sum := "89184d91a3284cf109bd579ca8ef48163d59c14dbb728348a68a06dd03d5d3fe", func := "loop.example/g00965/laws.FnExactOrderOf", spec := "fnExactOrderOf", unfollowed := true, recurses := true, apart := false, narrowed := true }
def FnExactOrderOfUptoSaid : Prop := fnExactOrderOfUptoRow.holds Try.pinned (OpenSpec.upto fnExactOrderOfSpec)

/-- 'laws.FnExactDepthOf', WHERE WHAT IT READS IS OF BULK AT MOST 1048576: true; the input reads as it did. -/
def fnExactDepthOfUptoRow : OpenClaim := { program := "ytmgfohpmiiomkaa", sum := "89184d91a3284cf109bd579ca8ef48163d59c14dbb728348a68a06dd03d5d3fe", func := "loop.example/g00965/laws.FnExactDepthOf", spec := "fnExactDepthOf", unfollowed := true, recurses := true, apart := false, narrowed := true }
def FnExactDepthOfUptoSaid : Prop := fnExactDepthOfUptoRow.holds Try.pinned (OpenSpec.upto fnExactDepthOfSpec)

/-- 'laws.FnExactRanksOf', WHERE WHAT IT READS IS OF BULK AT MOST 1048576: true; the input reads as it did. -/
def fnExactRanksOfUptoRow : OpenClaim := { program := "ytmgfohpmiiomkaa", sum := "89184d91a3284cf109bd579ca8ef48163d59c14dbb728348a68a06dd03d5d3fe", func := "loop.example/g00965/laws.FnExactRanksOf", spec := "fnExactRanksOf", unfollowed := true, recurses := true, apart := false, narrowed := true }
def FnExactRanksOfUptoSaid : Prop := fnExactRanksOfUptoRow.holds Try.pinned (OpenSpec.upto fnExactRanksOfSpec)

end Rows
end Go.Proofs.Ytmgfohpmiiomkaa

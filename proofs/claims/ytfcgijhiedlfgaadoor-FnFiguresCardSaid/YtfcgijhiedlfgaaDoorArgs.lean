/- What a law's walk is told of each argument: its shape and what it reads as. -/
import Derived.Test.YtfcgijhiedlfgaaDoorWords
import Derived.Test.YtfcgijhiedlfgaaDoorRows
import Derived.WalkKit
import Derived.ProofKit
import Derived.OpenShut
import Derived.ShutString
namespace Go.Proofs.YtfcgijhiedlfgaaDoor
open Go.ChangeShapes Go.WideShapes Go.ChangeAt Go.RowKit Go.Deep Go.Joins
open Go.ChangeMaps (open_string shut_string)

section
variable {H : Type} {enc : TypeId × Value → H} {W : World} {base : Nat} {d : DataW H} {p : List MemPlace} {v : Value}

def ArgInt (_ : World) (v : Value) : Prop := ∃ n : Int, v = .int .i64 n ∧ (Lit.int .i64 n).wf = true
set_option maxRecDepth 100000 in
theorem arg_int (hv : Value.okWide Tryd.prog W .any base 3 v) (h : DataW.Trod enc Tryd.prog W 0 (fun _ => true) true 3 v d p) : ArgInt W v := by
  obtain ⟨n, rfl, _, _, w0⟩ := open_int Tryd.underlying3 hv h
  exact ⟨n, rfl, w0⟩

def ArgString (_ : World) (v : Value) : Prop := ∃ s : ByteArray, v = .string s ∧ s.size ≤ maxLen
set_option maxRecDepth 100000 in
theorem arg_string (hv : Value.okWide Tryd.prog W .any base 9 v) (h : DataW.Trod enc Tryd.prog W 0 (fun _ => true) true 9 v d p) : ArgString W v := by
  obtain ⟨s, rfl, _, _, w0⟩ := open_string Tryd.underlying9 hv h
  exact ⟨s, rfl, w0⟩

end
end Go.Proofs.YtfcgijhiedlfgaaDoor

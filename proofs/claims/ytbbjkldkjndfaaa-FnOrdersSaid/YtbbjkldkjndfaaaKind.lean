/- Words that the kinds of arguments share. No program in sight. -/
import Derived.Test.YtbbjkldkjndfaaaOwn
import Derived.Test.YtbbjkldkjndfaaaCopyRow
namespace Go.Proofs.Ytbbjkldkjndfaaa
open Go.RowKit Go.ChangeShapes Go.Deep
/-- What is left of a size. -/
def szv (left : Int) (c : Nat) : Int := if left - c < 0 then -1 else left - c
/-- The marks of numbers. -/
def mInt (k : Int) : Value := .int .i64 k
theorem rowIs_madeN (w : World) (z : Array Value) (n : Nat) (t : TypeId) : (w.alloc (.cells (madeCells z n) t)).rowIs w.heap.size t n (fun j => z[j % z.size]!) :=
  ⟨_, blk_alloc_new _ _, size_madeCells _ _, fun i hi => by simp [madeCells, hi]⟩
end Go.Proofs.Ytbbjkldkjndfaaa

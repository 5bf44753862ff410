/- Slices of entries, in the words that the laws' walks use. -/
import Derived.Test.YthjkmefbjbfonaaEntS
import Derived.Test.YthjkmefbjbfonaaOwn
namespace Go.Proofs.Ythjkmefbjbfonaa
open Go.RowKit Go.ChangeShapes Go.Deep

/-- What is left of a size. -/
def szv (left : Int) (c : Nat) : Int := if left - c < 0 then -1 else left - c
def cost_entries (l : List Ent) : Nat := l.length
def cells_entries (l : List Ent) : Nat := l.length * 4
theorem cells_le_entries (l : List Ent) : cells_entries l ≤ 4 * cost_entries l := by unfold cells_entries cost_entries; omega
def Rd_entries (w : World) (v : Value) (l : List Ent) : Prop := Rd w 4 v l.length (entV l)
def Own_entries (w : World) (lo hi : Nat) (v : Value) (l : List Ent) : Prop := OwnS w lo hi 61 4 v l.length (entV l)
def Held_entries (w : World) (lo hi : Nat) (v : Value) (l : List Ent) (k : Int) : Prop := OwnS w lo hi 61 4 v l.length (marks mInt k (l.length * 4))
section
variable {w w' : World} {lo hi lo' hi' : Nat} {v : Value} {l : List Ent} {k : Int}
theorem Rd_entries.below (h : Rd_entries w v l) (hb : Below w.heap.size w w') : Rd_entries w' v l := Rd.below h hb
theorem Own_entries.rd (h : Own_entries w lo hi v l) : Rd_entries w v l := OwnS.rd h
theorem Own_entries.below (h : Own_entries w lo hi v l) (hb : Below w.heap.size w w') : Own_entries w' lo hi v l := OwnS.below h hb
theorem Own_entries.keep (h : Own_entries w lo hi v l) (hp : Part lo' hi' w w') (ha : hi ≤ lo' ∨ hi' ≤ lo) : Own_entries w' lo hi v l := OwnS.keep h hp ha
theorem Held_entries.below (h : Held_entries w lo hi v l k) (hb : Below w.heap.size w w') : Held_entries w' lo hi v l k := OwnS.below h hb
theorem Held_entries.keep (h : Held_entries w lo hi v l k) (hp : Part lo' hi' w w') (ha : hi ≤ lo' ∨ hi' ≤ lo) : Held_entries w' lo hi v l k := OwnS.keep h hp ha
end
end Go.Proofs.Ythjkmefbjbfonaa

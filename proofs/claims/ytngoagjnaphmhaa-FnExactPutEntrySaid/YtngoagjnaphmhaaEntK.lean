/- Slices of entries, in the words that the laws' walks use. -/
import Derived.Test.YtngoagjnaphmhaaEntS
import Derived.Test.YtngoagjnaphmhaaOwn
namespace Go.Proofs.Ytngoagjnaphmhaa
open Go.RowKit Go.ChangeShapes Go.Deep

/-- What is left of a size. -/
def szv (left : Int) (c : Nat) : Int := if left - c < 0 then -1 else left - c
def cost_entries (l : List Ent) : Nat := l.length
def cells_entries (l : List Ent) : Nat := l.length * 4
theorem cells_le_entries (l : List Ent) : cells_entries l ≤ 4 * cost_entries l := by unfold cells_entries cost_entries; omega
def Rd_entries (w : World) (v : Value) (l : List Ent) : Prop := Rd w 4 v l.length (entV l)
def Own_entries (w : World) (lo hi : Nat) (v : Value) (l : List Ent) : Prop := OwnS w lo hi 33 4 v l.length (entV l)
def Held_entries (w : World) (lo hi : Nat) (v : Value) (l : List Ent) (k : Int) : Prop := OwnS w lo hi 33 4 v l.length (marks mInt k (l.length * 4))
section
variable {w w' : World} {lo hi lo' hi' : Nat} {v : Value} {l : List Ent} {k : Int}
theorem Rd_entries.below (h : Rd_entries w v l) (hb : Below w.heap.size w w') : Rd_entries w' v l := Rd.below h hb
theorem Own_entries.rd (h : Own_entries w lo hi v l) : Rd_entries w v l := OwnS.rd h
theorem Own_entries.below (h : Own_entries w lo hi v l) (hb : Below w.heap.size w w') : Own_entries w' lo hi v l := OwnS.below h hb
theorem Own_entries.keep (h : Own_entries w lo hi v l) (hp : Part lo' hi' w w') (ha : hi ≤ lo' ∨ hi' ≤ lo) : Own_entries w' lo hi v l := OwnS.keep h hp ha
theorem Held_entries.below (h : Held_entries w lo hi v l k) (hb : Below w.heap.size w w') : Held_entries w' lo hi v l k := OwnS.below h hb
theorem Held_entries.keep (h : Held_entries w lo hi v l k) (hp : Part lo' hi' w w') (ha : hi ≤ lo' ∨ hi' ≤ lo) : Held_entries w' lo hi v l k := OwnS.keep h hp ha
end
theorem sz_entries (v : Value) (l : List Ent) (left : Int) (w : World) (h : Rd_entries w v l) (h0 : 0 ≤ left) (h1 : left ≤ 1048576) :
    Calls Try.prog 9 #[v, .int .i64 left] w fun e w' => e = .returned (.int .i64 (szv left (cost_entries l))) ∧ w = w' := szEntryS_any v l left w h h0 h1
theorem to_entries (v : Value) (l : List Ent) (w : World) (h : Rd_entries w v l) (hn : cost_entries l ≤ 1048576) :
    Calls Try.prog 11 #[v] w fun e w' => ∃ u, e = .returned u ∧ Own_entries w' w.heap.size w'.heap.size u l ∧ Below w.heap.size w w' :=
  (toEntryS_any v l w h hn).mono fun _ _ ⟨u, he, ho, hb⟩ => ⟨u, he, OwnS.of_own ho, hb⟩
theorem eq_entries (v u : Value) (l : List Ent) (w : World) (h1 : Rd_entries w v l) (h2 : Rd_entries w u l) :
    Calls Try.prog 13 #[v, u] w fun e w' => e = .returned (.bool true) ∧ Below w.heap.size w w' := eqEntryS_any v u l w h1 h2
theorem mark_entries (v : Value) (l : List Ent) (lo hi : Nat) (k : Int) (w : World) (h : Own_entries w lo hi v l) (h0 : 0 ≤ k) (h1 : k ≤ 10000000) (hn : cells_entries l ≤ 10000000) :
    Calls Try.prog 16 #[v, .int .i64 k] w fun e w' => e = .returned (.int .i64 (k + ((cells_entries l : Nat) : Int))) ∧ Held_entries w' lo hi v l k ∧ Part lo hi w w' :=
  (markEntryS_any v l.length lo _ k w h.1 h0 h1 (by unfold cells_entries at hn; omega)).mono fun _ _ hm => MarkedS.of h hm
theorem held_entries (v : Value) (l : List Ent) (lo hi : Nat) (k : Int) (w : World) (h : Held_entries w lo hi v l k) (h0 : 0 ≤ k) (h1 : k ≤ 10000000) (hn : cells_entries l ≤ 10000000) :
    Calls Try.prog 17 #[v, .int .i64 k] w fun e w' => e = .returned (.int .i64 (k + ((cells_entries l : Nat) : Int))) ∧ Below w.heap.size w w' :=
  (heldEntryS_any v l.length k w (OwnS.rd h) h0 h1 (by unfold cells_entries at hn; omega)).mono fun _ _ ⟨he, hw⟩ => ⟨he, hw ▸ Below.refl _ _⟩
theorem eq_entry (x : Ent) (w : World) : Calls Try.prog 20 #[(.agg #[.int .i64 x.prio, .int .i64 x.seq, .int .i64 x.run, .int .i64 x.task]), (.agg #[.int .i64 x.prio, .int .i64 x.seq, .int .i64 x.run, .int .i64 x.task])] w fun e w' => e = .returned (.bool true) ∧ Below w.heap.size w w' := eqEntry_any x w
theorem to_entry (x : Ent) (w : World) : Calls Try.prog 22 #[(.agg #[.int .i64 x.prio, .int .i64 x.seq, .int .i64 x.run, .int .i64 x.task])] w fun e w' => e = .returned (.agg #[.int .i64 x.prio, .int .i64 x.seq, .int .i64 x.run, .int .i64 x.task]) ∧ Below w.heap.size w w' := toEntry_any x.prio x.seq x.run x.task w
end Go.Proofs.Ytngoagjnaphmhaa

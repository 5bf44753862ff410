/- Things of the call's own, told by the blocks in which they lie, and what keeps them. No program in sight. -/
import Derived.Test.YtbbjkldkjndfaaaSlices
namespace Go.Proofs.Ytbbjkldkjndfaaa
open Go.RowKit Go.Deep

/-- w' is w with new blocks, and with writes to the blocks lo .. hi - 1 alone. -/
structure Part (lo hi : Nat) (w w' : World) : Prop where
  os : w'.os = w.os
  tape : w'.tape = w.tape
  output : w'.output = w.output
  size : w.heap.size ≤ w'.heap.size
  block : ∀ i, i < w.heap.size → (i < lo ∨ hi ≤ i) → w'.heap[i]? = w.heap[i]?

theorem Part.refl (lo hi : Nat) (w : World) : Part lo hi w w := ⟨rfl, rfl, rfl, Nat.le_refl _, fun _ _ _ => rfl⟩
theorem Part.trans {lo hi : Nat} {a b c : World} (h : Part lo hi a b) (k : Part lo hi b c) : Part lo hi a c :=
  ⟨k.os.trans h.os, k.tape.trans h.tape, k.output.trans h.output, Nat.le_trans h.size k.size, fun i hi ho => (k.block i (Nat.lt_of_lt_of_le hi h.size) ho).trans (h.block i hi ho)⟩
theorem Part.mono {lo hi lo' hi' : Nat} {a b : World} (h : Part lo hi a b) (h1 : lo' ≤ lo) (h2 : hi ≤ hi') : Part lo' hi' a b :=
  ⟨h.os, h.tape, h.output, h.size, fun i hi ho => h.block i hi (by omega)⟩
theorem Part.of_below {lo hi : Nat} {w w' : World} (h : Below w.heap.size w w') : Part lo hi w w' := ⟨h.os, h.tape, h.output, h.size, fun i hi _ => h.block i hi⟩
theorem Part.of_grown {lo hi : Nat} {w w' : World} {row : Option Nat} (h : w.grownBy w' row) (hr : ∀ g, row = some g → lo ≤ g ∧ g < hi) : Part lo hi w w' :=
  ⟨h.os, h.tape, h.output, h.size, fun i hi ho => h.block i hi (fun e => by have := hr i e.symm; omega)⟩
theorem Part.to_below {B lo hi : Nat} {a w w' : World} (h : Below B a w) (k : Part lo hi w w') (hB : B ≤ lo) (hs : B ≤ a.heap.size) : Below B a w' :=
  ⟨k.os.trans h.os, k.tape.trans h.tape, k.output.trans h.output, Nat.le_trans h.size k.size, fun i hi => (k.block i (by have := h.size; omega) (by omega)).trans (h.block i hi)⟩

theorem Part.setCell {lo hi : Nat} {a w : World} (h : Part lo hi a w) {p : Addr} (hp : lo ≤ p.block ∧ p.block < hi) (u : Value) : Part lo hi a (w.setCell p u) :=
  ⟨h.os, h.tape, h.output, by simpa [World.setCell] using h.size, fun i hi ho => (Below.heap_setCell w p u i (by omega)).trans (h.block i hi ho)⟩
theorem Part.alloc {lo hi : Nat} {a w : World} (h : Part lo hi a w) (o : Obj) : Part lo hi a (w.alloc o) := h.trans (Part.of_below ((Below.refl _ _).alloc (Nat.le_refl _) _))
theorem Part.drew {lo hi : Nat} {a w : World} (h : Part lo hi a w) : Part lo hi a w.drew := ⟨h.os, h.tape, h.output, h.size, h.block⟩

/-- The slice value v is nil, or the head of a row of the call's own in one of the blocks lo .. hi - 1; its elements read as xs. -/
def OwnS (w : World) (lo hi : Nat) (e : TypeId) (size : Nat) (v : Value) (n : Nat) (xs : List Value) : Prop := w.ownsRow lo e size v n xs ∧ hi ≤ w.heap.size ∧ ∀ g, v.ownBlock = some g → g < hi
section
variable {w w' w0 : World} {lo hi lo' hi' size n : Nat} {e : TypeId} {v : Value} {xs : List Value}
theorem OwnS.keep (h : OwnS w lo hi e size v n xs) (k : Part lo' hi' w w') (ha : hi ≤ lo' ∨ hi' ≤ lo) : OwnS w' lo hi e size v n xs := by
  obtain ⟨h1, h2, h3⟩ := h
  refine ⟨?_, Nat.le_trans h2 k.size, h3⟩
  rcases h1.2 with h0 | ⟨g, cap, cur, rfl, hb, hg, hr⟩
  · exact ⟨h1.1, .inl h0⟩
  · have hgh := h3 g rfl
    exact ⟨h1.1, .inr ⟨g, cap, cur, rfl, hb, (k.block g (by omega) (by omega)).trans hg, hr⟩⟩
theorem OwnS.below (h : OwnS w lo hi e size v n xs) (hb : Below w.heap.size w w') : OwnS w' lo hi e size v n xs := h.keep (Part.of_below (lo := hi) (hi := hi) hb) (.inl (Nat.le_refl _))
theorem OwnS.rd (h : OwnS w lo hi e size v n xs) : Rd w size v n xs := Rd.of_own h.1
theorem OwnS.of_own (h : w.ownsRow lo e size v n xs) : OwnS w lo w.heap.size e size v n xs := ⟨h, Nat.le_refl _, fun g hg => (h.lt g hg).2⟩
theorem OwnS.mono (h : OwnS w lo hi e size v n xs) (h1 : lo' ≤ lo) (h2 : hi ≤ hi') (h3 : hi' ≤ w.heap.size) : OwnS w lo' hi' e size v n xs :=
  ⟨own_more h.1 h1, h3, fun g hg => Nat.lt_of_lt_of_le (h.2.2 g hg) h2⟩
theorem OwnS.nil (h : hi ≤ w.heap.size) : OwnS w lo hi e size (.slice none 0 0) 0 [] := ⟨⟨by simp, .inl ⟨rfl, rfl⟩⟩, h, fun _ hg => by simp [Value.ownBlock] at hg⟩
/-- What a call leaves that marks a slice. -/
def MarkedS (w0 : World) (lo hi : Nat) (e : TypeId) (size n : Nat) (v : Value) (M : Int → Value) (k : Int) (r : Ending) (w' : World) : Prop :=
  r = .returned (.int .i64 (k + ((n * size : Nat) : Int))) ∧ OwnS w' lo hi e size v n (marks M k (n * size)) ∧ Part lo hi w0 w'
theorem MarkedS.of {M : Int → Value} {k : Int} {r : Ending} (h : OwnS w0 lo hi e size v n xs) (hm : Marked w0 lo e size n v M k r w') : MarkedS w0 lo hi e size n v M k r w' := by
  obtain ⟨h1, h2, h3⟩ := hm
  exact ⟨h1, ⟨h2, Nat.le_trans h.2.1 h3.size, h.2.2⟩, Part.of_grown h3 fun g hg => ⟨(h.1.lt g hg).1, h.2.2 g hg⟩⟩
end
theorem made0 {w : World} {base g size : Nat} {e : TypeId} (hg : g = w.heap.size) (hb : base ≤ g) : (w.alloc (.cells #[] e)).ownsRow base e size (.slice (some ⟨g, 0, none⟩) 0 0) 0 [] := by
  subst hg
  exact World.ownsRow_made w #[] 0 hb (by decide) (by simp)
/-- A variable's block. -/
theorem Blk.belowV {w w' : World} {g : Nat} {t : TypeId} {cs : Array Value} (h : Blk w g t cs) (hb : Below w.heap.size w w') : Blk w' g t cs := h.below hb h.lt
theorem Blk.keepV {w w' : World} {g lo hi : Nat} {t : TypeId} {cs : Array Value} (h : Blk w g t cs) (k : Part lo hi w w') (ha : g < lo ∨ hi ≤ g) : Blk w' g t cs := (k.block g h.lt ha).trans h
def CellsV (w : World) (g : Nat) : Nat → List Value → Prop
  | _, [] => True
  | j, [v] => w.cell? ⟨g, j, none⟩ = some v
  | j, v :: l => w.cell? ⟨g, j, none⟩ = some v ∧ CellsV w g (j + 1) l
theorem CellsV.of {w : World} {g : Nat} {t : TypeId} {cs : Array Value} (h : Blk w g t cs) : ∀ (l : List Value) (j : Nat), (∀ i u, l[i]? = some u → cs[j + i]? = some u) → CellsV w g j l
  | [], _, _ => trivial
  | [v], j, hl => (h.cell j).trans (by simpa using hl 0 v rfl)
  | v :: u :: l, j, hl => ⟨(h.cell j).trans (by simpa using hl 0 v rfl), CellsV.of h (u :: l) (j + 1) fun i x hx => by rw [show j + 1 + i = j + (i + 1) by omega]; exact hl (i + 1) x hx⟩
theorem Blk.cellsV {w : World} {g : Nat} {t : TypeId} {l : List Value} (h : Blk w g t l.toArray) : CellsV w g 0 l := CellsV.of h l 0 fun i u hu => by simpa using hu
/-- What a call leaves that hands back one thing of its own, two of them, one and a bool. -/
def Gives1 (R : World → Nat → Nat → Value → Prop) (w0 : World) (e : Ending) (w' : World) : Prop := ∃ u, e = .returned u ∧ R w' w0.heap.size w'.heap.size u ∧ Below w0.heap.size w0 w'
def Gives2 (R S : World → Nat → Nat → Value → Prop) (w0 : World) (e : Ending) (w' : World) : Prop :=
  ∃ u0 u1 m, e = .returned (.tuple #[u0, u1]) ∧ R w' w0.heap.size m u0 ∧ S w' m w'.heap.size u1 ∧ (w0.heap.size ≤ m ∧ m ≤ w'.heap.size) ∧ Below w0.heap.size w0 w'
def Gives2' (R S : World → Nat → Nat → Value → Prop) (w0 : World) (e : Ending) (w' : World) : Prop :=
  ∃ u0 u1, e = .returned (.tuple #[u0, u1]) ∧ R w' w0.heap.size w'.heap.size u0 ∧ S w' w0.heap.size w'.heap.size u1 ∧ Below w0.heap.size w0 w'
def GivesB (R : World → Nat → Nat → Value → Prop) (b : Bool) (w0 : World) (e : Ending) (w' : World) : Prop := ∃ u, e = .returned (.tuple #[u, .bool b]) ∧ R w' w0.heap.size w'.heap.size u ∧ Below w0.heap.size w0 w'
end Go.Proofs.Ytbbjkldkjndfaaa

/- Drawn disks and what is kept of them: the plain functions. -/
import Derived.Test.YthjkmefbjbfonaaTextD
import Derived.Test.YthjkmefbjbfonaaDiskLaw
namespace Go.Proofs.Ythjkmefbjbfonaa
set_option linter.unusedSimpArgs false
set_option linter.unusedVariables false
open Go.RowKit Go.ChangeShapes Go.Deep

abbrev Cur := Nat × Int
def fileD (code : List UInt8) (nm : ByteArray) (c : Cur) : Fil × Cur :=
  let n := curBelow code 9 c
  let t := textD code n.1 n.2
  let p := curBelow code ((t.1.size : Int) + 1) t.2
  let q := curBelow code 3 p.2
  (⟨nm, t.1, if q.1 = 0 then (t.1.size : Int) else p.1⟩, q.2)
def diskGo (code : List UInt8) : Nat → Nat → List Fil → Cur → List Fil × Cur
  | 0, _, l, c => (l, c)
  | f + 1, i, l, c =>
    if (i : Int) < (curBelow code 5 c).1 then
      if (curBelow code 5 (curBelow code 5 c).2).1 = 0 then diskGo code f (i + 1) l (curBelow code 5 (curBelow code 5 c).2).2
      else diskGo code f (i + 1) (l ++ [(fileD code (names4.getD i txLog) (curBelow code 5 (curBelow code 5 c).2).2).1]) (fileD code (names4.getD i txLog) (curBelow code 5 (curBelow code 5 c).2).2).2
    else (l, (curBelow code 5 c).2)
def keepL : List Int := [0, 1, 2, 3, 5, 100, -1, 9223372036854775807]
def keepGo (code : List UInt8) : Nat → Nat → List Int → Cur → List Int
  | 0, _, l, _ => l
  | f + 1, i, l, c =>
    if (i : Int) < (curBelow code 5 c).1 then keepGo code f (i + 1) (l ++ [keepL.getD (curBelow code 8 (curBelow code 5 c).2).1.toNat 0]) (curBelow code 8 (curBelow code 5 c).2).2
    else l
def diskD (code : List UInt8) : List Fil × Cur := diskGo code 5 0 [] (newC code)
def keepD (code : List UInt8) : List Int := keepGo code 5 0 [] (diskD code).2
def FilesD (i : Nat) (l : List Fil) : Prop := (namesOf l).Sublist (names4.take i) ∧ ∀ f ∈ l, f.data.size ≤ 8 ∧ 0 ≤ f.safe ∧ f.safe ≤ f.data.size
theorem fileD_good (code : List UInt8) (nm : ByteArray) (c : Cur) : (fileD code nm c).1.name = nm ∧ (fileD code nm c).1.data.size ≤ 8 ∧ 0 ≤ (fileD code nm c).1.safe ∧ (fileD code nm c).1.safe ≤ (fileD code nm c).1.data.size := by
  have h1 := curBelow_bd code 9 c (by omega)
  have h2 := textD_size code (curBelow code 9 c).1 (curBelow code 9 c).2
  have h3 := curBelow_bd code ((((textD code (curBelow code 9 c).1 (curBelow code 9 c).2).1.size : Nat) : Int) + 1) (textD code (curBelow code 9 c).1 (curBelow code 9 c).2).2 (by omega)
  refine ⟨rfl, ?_, ?_, ?_⟩
  · show (textD code (curBelow code 9 c).1 (curBelow code 9 c).2).1.size ≤ 8
    omega
  · unfold fileD
    dsimp only
    split <;> omega
  · unfold fileD
    dsimp only
    split <;> omega
theorem FilesD.skip {i : Nat} {l : List Fil} (h : FilesD i l) : FilesD (i + 1) l := by
  refine ⟨h.1.trans ?_, h.2⟩
  exact List.take_sublist_take_left (by omega)
theorem FilesD.put {i : Nat} {l : List Fil} (h : FilesD i l) (hi : i < 4) {f : Fil} (hn : f.name = names4.getD i txLog) (hf : f.data.size ≤ 8 ∧ 0 ≤ f.safe ∧ f.safe ≤ f.data.size) : FilesD (i + 1) (l ++ [f]) := by
  refine ⟨?_, fun g hg => ?_⟩
  · have hl : i < names4.length := hi
    rw [← List.take_append_getElem hl]
    unfold namesOf
    rw [List.map_append]
    refine h.1.append ?_
    rw [List.map_singleton, hn]
    simp [List.getD, hl]
  · rcases List.mem_append.1 hg with hg | hg
    · exact h.2 g hg
    · obtain rfl := List.mem_singleton.1 hg
      exact hf
theorem diskGo_inv (code : List UInt8) : ∀ (f i : Nat) (l : List Fil) (c : Cur), i + f = 5 → FilesD i l → FilesD 5 (diskGo code f i l c).1
  | 0, i, l, c, hi, h => by
    obtain rfl : i = 5 := by omega
    exact h
  | f + 1, i, l, c, hi, h => by
    have up : ∀ n, FilesD (i + n) l := fun n => by
      induction n with
      | zero => exact h
      | succ n ih => exact ih.skip
    have hb := curBelow_bd code 5 c (by omega)
    rw [diskGo]
    split
    · split
      · exact diskGo_inv code f (i + 1) _ _ (by omega) h.skip
      · have g := fileD_good code (names4.getD i txLog) (curBelow code 5 (curBelow code 5 c).2).2
        exact diskGo_inv code f (i + 1) _ _ (by omega) (h.put (by omega) g.1 g.2)
    · have := up (5 - i)
      rwa [show i + (5 - i) = 5 by omega] at this
theorem disk_drawn (code : List UInt8) : DrawnDisk (diskD code).1 := by
  have h := diskGo_inv code 5 0 [] (newC code) rfl ⟨List.Sublist.refl _, fun f hf => by cases hf⟩
  exact ⟨h.1, h.2⟩
theorem keepGo_len (code : List UInt8) : ∀ (f i : Nat) (l : List Int) (c : Cur), i + f = 5 → l.length = i → (keepGo code f i l c).length ≤ 5
  | 0, i, l, c, hi, h => by rw [keepGo]; omega
  | f + 1, i, l, c, hi, h => by
    rw [keepGo]
    split
    · exact keepGo_len code f (i + 1) _ _ (by omega) (by rw [List.length_append]; simp; omega)
    · omega
theorem keep_len (code : List UInt8) : (keepD code).length ≤ 5 := keepGo_len code 5 0 [] _ rfl rfl
end Go.Proofs.Ythjkmefbjbfonaa

/- MoveFile: the plain facts. No program in sight. -/
import Derived.Test.YthjkmefbjbfonaaDiskP
namespace Go.Proofs.Ythjkmefbjbfonaa
set_option linter.unusedSimpArgs false
set_option linter.unusedVariables false
open Go.RowKit Go.ChangeShapes Go.Deep

def renF (x : Fil) (b : ByteArray) : Fil := ⟨b, x.data, x.safe⟩
def moveFileR1 (d : List Fil) (a b : ByteArray) : Bool := if h : atF a d < d.length then diskOkR d && decide (a ≠ b) && nmOk b && decide (d[atF a d].safe = (d[atF a d].data.size : Int)) else false
def movedL (d : List Fil) (k : Nat) (x : Fil) (b : ByteArray) : List Fil := (d.set k (renF x b)).eraseIdx (atF b d)
def moveFileR0 (d : List Fil) (a b : ByteArray) : List Fil := if h : atF a d < d.length then (if moveFileR1 d a b then movedL d (atF a d) d[atF a d] b else d) else d
/-- How far the walk over the files has come. -/
def movedTo (l : List Fil) (p i : Nat) : List Fil := (l.take i).eraseIdx p
theorem movedTo_zero (l : List Fil) (p : Nat) : movedTo l p 0 = [] := by simp [movedTo]
theorem movedTo_end (l : List Fil) (p : Nat) : movedTo l p l.length = l.eraseIdx p := by rw [movedTo, List.take_length]
theorem movedTo_at {l : List Fil} {i : Nat} (hi : i < l.length) : movedTo l i (i + 1) = movedTo l i i := by
  unfold movedTo
  rw [← List.take_append_getElem hi, List.eraseIdx_append_of_length_le (by rw [List.length_take]; omega), List.length_take, Nat.min_eq_left (by omega), Nat.sub_self, List.eraseIdx_of_length_le (l := l.take i) (by rw [List.length_take]; omega)]
  simp
theorem movedTo_on {l : List Fil} {p i : Nat} (hi : i < l.length) (hp : i ≠ p) : movedTo l p (i + 1) = movedTo l p i ++ [l[i]] := by
  unfold movedTo
  by_cases h : i < p
  · rw [List.eraseIdx_of_length_le (by rw [List.length_take]; omega), List.eraseIdx_of_length_le (by rw [List.length_take]; omega), List.take_append_getElem hi]
  · rw [← List.take_append_getElem hi, List.eraseIdx_append_of_lt_length (by rw [List.length_take]; omega)]
theorem movedTo_length (l : List Fil) (p i : Nat) : (movedTo l p i).length ≤ i := by
  unfold movedTo
  have := List.length_eraseIdx_le (l.take i) p
  rw [List.length_take] at this
  omega
theorem name_at {d : List Fil} (h : diskOkR d = true) {i : Nat} (hi : i < d.length) (b : ByteArray) : d[i].name = b ↔ i = atF b d := by
  constructor
  · intro e; rw [← e]; exact (ok_at h hi).symm
  · intro e; have h1 : atF b d < d.length := by omega
    have := atF_name h1
    subst e
    exact this
theorem okF_erase {d : List Fil} {k : Nat} (h : okF d) : okF (d.eraseIdx k) := fun f hf => h f (List.mem_of_mem_eraseIdx hf)
end Go.Proofs.Ythjkmefbjbfonaa

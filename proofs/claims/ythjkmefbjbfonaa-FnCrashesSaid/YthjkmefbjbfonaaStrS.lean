/- Slices of strings: the law's own functions on them. -/
import Derived.Test.YthjkmefbjbfonaaMarkText
namespace Go.Proofs.Ythjkmefbjbfonaa
open Go.RowKit Go.ChangeShapes Go.Deep

def strV (l : List ByteArray) : List Value := l.map Value.string
theorem strV_at {l : List ByteArray} {k : Nat} (h : k < l.length) : (strV l)[k]? = some (.string l[k]) := by simp [strV, h]
theorem strV_length (l : List ByteArray) : (strV l).length = l.length := by simp [strV]
theorem Try.infoStr : (Try.prog.info? 9).map (fun i => (i.zero, i.size, i.bytes)) = some (some (.string ⟨#[]⟩), 1, 16) := by kernel_rfl

def szStrGo : Int → List ByteArray → Int
  | left, [] => left
  | left, b :: r => if left - b.size < 0 then -1 else szStrGo (left - b.size) r
def szStr (left : Int) (l : List ByteArray) : Int := if left - l.length < 0 then -1 else szStrGo (left - l.length) l
def sizes : List ByteArray → Nat
  | [] => 0
  | b :: r => b.size + sizes r
theorem szStrGo_ok : ∀ (l : List ByteArray) (left : Int), 0 ≤ szStrGo left l → szStrGo left l = left - sizes l ∧ 0 ≤ left - (sizes l : Int)
  | [], left, h => by simp only [szStrGo, sizes] at *; omega
  | b :: r, left, h => by
    rw [szStrGo] at *
    by_cases hb : left - b.size < 0
    · rw [if_pos hb] at h; omega
    · rw [if_neg hb] at h ⊢
      have := szStrGo_ok r _ h
      simp only [sizes]
      omega
theorem szStr_ok {left : Int} {l : List ByteArray} (h : 0 ≤ szStr left l) : szStr left l = left - l.length - sizes l ∧ 0 ≤ left - l.length - (sizes l : Int) := by
  unfold szStr at *
  by_cases hb : left - l.length < 0
  · rw [if_pos hb] at h; omega
  · rw [if_neg hb] at h ⊢; exact szStrGo_ok l _ h

/-- The marks of strings. -/
def mStr (k : Int) : Value := .string (mtext k)
end Go.Proofs.Ythjkmefbjbfonaa

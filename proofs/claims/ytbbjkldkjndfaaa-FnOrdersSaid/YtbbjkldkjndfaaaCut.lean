/- Slices that are cut: what they are and what they read as. No program in sight. -/
import Derived.Test.YtbbjkldkjndfaaaOwn
namespace Go.Proofs.Ytbbjkldkjndfaaa
open Go.RowKit Go.Deep

/-- The slice l .. h of a slice at A with capacity m, elements of s cells. -/
def cutAt (A : Option Addr) (l h m s : Nat) : Value := .slice (if m = l then A else A.map (·.add (l * s))) (h - l) (m - l)
theorem cutAt_eq (A : Option Addr) (l h m s : Nat) : sliced A l h m s = cutAt A l h m s := rfl
theorem cutAt_shape (A : Option Addr) (l h m s : Nat) : ∃ A', cutAt A l h m s = .slice A' (h - l) (m - l) := ⟨_, rfl⟩
section
variable {P : Program} {t e : TypeId} {i : TypeInfo}
theorem elem_of (ht : P.underlying t = some (.slice e)) : P.elem t = e := by simp [Program.elem, ht]
theorem run_cut_l (ht : P.underlying t = some (.slice e)) (hi : P.info? e = some i) (A : Option Addr) (n c : Nat) (k : IntKind) (l : Nat) (h : l ≤ n) (W : World) :
    (Instr.slice t (.slice A n c) (some (.int k (l : Int))) none none).run P W = .ok (cutAt A l n c i.size) W := by
  rw [run_slice_l W t A n c (by rw [elem_of ht]; exact ht) k l (by omega) (by omega), elem_of ht]
  simp [sizeOf, typeInfo, hi, Result.andThen, cutAt_eq]
theorem run_cut_h (ht : P.underlying t = some (.slice e)) (hi : P.info? e = some i) (A : Option Addr) (n c : Nat) (k : IntKind) (l : Nat) (h : l ≤ c) (W : World) :
    (Instr.slice t (.slice A n c) none (some (.int k (l : Int))) none).run P W = .ok (cutAt A 0 l c i.size) W := by
  rw [run_slice_h W t A n c (by rw [elem_of ht]; exact ht) k l (by omega) (by omega), elem_of ht]
  simp [sizeOf, typeInfo, hi, Result.andThen, cutAt_eq]
theorem run_cut_l' (ht : P.underlying t = some (.slice e)) (hi : P.info? e = some i) (g o n c : Nat) (k : IntKind) (l : Nat) (h : l ≤ n) (hc : l < c) (W : World) :
    (Instr.slice t (.slice (some ⟨g, o, none⟩) n c) (some (.int k (l : Int))) none none).run P W = .ok (.slice (some ⟨g, o + l * i.size, none⟩) (n - l) (c - l)) W := by
  rw [run_cut_l ht hi _ n c k l h W, cutAt, if_neg (by omega)]
  congr 3
  simp only [Option.map_some, Option.some.injEq]
  unfold Addr.add
  split <;> simp_all
theorem run_cut_h' (ht : P.underlying t = some (.slice e)) (hi : P.info? e = some i) (g o n c : Nat) (k : IntKind) (l : Nat) (h : l ≤ c) (W : World) :
    (Instr.slice t (.slice (some ⟨g, o, none⟩) n c) none (some (.int k (l : Int))) none).run P W = .ok (.slice (some ⟨g, o, none⟩) l c) W := by
  rw [run_cut_h ht hi _ n c k l h W, cutAt]
  by_cases hc : c = 0
  · rw [if_pos hc]; rfl
  · rw [if_neg hc]
    simp [Addr.add]
end
section
variable {w : World} {size n : Nat} {v : Value} {xs : List Value} {A : Option Addr} {c : Nat}
theorem Rd.take (h : Rd w size (.slice A n c) n xs) {k : Nat} (hk : k ≤ n) : Rd w size (cutAt A 0 k c size) k (xs.take (k * size)) := by
  obtain ⟨A1, c1, he, h1, h2, h3⟩ := h
  injection he with hA hn hc
  subst hA hc
  refine ⟨_, c, by rw [cutAt]; rfl, by omega, h2, ?_, fun hk0 => ?_⟩
  · rw [List.length_take, h3.1]
    exact Nat.min_eq_left (Nat.mul_le_mul_right _ hk)
  · obtain ⟨ad, rfl, hlt, hx⟩ := h3.2 (by omega)
    refine ⟨ad, ?_, hlt, fun j u hu => hx j u ?_⟩
    · by_cases hc0 : c = 0
      · rw [if_pos hc0]
      · rw [if_neg hc0]
        simp [Addr.add]
    · rw [List.getElem?_take] at hu
      split at hu
      · exact hu
      · cases hu
theorem Rd.drop (h : Rd w size (.slice A n c) n xs) {k : Nat} (hk : k ≤ n) : Rd w size (cutAt A k n c size) (n - k) (xs.drop (k * size)) := by
  obtain ⟨A1, c1, he, h1, h2, h3⟩ := h
  injection he with hA hn hc
  subst hA hc
  exact ⟨_, c - k, rfl, by omega, by omega, h3.cut hk h1⟩
end
end Go.Proofs.Ytbbjkldkjndfaaa

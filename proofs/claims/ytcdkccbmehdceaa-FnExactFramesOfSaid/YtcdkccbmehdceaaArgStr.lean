/- What a law's walk is told of a slice of strings. -/
import Derived.Test.YtcdkccbmehdceaaArgs
import Derived.Test.YtcdkccbmehdceaaStrS
namespace Go.Proofs.Ytcdkccbmehdceaa
open Go.ChangeShapes Go.WideShapes Go.ChangeAt Go.RowKit Go.Deep
section
variable {H : Type} {enc : TypeId × Value → H} {W : World} {base : Nat} {d : DataW H} {p : List MemPlace} {v : Value}
def ArgStrings (w : World) (v : Value) : Prop := ∃ l : List ByteArray, Rd w 1 v l.length (strV l) ∧ ∀ b ∈ l, b.size ≤ maxLen
theorem arg_strings (hv : Value.okWide Try.prog W .any base 37 v) (h : DataW.Trod enc Try.prog W 0 (fun _ => true) true 37 v d p) : ArgStrings W v := by
  obtain ⟨a0, len, cap, rfl⟩ := okWide_slice Try.underlying37 hv
  have lt0 : ∀ x ∈ p, x.block < W.heap.size := by obtain ⟨m, hm⟩ := h; exact DataW.trod_lt m _ _ _ hm
  obtain ⟨fuel, hf⟩ := h
  rcases open_strings Try.underlying37 Try.underlying9 (by kernel_rfl) hf with ⟨hcs, _⟩ | ⟨a, l, c, ss, hcs, _, hl, hm, hz, hx, hcell, hws⟩
  · simp [Value.cells] at hcs
    obtain ⟨rfl, rfl, rfl⟩ := hcs
    exact ⟨[], ⟨none, 0, rfl, Nat.le_refl _, Nat.zero_le _, Reads.none_⟩, by simp⟩
  · simp [Value.cells] at hcs
    obtain ⟨rfl, rfl, rfl⟩ := hcs
    have hz' : ss.length = cap := by simpa using hz
    have hlen : (ss.take len).length = len := by simp; omega
    refine ⟨ss.take len, ?_, fun b hb => hws b (List.mem_of_mem_take hb)⟩
    rw [hlen]
    refine ⟨some a, cap, rfl, hl, hm, by rw [strV_length, hlen, Nat.mul_one], fun hn => ⟨a, rfl, ?_, fun j u hu => ?_⟩⟩
    · have h0 := hcell 0 (by omega)
      have := World.block_lt_of_cell? W _ h0
      rwa [block_of_add] at this
    · have hj : j < len := by
        rcases Nat.lt_or_ge j len with h | h
        · exact h
        · rw [List.getElem?_eq_none (by rw [strV_length, hlen]; exact h)] at hu; cases hu
      rw [hcell j (by omega)]
      simp only [strV, List.getElem?_map, List.getElem?_take_of_lt hj] at hu
      rw [List.getElem?_eq_getElem (show j < ss.length by omega)] at hu
      simp at hu
      rw [← hu]
      simp [List.getD, List.getElem?_eq_getElem (show j < ss.length by omega)]
end
end Go.Proofs.Ytcdkccbmehdceaa

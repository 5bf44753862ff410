/- What a law's walk is told of a slice of bytes. -/
import Derived.Test.YtfcgijhiedlfgaaDoorArgs
import Derived.Test.YtfcgijhiedlfgaaDoorSlices
namespace Go.Proofs.YtfcgijhiedlfgaaDoor
open Go.ChangeShapes Go.WideShapes Go.ChangeAt Go.RowKit Go.Deep
section
variable {H : Type} {enc : TypeId × Value → H} {W : World} {base : Nat} {d : DataW H} {p : List MemPlace} {v : Value}
def ArgBytes (w : World) (v : Value) : Prop := ∃ code : List UInt8, Rd w 1 v code.length (bytesV code)
theorem wf_u8 {n : Int} (h : (Lit.int .u8 n).wf = true) : 0 ≤ n ∧ n < 256 := by
  have := bounds_u8 h
  omega
set_option maxRecDepth 100000 in
theorem arg_bytes (hv : Value.okWide Tryd.prog W .any base 32 v) (h : DataW.Trod enc Tryd.prog W 0 (fun _ => true) true 32 v d p) : ArgBytes W v := by
  obtain ⟨a0, len, cap, rfl⟩ := okWide_slice Tryd.underlying32 hv
  obtain ⟨fuel, hf⟩ := h
  rcases open_ints Tryd.underlying32 Tryd.underlying5 (by kernel_rfl) hf with ⟨hcs, _⟩ | ⟨a, l, c, zs, hcs, _, hl, hm, hz, hx, hcell, hws⟩
  · simp [Value.cells] at hcs
    obtain ⟨rfl, rfl, rfl⟩ := hcs
    exact ⟨[], none, 0, rfl, Nat.le_refl _, Nat.zero_le _, Reads.none_⟩
  · simp [Value.cells] at hcs
    obtain ⟨rfl, rfl, rfl⟩ := hcs
    have hz' : zs.length = cap := by simpa using hz
    have hlen : ((zs.take len).map fun n => UInt8.ofNat n.toNat).length = len := by simp; omega
    refine ⟨(zs.take len).map fun n => UInt8.ofNat n.toNat, ?_⟩
    rw [hlen]
    refine ⟨some a, cap, rfl, hl, hm, by rw [bytesV_length, hlen, Nat.mul_one], fun hn => ⟨a, rfl, ?_, fun j u hu => ?_⟩⟩
    · have h0 := hcell 0 (by omega)
      have := World.block_lt_of_cell? W _ h0
      rwa [block_of_add] at this
    · have hj : j < len := by
        rcases Nat.lt_or_ge j len with h | h
        · exact h
        · rw [List.getElem?_eq_none (by rw [bytesV_length, hlen]; exact h)] at hu; cases hu
      rw [hcell j (by omega)]
      have hjz : j < zs.length := by omega
      have hw := wf_u8 (hws zs[j] (List.getElem_mem hjz))
      simp only [bytesV, List.map_map, List.getElem?_map, List.getElem?_take_of_lt hj, List.getElem?_eq_getElem hjz, Option.map_some, Function.comp_apply, UInt8.toNat_ofNat'] at hu
      rw [Nat.mod_eq_of_lt (by omega), Int.toNat_of_nonneg hw.1] at hu
      rw [← hu]
      simp [List.getD, List.getElem?_eq_getElem hjz]
end
end Go.Proofs.YtfcgijhiedlfgaaDoor

/- Plain facts of the law FnVars. No program in sight. -/
import Derived.Test.YthjkmefbjbfonaaVarsPlain
import Derived.Test.YthjkmefbjbfonaaFourAt
import Derived.Laws.BitsAllLaws
namespace Go.Proofs.Ythjkmefbjbfonaa
open Go.RowKit

theorem toList_append (a b : ByteArray) : (a ++ b).data.toList = a.data.toList ++ b.data.toList := by rw [ByteArray.data_append, Array.toList_append]
theorem length_data (a : ByteArray) : a.data.toList.length = a.size := by rw [Array.length_toList]; rfl
theorem varText_list (n : Nat) (h : n ≤ 1000000000) : (varText n).data.toList = vtL 5 n := by unfold varText; rw [if_pos (by omega), Int.toNat_natCast]
theorem varText_len (n : Nat) (h : n ≤ 1000000000) : (varText n).size = (vtL 5 n).length := by rw [← length_data, varText_list n h]
theorem vars_first (n : Nat) (t : ByteArray) (h : n ≤ 1000000000) : varAt (varText n ++ t) 0 = ((n : Int), ((varText n).size : Int)) := by
  have := varAt_back (varText n ++ t) 0 n h (by rw [ByteArray.size_append, varText_len n h]; omega) (by rw [from_, toList_append, varText_list n h]; simp)
  rw [varText_len n h]
  simpa using this
theorem vars_second (n m : Nat) (_h : n ≤ 1000000000) (h' : m ≤ 1000000000) : varAt (varText n ++ varText m) ((varText n).size : Int) = ((m : Int), ((varText n ++ varText m).size : Int)) := by
  have := varAt_back (varText n ++ varText m) (varText n).size m h' (by rw [ByteArray.size_append, varText_len m h']; omega) (by
    rw [from_, toList_append, varText_list m h', List.drop_append_of_le_length (by rw [length_data]; exact Nat.le_refl _), List.drop_of_length_le (by rw [length_data]; exact Nat.le_refl _)]; simp)
  rw [this, ByteArray.size_append, varText_len m h']
theorem varText_pos (n : Nat) (h : n ≤ 1000000000) : 0 < (varText n).size := by
  rw [varText_len n h, vtL]
  by_cases h1 : n < 128
  · rw [if_pos h1]; simp
  · rw [if_neg h1]; simp
theorem varAt_long : varAt ⟨#[128, 0]⟩ 0 = (0, -1) := by decide +kernel
theorem byteAt_list (s : ByteArray) (i : Nat) : byteAt s i = (s.data.toList.getD i 0).toNat := rfl
theorem byteAt_left {a b : ByteArray} {i : Nat} (h : i < a.size) : byteAt (a ++ b) i = byteAt a i := by
  rw [byteAt, byteAt, toList_append, List.getD_eq_getElem?_getD, List.getD_eq_getElem?_getD, List.getElem?_append_left (by rw [length_data]; exact h)]
theorem byteAt_right {a b : ByteArray} {i : Nat} (h : a.size ≤ i) : byteAt (a ++ b) i = byteAt b (i - a.size) := by
  rw [byteAt, byteAt, toList_append, List.getD_eq_getElem?_getD, List.getD_eq_getElem?_getD, List.getElem?_append_right (by rw [length_data]; exact h), length_data]
theorem byteAt_out {a : ByteArray} {i : Nat} (h : a.size ≤ i) : byteAt a i = 0 := by
  rw [byteAt, List.getD_eq_getElem?_getD, List.getElem?_eq_none (by rw [length_data]; exact h)]; rfl
theorem fourOf_len (n : Nat) (h : n ≤ 4294967295) : (fourOf n).size = 4 := by unfold fourOf; rw [if_pos (by omega), strOfNums_size]; rfl
theorem fourOf_byte (n : Nat) (h : n ≤ 4294967295) (j : Nat) : byteAt (fourOf n) j = (((fourL n).map fun x => UInt8.ofNat x.toNat).getD j 0).toNat := by unfold fourOf; rw [if_pos (by omega)]; rfl
theorem fourAt_of (s : ByteArray) (p n : Nat) (h : n ≤ 4294967295) (hb : ∀ j, j < 4 → byteAt s (p + j) = byteAt (fourOf n) j) : fourAt s p = n := by
  have b0 := hb 0 (by omega)
  have b1 := hb 1 (by omega)
  have b2 := hb 2 (by omega)
  have b3 := hb 3 (by omega)
  rw [fourOf_byte n h] at b0 b1 b2 b3
  simp only [fourL, List.map_cons, List.map_nil, List.getD_cons_zero, List.getD_cons_succ, UInt8.toNat_ofNat'] at b0 b1 b2 b3
  unfold fourAt
  rw [show byteAt s p = byteAt s (p + 0) from rfl, b0, b1, b2, b3]
  omega
theorem four_first (n m : Nat) (h : n ≤ 4294967295) (h' : m ≤ 4294967295) : fourAtN (fourOf n ++ fourOf m) 0 = n := by
  unfold fourAtN
  rw [if_pos (by rw [ByteArray.size_append, fourOf_len n h, fourOf_len m h']; omega)]
  exact fourAt_of _ 0 n h fun j hj => by rw [Nat.zero_add, byteAt_left (by rw [fourOf_len n h]; exact hj)]
theorem four_second (n m : Nat) (h : n ≤ 4294967295) (h' : m ≤ 4294967295) : fourAtN (fourOf n ++ fourOf m) 4 = m := by
  unfold fourAtN
  rw [if_pos (by rw [ByteArray.size_append, fourOf_len n h, fourOf_len m h']; omega)]
  exact fourAt_of _ 4 m h' fun j _ => by rw [byteAt_right (by rw [fourOf_len n h]; omega), fourOf_len n h]; congr 1; omega
theorem four_ok (n m : Nat) (p : Int) (h : n ≤ 4294967295) (h' : m ≤ 4294967295) : fourAtOk (fourOf n ++ fourOf m) p = decide (0 ≤ p ∧ p ≤ 4) := by
  unfold fourAtOk
  rw [ByteArray.size_append, fourOf_len n h, fourOf_len m h']
  rfl
/-- With one byte turned, the sum is another. -/
theorem sum_bent (s : ByteArray) (k x : Nat) (hk : k < s.size) (hx : x < 256) (hne : x ≠ byteAt s k) : sumOf (s.extract 0 k ++ ⟨#[UInt8.ofNat x]⟩ ++ s.extract (k + 1) s.size) ≠ sumOf s := by
  have h0 : (s.extract 0 k).size = k := by simp; omega
  have h1 : (⟨#[UInt8.ofNat x]⟩ : ByteArray).size = 1 := rfl
  have h2 : (s.extract (k + 1) s.size).size = s.size - (k + 1) := by simp
  refine fun e => sum_turned (k := k) ?_ hk ?_ (fun j hj => ?_) e.symm
  · rw [ByteArray.size_append, ByteArray.size_append, h0, h1, h2]; omega
  · rw [byteAt_left (by rw [ByteArray.size_append, h0, h1]; omega), byteAt_right (by rw [h0]; exact Nat.le_refl _), h0, Nat.sub_self]
    intro e
    refine hne ?_
    rw [e]
    show x = (UInt8.ofNat x).toNat
    rw [UInt8.toNat_ofNat']
    omega
  · by_cases hl : j < k
    · rw [byteAt_left (by rw [ByteArray.size_append, h0, h1]; omega), byteAt_left (by omega), byteAt_extract (by omega) (by omega), Nat.zero_add]
    · by_cases hb : j < s.size
      · rw [byteAt_right (by rw [ByteArray.size_append, h0, h1]; omega), ByteArray.size_append, h0, h1, byteAt_extract (by omega) (by omega)]
        congr 1
        omega
      · rw [byteAt_out (by omega), byteAt_out (by rw [ByteArray.size_append, ByteArray.size_append, h0, h1, h2]; omega)]
end Go.Proofs.Ythjkmefbjbfonaa

/- The parts of a line. Plain. -/
import Derived.Test.YtfcgijhiedlfgaaDoorHexPlain
import Derived.Test.YtfcgijhiedlfgaaDoorItoa
import Derived.Lib.Fields
namespace Go.Proofs.YtfcgijhiedlfgaaDoor
set_option linter.unusedSimpArgs false

def goodC (c : UInt8) : Prop := 32 ≤ c.toNat ∧ c.toNat ≤ 126
def goodL (l : List UInt8) : Prop := ∀ c ∈ l, goodC c
noncomputable def partsB (l : List UInt8) : Bool := @decide (l.length ≤ 600 ∧ goodL l ∧ (Lib.fields l).length ≤ 12) (Classical.propDecidable _)
noncomputable def partsL (l : List UInt8) : List (List UInt8) := if partsB l = true then Lib.fields l else []
noncomputable def partsS (s : ByteArray) : List ByteArray := (partsL s.data.toList).map strL
theorem partsB_no {l : List UInt8} (h : ¬ (l.length ≤ 600 ∧ goodL l ∧ (Lib.fields l).length ≤ 12)) : partsB l = false := @decide_eq_false _ (Classical.propDecidable _) h
theorem partsB_yes {l : List UInt8} (h : l.length ≤ 600 ∧ goodL l ∧ (Lib.fields l).length ≤ 12) : partsB l = true := @decide_eq_true _ (Classical.propDecidable _) h
theorem partsS_no {s : ByteArray} (h : partsB s.data.toList = false) : partsS s = [] := by unfold partsS partsL; rw [h, if_neg (by simp)]; rfl
theorem partsS_yes {s : ByteArray} (h : partsB s.data.toList = true) : partsS s = (Lib.fields s.data.toList).map strL := by unfold partsS partsL; rw [h, if_pos rfl]
theorem partsS_le (s : ByteArray) : (partsS s).length ≤ 12 := by
  by_cases h : partsB s.data.toList = true
  · rw [partsS_yes h, List.length_map]
    exact (@of_decide_eq_true _ (Classical.propDecidable _) h).2.2
  · rw [partsS_no (by simpa using h)]; exact Nat.zero_le _
theorem sp_no {c : UInt8} (h : goodC c) (h2 : c.toNat ≠ 32) : Lib.isSp c = false := by
  unfold goodC at h
  have ne : ∀ d : UInt8, d.toNat < 32 ∨ d.toNat = 32 → (c == d) = false := fun d hd => beq_eq_false_iff_ne.2 fun e => by subst e; omega
  unfold Lib.isSp
  rw [ne 9 (by decide), ne 10 (by decide), ne 11 (by decide), ne 12 (by decide), ne 13 (by decide), ne 32 (by decide)]
  rfl
theorem sp_yes {c : UInt8} (h : c.toNat = 32) : Lib.isSp c = true := by
  have : c = 32 := UInt8.toNat_inj.1 h
  subst this
  decide
theorem fg_on {cur r : List UInt8} {c : UInt8} (h : Lib.isSp c = false) : Lib.fieldsGo cur (c :: r) = Lib.fieldsGo (cur ++ [c]) r := by rw [Lib.fieldsGo, h]; rfl
theorem fg_cut {cur r : List UInt8} {c : UInt8} (h : Lib.isSp c = true) (hc : cur ≠ []) : Lib.fieldsGo cur (c :: r) = cur :: Lib.fieldsGo [] r := by
  rw [Lib.fieldsGo, h]
  cases cur with
  | nil => exact absurd rfl hc
  | cons a t => rfl
theorem fg_skip {r : List UInt8} {c : UInt8} (h : Lib.isSp c = true) : Lib.fieldsGo [] (c :: r) = Lib.fieldsGo [] r := by rw [Lib.fieldsGo, h]; rfl
theorem fg_end {cur : List UInt8} (hc : cur ≠ []) : Lib.fieldsGo cur [] = [cur] := by
  cases cur with
  | nil => exact absurd rfl hc
  | cons a t => rfl
/-- What stands between two places. -/
def mid (l : List UInt8) (b k : Nat) : List UInt8 := (l.drop b).take (k - b)
theorem mid_self (l : List UInt8) (b : Nat) : mid l b b = [] := by simp [mid]
theorem mid_ne {l : List UInt8} {b k : Nat} (h : b < k) (hk : k ≤ l.length) : mid l b k ≠ [] := by
  intro e
  have := congrArg List.length e
  unfold mid at this
  rw [List.length_take, List.length_drop, List.length_nil] at this
  omega
theorem mid_succ {l : List UInt8} {b k : Nat} (h : b ≤ k) (hk : k < l.length) : mid l b (k + 1) = mid l b k ++ [l[k]] := by
  unfold mid
  rw [show k + 1 - b = (k - b) + 1 by omega, List.take_succ_eq_append_getElem (by rw [List.length_drop]; omega)]
  congr 2
  rw [List.getElem_drop]
  congr 1
  omega
structure PInv (l : List UInt8) (k b : Nat) (out : List (List UInt8)) : Prop where
  on : k ≤ l.length → Lib.fields l = out ++ Lib.fieldsGo (mid l b k) (l.drop k)
  off : k = l.length + 1 → Lib.fields l = out
theorem pinv_start (l : List UInt8) : PInv l 0 0 [] := ⟨fun _ => by rw [mid_self]; rfl, fun h => by omega⟩
theorem pinv_on {l : List UInt8} {k b : Nat} {out : List (List UInt8)} (h : PInv l k b out) (hb : b ≤ k) (hk : k < l.length) (hs : Lib.isSp l[k] = false) : PInv l (k + 1) b out :=
  ⟨fun _ => by rw [h.on (by omega), List.drop_eq_getElem_cons hk, fg_on hs, mid_succ hb hk], fun e => by omega⟩
theorem pinv_cut {l : List UInt8} {k b : Nat} {out : List (List UInt8)} (h : PInv l k b out) (hb : b < k) (hk : k < l.length) (hs : Lib.isSp l[k] = true) : PInv l (k + 1) (k + 1) (out ++ [mid l b k]) :=
  ⟨fun _ => by rw [h.on (by omega), List.drop_eq_getElem_cons hk, fg_cut hs (mid_ne hb (by omega)), mid_self, List.append_assoc]; rfl, fun e => by omega⟩
theorem pinv_skip {l : List UInt8} {k : Nat} {out : List (List UInt8)} (h : PInv l k k out) (hk : k < l.length) (hs : Lib.isSp l[k] = true) : PInv l (k + 1) (k + 1) out :=
  ⟨fun _ => by rw [h.on (by omega), List.drop_eq_getElem_cons hk, mid_self, fg_skip hs, mid_self], fun e => by omega⟩
theorem pinv_end {l : List UInt8} {k b : Nat} {out : List (List UInt8)} (h : PInv l k b out) (hb : b < k) (hk : k = l.length) : PInv l (k + 1) (k + 1) (out ++ [mid l b k]) :=
  ⟨fun e => by omega, fun _ => by rw [h.on (by omega), List.drop_of_length_le (by omega), fg_end (mid_ne hb (by omega))]⟩
theorem pinv_last {l : List UInt8} {k : Nat} {out : List (List UInt8)} (h : PInv l k k out) (hk : k = l.length) : PInv l (k + 1) (k + 1) out :=
  ⟨fun e => by omega, fun _ => by rw [h.on (by omega), List.drop_of_length_le (by omega), mid_self]; simp [Lib.fieldsGo]⟩
theorem mid_str {s : ByteArray} {b k : Nat} : strL (mid s.data.toList b k) = s.extract b k := by
  apply ByteArray.ext
  apply Array.toList_inj.1
  simp [strL, mid]
end Go.Proofs.YtfcgijhiedlfgaaDoor

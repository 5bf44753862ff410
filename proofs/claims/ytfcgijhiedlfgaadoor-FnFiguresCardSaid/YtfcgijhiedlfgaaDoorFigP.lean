/- What the law FnFigures says, of the plain functions: a text comes back from its figures. Plain. -/
import Derived.Test.YtfcgijhiedlfgaaDoorUnhex
import Derived.Test.YtfcgijhiedlfgaaDoorReadDec
namespace Go.Proofs.YtfcgijhiedlfgaaDoor
set_option linter.unusedSimpArgs false
open Go.RowKit Go.ChangeShapes Go.Deep

theorem unfig_fig {y : Int} (h0 : 0 ≤ y) (h1 : y < 16) : unfig (fig y) = y := by
  unfold unfig fig
  by_cases h : y < 10
  · rw [if_pos h, if_pos (by omega)]; omega
  · rw [if_neg h, if_neg (by omega), if_pos (by omega)]; omega
def hiB (c : UInt8) : UInt8 := UInt8.ofNat (fig ((c.toNat : Int) / 16)).toNat
def loB (c : UInt8) : UInt8 := UInt8.ofNat (fig ((c.toNat : Int) % 16)).toNat
theorem hex_at : ∀ (l : List UInt8) (i : Nat) (h : i < l.length), (hexL l)[2 * i]? = some (hiB l[i]) ∧ (hexL l)[2 * i + 1]? = some (loB l[i])
  | c :: l, 0, _ => ⟨rfl, rfl⟩
  | c :: l, i + 1, h => by
    have ih := hex_at l i (by simpa using h)
    have e : hexL (c :: l) = hiB c :: loB c :: hexL l := rfl
    rw [e, show 2 * (i + 1) = 2 * i + 1 + 1 by omega]
    exact ⟨ih.1, ih.2⟩
theorem hiB_nat (c : UInt8) : ((hiB c).toNat : Int) = fig ((c.toNat : Int) / 16) := by
  have hc := c.toNat_lt
  have := fig_bd (y := (c.toNat : Int) / 16) (by omega) (by omega)
  unfold hiB
  rw [UInt8.toNat_ofNat', Nat.mod_eq_of_lt (by omega)]
  omega
theorem loB_nat (c : UInt8) : ((loB c).toNat : Int) = fig ((c.toNat : Int) % 16) := by
  have hc := c.toNat_lt
  have := fig_bd (y := (c.toNat : Int) % 16) (by omega) (by omega)
  unfold loB
  rw [UInt8.toNat_ofNat', Nat.mod_eq_of_lt (by omega)]
  omega
theorem unhex_hex {s : ByteArray} (hs : s.size ≤ 20000) : unhexOk (hexS s) = true ∧ unhexS (hexS s) = s ∧ hexOk s = true ∧ (hexS s).size = 2 * s.size := by
  have hl : s.data.toList.length = s.size := by rw [Array.length_toList]; rfl
  have hh : hexS s = ⟨(hexL s.data.toList).toArray⟩ := by rw [hexS, if_pos hs]
  have hd : (hexS s).data.toList = hexL s.data.toList := by rw [hh]
  have hz : (hexS s).size = 2 * s.size := by
    rw [← hl, ← hexL_length, ← hd, Array.length_toList]; rfl
  have hb : ∀ i (h : i < s.data.toList.length), ((byteAt (hexS s) (2 * i) : Nat) : Int) = fig ((s.data.toList[i].toNat : Int) / 16) ∧ ((byteAt (hexS s) (2 * i + 1) : Nat) : Int) = fig ((s.data.toList[i].toNat : Int) % 16) := fun i h => by
    obtain ⟨h1, h2⟩ := hex_at _ i h
    unfold byteAt
    rw [hd, List.getD_eq_getElem?_getD, List.getD_eq_getElem?_getD, h1, h2]
    exact ⟨hiB_nat _, loB_nat _⟩
  have hu : ∀ i (h : i < s.data.toList.length), unfig (byteAt (hexS s) (2 * i)) = (s.data.toList[i].toNat : Int) / 16 ∧ unfig (byteAt (hexS s) (2 * i + 1)) = (s.data.toList[i].toNat : Int) % 16 := fun i h => by
    have hc := (s.data.toList[i]).toNat_lt
    obtain ⟨h1, h2⟩ := hb i h
    rw [h1, h2, unfig_fig (by omega) (by omega), unfig_fig (by omega) (by omega)]
    exact ⟨rfl, rfl⟩
  have hf : figsTo (hexS s) (hexS s).size := fun j hj => by
    rw [hz] at hj
    have h := hu (j / 2) (by omega)
    have hc := (s.data.toList[j / 2]'(by omega)).toNat_lt
    rcases Nat.mod_two_eq_zero_or_one j with e | e
    · rw [show j = 2 * (j / 2) by omega, h.1]; omega
    · rw [show j = 2 * (j / 2) + 1 by omega, h.2]; omega
  obtain ⟨h1, h2⟩ := unhex_yes (s := hexS s) (by omega) (by omega) hf
  refine ⟨h1, ?_, by unfold hexOk; exact decide_eq_true hs, hz⟩
  rw [h2, hz, show 2 * s.size / 2 = s.size by omega]
  apply ByteArray.ext
  apply Array.toList_inj.1
  show (unhexL (hexS s) s.size) = s.data.toList
  apply List.ext_getElem
  · rw [unhexL_length, hl]
  · intro i h3 h4
    have h := hu i h4
    have hc := (s.data.toList[i]).toNat_lt
    simp only [unhexL, List.getElem_map, List.getElem_range, pairB]
    rw [h.1, h.2]
    apply UInt8.toNat_inj.1
    rw [UInt8.toNat_ofNat']
    omega
/-- What lies between. -/
def br (n lo hi : Int) : Int := if n < lo then lo else if n ≤ hi then n else hi
theorem br_bd {n lo hi : Int} (h : lo ≤ hi) : lo ≤ br n lo hi ∧ br n lo hi ≤ hi := by unfold br; split <;> (try split) <;> omega
theorem br_id {n lo hi : Int} (h0 : lo ≤ n) (h1 : n ≤ hi) : br n lo hi = n := by unfold br; rw [if_neg (by omega), if_pos h1]
set_option maxRecDepth 100000 in
theorem brought_any (n lo hi : Int) (w : World) (h : lo ≤ hi) : Calls Tryd.prog 20 #[.int .i64 n, .int .i64 lo, .int .i64 hi] w fun e w' => e = .returned (.int .i64 (br n lo hi)) ∧ w = w' := by
  have t0 : decide (hi < lo) = false := decide_eq_false (by omega)
  by_cases h1 : n < lo
  · have HB := Lib.hid (show br n lo hi = lo by unfold br; rw [if_pos h1])
    have t1 : decide (n < lo) = true := decide_eq_true h1
    clear h h1
    go_enter Tryd.func20, Tryd.ntmps20
    go_wp2
    go_ret
    exact ⟨by rw [HB.out]; rfl, rfl⟩
  · have t1 : decide (n < lo) = false := decide_eq_false h1
    by_cases h2 : n ≤ hi
    · have HB := Lib.hid (show br n lo hi = n by unfold br; rw [if_neg h1, if_pos h2])
      clear h h1
      go_enter Tryd.func20, Tryd.ntmps20
      go_wp2
      all_goals
        go_ret
        exact ⟨by rw [HB.out]; first | rfl | (congr 1; omega) | (exact ret_int (by omega)), rfl⟩
    · have HB := Lib.hid (show br n lo hi = hi by unfold br; rw [if_neg h1, if_neg h2])
      have h3 : hi < n := by omega
      clear h h1 h2
      go_enter Tryd.func20, Tryd.ntmps20
      go_wp2
      all_goals
        go_ret
        exact ⟨by rw [HB.out]; first | rfl | (congr 1; omega) | (exact ret_int (by omega)), rfl⟩
end Go.Proofs.YtfcgijhiedlfgaaDoor

/- Decimal, the program's and the reference's: both return the number's decimal numeral. -/
import Derived.Test.YtfcgijhiedlfgaaDoorShelf
import Derived.Test.YtfcgijhiedlfgaaDoorHex
import Derived.Test.YtfcgijhiedlfgaaDoorDecP
import Derived.Lib.AppendIntMem
namespace Go.Proofs.YtfcgijhiedlfgaaDoor
set_option linter.unusedSimpArgs false
set_option linter.unusedVariables false
open Go.RowKit Go.ChangeShapes Go.Deep Go.Sort

/-- The table that strconv reads, where the row lays it. -/
def Tab10 (w : World) : Prop := Lib.TabIs Tryd.prog w "internal/strconv.uint64pow10" .u64 Lib.pow10Tab
theorem tab10_below {w w' : World} (h : Tab10 w) (hb : Below w.heap.size w w') : Tab10 w' := Go.Joins.var_stays (g := 5) (by kernel_rfl) h hb (Nat.le_refl _)
theorem decimal_impl (n : Int) (h0 : -9223372036854775808 ≤ n) (h1 : n ≤ 9223372036854775807) (w : World) (ht : Tab10 w) :
    Calls Tryd.prog 8 #[.int .i64 n] w fun e w' => e = .returned (.string ⟨(Lib.itoa n).toArray⟩) ∧ Below w.heap.size w w' := by
  have C := Lib.hid (Tryd.strconv_Itoa n h0 h1 w ht)
  clear h0 h1 ht
  go_enter Tryd.func8, Tryd.ntmps8
  go_wp2_with fail
  refine C.out.mono ?_
  rintro e w1 ⟨rfl, k, os, rfl⟩
  go_wp2_with fail
  go_ret
  exact ⟨rfl, Lib.below_grow _ _ (Nat.le_refl _) k os⟩

/-! ### The reference -/


/-- The digits of m ahead of what stands there. -/
def ahead10 (m : Nat) (s : List UInt8) : List UInt8 := if m = 0 then s else Lib.decDigits m ++ s
theorem ahead10_step {m : Nat} (hm : m ≠ 0) (s : List UInt8) : ahead10 m s = ahead10 (m / 10) (UInt8.ofNat (48 + m % 10) :: s) := by
  unfold ahead10
  rw [if_neg hm]
  by_cases h : m < 10
  · rw [if_pos (by omega), dec_last h, Nat.mod_eq_of_lt h]; rfl
  · rw [if_neg (by omega), dec_more h, List.append_assoc]; rfl
theorem ahead10_zero (s : List UInt8) : ahead10 0 s = s := rfl
theorem u8of {y : Nat} (h : y < 10) : UInt8.ofNat (48 + y) = UInt8.ofNat (48 + y) := rfl

/-- A list of bytes as a string. -/
def strL (l : List UInt8) : ByteArray := ⟨l.toArray⟩
theorem strL_size (l : List UInt8) : (strL l).size = l.length := by simp [strL, ByteArray.size]
theorem strL_cons (c : UInt8) (l : List UInt8) : (⟨#[c]⟩ : ByteArray) ++ strL l = strL (c :: l) := by
  apply ByteArray.ext
  rw [ByteArray.data_append]
  simp [strL]
/-- The bound, behind a name. -/
structure Ten (m k : Nat) : Prop where
  le : m * 10 ^ k ≤ 9223372036854775808
theorem ten_zero {m : Nat} (h : m ≤ 9223372036854775808) : Ten m 0 := ⟨by rw [Nat.pow_zero, Nat.mul_one]; exact h⟩
theorem ten_m {m k : Nat} (h : Ten m k) : m ≤ 9223372036854775808 := Nat.le_trans (by have h5 : m * 1 ≤ m * 10 ^ k := Nat.mul_le_mul_left _ (Nat.one_le_pow _ _ (by decide)); rw [Nat.mul_one] at h5; exact h5) h.le
theorem ten_of {m k : Nat} (hm : m ≠ 0) (h : Ten m k) : k ≤ 18 := by
  obtain ⟨h⟩ := h
  refine Decidable.byContradiction fun hk => ?_
  have h1 : 10 ^ 19 ≤ 10 ^ k := Nat.pow_le_pow_right (by omega) (by omega)
  have h2 : 1 * 10 ^ k ≤ m * 10 ^ k := Nat.mul_le_mul_right _ (by omega)
  omega
theorem ten_on {m k : Nat} (h : Ten m k) : Ten (m / 10) (k + 1) := by
  obtain ⟨h⟩ := h
  refine ⟨?_⟩
  rw [Nat.pow_succ, ← Nat.mul_assoc, Nat.mul_right_comm]
  exact Nat.le_trans (Nat.mul_le_mul_right _ (by omega)) h
def IsDec (n : Int) (w0 : World) (e : Ending) (w' : World) : Prop := e = .returned (.string ⟨(Lib.itoa n).toArray⟩) ∧ Below w0.heap.size w0 w'

set_option maxHeartbeats 4000000 in
set_option maxRecDepth 100000 in
/-- .. at a number above 0. -/
theorem decimal_pos (n : Nat) (w : World) (hn0 : n ≠ 0) (hn : Ten n 0) : Calls Tryd.prog 7 #[.int .i64 (n : Int)] w (IsDec (n : Int) w) := by
  obtain ⟨x0, hx0⟩ : ∃ x0, x0 = (n : Int) := ⟨_, rfl⟩
  rw [← hx0]
  have t0 : (x0 == 0) = false := beq_eq_false_iff_ne.2 (by omega)
  have t1 : decide (x0 < 0) = false := decide_eq_false (by omega)
  have HD := Lib.hid (show Lib.itoa x0 = ahead10 n [] by unfold Lib.itoa ahead10; rw [if_neg (by omega), if_neg hn0, List.append_nil, hx0, Int.toNat_natCast])
  have HN := Lib.hid hn
  have HX := Lib.hid hx0
  clear hn0 hn hx0
  go_enter Tryd.func7, Tryd.ntmps7
  go_wp2_with fail
  clear t0
  go_loopw [0, 4] (fun a b wr => ∃ (m : Nat) (x : Int) (s : List UInt8), a = .int .i64 x ∧ b = .string (strL s) ∧ s.length ≤ 19 ∧ Hid (x = (m : Int)) ∧ Hid (m ≠ 0 → Ten m s.length) ∧ Hid (Lib.itoa x0 = ahead10 m s) ∧ Hid (Below w.heap.size w wr)) (fun a _ _ => (intOf a).natAbs)
  case atStart => exact ⟨n, x0, [], rfl, rfl, by decide, HX, Lib.hid (fun _ => HN.out), HD, Lib.hid (Below.refl _ _)⟩
  case round =>
    obtain ⟨m, x, s, rfl, rfl, hs, hx, H2, H1, HB⟩ := hrel
    have hb := HB.out.size
    have hx' := hx.out
    by_cases hm0 : m = 0
    · have tm : (x != 0) = false := by rw [hx', hm0]; rfl
      have HF := Lib.hid (show Lib.itoa x0 = s by rw [H1.out, hm0]; rfl)
      clear hm0 H1 H2 hx' hx
      go_wp2_with fail
      go_ret
      exact ⟨by rw [HF.out]; rfl, HB.out⟩
    · have tm : (x != 0) = true := by rw [bne_iff_ne]; omega
      have h2 := H2.out hm0
      have h7 := ten_of hm0 h2
      have H3 := Lib.hid (show Ten (m / 10) (s.length + 1) from ten_on h2)
      have H4 := Lib.hid (show Lib.itoa x0 = ahead10 (m / 10) (UInt8.ofNat (48 + m % 10) :: s) by rw [H1.out, ahead10_step hm0])
      obtain ⟨y, hy⟩ : ∃ y : Nat, y = m % 10 := ⟨_, rfl⟩
      have hy1 : y < 10 := by omega
      have CF := Lib.hid (fun w => l01Figure_any (y : Int) w (by omega) (by omega))
      have hfy : fig (y : Int) = ((48 + y : Nat) : Int) := by unfold fig; rw [if_pos (by omega)]; omega
      rw [hfy] at CF
      obtain ⟨f, hf⟩ : ∃ f : Nat, f = 48 + y := ⟨_, rfl⟩
      rw [← hy, ← hf] at H4
      rw [← hf] at CF
      have hf2 : f < 256 := by omega
      obtain ⟨z, hz⟩ : ∃ z : Int, z = x.tmod 10 := ⟨_, rfl⟩
      obtain ⟨x', hx2⟩ : ∃ x' : Int, x' = x.tdiv 10 := ⟨_, rfl⟩
      have hzy : z = (y : Int) := by rw [hz, hx', Int.tmod_eq_emod_of_nonneg (by omega), hy]; omega
      have hx3 : x' = ((m / 10 : Nat) : Int) := by rw [hx2, hx', Int.tdiv_eq_ediv_of_nonneg (by omega)]; omega
      have hmle := ten_m h2
      have y2 : x.tmod 10 = z := hz.symm
      have y3 : x.tdiv 10 = x' := hx2.symm
      have HX' := Lib.hid (show wrap64 x' = ((m / 10 : Nat) : Int) by rw [IntWalk.wrap64_in _ (by omega)]; exact hx3)
      have HMS := Lib.hid (show (wrap64 x').natAbs < x.natAbs by rw [IntWalk.wrap64_in _ (by omega)]; omega)
      have hsz := strL_size s
      have z1 : ¬ 9223372036854775807 < 1 + (strL s).size := by omega
      have q1 : decide (z < 0) = false := decide_eq_false (by omega)
      have CF0 := Lib.hid (show ∀ w, Calls Tryd.prog 21 #[.int .i64 z] w fun e w' => e = .returned (.int .u8 (f : Int)) ∧ w = w' from fun w => by rw [show z = (y : Int) by omega]; exact CF.out w)
      clear hf hfy h2 hy hsz H1 H2 hmle hzy hx3 hz hx2 hx' hx CF hy1
      go_wp2_with fail
      refine (CF0.out _).mono ?_
      rintro e w1 ⟨rfl, rfl⟩
      have hcv : (convert 32 9 (.slice (some ⟨wr.heap.size, 0, none⟩) 1 1)).run Tryd.prog (wr.alloc (.cells #[.int .u8 (f : Int)] 5)) = .ok (.string ⟨#[UInt8.ofNat f]⟩) (wr.alloc (.cells #[.int .u8 (f : Int)] 5)) :=
        run_convert_bytes_arg _ 32 5 Tryd.underlying32 Tryd.underlying5 _ 0 1 1 [(f : Int)] rfl (fun i hi => by
          have : i = 0 := by omega
          subst this
          rw [World.cell?_alloc_at _ _ _ _ rfl]
          rfl) 9 Tryd.underlying9
      go_wp2_with fail
      go_roundw
      case rel => exact ⟨m / 10, wrap64 x', UInt8.ofNat f :: s, rfl, by rw [← strL_cons], by rw [List.length_cons]; omega, HX', Lib.hid (fun _ => H3.out), H4, Lib.hid (HB.out.alloc hb _)⟩
      case measure => simp only [intOf]; exact HMS.out
set_option maxHeartbeats 4000000 in
set_option maxRecDepth 100000 in
/-- .. at a number below 0. -/
theorem decimal_neg (n : Nat) (w : World) (hn0 : n ≠ 0) (hn : Ten n 0) : Calls Tryd.prog 7 #[.int .i64 (-(n : Int))] w (IsDec (-(n : Int)) w) := by
  obtain ⟨x0, hx0⟩ : ∃ x0, x0 = -(n : Int) := ⟨_, rfl⟩
  rw [← hx0]
  have t0 : (x0 == 0) = false := beq_eq_false_iff_ne.2 (by omega)
  have t1 : decide (x0 < 0) = true := decide_eq_true (by omega)
  have HD := Lib.hid (show Lib.itoa x0 = 45 :: ahead10 n [] by unfold Lib.itoa ahead10; rw [if_pos (by omega), if_neg hn0, List.append_nil, hx0, Int.natAbs_neg, Int.natAbs_natCast])
  have HN := Lib.hid hn
  have HX := Lib.hid hx0
  clear hn0 hn hx0
  go_enter Tryd.func7, Tryd.ntmps7
  go_wp2_with fail
  clear t0
  go_loopw [0, 4] (fun a b wr => ∃ (m : Nat) (x : Int) (s : List UInt8), a = .int .i64 x ∧ b = .string (strL s) ∧ s.length ≤ 19 ∧ Hid (x = -(m : Int)) ∧ Hid (m ≠ 0 → Ten m s.length) ∧ Hid (Lib.itoa x0 = 45 :: ahead10 m s) ∧ Hid (Below w.heap.size w wr)) (fun a _ _ => (intOf a).natAbs)
  case atStart => exact ⟨n, x0, [], rfl, rfl, by decide, HX, Lib.hid (fun _ => HN.out), HD, Lib.hid (Below.refl _ _)⟩
  case round =>
    obtain ⟨m, x, s, rfl, rfl, hs, hx, H2, H1, HB⟩ := hrel
    have hb := HB.out.size
    have hx' := hx.out
    by_cases hm0 : m = 0
    · have tm : (x != 0) = false := by rw [hx', hm0]; rfl
      have HF := Lib.hid (show Lib.itoa x0 = 45 :: s by rw [H1.out, hm0]; rfl)
      have hsz := strL_size s
      have z1 : ¬ 9223372036854775807 < 1 + (strL s).size := by omega
      clear hm0 H1 H2 hx' hx hsz
      go_wp2_with fail
      go_ret
      exact ⟨by rw [HF.out]; exact ret_str (strL_cons 45 s), HB.out⟩
    · have tm : (x != 0) = true := by rw [bne_iff_ne]; omega
      have h2 := H2.out hm0
      have h7 := ten_of hm0 h2
      have H3 := Lib.hid (show Ten (m / 10) (s.length + 1) from ten_on h2)
      have H4 := Lib.hid (show Lib.itoa x0 = 45 :: ahead10 (m / 10) (UInt8.ofNat (48 + m % 10) :: s) by rw [H1.out, ahead10_step hm0])
      obtain ⟨y, hy⟩ : ∃ y : Nat, y = m % 10 := ⟨_, rfl⟩
      have hy1 : y < 10 := by omega
      have CF := Lib.hid (fun w => l01Figure_any (y : Int) w (by omega) (by omega))
      have hfy : fig (y : Int) = ((48 + y : Nat) : Int) := by unfold fig; rw [if_pos (by omega)]; omega
      rw [hfy] at CF
      obtain ⟨f, hf⟩ : ∃ f : Nat, f = 48 + y := ⟨_, rfl⟩
      rw [← hy, ← hf] at H4
      rw [← hf] at CF
      have hf2 : f < 256 := by omega
      obtain ⟨z, hz⟩ : ∃ z : Int, z = x.tmod 10 := ⟨_, rfl⟩
      obtain ⟨x', hx2⟩ : ∃ x' : Int, x' = x.tdiv 10 := ⟨_, rfl⟩
      have hzy : z = -(y : Int) := by rw [hz, hx', Int.neg_tmod, Int.tmod_eq_emod_of_nonneg (by omega), hy]; omega
      have hx3 : x' = -((m / 10 : Nat) : Int) := by rw [hx2, hx', Int.neg_tdiv, Int.tdiv_eq_ediv_of_nonneg (by omega)]; omega
      have hmle := ten_m h2
      have y2 : x.tmod 10 = z := hz.symm
      have y3 : x.tdiv 10 = x' := hx2.symm
      have HX' := Lib.hid (show wrap64 x' = -((m / 10 : Nat) : Int) by rw [IntWalk.wrap64_in _ (by omega)]; exact hx3)
      have HMS := Lib.hid (show (wrap64 x').natAbs < x.natAbs by rw [IntWalk.wrap64_in _ (by omega)]; omega)
      have hsz := strL_size s
      have z1 : ¬ 9223372036854775807 < 1 + (strL s).size := by omega
      have hcvt := fun (W : World) => (show (convert 32 9 (.slice (some ⟨W.heap.size, 0, none⟩) 1 1)).run Tryd.prog (W.alloc (.cells #[.int .u8 (f : Int)] 5)) = .ok (.string ⟨#[UInt8.ofNat f]⟩) (W.alloc (.cells #[.int .u8 (f : Int)] 5)) from
        run_convert_bytes_arg _ 32 5 Tryd.underlying32 Tryd.underlying5 _ 0 1 1 [(f : Int)] rfl (fun i hi => by
          have : i = 0 := by omega
          subst this
          rw [World.cell?_alloc_at _ _ _ _ rfl]
          rfl) 9 Tryd.underlying9)
      have HCV := Lib.hid hcvt
      by_cases hy0 : y = 0
      · have q0 : z = 0 := by omega
        have q1 : decide (z < 0) = false := decide_eq_false (by omega)
        have CF0 := Lib.hid (show ∀ w, Calls Tryd.prog 21 #[.int .i64 z] w fun e w' => e = .returned (.int .u8 (f : Int)) ∧ w = w' from fun w => by rw [show z = (y : Int) by omega]; exact CF.out w)
        clear hf hfy h2 hy hsz H1 H2 hmle hzy hx3 hz hx2 hx' hx q0 hy0 hcvt CF hy1
        go_wp2_with fail
        refine (CF0.out _).mono ?_
        rintro e w1 ⟨rfl, rfl⟩
        have hcv := HCV.out wr
        go_wp2_with fail
        go_roundw
        case rel => exact ⟨m / 10, wrap64 x', UInt8.ofNat f :: s, rfl, by rw [← strL_cons], by rw [List.length_cons]; omega, HX', Lib.hid (fun _ => H3.out), H4, Lib.hid (HB.out.alloc hb _)⟩
        case measure => simp only [intOf]; exact HMS.out
      · have q1 : decide (z < 0) = true := decide_eq_true (by omega)
        have q2 : -z = (y : Int) := by omega
        clear hf hfy h2 hy hsz H1 H2 hmle hzy hx3 hz hx2 hx' hx hy0 hcvt
        go_wp2_with fail
        refine (CF.out _).mono ?_
        rintro e w1 ⟨rfl, rfl⟩
        have hcv := HCV.out wr
        go_wp2_with fail
        go_roundw
        case rel => exact ⟨m / 10, wrap64 x', UInt8.ofNat f :: s, rfl, by rw [← strL_cons], by rw [List.length_cons]; omega, HX', Lib.hid (fun _ => H3.out), H4, Lib.hid (HB.out.alloc hb _)⟩
        case measure => simp only [intOf]; exact HMS.out

set_option maxRecDepth 100000 in
theorem decimal_zero (w : World) : Calls Tryd.prog 7 #[.int .i64 0] w (IsDec 0 w) := by
  have HZ := Lib.hid (show Lib.itoa 0 = [48] by unfold Lib.itoa; rw [if_neg (by omega), show (0 : Int).toNat = 0 from rfl, dec_last (by omega)]; rfl)
  go_enter Tryd.func7, Tryd.ntmps7
  go_wp2
  go_ret
  exact ⟨ret_str (by rw [HZ.out]), Below.refl _ _⟩
set_option maxRecDepth 100000 in
theorem decimal_spec (n : Int) (w : World) (h0 : -9223372036854775808 ≤ n) (h1 : n ≤ 9223372036854775807) : Calls Tryd.prog 7 #[.int .i64 n] w (IsDec n w) := by
  by_cases hz : n = 0
  · subst hz
    exact decimal_zero w
  · rcases Int.lt_or_gt_of_ne hz with h | h
    · obtain ⟨m, rfl⟩ : ∃ m : Nat, n = -(m : Int) := ⟨n.natAbs, by omega⟩
      exact decimal_neg m w (by omega) (ten_zero (by omega))
    · obtain ⟨m, rfl⟩ : ∃ m : Nat, n = (m : Int) := ⟨n.toNat, by omega⟩
      exact decimal_pos m w (by omega) (ten_zero (by omega))
end Go.Proofs.YtfcgijhiedlfgaaDoor

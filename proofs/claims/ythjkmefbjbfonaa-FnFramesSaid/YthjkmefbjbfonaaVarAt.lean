/- The walks of VarAt, the program's and the reference's. Printed by wip/gen_varat.py. -/
import Derived.Test.YthjkmefbjbfonaaVarAtPlain
import Derived.Test.YthjkmefbjbfonaaVarText
import Derived.Test.YthjkmefbjbfonaaSched
namespace Go.Proofs.Ythjkmefbjbfonaa
open Go.RowKit Go.ChangeShapes

theorem vaGo_on {s : ByteArray} {p k r : Nat} (h : p + k < s.size) (hb : ¬ byteAt s (p + k) < 128) : vaGo s p (r + 1) k = vaGo s p r (k + 1) := by rw [vaGo, if_pos h, if_neg hb]
theorem vaGo_yes {s : ByteArray} {p k r : Nat} (h : p + k < s.size) (hb : byteAt s (p + k) < 128) (hv : (varText (vacc s p (k + 1))).size = k + 1) : vaGo s p (r + 1) k = ((vacc s p (k + 1) : Int), ((p + k + 1 : Nat) : Int)) := by rw [vaGo, if_pos h, if_pos hb, if_pos hv]
theorem vaGo_no {s : ByteArray} {p k r : Nat} (h : p + k < s.size) (hb : byteAt s (p + k) < 128) (hv : ¬ (varText (vacc s p (k + 1))).size = k + 1) : vaGo s p (r + 1) k = (0, -1) := by rw [vaGo, if_pos h, if_pos hb, if_neg hv]
theorem vaGo_end {s : ByteArray} {p k r : Nat} (h : ¬ p + k < s.size) : vaGo s p r k = (0, -1) := by cases r <;> simp [vaGo, h]
theorem ret2_ii {a b c d : Int} (h1 : a = b) (h2 : c = d) : Ending.returned (.tuple #[.int .i64 a, .int .i64 c]) = .returned (.tuple #[.int .i64 b, .int .i64 d]) := by rw [h1, h2]

set_option maxHeartbeats 4000000 in
set_option maxRecDepth 100000 in
theorem varAt_impl (s : ByteArray) (p : Nat) (w : World) (h0 : p < s.size) (hs : s.size ≤ 1048576) :
    Calls Try.prog 58 #[.string s, .int .i64 p] w fun e w' => e = .returned (.tuple #[.int .i64 (vaGo s p 5 0).1, .int .i64 (vaGo s p 5 0).2]) ∧ Below w.heap.size w w' := by
  go_enter Try.func58, Try.ntmps58
  go_wp2_with (first | (go_at_call 54; refine (within_t _ _ _ _ (by omega) (by omega)).mono ?_; rintro e w' ⟨rfl, rfl⟩))
  go_loopw [6, 7, 8] (fun n i _ wr => ∃ k : Nat, k ≤ 5 ∧ i = .int .i64 k ∧ n = .int .i64 (vacc s p k) ∧ Hid (vaGo s p 5 0 = vaGo s p (5 - k) k) ∧ Below w.heap.size w wr) (fun _ i _ _ => 5 - (intOf i).toNat)
  case atStart => exact ⟨0, by omega, rfl, rfl, Lib.hid rfl, Below.refl _ _⟩
  case round =>
    obtain ⟨k, hk, rfl, rfl, hgo, hb⟩ := hrel
    by_cases hk5 : k < 5
    · by_cases hlt : p + k < s.size
      · have hx := byteAt_lt s (p + k)
        have hq := vacc_lt s p k
        have eb := run_byte (P := Try.prog) Try.underlying9 s .i64 (p + k) hlt
        have HS := Lib.hid (show vacc s p (k + 1) = vacc s p k + byteAt s (p + k) % 128 * 128 ^ k from rfl)
        have HON := Lib.hid (fun r => vaGo_on (r := r) hlt)
        have HYES := Lib.hid (fun r => vaGo_yes (r := r) hlt)
        have HNO := Lib.hid (fun r => vaGo_no (r := r) hlt)
        obtain ⟨x, hxx⟩ : ∃ x, x = byteAt s (p + k) := ⟨_, rfl⟩
        rw [← hxx] at hx eb HS HON HYES HNO
        clear hxx
        obtain ⟨q, hqq⟩ : ∃ q : Int, q = (vacc s p k : Int) := ⟨_, rfl⟩
        rw [← hqq]
        have hx1 : (x : Int) < 256 := by omega
        have hx0 : (0 : Int) ≤ (x : Int) := by omega
        rcases (show k = 0 ∨ k = 1 ∨ k = 2 ∨ k = 3 ∨ k = 4 by omega) with rfl | rfl | rfl | rfl | rfl
        · have hq0 : 0 ≤ q := by omega
          have hq1 : q < 1 := by omega
          have hp1 : (p : Int) < (s.size : Int) := by omega
          have e0 : ∀ w : World, (Instr.index 9 (.string s) (.int .i64 ((p : Int)))).run Try.prog w = .ok (.int .u8 (x : Int)) w := by
            intro w
            have := eb w
            rwa [show ((p + 0 : Nat) : Int) = (p : Int) by omega] at this
          have HV := Lib.hid (show ((vacc s p 1 : Nat) : Int) = q + (x : Int) % 128 by have h : vacc s p 1 = vacc s p 0 + x % 128 * 1 := HS.out; omega)
          have HG := Lib.hid (show vaGo s p 5 0 = vaGo s p (4 + 1) 0 from hgo.out)
          clear eb hq hqq hk hk5 HS hgo
          by_cases hc : x < 128
          · by_cases hv : (varText (vacc s p 1)).size = 1
            · have HR := Lib.hid (HG.out.trans (HYES.out 4 hc hv))
              rw [HV.out] at hv
              obtain ⟨z, hz⟩ : ∃ z, z = varText (q + (x : Int) % 128) := ⟨_, rfl⟩
              rw [← hz] at hv
              have t1 : ((z.size : Int) != 1) = false := by rw [bne_eq_false_iff_eq]; omega
              have HZ := Lib.hid hz
              clear hv hz
              go_wp2_with (go_at_call 55; refine (varText_impl_any _ _).mono ?_; rintro e w1 ⟨rfl, hb1⟩; rw [← HZ.out])
              go_ret2
              exact ⟨ret2_ii (((congrArg Prod.fst HR.out).trans HV.out).symm) (by refine Eq.trans ?_ (congrArg Prod.snd HR.out).symm; show _ = ((p + 0 + 1 : Nat) : Int); omega), hb.trans (hb1.mono hb.size)⟩
            · have HR := Lib.hid (HG.out.trans (HNO.out 4 hc hv))
              rw [HV.out] at hv
              obtain ⟨z, hz⟩ : ∃ z, z = varText (q + (x : Int) % 128) := ⟨_, rfl⟩
              rw [← hz] at hv
              have t1 : ((z.size : Int) != 1) = true := by rw [bne_iff_ne]; omega
              have HZ := Lib.hid hz
              clear hv hz
              go_wp2_with (go_at_call 55; refine (varText_impl_any _ _).mono ?_; rintro e w1 ⟨rfl, hb1⟩; rw [← HZ.out])
              go_ret2
              exact ⟨ret2_ii ((congrArg Prod.fst HR.out).symm) ((congrArg Prod.snd HR.out).symm), hb.trans (hb1.mono hb.size)⟩
          · have HR := Lib.hid (HG.out.trans (HON.out 4 hc))
            have hc' : ¬ (x : Int) < 128 := by omega
            go_wp2
            go_roundw
            case rel => exact ⟨1, by omega, rfl, by rw [HV.out], HR, hb⟩
            case measure => simp [intOf]
        · have hq0 : 0 ≤ q := by omega
          have hq1 : q < 128 := by omega
          have hp1 : (p : Int) + 1 < (s.size : Int) := by omega
          have e0 : ∀ w : World, (Instr.index 9 (.string s) (.int .i64 ((p : Int) + 1))).run Try.prog w = .ok (.int .u8 (x : Int)) w := by
            intro w
            have := eb w
            rwa [show ((p + 1 : Nat) : Int) = (p : Int) + 1 by omega] at this
          have HV := Lib.hid (show ((vacc s p 2 : Nat) : Int) = q + (x : Int) % 128 * 128 by have h : vacc s p 2 = vacc s p 1 + x % 128 * 128 := HS.out; omega)
          have HG := Lib.hid (show vaGo s p 5 0 = vaGo s p (3 + 1) 1 from hgo.out)
          clear eb hq hqq hk hk5 HS hgo
          by_cases hc : x < 128
          · by_cases hv : (varText (vacc s p 2)).size = 2
            · have HR := Lib.hid (HG.out.trans (HYES.out 3 hc hv))
              rw [HV.out] at hv
              obtain ⟨z, hz⟩ : ∃ z, z = varText (q + (x : Int) % 128 * 128) := ⟨_, rfl⟩
              rw [← hz] at hv
              have t1 : ((z.size : Int) != 2) = false := by rw [bne_eq_false_iff_eq]; omega
              have HZ := Lib.hid hz
              clear hv hz
              go_wp2_with (go_at_call 55; refine (varText_impl_any _ _).mono ?_; rintro e w1 ⟨rfl, hb1⟩; rw [← HZ.out])
              go_ret2
              exact ⟨ret2_ii (((congrArg Prod.fst HR.out).trans HV.out).symm) (by refine Eq.trans ?_ (congrArg Prod.snd HR.out).symm; show _ = ((p + 1 + 1 : Nat) : Int); omega), hb.trans (hb1.mono hb.size)⟩
            · have HR := Lib.hid (HG.out.trans (HNO.out 3 hc hv))
              rw [HV.out] at hv
              obtain ⟨z, hz⟩ : ∃ z, z = varText (q + (x : Int) % 128 * 128) := ⟨_, rfl⟩
              rw [← hz] at hv
              have t1 : ((z.size : Int) != 2) = true := by rw [bne_iff_ne]; omega
              have HZ := Lib.hid hz
              clear hv hz
              go_wp2_with (go_at_call 55; refine (varText_impl_any _ _).mono ?_; rintro e w1 ⟨rfl, hb1⟩; rw [← HZ.out])
              go_ret2
              exact ⟨ret2_ii ((congrArg Prod.fst HR.out).symm) ((congrArg Prod.snd HR.out).symm), hb.trans (hb1.mono hb.size)⟩
          · have HR := Lib.hid (HG.out.trans (HON.out 3 hc))
            have hc' : ¬ (x : Int) < 128 := by omega
            go_wp2
            go_roundw
            case rel => exact ⟨2, by omega, rfl, by rw [HV.out], HR, hb⟩
            case measure => simp [intOf]
        · have hq0 : 0 ≤ q := by omega
          have hq1 : q < 16384 := by omega
          have hp1 : (p : Int) + 2 < (s.size : Int) := by omega
          have e0 : ∀ w : World, (Instr.index 9 (.string s) (.int .i64 ((p : Int) + 2))).run Try.prog w = .ok (.int .u8 (x : Int)) w := by
            intro w
            have := eb w
            rwa [show ((p + 2 : Nat) : Int) = (p : Int) + 2 by omega] at this
          have HV := Lib.hid (show ((vacc s p 3 : Nat) : Int) = q + (x : Int) % 128 * 16384 by have h : vacc s p 3 = vacc s p 2 + x % 128 * 16384 := HS.out; omega)
          have HG := Lib.hid (show vaGo s p 5 0 = vaGo s p (2 + 1) 2 from hgo.out)
          clear eb hq hqq hk hk5 HS hgo
          by_cases hc : x < 128
          · by_cases hv : (varText (vacc s p 3)).size = 3
            · have HR := Lib.hid (HG.out.trans (HYES.out 2 hc hv))
              rw [HV.out] at hv
              obtain ⟨z, hz⟩ : ∃ z, z = varText (q + (x : Int) % 128 * 16384) := ⟨_, rfl⟩
              rw [← hz] at hv
              have t1 : ((z.size : Int) != 3) = false := by rw [bne_eq_false_iff_eq]; omega
              have HZ := Lib.hid hz
              clear hv hz
              go_wp2_with (go_at_call 55; refine (varText_impl_any _ _).mono ?_; rintro e w1 ⟨rfl, hb1⟩; rw [← HZ.out])
              go_ret2
              exact ⟨ret2_ii (((congrArg Prod.fst HR.out).trans HV.out).symm) (by refine Eq.trans ?_ (congrArg Prod.snd HR.out).symm; show _ = ((p + 2 + 1 : Nat) : Int); omega), hb.trans (hb1.mono hb.size)⟩
            · have HR := Lib.hid (HG.out.trans (HNO.out 2 hc hv))
              rw [HV.out] at hv
              obtain ⟨z, hz⟩ : ∃ z, z = varText (q + (x : Int) % 128 * 16384) := ⟨_, rfl⟩
              rw [← hz] at hv
              have t1 : ((z.size : Int) != 3) = true := by rw [bne_iff_ne]; omega
              have HZ := Lib.hid hz
              clear hv hz
              go_wp2_with (go_at_call 55; refine (varText_impl_any _ _).mono ?_; rintro e w1 ⟨rfl, hb1⟩; rw [← HZ.out])
              go_ret2
              exact ⟨ret2_ii ((congrArg Prod.fst HR.out).symm) ((congrArg Prod.snd HR.out).symm), hb.trans (hb1.mono hb.size)⟩
          · have HR := Lib.hid (HG.out.trans (HON.out 2 hc))
            have hc' : ¬ (x : Int) < 128 := by omega
            go_wp2
            go_roundw
            case rel => exact ⟨3, by omega, rfl, by rw [HV.out], HR, hb⟩
            case measure => simp [intOf]
        · have hq0 : 0 ≤ q := by omega
          have hq1 : q < 2097152 := by omega
          have hp1 : (p : Int) + 3 < (s.size : Int) := by omega
          have e0 : ∀ w : World, (Instr.index 9 (.string s) (.int .i64 ((p : Int) + 3))).run Try.prog w = .ok (.int .u8 (x : Int)) w := by
            intro w
            have := eb w
            rwa [show ((p + 3 : Nat) : Int) = (p : Int) + 3 by omega] at this
          have HV := Lib.hid (show ((vacc s p 4 : Nat) : Int) = q + (x : Int) % 128 * 2097152 by have h : vacc s p 4 = vacc s p 3 + x % 128 * 2097152 := HS.out; omega)
          have HG := Lib.hid (show vaGo s p 5 0 = vaGo s p (1 + 1) 3 from hgo.out)
          clear eb hq hqq hk hk5 HS hgo
          by_cases hc : x < 128
          · by_cases hv : (varText (vacc s p 4)).size = 4
            · have HR := Lib.hid (HG.out.trans (HYES.out 1 hc hv))
              rw [HV.out] at hv
              obtain ⟨z, hz⟩ : ∃ z, z = varText (q + (x : Int) % 128 * 2097152) := ⟨_, rfl⟩
              rw [← hz] at hv
              have t1 : ((z.size : Int) != 4) = false := by rw [bne_eq_false_iff_eq]; omega
              have HZ := Lib.hid hz
              clear hv hz
              go_wp2_with (go_at_call 55; refine (varText_impl_any _ _).mono ?_; rintro e w1 ⟨rfl, hb1⟩; rw [← HZ.out])
              go_ret2
              exact ⟨ret2_ii (((congrArg Prod.fst HR.out).trans HV.out).symm) (by refine Eq.trans ?_ (congrArg Prod.snd HR.out).symm; show _ = ((p + 3 + 1 : Nat) : Int); omega), hb.trans (hb1.mono hb.size)⟩
            · have HR := Lib.hid (HG.out.trans (HNO.out 1 hc hv))
              rw [HV.out] at hv
              obtain ⟨z, hz⟩ : ∃ z, z = varText (q + (x : Int) % 128 * 2097152) := ⟨_, rfl⟩
              rw [← hz] at hv
              have t1 : ((z.size : Int) != 4) = true := by rw [bne_iff_ne]; omega
              have HZ := Lib.hid hz
              clear hv hz
              go_wp2_with (go_at_call 55; refine (varText_impl_any _ _).mono ?_; rintro e w1 ⟨rfl, hb1⟩; rw [← HZ.out])
              go_ret2
              exact ⟨ret2_ii ((congrArg Prod.fst HR.out).symm) ((congrArg Prod.snd HR.out).symm), hb.trans (hb1.mono hb.size)⟩
          · have HR := Lib.hid (HG.out.trans (HON.out 1 hc))
            have hc' : ¬ (x : Int) < 128 := by omega
            go_wp2
            go_roundw
            case rel => exact ⟨4, by omega, rfl, by rw [HV.out], HR, hb⟩
            case measure => simp [intOf]
        · have hq0 : 0 ≤ q := by omega
          have hq1 : q < 268435456 := by omega
          have hp1 : (p : Int) + 4 < (s.size : Int) := by omega
          have e0 : ∀ w : World, (Instr.index 9 (.string s) (.int .i64 ((p : Int) + 4))).run Try.prog w = .ok (.int .u8 (x : Int)) w := by
            intro w
            have := eb w
            rwa [show ((p + 4 : Nat) : Int) = (p : Int) + 4 by omega] at this
          have HV := Lib.hid (show ((vacc s p 5 : Nat) : Int) = q + (x : Int) % 128 * 268435456 by have h : vacc s p 5 = vacc s p 4 + x % 128 * 268435456 := HS.out; omega)
          have HG := Lib.hid (show vaGo s p 5 0 = vaGo s p (0 + 1) 4 from hgo.out)
          clear eb hq hqq hk hk5 HS hgo
          by_cases hc : x < 128
          · by_cases hv : (varText (vacc s p 5)).size = 5
            · have HR := Lib.hid (HG.out.trans (HYES.out 0 hc hv))
              rw [HV.out] at hv
              obtain ⟨z, hz⟩ : ∃ z, z = varText (q + (x : Int) % 128 * 268435456) := ⟨_, rfl⟩
              rw [← hz] at hv
              have t1 : ((z.size : Int) != 5) = false := by rw [bne_eq_false_iff_eq]; omega
              have HZ := Lib.hid hz
              clear hv hz
              go_wp2_with (go_at_call 55; refine (varText_impl_any _ _).mono ?_; rintro e w1 ⟨rfl, hb1⟩; rw [← HZ.out])
              go_ret2
              exact ⟨ret2_ii (((congrArg Prod.fst HR.out).trans HV.out).symm) (by refine Eq.trans ?_ (congrArg Prod.snd HR.out).symm; show _ = ((p + 4 + 1 : Nat) : Int); omega), hb.trans (hb1.mono hb.size)⟩
            · have HR := Lib.hid (HG.out.trans (HNO.out 0 hc hv))
              rw [HV.out] at hv
              obtain ⟨z, hz⟩ : ∃ z, z = varText (q + (x : Int) % 128 * 268435456) := ⟨_, rfl⟩
              rw [← hz] at hv
              have t1 : ((z.size : Int) != 5) = true := by rw [bne_iff_ne]; omega
              have HZ := Lib.hid hz
              clear hv hz
              go_wp2_with (go_at_call 55; refine (varText_impl_any _ _).mono ?_; rintro e w1 ⟨rfl, hb1⟩; rw [← HZ.out])
              go_ret2
              exact ⟨ret2_ii ((congrArg Prod.fst HR.out).symm) ((congrArg Prod.snd HR.out).symm), hb.trans (hb1.mono hb.size)⟩
          · have HR := Lib.hid (HG.out.trans (HON.out 0 hc))
            have hc' : ¬ (x : Int) < 128 := by omega
            go_wp2
            go_roundw
            case rel => exact ⟨5, by omega, rfl, by rw [HV.out], HR, hb⟩
            case measure => simp [intOf]
      · have HR := Lib.hid (hgo.out.trans (vaGo_end hlt))
        clear hgo
        go_wp2
        go_ret2
        exact ⟨ret2_ii (by rw [HR.out]) (by rw [HR.out]), hb⟩
    · obtain rfl : k = 5 := by omega
      have HR := Lib.hid (hgo.out.trans (show vaGo s p 0 5 = (0, -1) from rfl))
      clear hgo
      go_wp2
      go_ret2
      exact ⟨ret2_ii (by rw [HR.out]) (by rw [HR.out]), hb⟩


def varAtN (s : ByteArray) (p : Int) : Int := (varAt s p).1
def varAtE (s : ByteArray) (p : Int) : Int := (varAt s p).2


set_option maxRecDepth 100000 in
theorem varAt_impl_no (s : ByteArray) (p : Int) (w : World) (h0 : p < 0 ∨ (s.size : Int) - 1 < p) (hs : s.size ≤ 1048576) :
    Calls Try.prog 58 #[.string s, .int .i64 p] w fun e w' => e = .returned (.tuple #[.int .i64 0, .int .i64 (-1)]) ∧ Below w.heap.size w w' := by
  have H := Lib.hid h0
  clear h0
  go_enter Try.func58, Try.ntmps58
  go_wp2_with (go_at_call 54; refine (within_f _ _ _ _ H.out).mono ?_; rintro e w' ⟨rfl, rfl⟩)
  go_ret2
  exact ⟨rfl, Below.refl _ _⟩
theorem varAt_far {s : ByteArray} {p : Int} (h : p < 0 ∨ (s.size : Int) - 1 < p) : varAt s p = (0, -1) := by
  unfold varAt
  by_cases h0 : 0 ≤ p
  · rw [if_pos h0]; exact vaGo_end (by omega)
  · rw [if_neg h0]
theorem varAt_impl_any (s : ByteArray) (p : Int) (w : World) (hs : s.size ≤ 1048576) :
    Calls Try.prog 58 #[.string s, .int .i64 p] w fun e w' => e = .returned (.tuple #[.int .i64 (varAtN s p), .int .i64 (varAtE s p)]) ∧ Below w.heap.size w w' := by
  by_cases h : p < 0 ∨ (s.size : Int) - 1 < p
  · rw [varAtN, varAtE, varAt_far h]; exact varAt_impl_no s p w h hs
  · obtain ⟨n, rfl⟩ := Int.eq_ofNat_of_zero_le (show 0 ≤ p by omega)
    rw [varAtN, varAtE, varAt, if_pos (by omega), Int.toNat_natCast]
    exact varAt_impl s n w (by omega) hs
end Go.Proofs.Ythjkmefbjbfonaa

/- The walks of VarAt, the program's and the reference's. Printed by wip/gen_varat.py. -/
import Derived.Test.YtcdkccbmehdceaaVarAtPlain
import Derived.Test.YtcdkccbmehdceaaVarText
import Derived.Test.YtcdkccbmehdceaaSched
namespace Go.Proofs.Ytcdkccbmehdceaa
open Go.RowKit Go.ChangeShapes

theorem vaGo_on {s : ByteArray} {p k r : Nat} (h : p + k < s.size) (hb : ¬ byteAt s (p + k) < 128) : vaGo s p (r + 1) k = vaGo s p r (k + 1) := by rw [vaGo, if_pos h, if_neg hb]
theorem vaGo_yes {s : ByteArray} {p k r : Nat} (h : p + k < s.size) (hb : byteAt s (p + k) < 128) (hv : (varText (vacc s p (k + 1))).size = k + 1) : vaGo s p (r + 1) k = ((vacc s p (k + 1) : Int), ((p + k + 1 : Nat) : Int)) := by rw [vaGo, if_pos h, if_pos hb, if_pos hv]
theorem vaGo_no {s : ByteArray} {p k r : Nat} (h : p + k < s.size) (hb : byteAt s (p + k) < 128) (hv : ¬ (varText (vacc s p (k + 1))).size = k + 1) : vaGo s p (r + 1) k = (0, -1) := by rw [vaGo, if_pos h, if_pos hb, if_neg hv]
theorem vaGo_end {s : ByteArray} {p k r : Nat} (h : ¬ p + k < s.size) : vaGo s p r k = (0, -1) := by cases r <;> simp [vaGo, h]
theorem ret2_ii {a b c d : Int} (h1 : a = b) (h2 : c = d) : Ending.returned (.tuple #[.int .i64 a, .int .i64 c]) = .returned (.tuple #[.int .i64 b, .int .i64 d]) := by rw [h1, h2]

set_option maxHeartbeats 4000000 in
set_option maxRecDepth 100000 in
theorem varAt_impl (s : ByteArray) (p : Nat) (w : World) (h0 : p < s.size) (hs : s.size ≤ 1048576) :
    Calls Try.prog 20 #[.string s, .int .i64 p] w fun e w' => e = .returned (.tuple #[.int .i64 (vaGo s p 5 0).1, .int .i64 (vaGo s p 5 0).2]) ∧ Below w.heap.size w w' := by
  go_enter Try.func20, Try.ntmps20
  go_wp2_with (first | (go_at_call 45; refine (within_t _ _ _ _ (by omega) (by omega)).mono ?_; rintro e w' ⟨rfl, rfl⟩))
  go_loopw [6, 7, 8] (fun n i _ wr => ∃ k : Nat, k ≤ 5 ∧ i = .int .i64 k ∧ n = .int .i64 (vacc s p k) ∧ Hid (vaGo s p 5 0 = vaGo s p (5 - k) k) ∧ Below w.heap.size w wr) (fun _ i _ _ => 5 - (intOf i).toNat)
  case atStart => exact ⟨0, by omega, rfl, rfl, Lib.hid rfl, Below.refl _ _⟩
  case round =>
    obtain ⟨k, hk, rfl, rfl, hgo, hb⟩ := hrel
    by_cases hk5 : k < 5
    · by_cases hlt : p + k < s.size
      · have hx := byteAt_lt s (p + k)
        have hq := vacc_lt s p k
        have eb := run_byte (P := Try.prog) Try.underlying9 s .i64 (p + k) hlt
        have HS := Lib.hid (show vacc s p (k + 1) = vacc s p k + byteAt s (p + k) % 128 * 128 ^ k from rfl)
        have HON := Lib.hid (fun r => vaGo_on (r := r) hlt)
        have HYES := Lib.hid (fun r => vaGo_yes (r := r) hlt)
        have HNO := Lib.hid (fun r => vaGo_no (r := r) hlt)
        obtain ⟨x, hxx⟩ : ∃ x, x = byteAt s (p + k) := ⟨_, rfl⟩
        rw [← hxx] at hx eb HS HON HYES HNO
        clear hxx
        obtain ⟨q, hqq⟩ : ∃ q : Int, q = (vacc s p k : Int) := ⟨_, rfl⟩
        rw [← hqq]
        have hx1 : (x : Int) < 256 := by omega
        have hx0 : (0 : Int) ≤ (x : Int) := by omega
        rcases (show k = 0 ∨ k = 1 ∨ k = 2 ∨ k = 3 ∨ k = 4 by omega) with rfl | rfl | rfl | rfl | rfl
        · have hq0 : 0 ≤ q := by omega
          have hq1 : q < 1 := by omega
          have hp1 : (p : Int) < (s.size : Int) := by omega
          have e0 : ∀ w : World, (Instr.index 9 (.string s) (.int .i64 ((p : Int)))).run Try.prog w = .ok (.int .u8 (x : Int)) w := by
            intro w
            have := eb w
            rwa [show ((p + 0 : Nat) : Int) = (p : Int) by omega] at this
          have HV := Lib.hid (show ((vacc s p 1 : Nat) : Int) = q + (x : Int) % 128 by have h : vacc s p 1 = vacc s p 0 + x % 128 * 1 := HS.out; omega)
          have HG := Lib.hid (show vaGo s p 5 0 = vaGo s p (4 + 1) 0 from hgo.out)
          clear eb hq hqq hk hk5 HS hgo
          by_cases hc : x < 128
          · by_cases hv : (varText (vacc s p 1)).size = 1
            · have HR := Lib.hid (HG.out.trans (HYES.out 4 hc hv))
              rw [HV.out] at hv
              obtain ⟨z, hz⟩ : ∃ z, z = varText (q + (x : Int) % 128) := ⟨_, rfl⟩
              rw [← hz] at hv
              have t1 : ((z.size : Int) != 1) = false := by rw [bne_eq_false_iff_eq]; omega
              have HZ := Lib.hid hz
              clear hv hz
              go_wp2_with (go_at_call 25; refine (varText_impl_any _ _).mono ?_; rintro e w1 ⟨rfl, hb1⟩; rw [← HZ.out])
              go_ret2
              exact ⟨ret2_ii (((congrArg Prod.fst HR.out).trans HV.out).symm) (by refine Eq.trans ?_ (congrArg Prod.snd HR.out).symm; show _ = ((p + 0 + 1 : Nat) : Int); omega), hb.trans (hb1.mono hb.size)⟩
            · have HR := Lib.hid (HG.out.trans (HNO.out 4 hc hv))
              rw [HV.out] at hv
              obtain ⟨z, hz⟩ : ∃ z, z = varText (q + (x : Int) % 128) := ⟨_, rfl⟩
              rw [← hz] at hv
              have t1 : ((z.size : Int) != 1) = true := by rw [bne_iff_ne]; omega
              have HZ := Lib.hid hz
              clear hv hz
              go_wp2_with (go_at_call 25; refine (varText_impl_any _ _).mono ?_; rintro e w1 ⟨rfl, hb1⟩; rw [← HZ.out])
              go_ret2
              exact ⟨ret2_ii ((congrArg Prod.fst HR.out).symm) ((congrArg Prod.snd HR.out).symm), hb.trans (hb1.mono hb.size)⟩
          · have HR := Lib.hid (HG.out.trans (HON.out 4 hc))
            have hc' : ¬ (x : Int) < 128 := by omega
            go_wp2
            go_roundw
            case rel => exact ⟨1, by omega, rfl, by rw [HV.out], HR, hb⟩
            case measure => simp [intOf]
        · have hq0 : 0 ≤ q := by omega
          have hq1 : q < 128 := by omega
          have hp1 : (p : Int) + 1 < (s.size : Int) := by omega
          have e0 : ∀ w : World, (Instr.index 9 (.string s) (.int .i64 ((p : Int) + 1))).run Try.prog w = .ok (.int .u8 (x : Int)) w := by
            intro w
            have := eb w
            rwa [show ((p + 1 : Nat) : Int) = (p : Int) + 1 by omega] at this
          have HV := Lib.hid (show ((vacc s p 2 : Nat) : Int) = q + (x : Int) % 128 * 128 by have h : vacc s p 2 = vacc s p 1 + x % 128 * 128 := HS.out; omega)
          have HG := Lib.hid (show vaGo s p 5 0 = vaGo s p (3 + 1) 1 from hgo.out)
          clear eb hq hqq hk hk5 HS hgo
          by_cases hc : x < 128
          · by_cases hv : (varText (vacc s p 2)).size = 2
            · have HR := Lib.hid (HG.out.trans (HYES.out 3 hc hv))
              rw [HV.out] at hv
              obtain ⟨z, hz⟩ : ∃ z, z = varText (q + (x : Int) % 128 * 128) := ⟨_, rfl⟩
              rw [← hz] at hv
              have t1 : ((z.size : Int) != 2) = false := by rw [bne_eq_false_iff_eq]; omega
              have HZ := Lib.hid hz
              clear hv hz
              go_wp2_with (go_at_call 25; refine (varText_impl_any _ _).mono ?_; rintro e w1 ⟨rfl, hb1⟩; rw [← HZ.out])
              go_ret2
              exact ⟨ret2_ii (((congrArg Prod.fst HR.out).trans HV.out).symm) (by refine Eq.trans ?_ (congrArg Prod.snd HR.out).symm; show _ = ((p + 1 + 1 : Nat) : Int); omega), hb.trans (hb1.mono hb.size)⟩
            · have HR := Lib.hid (HG.out.trans (HNO.out 3 hc hv))
              rw [HV.out] at hv
              obtain ⟨z, hz⟩ : ∃ z, z = varText (q + (x : Int) % 128 * 128) := ⟨_, rfl⟩
              rw [← hz] at hv
              have t1 : ((z.size : Int) != 2) = true := by rw [bne_iff_ne]; omega
              have HZ := Lib.hid hz
              clear hv hz
              go_wp2_with (go_at_call 25; refine (varText_impl_any _ _).mono ?_; rintro e w1 ⟨rfl, hb1⟩; rw [← HZ.out])
              go_ret2
              exact ⟨ret2_ii ((congrArg Prod.fst HR.out).symm) ((congrArg Prod.snd HR.out).symm), hb.trans (hb1.mono hb.size)⟩
          · have HR := Lib.hid (HG.out.trans (HON.out 3 hc))
            have hc' : ¬ (x : Int) < 128 := by omega
            go_wp2
            go_roundw
            case rel => exact ⟨2, by omega, rfl, by rw [HV.out], HR, hb⟩
            case measure => simp [intOf]
        · have hq0 : 0 ≤ q := by omega
          have hq1 : q < 16384 := by omega
          have hp1 : (p : Int) + 2 < (s.size : Int) := by omega
          have e0 : ∀ w : World, (Instr.index 9 (.string s) (.int .i64 ((p : Int) + 2))).run Try.prog w = .ok (.int .u8 (x : Int)) w := by
            intro w
            have := eb w
            rwa [show ((p + 2 : Nat) : Int) = (p : Int) + 2 by omega] at this
          have HV := Lib.hid (show ((vacc s p 3 : Nat) : Int) = q + (x : Int) % 128 * 16384 by have h : vacc s p 3 = vacc s p 2 + x % 128 * 16384 := HS.out; omega)
          have HG := Lib.hid (show vaGo s p 5 0 = vaGo s p (2 + 1) 2 from hgo.out)
          clear eb hq hqq hk hk5 HS hgo
          by_cases hc : x < 128
          · by_cases hv : (varText (vacc s p 3)).size = 3
            · have HR := Lib.hid (HG.out.trans (HYES.out 2 hc hv))
              rw [HV.out] at hv
              obtain ⟨z, hz⟩ : ∃ z, z = varText (q + (x : Int) % 128 * 16384) := ⟨_, rfl⟩
              rw [← hz] at hv
              have t1 : ((z.size : Int) != 3) = false := by rw [bne_eq_false_iff_eq]; omega
              have HZ := Lib.hid hz
              clear hv hz
              go_wp2_with (go_at_call 25; refine (varText_impl_any _ _).mono ?_; rintro e w1 ⟨rfl, hb1⟩; rw [← HZ.out])
              go_ret2
              exact ⟨ret2_ii (((congrArg Prod.fst HR.out).trans HV.out).symm) (by refine Eq.trans ?_ (congrArg Prod.snd HR.out).symm; show _ = ((p + 2 + 1 : Nat) : Int); omega), hb.trans (hb1.mono hb.size)⟩
            · have HR := Lib.hid (HG.out.trans (HNO.out 2 hc hv))
              rw [HV.out] at hv
              obtain ⟨z, hz⟩ : ∃ z, z = varText (q + (x : Int) % 128 * 16384) := ⟨_, rfl⟩
              rw [← hz] at hv
              have t1 : ((z.size : Int) != 3) = true := by rw [bne_iff_ne]; omega
              have HZ := Lib.hid hz
              clear hv hz
              go_wp2_with (go_at_call 25; refine (varText_impl_any _ _).mono ?_; rintro e w1 ⟨rfl, hb1⟩; rw [← HZ.out])
              go_ret2
              exact ⟨ret2_ii ((congrArg Prod.fst HR.out).symm) ((congrArg Prod.snd HR.out).symm), hb.trans (hb1.mono hb.size)⟩
          · have HR := Lib.hid (HG.out.trans (HON.out 2 hc))
            have hc' : ¬ (x : Int) < 128 := by omega
            go_wp2
            go_roundw
            case rel => exact ⟨3, by omega, rfl, by rw [HV.out], HR, hb⟩
            case measure => simp [intOf]
        · have hq0 : 0 ≤ q := by omega
          have hq1 : q < 2097152 := by omega
          have hp1 : (p : Int) + 3 < (s.size : Int) := by omega
          have e0 : ∀ w : World, (Instr.index 9 (.string s) (.int .i64 ((p : Int) + 3))).run Try.prog w = .ok (.int .u8 (x : Int)) w := by
            intro w
            have := eb w
            rwa [show ((p + 3 : Nat) : Int) = (p : Int) + 3 by omega] at this
          have HV := Lib.hid (show ((vacc s p 4 : Nat) : Int) = q + (x : Int) % 128 * 2097152 by have h : vacc s p 4 = vacc s p 3 + x % 128 * 2097152 := HS.out; omega)
          have HG := Lib.hid (show vaGo s p 5 0 = vaGo s p (1 + 1) 3 from hgo.out)
          clear eb hq hqq hk hk5 HS hgo
          by_cases hc : x < 128
          · by_cases hv : (varText (vacc s p 4)).size = 4
            · have HR := Lib.hid (HG.out.trans (HYES.out 1 hc hv))
              rw [HV.out] at hv
              obtain ⟨z, hz⟩ : ∃ z, z = varText (q + (x : Int) % 128 * 2097152) := ⟨_, rfl⟩
              rw [← hz] at hv
              have t1 : ((z.size : Int) != 4) = false := by rw [bne_eq_false_iff_eq]; omega
              have HZ := Lib.hid hz
              clear hv hz
              go_wp2_with (go_at_call 25; refine (varText_impl_any _ _).mono ?_; rintro e w1 ⟨rfl, hb1⟩; rw [← HZ.out])
              go_ret2
              exact ⟨ret2_ii (((congrArg Prod.fst HR.out).trans HV.out).symm) (by refine Eq.trans ?_ (congrArg Prod.snd HR.out).symm; show _ = ((p + 3 + 1 : Nat) : Int); omega), hb.trans (hb1.mono hb.size)⟩
            · have HR := Lib.hid (HG.out.trans (HNO.out 1 hc hv))
              rw [HV.out] at hv
              obtain ⟨z, hz⟩ : ∃ z, z = varText (q + (x : Int) % 128 * 2097152) := ⟨_, rfl⟩
              rw [← hz] at hv
              have t1 : ((z.size : Int) != 4) = true := by rw [bne_iff_ne]; omega
              have HZ := Lib.hid hz
              clear hv hz
              go_wp2_with (go_at_call 25; refine (varText_impl_any _ _).mono ?_; rintro e w1 ⟨rfl, hb1⟩; rw [← HZ.out])
              go_ret2
              exact ⟨ret2_ii ((congrArg Prod.fst HR.out).symm) ((congrArg Prod.snd HR.out).symm), hb.trans (hb1.mono hb.size)⟩
          · have HR := Lib.hid (HG.out.trans (HON.out 1 hc))
            have hc' : ¬ (x : Int) < 128 := by omega
            go_wp2
            go_roundw
            case rel => exact ⟨4, by omega, rfl, by rw [HV.out], HR, hb⟩
            case measure => simp [intOf]
        · have hq0 : 0 ≤ q := by omega
          have hq1 : q < 268435456 := by omega
          have hp1 : (p : Int) + 4 < (s.size : Int) := by omega
          have e0 : ∀ w : World, (Instr.index 9 (.string s) (.int .i64 ((p : Int) + 4))).run Try.prog w = .ok (.int .u8 (x : Int)) w := by
            intro w
            have := eb w
            rwa [show ((p + 4 : Nat) : Int) = (p : Int) + 4 by omega] at this
          have HV := Lib.hid (show ((vacc s p 5 : Nat) : Int) = q + (x : Int) % 128 * 268435456 by have h : vacc s p 5 = vacc s p 4 + x % 128 * 268435456 := HS.out; omega)
          have HG := Lib.hid (show vaGo s p 5 0 = vaGo s p (0 + 1) 4 from hgo.out)
          clear eb hq hqq hk hk5 HS hgo
          by_cases hc : x < 128
          · by_cases hv : (varText (vacc s p 5)).size = 5
            · have HR := Lib.hid (HG.out.trans (HYES.out 0 hc hv))
              rw [HV.out] at hv
              obtain ⟨z, hz⟩ : ∃ z, z = varText (q + (x : Int) % 128 * 268435456) := ⟨_, rfl⟩
              rw [← hz] at hv
              have t1 : ((z.size : Int) != 5) = false := by rw [bne_eq_false_iff_eq]; omega
              have HZ := Lib.hid hz
              clear hv hz
              go_wp2_with (go_at_call 25; refine (varText_impl_any _ _).mono ?_; rintro e w1 ⟨rfl, hb1⟩; rw [← HZ.out])
              go_ret2
              exact ⟨ret2_ii (((congrArg Prod.fst HR.out).trans HV.out).symm) (by refine Eq.trans ?_ (congrArg Prod.snd HR.out).symm; show _ = ((p + 4 + 1 : Nat) : Int); omega), hb.trans (hb1.mono hb.size)⟩
            · have HR := Lib.hid (HG.out.trans (HNO.out 0 hc hv))
              rw [HV.out] at hv
              obtain ⟨z, hz⟩ : ∃ z, z = varText (q + (x : Int) % 128 * 268435456) := ⟨_, rfl⟩
              rw [← hz] at hv
              have t1 : ((z.size : Int) != 5) = true := by rw [bne_iff_ne]; omega
              have HZ := Lib.hid hz
              clear hv hz
              go_wp2_with (go_at_call 25; refine (varText_impl_any _ _).mono ?_; rintro e w1 ⟨rfl, hb1⟩; rw [← HZ.out])
              go_ret2
              exact ⟨ret2_ii ((congrArg Prod.fst HR.out).symm) ((congrArg Prod.snd HR.out).symm), hb.trans (hb1.mono hb.size)⟩
          · have HR := Lib.hid (HG.out.trans (HON.out 0 hc))
            have hc' : ¬ (x : Int) < 128 := by omega
            go_wp2
            go_roundw
            case rel => exact ⟨5, by omega, rfl, by rw [HV.out], HR, hb⟩
            case measure => simp [intOf]
      · have HR := Lib.hid (hgo.out.trans (vaGo_end hlt))
        clear hgo
        go_wp2
        go_ret2
        exact ⟨ret2_ii (by rw [HR.out]) (by rw [HR.out]), hb⟩
    · obtain rfl : k = 5 := by omega
      have HR := Lib.hid (hgo.out.trans (show vaGo s p 0 5 = (0, -1) from rfl))
      clear hgo
      go_wp2
      go_ret2
      exact ⟨ret2_ii (by rw [HR.out]) (by rw [HR.out]), hb⟩


set_option maxHeartbeats 4000000 in
set_option maxRecDepth 100000 in
theorem varAt_spec (s : ByteArray) (p : Nat) (w : World) (h0 : p ≤ 1048576) (_hs : s.size ≤ 1048576) :
    Calls Try.prog 19 #[.string s, .int .i64 p] w fun e w' => e = .returned (.tuple #[.int .i64 (vaGo s p 5 0).1, .int .i64 (vaGo s p 5 0).2]) ∧ Below w.heap.size w w' := by
  have td : decide ((p : Int) < 0) = false := by simp
  go_enter Try.func19, Try.ntmps19
  go_wp2
  clear td
  go_loopw [6, 7, 8] (fun n b i wr => ∃ k : Nat, k ≤ 5 ∧ i = .int .i64 ((p + k : Nat) : Int) ∧ b = .int .i64 ((128 ^ k : Nat) : Int) ∧ n = .int .i64 (vacc s p k) ∧ Hid (∀ j, j < k → 128 ≤ byteAt s (p + j)) ∧ Hid (vaGo s p 5 0 = vaGo s p (5 - k) k) ∧ Below w.heap.size w wr) (fun _ _ i _ => p + 5 - (intOf i).toNat)
  case atStart => exact ⟨0, by omega, rfl, rfl, rfl, Lib.hid (fun j hj => by omega), Lib.hid rfl, Below.refl _ _⟩
  case round =>
    obtain ⟨k, hk, rfl, rfl, rfl, hgood, hgo, hb⟩ := hrel
    by_cases hlt : p + k < s.size
    · by_cases hk5 : k < 5
      · have hx := byteAt_lt s (p + k)
        have hq := vacc_lt s p k
        have eb := run_byte (P := Try.prog) Try.underlying9 s .i64 (p + k) hlt
        have HS := Lib.hid (show vacc s p (k + 1) = vacc s p k + byteAt s (p + k) % 128 * 128 ^ k from rfl)
        have HON := Lib.hid (fun r => vaGo_on (r := r) hlt)
        have HYES := Lib.hid (fun r => vaGo_yes (r := r) hlt)
        have HNO := Lib.hid (fun r => vaGo_no (r := r) hlt)
        have HT := Lib.hid (var_tests s p k hk5 hlt hgood.out)
        have HGD := Lib.hid (show 128 ≤ byteAt s (p + k) → ∀ j, j < k + 1 → 128 ≤ byteAt s (p + j) from fun h j hj => by
          by_cases e : j = k
          · rw [e]; exact h
          · exact hgood.out j (by omega))
        obtain ⟨x, hxx⟩ : ∃ x, x = byteAt s (p + k) := ⟨_, rfl⟩
        rw [← hxx] at hx eb HS HON HYES HNO HT HGD
        clear hxx
        obtain ⟨q, hqq⟩ : ∃ q : Int, q = (vacc s p k : Int) := ⟨_, rfl⟩
        rw [← hqq]
        have hx1 : (x : Int) < 256 := by omega
        have hx0 : (0 : Int) ≤ (x : Int) := by omega
        clear hgood
        rcases (show k = 0 ∨ k = 1 ∨ k = 2 ∨ k = 3 ∨ k = 4 by omega) with rfl | rfl | rfl | rfl | rfl
        · have hq0 : 0 ≤ q := by omega
          have hq1 : q < 1 := by omega
          have hp1 : (p : Int) < (s.size : Int) := by omega
          have e0 : ∀ w : World, (Instr.index 9 (.string s) (.int .i64 ((p : Int)))).run Try.prog w = .ok (.int .u8 (x : Int)) w := by
            intro w
            have := eb w
            rwa [show ((p + 0 : Nat) : Int) = (p : Int) by omega] at this
          have HV := Lib.hid (show ((vacc s p 1 : Nat) : Int) = q + (x : Int) % 128 by have h : vacc s p 1 = vacc s p 0 + x % 128 * 1 := HS.out; omega)
          have HG := Lib.hid (show vaGo s p 5 0 = vaGo s p (4 + 1) 0 from hgo.out)
          rw [show ((p + 0 : Nat) : Int) = (p : Int) by omega, show ((128 ^ 0 : Nat) : Int) = 1 by omega]
          clear eb hq hqq hk hk5 HS hgo
          by_cases hc : x < 128
          · have kw : IntKind.i64.wrap ((p : Int) + 1) = (p : Int) + 1 := by have h := IntWalk.i64_in ((p : Int) + 1) (by omega); omega
            have z1 : (p : Int) ≤ (p : Int) + 1 := by omega
            have z2 : (p : Int) + 1 ≤ (s.size : Int) := by omega
            have z3 : ((p : Int) + 1).toNat = p + 1 := by omega
            have hT := HT.out hc
            rw [HV.out] at hT
            have HYE := Lib.hid (HYES.out 4 hc)
            have HNE := Lib.hid (HNO.out 4 hc)
            by_cases hbig : q + (x : Int) % 128 ≤ 1000000000
            · have t1 : decide ((1000000000 : Int) < q + (x : Int) % 128) = false := by simp; omega
              by_cases hv : s.extract p (p + 1) = varText (q + (x : Int) % 128)
              · have HR := Lib.hid (HG.out.trans (HYE.out (by rw [HV.out]; exact hT.2 ⟨hbig, hv⟩)))
                obtain ⟨z, hz⟩ : ∃ z, z = varText (q + (x : Int) % 128) := ⟨_, rfl⟩
                obtain ⟨y, hy⟩ : ∃ y, y = s.extract p (p + 1) := ⟨_, rfl⟩
                have HZ := Lib.hid hz
                have HY := Lib.hid hy.symm
                rw [← hz, ← hy] at hv
                have t2 : (y.toList == z.toList) = true := by rw [hv]; exact beq_self_eq_true _
                have hsl : ∀ w : World, (Instr.slice 9 (.string s) (some (.int .i64 p)) (some (.int .i64 ((p : Int) + 1))) none).run Try.prog w = .ok (.string y) w := by
                  intro w
                  rw [run_slice_string (P := Try.prog) w _ s _ _ _ _ Try.underlying9 (by omega) (by omega) (by omega), Int.toNat_natCast, z3, HY.out]
                have CZ := Lib.hid (show ∀ w : World, Calls Try.prog 44 #[.int .i64 (q + (x : Int) % 128)] w fun e w' => e = .returned (.string z) ∧ Below w.heap.size w w' from fun w => by rw [hz]; exact varText_spec_any _ w)
                clear hv hz hy hT hbig HYE HNE z1 z2 z3
                go_wp2
                first | refine wp_region_calm_on (by kernel_rfl) (by kernel_rfl) ?_ | refine wp_region_calm_lit (by kernel_rfl) (by kernel_rfl) ?_
                repeat (go_big_quiet_step ((go_at_call 44; exact calm_of (CZ.out _))))
                refine wpQuiet_nil ?_
                intro _ hw'
                obtain ⟨k1, hw''⟩ := hw'
                subst hw''
                go_wp2
                go_ret2
                exact ⟨ret2_ii ((congrArg Prod.fst HR.out).trans HV.out).symm (by refine Eq.trans ?_ (congrArg Prod.snd HR.out).symm; show _ = ((p + 0 + 1 : Nat) : Int); omega), Below.calm hb hb.size⟩
              · have HR := Lib.hid (HG.out.trans (HNE.out (by rw [HV.out]; exact fun e => hv (hT.1 e).2)))
                obtain ⟨z, hz⟩ : ∃ z, z = varText (q + (x : Int) % 128) := ⟨_, rfl⟩
                obtain ⟨y, hy⟩ : ∃ y, y = s.extract p (p + 1) := ⟨_, rfl⟩
                have HZ := Lib.hid hz
                have HY := Lib.hid hy.symm
                rw [← hz, ← hy] at hv
                have t2 : (y.toList == z.toList) = false := str_ne hv
                have hsl : ∀ w : World, (Instr.slice 9 (.string s) (some (.int .i64 p)) (some (.int .i64 ((p : Int) + 1))) none).run Try.prog w = .ok (.string y) w := by
                  intro w
                  rw [run_slice_string (P := Try.prog) w _ s _ _ _ _ Try.underlying9 (by omega) (by omega) (by omega), Int.toNat_natCast, z3, HY.out]
                have CZ := Lib.hid (show ∀ w : World, Calls Try.prog 44 #[.int .i64 (q + (x : Int) % 128)] w fun e w' => e = .returned (.string z) ∧ Below w.heap.size w w' from fun w => by rw [hz]; exact varText_spec_any _ w)
                clear hv hz hy hT hbig HYE HNE z1 z2 z3
                go_wp2
                first | refine wp_region_calm_on (by kernel_rfl) (by kernel_rfl) ?_ | refine wp_region_calm_lit (by kernel_rfl) (by kernel_rfl) ?_
                repeat (go_big_quiet_step ((go_at_call 44; exact calm_of (CZ.out _))))
                refine wpQuiet_nil ?_
                intro _ hw'
                obtain ⟨k1, hw''⟩ := hw'
                subst hw''
                go_wp2
                go_ret2
                exact ⟨ret2_ii (congrArg Prod.fst HR.out).symm (congrArg Prod.snd HR.out).symm, Below.calm hb hb.size⟩
            · have t1 : decide ((1000000000 : Int) < q + (x : Int) % 128) = true := by simp; omega
              have HR := Lib.hid (HG.out.trans (HNE.out (by rw [HV.out]; exact fun e => hbig (hT.1 e).1)))
              clear hT hbig HYE HNE z1 z2 z3
              go_wp2
              first | refine wp_region_calm_on (by kernel_rfl) (by kernel_rfl) ?_ | refine wp_region_calm_lit (by kernel_rfl) (by kernel_rfl) ?_
              repeat (go_big_quiet_step (fail))
              refine wpQuiet_nil ?_
              intro _ hw'
              obtain ⟨k1, hw''⟩ := hw'
              subst hw''
              go_wp2
              go_ret2
              exact ⟨ret2_ii (congrArg Prod.fst HR.out).symm (congrArg Prod.snd HR.out).symm, Below.calm hb hb.size⟩
          · have HR := Lib.hid (HG.out.trans (HON.out 4 hc))
            have hc' : ¬ (x : Int) < 128 := by omega
            have HGX := Lib.hid (HGD.out (by omega))
            go_wp2
            go_roundw
            case rel => exact ⟨1, by omega, by rw [show ((p + 1 : Nat) : Int) = (p : Int) + 1 by omega], rfl, by rw [HV.out], HGX, HR, hb⟩
            case measure => simp [intOf] <;> omega
        · have hq0 : 0 ≤ q := by omega
          have hq1 : q < 128 := by omega
          have hp1 : (p : Int) + 1 < (s.size : Int) := by omega
          have e0 : ∀ w : World, (Instr.index 9 (.string s) (.int .i64 ((p : Int) + 1))).run Try.prog w = .ok (.int .u8 (x : Int)) w := by
            intro w
            have := eb w
            rwa [show ((p + 1 : Nat) : Int) = (p : Int) + 1 by omega] at this
          have HV := Lib.hid (show ((vacc s p 2 : Nat) : Int) = q + (x : Int) % 128 * 128 by have h : vacc s p 2 = vacc s p 1 + x % 128 * 128 := HS.out; omega)
          have HG := Lib.hid (show vaGo s p 5 0 = vaGo s p (3 + 1) 1 from hgo.out)
          rw [show ((p + 1 : Nat) : Int) = (p : Int) + 1 by omega, show ((128 ^ 1 : Nat) : Int) = 128 by omega]
          clear eb hq hqq hk hk5 HS hgo
          by_cases hc : x < 128
          · have kw : IntKind.i64.wrap ((p : Int) + 1 + 1) = (p : Int) + 2 := by have h := IntWalk.i64_in ((p : Int) + 1 + 1) (by omega); omega
            have z1 : (p : Int) ≤ (p : Int) + 2 := by omega
            have z2 : (p : Int) + 2 ≤ (s.size : Int) := by omega
            have z3 : ((p : Int) + 2).toNat = p + 2 := by omega
            have hT := HT.out hc
            rw [HV.out] at hT
            have HYE := Lib.hid (HYES.out 3 hc)
            have HNE := Lib.hid (HNO.out 3 hc)
            by_cases hbig : q + (x : Int) % 128 * 128 ≤ 1000000000
            · have t1 : decide ((1000000000 : Int) < q + (x : Int) % 128 * 128) = false := by simp; omega
              by_cases hv : s.extract p (p + 2) = varText (q + (x : Int) % 128 * 128)
              · have HR := Lib.hid (HG.out.trans (HYE.out (by rw [HV.out]; exact hT.2 ⟨hbig, hv⟩)))
                obtain ⟨z, hz⟩ : ∃ z, z = varText (q + (x : Int) % 128 * 128) := ⟨_, rfl⟩
                obtain ⟨y, hy⟩ : ∃ y, y = s.extract p (p + 2) := ⟨_, rfl⟩
                have HZ := Lib.hid hz
                have HY := Lib.hid hy.symm
                rw [← hz, ← hy] at hv
                have t2 : (y.toList == z.toList) = true := by rw [hv]; exact beq_self_eq_true _
                have hsl : ∀ w : World, (Instr.slice 9 (.string s) (some (.int .i64 p)) (some (.int .i64 ((p : Int) + 2))) none).run Try.prog w = .ok (.string y) w := by
                  intro w
                  rw [run_slice_string (P := Try.prog) w _ s _ _ _ _ Try.underlying9 (by omega) (by omega) (by omega), Int.toNat_natCast, z3, HY.out]
                have CZ := Lib.hid (show ∀ w : World, Calls Try.prog 44 #[.int .i64 (q + (x : Int) % 128 * 128)] w fun e w' => e = .returned (.string z) ∧ Below w.heap.size w w' from fun w => by rw [hz]; exact varText_spec_any _ w)
                clear hv hz hy hT hbig HYE HNE z1 z2 z3
                go_wp2
                first | refine wp_region_calm_on (by kernel_rfl) (by kernel_rfl) ?_ | refine wp_region_calm_lit (by kernel_rfl) (by kernel_rfl) ?_
                repeat (go_big_quiet_step ((go_at_call 44; exact calm_of (CZ.out _))))
                refine wpQuiet_nil ?_
                intro _ hw'
                obtain ⟨k1, hw''⟩ := hw'
                subst hw''
                go_wp2
                go_ret2
                exact ⟨ret2_ii ((congrArg Prod.fst HR.out).trans HV.out).symm (by refine Eq.trans ?_ (congrArg Prod.snd HR.out).symm; show _ = ((p + 1 + 1 : Nat) : Int); omega), Below.calm hb hb.size⟩
              · have HR := Lib.hid (HG.out.trans (HNE.out (by rw [HV.out]; exact fun e => hv (hT.1 e).2)))
                obtain ⟨z, hz⟩ : ∃ z, z = varText (q + (x : Int) % 128 * 128) := ⟨_, rfl⟩
                obtain ⟨y, hy⟩ : ∃ y, y = s.extract p (p + 2) := ⟨_, rfl⟩
                have HZ := Lib.hid hz
                have HY := Lib.hid hy.symm
                rw [← hz, ← hy] at hv
                have t2 : (y.toList == z.toList) = false := str_ne hv
                have hsl : ∀ w : World, (Instr.slice 9 (.string s) (some (.int .i64 p)) (some (.int .i64 ((p : Int) + 2))) none).run Try.prog w = .ok (.string y) w := by
                  intro w
                  rw [run_slice_string (P := Try.prog) w _ s _ _ _ _ Try.underlying9 (by omega) (by omega) (by omega), Int.toNat_natCast, z3, HY.out]
                have CZ := Lib.hid (show ∀ w : World, Calls Try.prog 44 #[.int .i64 (q + (x : Int) % 128 * 128)] w fun e w' => e = .returned (.string z) ∧ Below w.heap.size w w' from fun w => by rw [hz]; exact varText_spec_any _ w)
                clear hv hz hy hT hbig HYE HNE z1 z2 z3
                go_wp2
                first | refine wp_region_calm_on (by kernel_rfl) (by kernel_rfl) ?_ | refine wp_region_calm_lit (by kernel_rfl) (by kernel_rfl) ?_
                repeat (go_big_quiet_step ((go_at_call 44; exact calm_of (CZ.out _))))
                refine wpQuiet_nil ?_
                intro _ hw'
                obtain ⟨k1, hw''⟩ := hw'
                subst hw''
                go_wp2
                go_ret2
                exact ⟨ret2_ii (congrArg Prod.fst HR.out).symm (congrArg Prod.snd HR.out).symm, Below.calm hb hb.size⟩
            · have t1 : decide ((1000000000 : Int) < q + (x : Int) % 128 * 128) = true := by simp; omega
              have HR := Lib.hid (HG.out.trans (HNE.out (by rw [HV.out]; exact fun e => hbig (hT.1 e).1)))
              clear hT hbig HYE HNE z1 z2 z3
              go_wp2
              first | refine wp_region_calm_on (by kernel_rfl) (by kernel_rfl) ?_ | refine wp_region_calm_lit (by kernel_rfl) (by kernel_rfl) ?_
              repeat (go_big_quiet_step (fail))
              refine wpQuiet_nil ?_
              intro _ hw'
              obtain ⟨k1, hw''⟩ := hw'
              subst hw''
              go_wp2
              go_ret2
              exact ⟨ret2_ii (congrArg Prod.fst HR.out).symm (congrArg Prod.snd HR.out).symm, Below.calm hb hb.size⟩
          · have HR := Lib.hid (HG.out.trans (HON.out 3 hc))
            have hc' : ¬ (x : Int) < 128 := by omega
            have HGX := Lib.hid (HGD.out (by omega))
            go_wp2
            go_roundw
            case rel => exact ⟨2, by omega, by rw [show ((p + 2 : Nat) : Int) = (p : Int) + 1 + 1 by omega], rfl, by rw [HV.out], HGX, HR, hb⟩
            case measure => simp [intOf] <;> omega
        · have hq0 : 0 ≤ q := by omega
          have hq1 : q < 16384 := by omega
          have hp1 : (p : Int) + 2 < (s.size : Int) := by omega
          have e0 : ∀ w : World, (Instr.index 9 (.string s) (.int .i64 ((p : Int) + 2))).run Try.prog w = .ok (.int .u8 (x : Int)) w := by
            intro w
            have := eb w
            rwa [show ((p + 2 : Nat) : Int) = (p : Int) + 2 by omega] at this
          have HV := Lib.hid (show ((vacc s p 3 : Nat) : Int) = q + (x : Int) % 128 * 16384 by have h : vacc s p 3 = vacc s p 2 + x % 128 * 16384 := HS.out; omega)
          have HG := Lib.hid (show vaGo s p 5 0 = vaGo s p (2 + 1) 2 from hgo.out)
          rw [show ((p + 2 : Nat) : Int) = (p : Int) + 2 by omega, show ((128 ^ 2 : Nat) : Int) = 16384 by omega]
          clear eb hq hqq hk hk5 HS hgo
          by_cases hc : x < 128
          · have kw : IntKind.i64.wrap ((p : Int) + 2 + 1) = (p : Int) + 3 := by have h := IntWalk.i64_in ((p : Int) + 2 + 1) (by omega); omega
            have z1 : (p : Int) ≤ (p : Int) + 3 := by omega
            have z2 : (p : Int) + 3 ≤ (s.size : Int) := by omega
            have z3 : ((p : Int) + 3).toNat = p + 3 := by omega
            have hT := HT.out hc
            rw [HV.out] at hT
            have HYE := Lib.hid (HYES.out 2 hc)
            have HNE := Lib.hid (HNO.out 2 hc)
            by_cases hbig : q + (x : Int) % 128 * 16384 ≤ 1000000000
            · have t1 : decide ((1000000000 : Int) < q + (x : Int) % 128 * 16384) = false := by simp; omega
              by_cases hv : s.extract p (p + 3) = varText (q + (x : Int) % 128 * 16384)
              · have HR := Lib.hid (HG.out.trans (HYE.out (by rw [HV.out]; exact hT.2 ⟨hbig, hv⟩)))
                obtain ⟨z, hz⟩ : ∃ z, z = varText (q + (x : Int) % 128 * 16384) := ⟨_, rfl⟩
                obtain ⟨y, hy⟩ : ∃ y, y = s.extract p (p + 3) := ⟨_, rfl⟩
                have HZ := Lib.hid hz
                have HY := Lib.hid hy.symm
                rw [← hz, ← hy] at hv
                have t2 : (y.toList == z.toList) = true := by rw [hv]; exact beq_self_eq_true _
                have hsl : ∀ w : World, (Instr.slice 9 (.string s) (some (.int .i64 p)) (some (.int .i64 ((p : Int) + 3))) none).run Try.prog w = .ok (.string y) w := by
                  intro w
                  rw [run_slice_string (P := Try.prog) w _ s _ _ _ _ Try.underlying9 (by omega) (by omega) (by omega), Int.toNat_natCast, z3, HY.out]
                have CZ := Lib.hid (show ∀ w : World, Calls Try.prog 44 #[.int .i64 (q + (x : Int) % 128 * 16384)] w fun e w' => e = .returned (.string z) ∧ Below w.heap.size w w' from fun w => by rw [hz]; exact varText_spec_any _ w)
                clear hv hz hy hT hbig HYE HNE z1 z2 z3
                go_wp2
                first | refine wp_region_calm_on (by kernel_rfl) (by kernel_rfl) ?_ | refine wp_region_calm_lit (by kernel_rfl) (by kernel_rfl) ?_
                repeat (go_big_quiet_step ((go_at_call 44; exact calm_of (CZ.out _))))
                refine wpQuiet_nil ?_
                intro _ hw'
                obtain ⟨k1, hw''⟩ := hw'
                subst hw''
                go_wp2
                go_ret2
                exact ⟨ret2_ii ((congrArg Prod.fst HR.out).trans HV.out).symm (by refine Eq.trans ?_ (congrArg Prod.snd HR.out).symm; show _ = ((p + 2 + 1 : Nat) : Int); omega), Below.calm hb hb.size⟩
              · have HR := Lib.hid (HG.out.trans (HNE.out (by rw [HV.out]; exact fun e => hv (hT.1 e).2)))
                obtain ⟨z, hz⟩ : ∃ z, z = varText (q + (x : Int) % 128 * 16384) := ⟨_, rfl⟩
                obtain ⟨y, hy⟩ : ∃ y, y = s.extract p (p + 3) := ⟨_, rfl⟩
                have HZ := Lib.hid hz
                have HY := Lib.hid hy.symm
                rw [← hz, ← hy] at hv
                have t2 : (y.toList == z.toList) = false := str_ne hv
                have hsl : ∀ w : World, (Instr.slice 9 (.string s) (some (.int .i64 p)) (some (.int .i64 ((p : Int) + 3))) none).run Try.prog w = .ok (.string y) w := by
                  intro w
                  rw [run_slice_string (P := Try.prog) w _ s _ _ _ _ Try.underlying9 (by omega) (by omega) (by omega), Int.toNat_natCast, z3, HY.out]
                have CZ := Lib.hid (show ∀ w : World, Calls Try.prog 44 #[.int .i64 (q + (x : Int) % 128 * 16384)] w fun e w' => e = .returned (.string z) ∧ Below w.heap.size w w' from fun w => by rw [hz]; exact varText_spec_any _ w)
                clear hv hz hy hT hbig HYE HNE z1 z2 z3
                go_wp2
                first | refine wp_region_calm_on (by kernel_rfl) (by kernel_rfl) ?_ | refine wp_region_calm_lit (by kernel_rfl) (by kernel_rfl) ?_
                repeat (go_big_quiet_step ((go_at_call 44; exact calm_of (CZ.out _))))
                refine wpQuiet_nil ?_
                intro _ hw'
                obtain ⟨k1, hw''⟩ := hw'
                subst hw''
                go_wp2
                go_ret2
                exact ⟨ret2_ii (congrArg Prod.fst HR.out).symm (congrArg Prod.snd HR.out).symm, Below.calm hb hb.size⟩
            · have t1 : decide ((1000000000 : Int) < q + (x : Int) % 128 * 16384) = true := by simp; omega
              have HR := Lib.hid (HG.out.trans (HNE.out (by rw [HV.out]; exact fun e => hbig (hT.1 e).1)))
              clear hT hbig HYE HNE z1 z2 z3
              go_wp2
              first | refine wp_region_calm_on (by kernel_rfl) (by kernel_rfl) ?_ | refine wp_region_calm_lit (by kernel_rfl) (by kernel_rfl) ?_
              repeat (go_big_quiet_step (fail))
              refine wpQuiet_nil ?_
              intro _ hw'
              obtain ⟨k1, hw''⟩ := hw'
              subst hw''
              go_wp2
              go_ret2
              exact ⟨ret2_ii (congrArg Prod.fst HR.out).symm (congrArg Prod.snd HR.out).symm, Below.calm hb hb.size⟩
          · have HR := Lib.hid (HG.out.trans (HON.out 2 hc))
            have hc' : ¬ (x : Int) < 128 := by omega
            have HGX := Lib.hid (HGD.out (by omega))
            go_wp2
            go_roundw
            case rel => exact ⟨3, by omega, by rw [show ((p + 3 : Nat) : Int) = (p : Int) + 2 + 1 by omega], rfl, by rw [HV.out], HGX, HR, hb⟩
            case measure => simp [intOf] <;> omega
        · have hq0 : 0 ≤ q := by omega
          have hq1 : q < 2097152 := by omega
          have hp1 : (p : Int) + 3 < (s.size : Int) := by omega
          have e0 : ∀ w : World, (Instr.index 9 (.string s) (.int .i64 ((p : Int) + 3))).run Try.prog w = .ok (.int .u8 (x : Int)) w := by
            intro w
            have := eb w
            rwa [show ((p + 3 : Nat) : Int) = (p : Int) + 3 by omega] at this
          have HV := Lib.hid (show ((vacc s p 4 : Nat) : Int) = q + (x : Int) % 128 * 2097152 by have h : vacc s p 4 = vacc s p 3 + x % 128 * 2097152 := HS.out; omega)
          have HG := Lib.hid (show vaGo s p 5 0 = vaGo s p (1 + 1) 3 from hgo.out)
          rw [show ((p + 3 : Nat) : Int) = (p : Int) + 3 by omega, show ((128 ^ 3 : Nat) : Int) = 2097152 by omega]
          clear eb hq hqq hk hk5 HS hgo
          by_cases hc : x < 128
          · have kw : IntKind.i64.wrap ((p : Int) + 3 + 1) = (p : Int) + 4 := by have h := IntWalk.i64_in ((p : Int) + 3 + 1) (by omega); omega
            have z1 : (p : Int) ≤ (p : Int) + 4 := by omega
            have z2 : (p : Int) + 4 ≤ (s.size : Int) := by omega
            have z3 : ((p : Int) + 4).toNat = p + 4 := by omega
            have hT := HT.out hc
            rw [HV.out] at hT
            have HYE := Lib.hid (HYES.out 1 hc)
            have HNE := Lib.hid (HNO.out 1 hc)
            by_cases hbig : q + (x : Int) % 128 * 2097152 ≤ 1000000000
            · have t1 : decide ((1000000000 : Int) < q + (x : Int) % 128 * 2097152) = false := by simp; omega
              by_cases hv : s.extract p (p + 4) = varText (q + (x : Int) % 128 * 2097152)
              · have HR := Lib.hid (HG.out.trans (HYE.out (by rw [HV.out]; exact hT.2 ⟨hbig, hv⟩)))
                obtain ⟨z, hz⟩ : ∃ z, z = varText (q + (x : Int) % 128 * 2097152) := ⟨_, rfl⟩
                obtain ⟨y, hy⟩ : ∃ y, y = s.extract p (p + 4) := ⟨_, rfl⟩
                have HZ := Lib.hid hz
                have HY := Lib.hid hy.symm
                rw [← hz, ← hy] at hv
                have t2 : (y.toList == z.toList) = true := by rw [hv]; exact beq_self_eq_true _
                have hsl : ∀ w : World, (Instr.slice 9 (.string s) (some (.int .i64 p)) (some (.int .i64 ((p : Int) + 4))) none).run Try.prog w = .ok (.string y) w := by
                  intro w
                  rw [run_slice_string (P := Try.prog) w _ s _ _ _ _ Try.underlying9 (by omega) (by omega) (by omega), Int.toNat_natCast, z3, HY.out]
                have CZ := Lib.hid (show ∀ w : World, Calls Try.prog 44 #[.int .i64 (q + (x : Int) % 128 * 2097152)] w fun e w' => e = .returned (.string z) ∧ Below w.heap.size w w' from fun w => by rw [hz]; exact varText_spec_any _ w)
                clear hv hz hy hT hbig HYE HNE z1 z2 z3
                go_wp2
                first | refine wp_region_calm_on (by kernel_rfl) (by kernel_rfl) ?_ | refine wp_region_calm_lit (by kernel_rfl) (by kernel_rfl) ?_
                repeat (go_big_quiet_step ((go_at_call 44; exact calm_of (CZ.out _))))
                refine wpQuiet_nil ?_
                intro _ hw'
                obtain ⟨k1, hw''⟩ := hw'
                subst hw''
                go_wp2
                go_ret2
                exact ⟨ret2_ii ((congrArg Prod.fst HR.out).trans HV.out).symm (by refine Eq.trans ?_ (congrArg Prod.snd HR.out).symm; show _ = ((p + 3 + 1 : Nat) : Int); omega), Below.calm hb hb.size⟩
              · have HR := Lib.hid (HG.out.trans (HNE.out (by rw [HV.out]; exact fun e => hv (hT.1 e).2)))
                obtain ⟨z, hz⟩ : ∃ z, z = varText (q + (x : Int) % 128 * 2097152) := ⟨_, rfl⟩
                obtain ⟨y, hy⟩ : ∃ y, y = s.extract p (p + 4) := ⟨_, rfl⟩
                have HZ := Lib.hid hz
                have HY := Lib.hid hy.symm
                rw [← hz, ← hy] at hv
                have t2 : (y.toList == z.toList) = false := str_ne hv
                have hsl : ∀ w : World, (Instr.slice 9 (.string s) (some (.int .i64 p)) (some (.int .i64 ((p : Int) + 4))) none).run Try.prog w = .ok (.string y) w := by
                  intro w
                  rw [run_slice_string (P := Try.prog) w _ s _ _ _ _ Try.underlying9 (by omega) (by omega) (by omega), Int.toNat_natCast, z3, HY.out]
                have CZ := Lib.hid (show ∀ w : World, Calls Try.prog 44 #[.int .i64 (q + (x : Int) % 128 * 2097152)] w fun e w' => e = .returned (.string z) ∧ Below w.heap.size w w' from fun w => by rw [hz]; exact varText_spec_any _ w)
                clear hv hz hy hT hbig HYE HNE z1 z2 z3
                go_wp2
                first | refine wp_region_calm_on (by kernel_rfl) (by kernel_rfl) ?_ | refine wp_region_calm_lit (by kernel_rfl) (by kernel_rfl) ?_
                repeat (go_big_quiet_step ((go_at_call 44; exact calm_of (CZ.out _))))
                refine wpQuiet_nil ?_
                intro _ hw'
                obtain ⟨k1, hw''⟩ := hw'
                subst hw''
                go_wp2
                go_ret2
                exact ⟨ret2_ii (congrArg Prod.fst HR.out).symm (congrArg Prod.snd HR.out).symm, Below.calm hb hb.size⟩
            · have t1 : decide ((1000000000 : Int) < q + (x : Int) % 128 * 2097152) = true := by simp; omega
              have HR := Lib.hid (HG.out.trans (HNE.out (by rw [HV.out]; exact fun e => hbig (hT.1 e).1)))
              clear hT hbig HYE HNE z1 z2 z3
              go_wp2
              first | refine wp_region_calm_on (by kernel_rfl) (by kernel_rfl) ?_ | refine wp_region_calm_lit (by kernel_rfl) (by kernel_rfl) ?_
              repeat (go_big_quiet_step (fail))
              refine wpQuiet_nil ?_
              intro _ hw'
              obtain ⟨k1, hw''⟩ := hw'
              subst hw''
              go_wp2
              go_ret2
              exact ⟨ret2_ii (congrArg Prod.fst HR.out).symm (congrArg Prod.snd HR.out).symm, Below.calm hb hb.size⟩
          · have HR := Lib.hid (HG.out.trans (HON.out 1 hc))
            have hc' : ¬ (x : Int) < 128 := by omega
            have HGX := Lib.hid (HGD.out (by omega))
            go_wp2
            go_roundw
            case rel => exact ⟨4, by omega, by rw [show ((p + 4 : Nat) : Int) = (p : Int) + 3 + 1 by omega], rfl, by rw [HV.out], HGX, HR, hb⟩
            case measure => simp [intOf] <;> omega
        · have hq0 : 0 ≤ q := by omega
          have hq1 : q < 268435456 := by omega
          have hp1 : (p : Int) + 4 < (s.size : Int) := by omega
          have e0 : ∀ w : World, (Instr.index 9 (.string s) (.int .i64 ((p : Int) + 4))).run Try.prog w = .ok (.int .u8 (x : Int)) w := by
            intro w
            have := eb w
            rwa [show ((p + 4 : Nat) : Int) = (p : Int) + 4 by omega] at this
          have HV := Lib.hid (show ((vacc s p 5 : Nat) : Int) = q + (x : Int) % 128 * 268435456 by have h : vacc s p 5 = vacc s p 4 + x % 128 * 268435456 := HS.out; omega)
          have HG := Lib.hid (show vaGo s p 5 0 = vaGo s p (0 + 1) 4 from hgo.out)
          rw [show ((p + 4 : Nat) : Int) = (p : Int) + 4 by omega, show ((128 ^ 4 : Nat) : Int) = 268435456 by omega]
          clear eb hq hqq hk hk5 HS hgo
          by_cases hc : x < 128
          · have kw : IntKind.i64.wrap ((p : Int) + 4 + 1) = (p : Int) + 5 := by have h := IntWalk.i64_in ((p : Int) + 4 + 1) (by omega); omega
            have z1 : (p : Int) ≤ (p : Int) + 5 := by omega
            have z2 : (p : Int) + 5 ≤ (s.size : Int) := by omega
            have z3 : ((p : Int) + 5).toNat = p + 5 := by omega
            have hT := HT.out hc
            rw [HV.out] at hT
            have HYE := Lib.hid (HYES.out 0 hc)
            have HNE := Lib.hid (HNO.out 0 hc)
            by_cases hbig : q + (x : Int) % 128 * 268435456 ≤ 1000000000
            · have t1 : decide ((1000000000 : Int) < q + (x : Int) % 128 * 268435456) = false := by simp; omega
              by_cases hv : s.extract p (p + 5) = varText (q + (x : Int) % 128 * 268435456)
              · have HR := Lib.hid (HG.out.trans (HYE.out (by rw [HV.out]; exact hT.2 ⟨hbig, hv⟩)))
                obtain ⟨z, hz⟩ : ∃ z, z = varText (q + (x : Int) % 128 * 268435456) := ⟨_, rfl⟩
                obtain ⟨y, hy⟩ : ∃ y, y = s.extract p (p + 5) := ⟨_, rfl⟩
                have HZ := Lib.hid hz
                have HY := Lib.hid hy.symm
                rw [← hz, ← hy] at hv
                have t2 : (y.toList == z.toList) = true := by rw [hv]; exact beq_self_eq_true _
                have hsl : ∀ w : World, (Instr.slice 9 (.string s) (some (.int .i64 p)) (some (.int .i64 ((p : Int) + 5))) none).run Try.prog w = .ok (.string y) w := by
                  intro w
                  rw [run_slice_string (P := Try.prog) w _ s _ _ _ _ Try.underlying9 (by omega) (by omega) (by omega), Int.toNat_natCast, z3, HY.out]
                have CZ := Lib.hid (show ∀ w : World, Calls Try.prog 44 #[.int .i64 (q + (x : Int) % 128 * 268435456)] w fun e w' => e = .returned (.string z) ∧ Below w.heap.size w w' from fun w => by rw [hz]; exact varText_spec_any _ w)
                clear hv hz hy hT hbig HYE HNE z1 z2 z3
                go_wp2
                first | refine wp_region_calm_on (by kernel_rfl) (by kernel_rfl) ?_ | refine wp_region_calm_lit (by kernel_rfl) (by kernel_rfl) ?_
                repeat (go_big_quiet_step ((go_at_call 44; exact calm_of (CZ.out _))))
                refine wpQuiet_nil ?_
                intro _ hw'
                obtain ⟨k1, hw''⟩ := hw'
                subst hw''
                go_wp2
                go_ret2
                exact ⟨ret2_ii ((congrArg Prod.fst HR.out).trans HV.out).symm (by refine Eq.trans ?_ (congrArg Prod.snd HR.out).symm; show _ = ((p + 4 + 1 : Nat) : Int); omega), Below.calm hb hb.size⟩
              · have HR := Lib.hid (HG.out.trans (HNE.out (by rw [HV.out]; exact fun e => hv (hT.1 e).2)))
                obtain ⟨z, hz⟩ : ∃ z, z = varText (q + (x : Int) % 128 * 268435456) := ⟨_, rfl⟩
                obtain ⟨y, hy⟩ : ∃ y, y = s.extract p (p + 5) := ⟨_, rfl⟩
                have HZ := Lib.hid hz
                have HY := Lib.hid hy.symm
                rw [← hz, ← hy] at hv
                have t2 : (y.toList == z.toList) = false := str_ne hv
                have hsl : ∀ w : World, (Instr.slice 9 (.string s) (some (.int .i64 p)) (some (.int .i64 ((p : Int) + 5))) none).run Try.prog w = .ok (.string y) w := by
                  intro w
                  rw [run_slice_string (P := Try.prog) w _ s _ _ _ _ Try.underlying9 (by omega) (by omega) (by omega), Int.toNat_natCast, z3, HY.out]
                have CZ := Lib.hid (show ∀ w : World, Calls Try.prog 44 #[.int .i64 (q + (x : Int) % 128 * 268435456)] w fun e w' => e = .returned (.string z) ∧ Below w.heap.size w w' from fun w => by rw [hz]; exact varText_spec_any _ w)
                clear hv hz hy hT hbig HYE HNE z1 z2 z3
                go_wp2
                first | refine wp_region_calm_on (by kernel_rfl) (by kernel_rfl) ?_ | refine wp_region_calm_lit (by kernel_rfl) (by kernel_rfl) ?_
                repeat (go_big_quiet_step ((go_at_call 44; exact calm_of (CZ.out _))))
                refine wpQuiet_nil ?_
                intro _ hw'
                obtain ⟨k1, hw''⟩ := hw'
                subst hw''
                go_wp2
                go_ret2
                exact ⟨ret2_ii (congrArg Prod.fst HR.out).symm (congrArg Prod.snd HR.out).symm, Below.calm hb hb.size⟩
            · have t1 : decide ((1000000000 : Int) < q + (x : Int) % 128 * 268435456) = true := by simp; omega
              have HR := Lib.hid (HG.out.trans (HNE.out (by rw [HV.out]; exact fun e => hbig (hT.1 e).1)))
              clear hT hbig HYE HNE z1 z2 z3
              go_wp2
              first | refine wp_region_calm_on (by kernel_rfl) (by kernel_rfl) ?_ | refine wp_region_calm_lit (by kernel_rfl) (by kernel_rfl) ?_
              repeat (go_big_quiet_step (fail))
              refine wpQuiet_nil ?_
              intro _ hw'
              obtain ⟨k1, hw''⟩ := hw'
              subst hw''
              go_wp2
              go_ret2
              exact ⟨ret2_ii (congrArg Prod.fst HR.out).symm (congrArg Prod.snd HR.out).symm, Below.calm hb hb.size⟩
          · have HR := Lib.hid (HG.out.trans (HON.out 0 hc))
            have hc' : ¬ (x : Int) < 128 := by omega
            have HGX := Lib.hid (HGD.out (by omega))
            go_wp2
            go_roundw
            case rel => exact ⟨5, by omega, by rw [show ((p + 5 : Nat) : Int) = (p : Int) + 4 + 1 by omega], rfl, by rw [HV.out], HGX, HR, hb⟩
            case measure => simp [intOf] <;> omega
      · obtain rfl : k = 5 := by omega
        have HR := Lib.hid (hgo.out.trans (show vaGo s p 0 5 = (0, -1) from rfl))
        rw [show ((p + 5 : Nat) : Int) = (p : Int) + 5 by omega]
        have hp1 : (p : Int) + 5 < (s.size : Int) := by omega
        clear hgo hlt
        go_wp2
        go_ret2
        exact ⟨ret2_ii (by rw [HR.out]) (by rw [HR.out]), hb⟩
    · have HR := Lib.hid (hgo.out.trans (vaGo_end hlt))
      clear hgo
      go_wp2
      go_ret2
      exact ⟨ret2_ii (by rw [HR.out]) (by rw [HR.out]), hb⟩


def varAtN (s : ByteArray) (p : Int) : Int := (varAt s p).1
def varAtE (s : ByteArray) (p : Int) : Int := (varAt s p).2


set_option maxRecDepth 100000 in
theorem varAt_impl_no (s : ByteArray) (p : Int) (w : World) (h0 : p < 0 ∨ (s.size : Int) - 1 < p) (hs : s.size ≤ 1048576) :
    Calls Try.prog 20 #[.string s, .int .i64 p] w fun e w' => e = .returned (.tuple #[.int .i64 0, .int .i64 (-1)]) ∧ Below w.heap.size w w' := by
  have H := Lib.hid h0
  clear h0
  go_enter Try.func20, Try.ntmps20
  go_wp2_with (go_at_call 45; refine (within_f _ _ _ _ H.out).mono ?_; rintro e w' ⟨rfl, rfl⟩)
  go_ret2
  exact ⟨rfl, Below.refl _ _⟩
set_option maxRecDepth 100000 in
theorem varAt_spec_no (s : ByteArray) (p : Int) (w : World) (h0 : p < 0) (_hs : s.size ≤ 1048576) :
    Calls Try.prog 19 #[.string s, .int .i64 p] w fun e w' => e = .returned (.tuple #[.int .i64 0, .int .i64 (-1)]) ∧ Below w.heap.size w w' := by
  go_enter Try.func19, Try.ntmps19
  go_wp2
  go_ret2
  exact ⟨rfl, Below.refl _ _⟩
set_option maxRecDepth 100000 in
theorem varAt_spec_far (s : ByteArray) (p : Int) (w : World) (h0 : 0 ≤ p) (h1 : (s.size : Int) ≤ p) (_hs : s.size ≤ 1048576) :
    Calls Try.prog 19 #[.string s, .int .i64 p] w fun e w' => e = .returned (.tuple #[.int .i64 0, .int .i64 (-1)]) ∧ Below w.heap.size w w' := by
  have t1 : decide (p < (s.size : Int)) = false := by simp; omega
  go_enter Try.func19, Try.ntmps19
  go_wp2
  refine wp_loop_rounds 1 ?_
  rw [rounds_succ]
  go_wp2
  go_ret2
  exact ⟨rfl, Below.refl _ _⟩
theorem varAt_far {s : ByteArray} {p : Int} (h : p < 0 ∨ (s.size : Int) - 1 < p) : varAt s p = (0, -1) := by
  unfold varAt
  by_cases h0 : 0 ≤ p
  · rw [if_pos h0]; exact vaGo_end (by omega)
  · rw [if_neg h0]
theorem varAt_impl_any (s : ByteArray) (p : Int) (w : World) (hs : s.size ≤ 1048576) :
    Calls Try.prog 20 #[.string s, .int .i64 p] w fun e w' => e = .returned (.tuple #[.int .i64 (varAtN s p), .int .i64 (varAtE s p)]) ∧ Below w.heap.size w w' := by
  by_cases h : p < 0 ∨ (s.size : Int) - 1 < p
  · rw [varAtN, varAtE, varAt_far h]; exact varAt_impl_no s p w h hs
  · obtain ⟨n, rfl⟩ := Int.eq_ofNat_of_zero_le (show 0 ≤ p by omega)
    rw [varAtN, varAtE, varAt, if_pos (by omega), Int.toNat_natCast]
    exact varAt_impl s n w (by omega) hs
theorem varAt_spec_any (s : ByteArray) (p : Int) (w : World) (hs : s.size ≤ 1048576) :
    Calls Try.prog 19 #[.string s, .int .i64 p] w fun e w' => e = .returned (.tuple #[.int .i64 (varAtN s p), .int .i64 (varAtE s p)]) ∧ Below w.heap.size w w' := by
  by_cases h : p < 0 ∨ (s.size : Int) - 1 < p
  · rw [varAtN, varAtE, varAt_far h]
    by_cases h0 : p < 0
    · exact varAt_spec_no s p w h0 hs
    · exact varAt_spec_far s p w (by omega) (by omega) hs
  · obtain ⟨n, rfl⟩ := Int.eq_ofNat_of_zero_le (show 0 ≤ p by omega)
    rw [varAtN, varAtE, varAt, if_pos (by omega), Int.toNat_natCast]
    exact varAt_spec s n w (by omega) hs

end Go.Proofs.Ytcdkccbmehdceaa

/- The walk of the law FnVars. -/
import Derived.Test.YtcdkccbmehdceaaVarsFacts
import Derived.Test.YtcdkccbmehdceaaPlaces
import Derived.Test.YtcdkccbmehdceaaBig
import Derived.Test.YtcdkccbmehdceaaVarAt
import Derived.Test.YtcdkccbmehdceaaFourOf
import Derived.Test.YtcdkccbmehdceaaFourAt
import Derived.Test.YtcdkccbmehdceaaSum
import Derived.Test.YtcdkccbmehdceaaHexPlain
namespace Go.Proofs.Ytcdkccbmehdceaa
open Go.RowKit Go.ChangeShapes Go.Deep

set_option maxHeartbeats 2000000 in
set_option maxRecDepth 100000 in
theorem walk_FnVars (v0 : Value) (w : World) (a0 : ArgBytes w v0) :
    Calls Try.prog 8 #[v0] w fun e w' => e = .returned (.bool true) ∧ Below w.heap.size w w' := by
  obtain ⟨code, hrd⟩ := a0
  by_cases hbig : code.length ≤ 1048576
  · have CP := Lib.hid (drawPlaces_any w v0 code hrd hbig)
    have CB := Lib.hid (big_f w v0 code hrd hbig)
    have hPL := places_length code
    have hPB : ∀ x ∈ places code, 0 ≤ x ∧ x < 10000 := placesGo_bd code _ _
    obtain ⟨P, hP⟩ : ∃ P, P = places code := ⟨_, rfl⟩
    rw [← hP] at CP hPL hPB
    clear hP hrd
    go_enter Try.func8, Try.ntmps8
    go_wp2_with fail
    refine CB.out.mono ?_
    rintro e w0 ⟨rfl, rfl⟩
    go_wp2_with fail
    refine CP.out.mono ?_
    rintro e w1 ⟨u, rfl, hown, hb1⟩
    obtain ⟨p0, p1, p2, p3, p4, p5, rest, rfl⟩ : ∃ p0 p1 p2 p3 p4 p5 rest, P = p0 :: p1 :: p2 :: p3 :: p4 :: p5 :: rest := by
      match P, hPL with
      | a :: b :: c :: d :: e :: f :: r, _ => exact ⟨a, b, c, d, e, f, r, rfl⟩
    have q0 := hPB p0 (by simp)
    have q1 := hPB p1 (by simp)
    have q2 := hPB p2 (by simp)
    have q3 := hPB p3 (by simp)
    have q4 := hPB p4 (by simp)
    have q5 := hPB p5 (by simp)
    obtain ⟨b, off, cp, rfl, hcp, hcm, hbl, hc⟩ := (Rd.of_own hown).form (by omega) (by omega)
    unfold maxLen at hcm
    have e0 : w1.cell? ⟨b, off, none⟩ = some (.int .i64 p0) := hc 0 _ rfl
    have e1 := hc 1 _ rfl
    have e2 := hc 2 _ rfl
    have e3 := hc 3 _ rfl
    have e4 := hc 4 _ rfl
    have e5 := hc 5 _ rfl
    clear hc hPB hPL
    obtain ⟨n, hn⟩ : ∃ n : Nat, (n : Int) = p0 * 10000 + p1 := ⟨(p0 * 10000 + p1).toNat, by omega⟩
    have hm0 : 0 ≤ p2 * p3 := Int.mul_nonneg q2.1 q3.1
    have hm1 : p2 * p3 ≤ 9999 * 9999 := Int.mul_le_mul (by omega) (by omega) q3.1 (by omega)
    obtain ⟨m, hm⟩ : ∃ m : Nat, (m : Int) = p2 * p3 := ⟨(p2 * p3).toNat, by omega⟩
    have hn1 : n ≤ 99999999 := by omega
    have hm2 : m ≤ 99980001 := by omega
    have x1 : IntKind.i64.wrap (p0 * 10000) = p0 * 10000 := IntWalk.i64_in _ (by omega)
    have x2 : IntKind.i64.wrap (p0 * 10000 + p1) = (n : Int) := by rw [hn]; exact IntWalk.i64_in _ (by omega)
    have x3 : IntKind.i64.wrap (p2 * p3) = (m : Int) := by rw [hm]; exact IntWalk.i64_in _ (by omega)
    clear hm0 hm1
    have HN := Lib.hid hn
    have HM := Lib.hid hm
    clear hn hm
    go_wp2_with fail
    first | refine wp_region_calm_on (by kernel_rfl) (by kernel_rfl) ?_ | refine wp_region_calm_lit (by kernel_rfl) (by kernel_rfl) ?_
    repeat (go_big_quiet_step (fail))
    refine wpQuiet_nil ?_
    intro _ hw'
    obtain ⟨k1, hw''⟩ := hw'
    subst hw''
    go_wp2_with fail
    first | refine wp_region_calm_on (by kernel_rfl) (by kernel_rfl) ?_ | refine wp_region_calm_lit (by kernel_rfl) (by kernel_rfl) ?_
    repeat (go_big_quiet_step (fail))
    refine wpQuiet_nil ?_
    intro _ hw'
    obtain ⟨k2, hw''⟩ := hw'
    subst hw''
    have CT := Lib.hid (fun w => varText_impl_any (n : Int) w)
    have CT2 := Lib.hid (fun w => varText_impl_any (m : Int) w)
    have CF := Lib.hid (fun w => fourOf_impl_any (n : Int) w)
    have CF2 := Lib.hid (fun w => fourOf_impl_any (m : Int) w)
    have hz1 := varText_size (n : Int)
    have hz2 := varText_size (m : Int)
    have hf1 := fourOf_size (n : Int)
    have hf2 := fourOf_size (m : Int)
    have hz3 := varText_pos n (by omega)
    have hz4 := varText_pos m (by omega)
    have hfz : (fourOf (n : Int) ++ fourOf (m : Int)).size = 8 := by rw [ByteArray.size_append, fourOf_len n (by omega), fourOf_len m (by omega)]
    have hsz : (varText (n : Int) ++ varText (m : Int)).size ≤ 10 := by rw [ByteArray.size_append]; omega
    have hsp : 0 < (varText (n : Int) ++ varText (m : Int)).size := by rw [ByteArray.size_append]; omega
    have CV1 := Lib.hid (fun w => varAt_impl_any (varText (n : Int) ++ varText (m : Int)) 0 w (by omega))
    have CV2 := Lib.hid (fun w => varAt_impl_any (varText (n : Int) ++ varText (m : Int)) ((varText (n : Int)).size : Int) w (by omega))
    have CV3 := Lib.hid (fun w => varAt_impl_any ⟨#[128, 0]⟩ 0 w (by decide))
    have CA1 := Lib.hid (fun w => fourAt_impl_any (fourOf (n : Int) ++ fourOf (m : Int)) 0 w (by omega))
    have CA2 := Lib.hid (fun w => fourAt_impl_any (fourOf (n : Int) ++ fourOf (m : Int)) 4 w (by omega))
    have CA3 := Lib.hid (fun w => fourAt_impl_any (fourOf (n : Int) ++ fourOf (m : Int)) 5 w (by omega))
    rw [varAtN, varAtE, vars_first n _ (by omega)] at CV1
    rw [varAtN, varAtE, vars_second n m (by omega) (by omega)] at CV2
    rw [varAtN, varAtE, varAt_long] at CV3
    rw [four_first n m (by omega) (by omega), four_ok n m _ (by omega) (by omega)] at CA1
    rw [four_second n m (by omega) (by omega), four_ok n m _ (by omega) (by omega)] at CA2
    rw [four_ok n m _ (by omega) (by omega)] at CA3
    go_wp2_with fail
    refine (CT.out _).mono ?_
    rintro e w2 ⟨rfl, hb2⟩
    go_wp2_with fail
    refine (CT2.out _).mono ?_
    rintro e w3 ⟨rfl, hb3⟩
    go_wp2_with fail
    generalize varText (n : Int) ++ varText (m : Int) = s at *
    refine (CV1.out _).mono ?_
    rintro e w4 ⟨rfl, hb4⟩
    go_wp2_with fail
    refine (CV2.out _).mono ?_
    rintro e w5 ⟨rfl, hb5⟩
    go_wp2_with fail
    refine (CF.out _).mono ?_
    rintro e w6 ⟨rfl, hb6⟩
    go_wp2_with fail
    refine (CF2.out _).mono ?_
    rintro e w7 ⟨rfl, hb7⟩
    go_wp2_with fail
    generalize fourOf (n : Int) ++ fourOf (m : Int) = f at *
    refine (CA1.out _).mono ?_
    rintro e w8 ⟨rfl, hb8⟩
    go_wp2_with fail
    refine (CA2.out _).mono ?_
    rintro e w9 ⟨rfl, hb9⟩
    go_wp2_with fail
    refine (CA3.out _).mono ?_
    rintro e w10 ⟨rfl, hb10⟩
    have c3 := hb2.trans (hb3.mono hb2.size)
    have c4 := c3.trans (hb4.mono c3.size)
    have c5 := c4.trans (hb5.mono c4.size)
    have c6 := c5.trans (hb6.mono c5.size)
    have c7 := c6.trans (hb7.mono c6.size)
    have c8 := c7.trans (hb8.mono c7.size)
    have c9 := c8.trans (hb9.mono c8.size)
    have c10 := c9.trans (hb10.mono c9.size)
    have kb : Below w1.heap.size w1 k2.w := k2.below
    have ck : Below w1.heap.size w1 w10 := kb.trans (c10.mono kb.size)
    have ckw : Below w.heap.size w w10 := hb1.trans (ck.mono hb1.size)
    have g4 := (ck.cell (p := ⟨b, off + 4, none⟩) hbl).trans e4
    have g5 := (ck.cell (p := ⟨b, off + 5, none⟩) hbl).trans e5
    have hbl2 : b < w10.heap.size := Nat.lt_of_lt_of_le hbl ck.size
    have G5 : ∀ k : Kept w10 none, k.w.cell? ⟨b, off + 5, none⟩ = some (.int .i64 p5) := fun k => ((grown_below (base := w10.heap.size) k.2 (by simp) (Nat.le_refl _)).cell (p := ⟨b, off + 5, none⟩) hbl2).trans g5
    clear c3 c4 c5 c6 c7 c8 c9 c10 hb2 hb3 hb4 hb5 hb6 hb7 hb8 hb9 hb10 ck kb e0 e1 e2 e3 e4 e5 x1 x2 x3
    obtain ⟨k, hk⟩ : ∃ k : Nat, (k : Int) = p4 % (s.size : Int) := ⟨(p4 % (s.size : Int)).toNat, Int.toNat_of_nonneg (Int.emod_nonneg _ (by omega))⟩
    have hkl : k < s.size := by have := Int.emod_lt_of_pos p4 (show (0 : Int) < s.size by omega); omega
    obtain ⟨d, hd⟩ : ∃ d : Nat, (d : Int) = p5 % 255 := ⟨(p5 % 255).toNat, by omega⟩
    have hdl : d < 255 := by omega
    have y0 : p4.tmod (s.size : Int) = (k : Int) := by rw [Int.tmod_eq_emod_of_nonneg q4.1, hk]
    have y1 : p5.tmod 255 = (d : Int) := by rw [Int.tmod_eq_emod_of_nonneg q5.1, hd]
    have y2 : IntKind.u8.wrap (1 + (d : Int)) = 1 + (d : Int) := IntWalk.u8_in _ (by omega)
    have y3 := run_byte (P := Try.prog) Try.underlying9 s .i64 k hkl
    have hbt := byteAt_lt s k
    obtain ⟨x, hx⟩ : ∃ x, x = byteAt s k := ⟨_, rfl⟩
    rw [← hx] at y3 hbt
    have y4 : bits .xor .u8 (x : Int) (1 + (d : Int)) = ((x ^^^ (1 + d) : Nat) : Int) := u8_xor_nat x (1 + d) hbt (by omega)
    have hne : x ^^^ (1 + d) ≠ x := fun h => by
      have h2 : x ^^^ (x ^^^ (1 + d)) = x ^^^ x := by rw [h]
      rw [← Nat.xor_assoc, Nat.xor_self, Nat.zero_xor] at h2
      omega
    have hyl : x ^^^ (1 + d) < 256 := Nat.xor_lt_two_pow (n := 8) hbt (by omega)
    rw [hx] at hne
    obtain ⟨y, hy⟩ : ∃ y, y = x ^^^ (1 + d) := ⟨_, rfl⟩
    rw [← hx] at hne
    rw [← hy] at y4 hne hyl
    have HS := Lib.hid (sum_bent s k y hkl hyl (by rw [← hx]; exact hne))
    have hkle : k ≤ s.size := by omega
    obtain ⟨j, hj⟩ : ∃ j, j = k + 1 := ⟨_, rfl⟩
    have hjle : j ≤ s.size := by omega
    have y5 : IntKind.i64.wrap ((k : Int) + 1) = (j : Int) := by rw [hj, IntWalk.i64_in _ (by omega)]; rfl
    rw [← hj] at HS
    have y6 : IntKind.i64.wrap (1 + (d : Int)) = 1 + (d : Int) := IntWalk.i64_in _ (by omega)
    have hcv : (convert 30 9 (.slice (some ⟨w10.heap.size, 0, none⟩) 1 1)).run Try.prog (w10.alloc (.cells #[.int .u8 (y : Int)] 5)).drew = .ok (.string ⟨#[UInt8.ofNat y]⟩) (w10.alloc (.cells #[.int .u8 (y : Int)] 5)).drew :=
      run_convert_bytes_arg _ 30 5 Try.underlying30 Try.underlying5 _ 0 1 1 [(y : Int)] rfl (fun i hi => by
        have : i = 0 := by omega
        subst this
        show (w10.alloc (.cells #[.int .u8 (y : Int)] 5)).cell? _ = _
        rw [World.cell?_alloc_at _ _ _ _ rfl]
        rfl) 9 Try.underlying9
    have z1 : ¬ 9223372036854775807 < k + 1 := by omega
    have z2 : ¬ 9223372036854775807 < k + 1 + (s.size - j) := by omega
    clear hx hy hne hk hd hj
    go_wp2_with fail
    refine wp_region_sched [(0, true), (1, true), (2, true), (3, true), (4, true), (5, true), (6, true), (7, true), (8, true), (9, true), (10, true), (11, true), (12, true), (16, true), (17, true), (18, true), (19, true), (13, false), (14, false), (15, true), (20, true), (21, true)] [(true, _), (true, _), (true, _), (true, _), (true, _), (true, _), (true, _), (true, _), (true, _), (true, _), (true, _), (true, _), (true, _), (true, _), (true, _), (true, _), (true, _), (false, _), (false, _), (true, _), (true, _), (true, _)] rfl (by kernel_rfl) (by kernel_rfl) (KeptS _ none) (KeptS.refl _ _).drew ?_
    (refine wpS_held (by rfl) ?_ (fun W hW => ?_) ?_; rotate_left; (· (obtain ⟨kq, rfl⟩ := hW; go_simp; try with_reducible rfl)); try simp only [Act.put])
    (refine wpS_held (by rfl) ?_ (fun W hW => ?_) ?_; rotate_left; (· (obtain ⟨kq, rfl⟩ := hW; go_simp; try with_reducible rfl)); try simp only [Act.put])
    (refine wpS_held (by rfl) ?_ (fun W hW => ?_) ?_; rotate_left; (· (obtain ⟨kq, rfl⟩ := hW; go_simp; try with_reducible rfl)); try simp only [Act.put])
    (refine wpS_held (by rfl) ?_ (fun W hW => ?_) ?_; rotate_left; (· (obtain ⟨kq, rfl⟩ := hW; go_simp; try with_reducible rfl)); try simp only [Act.put])
    (refine wpS_held (by rfl) ?_ (fun W hW => ?_) ?_; rotate_left; (· (obtain ⟨kq, rfl⟩ := hW; go_simp; try with_reducible rfl)); try simp only [Act.put])
    (refine wpS_held (by rfl) ?_ (fun W hW => ?_) ?_; rotate_left; (· (obtain ⟨kq, rfl⟩ := hW; go_simp; try with_reducible rfl)); try simp only [Act.put])
    (refine wpS_held (by rfl) ?_ (fun W hW => ?_) ?_; rotate_left; (· (obtain ⟨kq, rfl⟩ := hW; go_simp; try with_reducible rfl)); try simp only [Act.put])
    (refine wpS_held (by rfl) ?_ (fun W hW => ?_) ?_; rotate_left; (· (obtain ⟨kq, rfl⟩ := hW; go_simp; try with_reducible rfl)); try simp only [Act.put])
    (refine wpS_held (by rfl) ?_ (fun W hW => ?_) ?_; rotate_left; (· (obtain ⟨kq, rfl⟩ := hW; go_simp; try with_reducible rfl)); try simp only [Act.put])
    (refine wpS_held (by rfl) ?_ (fun W hW => ?_) ?_; rotate_left; (· (obtain ⟨kq, rfl⟩ := hW; go_simp; try with_reducible rfl)); try simp only [Act.put])
    (refine wpS_held (by rfl) ?_ (fun W hW => ?_) ?_; rotate_left; (· (obtain ⟨kq, rfl⟩ := hW; go_simp; try with_reducible rfl)); try simp only [Act.put])
    (refine wpS_held (by rfl) ?_ (fun W hW => ?_) ?_; rotate_left; (· (obtain ⟨kq, rfl⟩ := hW; go_simp; try with_reducible rfl)); try simp only [Act.put])
    (refine wpS_held (by rfl) ?_ (fun W hW => ?_) ?_; rotate_left; (· (obtain ⟨kq, rfl⟩ := hW; go_simp; try with_reducible rfl)); try simp only [Act.put])
    (refine wpS_held (by rfl) ?_ (fun W hW => ?_) ?_; rotate_left; (· (obtain ⟨kq, rfl⟩ := hW; go_simp; try with_reducible rfl)); try simp only [Act.put])
    (refine wpS_held (by rfl) ?_ (fun W hW => ?_) ?_; rotate_left; (· (obtain ⟨kq, rfl⟩ := hW; go_simp; try with_reducible rfl)); try simp only [Act.put])
    (refine wpS_held (by rfl) ?_ (fun W hW => ?_) ?_; rotate_left; (· (obtain ⟨kq, rfl⟩ := hW; go_simp; try with_reducible rfl)); try simp only [Act.put])
    (refine wpS_held (by rfl) ?_ (fun W hW => ?_) ?_; rotate_left; (· (obtain ⟨kq, rfl⟩ := hW; go_simp; try with_reducible rfl)); try simp only [Act.put])
    (refine wpS_step (by rfl) (fun K hK => ?_); go_simp; refine hK.out _ _ ?_ ?_; (· (repeat first | exact KeptS.refl _ _ | assumption | refine KeptS.drew ?_ | refine KeptS.alloc ?_ _ | refine KeptS.grown ?_ (by assumption) | refine KeptS.below ?_ (by assumption) | refine KeptS.setNew ?_ (by simp) _)); clear hK K; try simp only [Act.put])
    (refine wpS_step (by rfl) (fun K hK => ?_); go_simp; refine hK.out _ _ ?_ ?_; (· (repeat first | exact KeptS.refl _ _ | assumption | refine KeptS.drew ?_ | refine KeptS.alloc ?_ _ | refine KeptS.grown ?_ (by assumption) | refine KeptS.below ?_ (by assumption) | refine KeptS.setNew ?_ (by simp) _)); clear hK K; try simp only [Act.put])
    (refine wpS_held (by rfl) ?_ (fun W hW => ?_) ?_; rotate_left; (· (obtain ⟨kq, rfl⟩ := hW; go_simp; try with_reducible rfl)); try simp only [Act.put])
    (refine wpS_held (by rfl) ?_ (fun W hW => ?_) ?_; rotate_left; (· (obtain ⟨kq, rfl⟩ := hW; go_simp; try with_reducible rfl)); try simp only [Act.put])
    (refine wpS_held (by rfl) ?_ (fun W hW => ?_) ?_; rotate_left; (· (obtain ⟨kq, rfl⟩ := hW; go_simp; try with_reducible rfl)); try simp only [Act.put])
    refine wpS_nil ?_
    go_wp2_with fail
    have hts : (s.extract 0 k ++ ⟨#[UInt8.ofNat y]⟩ ++ s.extract j s.size).size ≤ 1048576 := by
      rw [ByteArray.size_append, ByteArray.size_append, ByteArray.size_extract, ByteArray.size_extract]
      show (min k s.size - 0) + 1 + _ ≤ _
      omega
    have CS1 := Lib.hid (fun w => sumOf_impl_any (s.extract 0 k ++ ⟨#[UInt8.ofNat y]⟩ ++ s.extract j s.size) w hts)
    have CS2 := Lib.hid (fun w => sumOf_impl_any s w (by omega))
    have hsum : (((sumOf (s.extract 0 k ++ ⟨#[UInt8.ofNat y]⟩ ++ s.extract j s.size) : Nat) : Int) != ((sumOf s : Nat) : Int)) = true := by
      rw [bne_iff_ne]
      intro h
      exact HS.out (by exact_mod_cast h)
    generalize s.extract 0 k ++ ⟨#[UInt8.ofNat y]⟩ ++ s.extract j s.size = t at *
    have hba : Below w.heap.size w (w10.alloc (.cells #[.int .u8 (y : Int)] 5)).drew := (ckw.alloc ckw.size _).drew
    generalize (w10.alloc (.cells #[.int .u8 (y : Int)] 5)).drew = wa at *
    refine (CV3.out _).mono ?_
    rintro e w11 ⟨rfl, hb11⟩
    have d11 := hba.trans (hb11.mono hba.size)
    go_wp2_with fail
    refine (CT.out _).mono ?_
    rintro e w12 ⟨rfl, hb12⟩
    have d12 := d11.trans (hb12.mono d11.size)
    go_wp2_with fail
    refine (CS1.out _).mono ?_
    rintro e w13 ⟨rfl, hb13⟩
    have d13 := d12.trans (hb13.mono d12.size)
    go_wp2_with fail
    refine (CS2.out _).mono ?_
    rintro e w14 ⟨rfl, hb14⟩
    have d14 := d13.trans (hb14.mono d13.size)
    go_wp2_with fail
    go_ret
    exact ⟨rfl, d14⟩
  · have CB := Lib.hid (big_t w v0 code hrd (by omega))
    go_enter Try.func8, Try.ntmps8
    go_wp2_with fail
    refine CB.out.mono ?_
    rintro e w0 ⟨rfl, rfl⟩
    go_wp2_with fail
    go_ret
    exact ⟨rfl, Below.refl _ _⟩
end Go.Proofs.Ytcdkccbmehdceaa

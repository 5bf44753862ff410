/- The walk of the law FnFrames. -/
import Derived.Test.YthjkmefbjbfonaaBodies
import Derived.Test.YthjkmefbjbfonaaPlaces
import Derived.Test.YthjkmefbjbfonaaBig
import Derived.Test.YthjkmefbjbfonaaSameT
import Derived.Test.YthjkmefbjbfonaaCut
import Derived.Test.YthjkmefbjbfonaaOwn
import Derived.Test.YthjkmefbjbfonaaHexPlain
namespace Go.Proofs.Ythjkmefbjbfonaa
set_option linter.unusedSimpArgs false
set_option linter.unusedSimpArgs false
set_option linter.unusedVariables false
open Go.RowKit Go.ChangeShapes Go.Deep

theorem find_frame : ∀ {L : List ByteArray} {k : Nat}, k < frT L → ∃ n, ∃ hn : n < L.length, frT (L.take n) ≤ k ∧ k < frT (L.take n) + (L[n].size + 5)
  | [], k, h => by simp [frT] at h
  | b :: r, k, h => by
    rw [frT] at h
    by_cases hk : k < b.size + 5
    · exact ⟨0, by simp, by simp [frT], by simpa [frT] using hk⟩
    · obtain ⟨n, hn, h1, h2⟩ := find_frame (L := r) (k := k - (b.size + 5)) (by omega)
      refine ⟨n + 1, by simpa using hn, ?_, ?_⟩
      · rw [List.take_succ_cons, frT]; omega
      · rw [List.take_succ_cons, frT]; show k < _ + (r[n].size + 5); omega
theorem frT_mono (L : List ByteArray) {m n : Nat} (h : m ≤ n) : frT (L.take m) ≤ frT (L.take n) := by
  have e := frT_append (L.take m) ((L.drop m).take (n - m))
  rw [← List.take_add, show m + (n - m) = n by omega] at e
  omega
theorem frT_all {L : List ByteArray} {n : Nat} (hn : n < L.length) {k : Nat} (h : k < frT (L.take n) + (L[n].size + 5)) : k < frT L := by
  have := frT_take_le hn
  omega

set_option maxHeartbeats 8000000 in
set_option maxRecDepth 100000 in
theorem walk_FnFrames (v0 : Value) (w : World) (a0 : ArgBytes w v0) :
    Calls Try.prog 3 #[v0] w fun e w' => e = .returned (.bool true) ∧ Below w.heap.size w w' := by
  obtain ⟨code, hrd⟩ := a0
  by_cases hbig : code.length ≤ 1048576
  · have CB := Lib.hid (big_f w v0 code hrd hbig)
    have CD := Lib.hid (drawBodies_any w v0 code hrd hbig)
    have CP := Lib.hid (fun W (hW : Below w.heap.size w W) => drawPlaces_any W v0 code (hrd.below hW) hbig)
    obtain ⟨hgood, hlen⟩ := bodies_good code
    have hbods := bodies_bods code
    have hfr := frT_small hgood
    have hPL := places_length code
    have hPB : ∀ x ∈ places code, 0 ≤ x ∧ x < 10000 := placesGo_bd code _ _
    obtain ⟨P, hP⟩ : ∃ P, P = places code := ⟨_, rfl⟩
    obtain ⟨L, hL⟩ : ∃ L, L = bodies code := ⟨_, rfl⟩
    rw [← hP] at CP hPL hPB
    rw [← hL] at CD hgood hlen hbods hfr
    obtain ⟨i0, hi, hz0, hz1, hz2⟩ := info_parts Try.infoStr
    have HGOOD := Lib.hid hgood
    have HBODS := Lib.hid hbods
    have HPB := Lib.hid hPB
    have HPL := Lib.hid hPL
    clear hP hL hrd hgood hbods hPB hPL
    go_enter Try.func3, Try.ntmps3
    go_wp2_with fail
    refine CB.out.mono ?_
    rintro e w0 ⟨rfl, rfl⟩
    go_wp2_with fail
    refine CD.out.mono ?_
    rintro e w1 ⟨u, rfl, hown, hb1⟩
    obtain ⟨A, c, rfl, hnc, hcm⟩ := (Rd.of_own hown).shape
    unfold maxLen at hcm
    have HRL := Lib.hid (Rd.of_own hown)
    clear hown CB CD
    go_wp2_with fail
    refine (CP.out _ hb1).mono ?_
    rintro e w2 ⟨u, rfl, hown, hb2⟩
    have hw2 := hb1.trans (hb2.mono hb1.size)
    obtain ⟨p0, p1, rest, rfl⟩ : ∃ p0 p1 rest, P = p0 :: p1 :: rest := by
      match P, HPL.out with
      | a :: b :: r, _ => exact ⟨a, b, r, rfl⟩
    have q0 := HPB.out p0 (by simp)
    have q1 := HPB.out p1 (by simp)
    obtain ⟨pb, po, pc, rfl, hpc, hpm, hpl, hpcell⟩ := (Rd.of_own hown).form (by omega) (by omega)
    unfold maxLen at hpm
    have e0 : w2.cell? ⟨pb, po, none⟩ = some (.int .i64 p0) := hpcell 0 _ rfl
    have e1 := hpcell 1 _ rfl
    have HRL2 := Lib.hid (HRL.out.below hb2)
    have E0 := Lib.hid e0
    have E1 := Lib.hid e1
    clear hpcell e0 e1 hown CP HPL HPB HRL
    have h1 : ∀ u ∈ strV L, u.oneCell' = true := fun u hu => by
      obtain ⟨b, _, rfl⟩ := List.mem_map.1 hu
      rfl
    obtain ⟨A', c', hA', -, -, HR0⟩ := HRL2.out
    have hAA : A' = A ∧ c' = c := by injection hA' with a1 a2 a3; exact ⟨a1.symm, a3.symm⟩
    obtain ⟨rfl, rfl⟩ := hAA
    have HR := Lib.hid HR0
    clear HR0 hA'
    go_wp2_with (at_builtin; refine wpList_append_any _ rfl _ _ _ rfl w2.heap.size _ i0 _ 1 16 Try.underlying24 hi hz0 hz1 hz2 rfl (by decide) (.slice (some ⟨w2.heap.size, 0, none⟩) 0 0) 0 [] (by rfl) (made0 rfl (Nat.le_refl _)) w2.heap.size A' L.length c' (strV L) rfl (HR.out.alloc (Nat.le_refl _) _) h1 (by unfold maxLen; omega) (by omega) (by simp) ?_; intro v3 w3 ho3 hg3 hat3; rw [Nat.zero_add, List.nil_append] at ho3; obtain ⟨A3, c3, rfl, -, -⟩ := (Rd.of_own ho3).shape; have hb3 := ((Below.refl w2.heap.size w2).alloc (Nat.le_refl _) (.cells #[] 9)).grown hg3 (by simp) (fun g hg => by cases hg; simp); have HO3 := Lib.hid ho3; clear ho3 hat3 hg3)
    have hw3 := hw2.trans (hb3.mono hw2.size)
    refine (framesOf_impl _ L _ (Rd.of_own HO3.out) (by omega) (fun b hb => by have := (HGOOD.out b hb).2; omega)).mono ?_
    rintro e w4 ⟨rfl, hb4⟩
    have hw4 := hw3.trans (hb4.mono hw3.size)
    have h24 := hb3.trans (hb4.mono hb3.size)
    rw [framesOf_eq HBODS.out (by omega)]
    have hsz := frS_size HBODS.out
    have HSW := Lib.hid (scan_whole HBODS.out (by omega))
    obtain ⟨s, hs⟩ : ∃ s, s = frS L := ⟨_, rfl⟩
    rw [← hs] at hsz HSW ⊢
    have HS := Lib.hid hs
    have hss : s.size ≤ 55 := by omega
    have HSZ := Lib.hid hsz
    have hsz1 : s.size ≤ frT L := by omega
    have hsz2 : frT L ≤ s.size := by omega
    clear HO3 hb3 hb4 hs hsz
    have CS := Lib.hid (fun w => scanOf_impl s w (by omega))
    rw [HSW.out.1, HSW.out.2] at CS
    go_wp2_with fail
    refine (CS.out _).mono ?_
    rintro e w5 ⟨u, rfl, ho5, hb5⟩
    obtain ⟨A5, c5, rfl, -, -⟩ := (Rd.of_own ho5).shape
    have HO5 := Lib.hid (Rd.of_own ho5)
    have hw5 := hw4.trans (hb5.mono hw4.size)
    have h25 := h24.trans (hb5.mono h24.size)
    have CST := Lib.hid (fun W (hW : Below w5.heap.size w5 W) => sameTexts_same (.slice A5 L.length c5) (.slice A' L.length c') L W (HO5.out.below hW) ((HRL2.out.below h25).below hW))
    clear ho5 CS
    by_cases hL0 : L.length = 0
    · have hs0 : s.size = 0 := by
        have := List.eq_nil_of_length_eq_zero hL0
        subst this
        rw [HSZ.out]; rfl
      have t1 : ((s.size : Int) == 0) = true := beq_iff_eq.2 (by omega)
      have t2 : ((L.length : Int) == 0) = true := beq_iff_eq.2 (by omega)
      clear hs0 hL0
      go_wp2_with fail
      refine (CST.out _ (Below.refl _ _)).mono ?_
      rintro e w6 ⟨rfl, hb6⟩
      go_wp2_with fail
      go_ret
      exact ⟨rfl, hw5.trans (hb6.mono hw5.size)⟩
    · have hTL := frT_le L
      have hss0 : 0 < s.size := by omega
      obtain ⟨k, hk⟩ : ∃ k : Nat, (k : Int) = p0 % (s.size : Int) := ⟨(p0 % (s.size : Int)).toNat, Int.toNat_of_nonneg (Int.emod_nonneg _ (by omega))⟩
      have hkl : k < s.size := by have := Int.emod_lt_of_pos p0 (show (0 : Int) < s.size by omega); omega
      have hke : k ≤ s.size := by omega
      have y0 : p0.tmod (s.size : Int) = (k : Int) := by rw [Int.tmod_eq_emod_of_nonneg q0.1, hk]
      have y0' : p0 % (s.size : Int) = (k : Int) := hk.symm
      obtain ⟨n, hn, hn1, hn2⟩ := find_frame (L := L) (k := k) (by omega)
      have hnl : (L.take n).length = n := by rw [List.length_take]; omega
      have HCUT := scan_cut HBODS.out (by omega) hn hn1 hn2
      rw [← HS.out] at HCUT
      have CCUT := Lib.hid (fun w => scanOf_impl (s.extract 0 k) w (by rw [ByteArray.size_extract]; omega))
      rw [HCUT.1, HCUT.2, hnl] at CCUT
      obtain ⟨a0, ha0⟩ : ∃ a0, a0 = frT (L.take n) := ⟨_, rfl⟩
      rw [← ha0] at CCUT
      have HA0 := Lib.hid ha0
      clear ha0
      obtain ⟨lb, lo, lc, hlv, -, -, hlb, hlc⟩ := HRL2.out.form (by omega) (by omega)
      have hA' : A' = some ⟨lb, lo, none⟩ := by injection hlv
      subst hA'
      have HLC := Lib.hid hlc
      have t0 : ((s.size : Int) == 0) = false := beq_eq_false_iff_ne.2 (by omega)
      have HMONO := Lib.hid (fun (m : Nat) (h : m ≤ n) => frT_mono L h)
      have HSUCC := Lib.hid (fun (m : Nat) (h : m < L.length) => frT_take_succ (l := L) h)
      have HONE := Lib.hid (one_frame HBODS.out hn)
      have HNL := Lib.hid hnl
      have HTAKE := Lib.hid (show strV (L.take n) = (strV L).take (n * 1) by rw [Nat.mul_one]; unfold strV; rw [List.map_take])
      have HK := Lib.hid hk
      have HN2 := Lib.hid hn2
      clear HCUT hlc hlv hk hnl hn2
      go_wp2_with fail
      refine (CST.out _ (Below.refl _ _)).mono ?_
      rintro e w6 ⟨rfl, hb6⟩
      have hw6 := hw5.trans (hb6.mono hw5.size)
      have h26 := h25.trans (hb6.mono h25.size)
      have e0 := (h26.cell (p := ⟨pb, po, none⟩) hpl).trans E0.out
      have pl6 := Nat.lt_of_lt_of_le hpl h26.size
      go_wp2_with fail
      refine (CCUT.out _).mono ?_
      rintro e w7 ⟨u, rfl, ho7, hb7⟩
      obtain ⟨A7, c7, rfl, -, -⟩ := (Rd.of_own ho7).shape
      have HO7 := Lib.hid (Rd.of_own ho7)
      have hw7 := hw6.trans (hb7.mono hw6.size)
      have h27 := h26.trans (hb7.mono h26.size)
      have e1 := (h27.cell (p := ⟨pb, po + 1, none⟩) hpl).trans E1.out
      have pl7 := Nat.lt_of_lt_of_le hpl h27.size
      have G1 : ∀ kk : Kept w7 none, kk.w.cell? ⟨pb, po + 1, none⟩ = some (.int .i64 p1) := fun kk => ((grown_below (base := w7.heap.size) kk.2 (by simp) (Nat.le_refl _)).cell (p := ⟨pb, po + 1, none⟩) pl7).trans e1
      obtain ⟨d, hd⟩ : ∃ d : Nat, (d : Int) = p1 % 255 := ⟨(p1 % 255).toNat, by omega⟩
      have hdl : d < 255 := by omega
      have y1 : p1.tmod 255 = (d : Int) := by rw [Int.tmod_eq_emod_of_nonneg q1.1, hd]
      have y1' : p1 % 255 = (d : Int) := hd.symm
      have y2 : IntKind.u8.wrap (1 + (d : Int)) = 1 + (d : Int) := IntWalk.u8_in _ (by omega)
      have y3 := run_byte (P := Try.prog) Try.underlying9 s .i64 k hkl
      have hbt := byteAt_lt s k
      obtain ⟨x, hx⟩ : ∃ x, x = byteAt s k := ⟨_, rfl⟩
      rw [← hx] at y3 hbt
      have y4 : bits .xor .u8 (x : Int) (1 + (d : Int)) = ((x ^^^ (1 + d) : Nat) : Int) := u8_xor_nat x (1 + d) hbt (by omega)
      have hyl : x ^^^ (1 + d) < 256 := Nat.xor_lt_two_pow (n := 8) hbt (by omega)
      obtain ⟨y, hy⟩ : ∃ y, y = x ^^^ (1 + d) := ⟨_, rfl⟩
      rw [← hy] at y4 hyl
      obtain ⟨j, hj⟩ : ∃ j, j = k + 1 := ⟨_, rfl⟩
      have hjle : j ≤ s.size := by omega
      have y5 : IntKind.i64.wrap ((k : Int) + 1) = (j : Int) := by rw [hj, IntWalk.i64_in _ (by omega)]; rfl
      have y6 : IntKind.i64.wrap (1 + (d : Int)) = 1 + (d : Int) := IntWalk.i64_in _ (by omega)
      have hcv : (convert 22 9 (.slice (some ⟨w7.heap.size, 0, none⟩) 1 1)).run Try.prog (w7.alloc (.cells #[.int .u8 (y : Int)] 5)).drew = .ok (.string ⟨#[UInt8.ofNat y]⟩) (w7.alloc (.cells #[.int .u8 (y : Int)] 5)).drew :=
        run_convert_bytes_arg _ 22 5 Try.underlying22 Try.underlying5 _ 0 1 1 [(y : Int)] rfl (fun i hi => by
          have : i = 0 := by omega
          subst this
          show (w7.alloc (.cells #[.int .u8 (y : Int)] 5)).cell? _ = _
          rw [World.cell?_alloc_at _ _ _ _ rfl]
          rfl) 9 Try.underlying9
      have z1 : ¬ 9223372036854775807 < k + 1 := by omega
      have z2 : ¬ 9223372036854775807 < k + 1 + (s.size - j) := by omega
      have hts : (s.extract 0 k ++ ⟨#[UInt8.ofNat y]⟩ ++ s.extract j s.size).size ≤ 60000 := by
        rw [ByteArray.size_append, ByteArray.size_append, ByteArray.size_extract, ByteArray.size_extract]
        show (min k s.size - 0) + 1 + _ ≤ _
        omega
      have HB := scan_bent HBODS.out (by omega) hn hn1 (k := k) (by rw [← HS.out]; exact hkl) (⟨#[UInt8.ofNat y]⟩ ++ s.extract j s.size) (by rw [← HS.out, ← ByteArray.append_assoc]; exact hts)
      rw [← HS.out, ← ByteArray.append_assoc] at HB
      obtain ⟨⟨r, hr⟩, hr2⟩ := HB
      have CBENT := Lib.hid (fun w => scanOf_impl (s.extract 0 k ++ ⟨#[UInt8.ofNat y]⟩ ++ s.extract j s.size) w (by omega))
      rw [hr] at CBENT
      obtain ⟨E, hE⟩ : ∃ E, E = scanE (s.extract 0 k ++ ⟨#[UInt8.ofNat y]⟩ ++ s.extract j s.size) := ⟨_, rfl⟩
      rw [← hE] at CBENT hr2
      obtain ⟨q, hq⟩ : ∃ q, q = (L.take n ++ r).length := ⟨_, rfl⟩
      have hqn : n ≤ q := by rw [hq, List.length_append, HNL.out]; omega
      have hTT : strV (L.take n) = (strV (L.take n ++ r)).take (n * 1) := by
        rw [Nat.mul_one, strV_append]
        exact (List.take_left' (by rw [strV_length, HNL.out])).symm
      have HTT := Lib.hid hTT
      rw [← hq] at CBENT
      have hqm : q ≤ 60001 := by rw [hq, ← hr]; exact scanL_len _
      clear hx hy hj hd e1 hr hE hq hTT hts CST CCUT
      go_wp2_with fail
      refine wp_region_sched [(0, true), (1, true), (2, true), (3, true), (4, true), (5, true), (6, true), (7, true), (8, true), (9, true), (10, true), (11, true), (12, true), (16, true), (17, true), (18, true), (19, true), (13, false), (14, false), (15, true), (20, true), (21, false), (22, true), (23, true), (24, true), (25, true), (26, true)] [(true, _), (true, _), (true, _), (true, _), (true, _), (true, _), (true, _), (true, _), (true, _), (true, _), (true, _), (true, _), (true, _), (true, _), (true, _), (true, _), (true, _), (false, _), (false, _), (true, _), (true, _), (false, _), (true, _), (true, _), (true, _), (true, _), (true, _)] rfl (by kernel_rfl) (by kernel_rfl) (KeptS _ none) (KeptS.refl _ _).drew ?_
      try simp only [List.getElem_toArray, List.getElem_cons_succ, List.getElem_cons_zero]
      (refine wpS_held (by rfl) ?_ (fun W hW => ?_) ?_; rotate_left; (· (obtain ⟨kq, rfl⟩ := hW; go_simp; try with_reducible rfl)); try simp only [Act.put, List.setIfInBounds_toArray, List.set_cons_succ, List.set_cons_zero])
      (refine wpS_held (by rfl) ?_ (fun W hW => ?_) ?_; rotate_left; (· (obtain ⟨kq, rfl⟩ := hW; go_simp; try with_reducible rfl)); try simp only [Act.put, List.setIfInBounds_toArray, List.set_cons_succ, List.set_cons_zero])
      (refine wpS_held (by rfl) ?_ (fun W hW => ?_) ?_; rotate_left; (· (obtain ⟨kq, rfl⟩ := hW; go_simp; try with_reducible rfl)); try simp only [Act.put, List.setIfInBounds_toArray, List.set_cons_succ, List.set_cons_zero])
      (refine wpS_held (by rfl) ?_ (fun W hW => ?_) ?_; rotate_left; (· (obtain ⟨kq, rfl⟩ := hW; go_simp; try with_reducible rfl)); try simp only [Act.put, List.setIfInBounds_toArray, List.set_cons_succ, List.set_cons_zero])
      (refine wpS_held (by rfl) ?_ (fun W hW => ?_) ?_; rotate_left; (· (obtain ⟨kq, rfl⟩ := hW; go_simp; try with_reducible rfl)); try simp only [Act.put, List.setIfInBounds_toArray, List.set_cons_succ, List.set_cons_zero])
      (refine wpS_held (by rfl) ?_ (fun W hW => ?_) ?_; rotate_left; (· (obtain ⟨kq, rfl⟩ := hW; go_simp; try with_reducible rfl)); try simp only [Act.put, List.setIfInBounds_toArray, List.set_cons_succ, List.set_cons_zero])
      (refine wpS_held (by rfl) ?_ (fun W hW => ?_) ?_; rotate_left; (· (obtain ⟨kq, rfl⟩ := hW; go_simp; try with_reducible rfl)); try simp only [Act.put, List.setIfInBounds_toArray, List.set_cons_succ, List.set_cons_zero])
      (refine wpS_held (by rfl) ?_ (fun W hW => ?_) ?_; rotate_left; (· (obtain ⟨kq, rfl⟩ := hW; go_simp; try with_reducible rfl)); try simp only [Act.put, List.setIfInBounds_toArray, List.set_cons_succ, List.set_cons_zero])
      (refine wpS_held (by rfl) ?_ (fun W hW => ?_) ?_; rotate_left; (· (obtain ⟨kq, rfl⟩ := hW; go_simp; try with_reducible rfl)); try simp only [Act.put, List.setIfInBounds_toArray, List.set_cons_succ, List.set_cons_zero])
      (refine wpS_held (by rfl) ?_ (fun W hW => ?_) ?_; rotate_left; (· (obtain ⟨kq, rfl⟩ := hW; go_simp; try with_reducible rfl)); try simp only [Act.put, List.setIfInBounds_toArray, List.set_cons_succ, List.set_cons_zero])
      (refine wpS_held (by rfl) ?_ (fun W hW => ?_) ?_; rotate_left; (· (obtain ⟨kq, rfl⟩ := hW; go_simp; try with_reducible rfl)); try simp only [Act.put, List.setIfInBounds_toArray, List.set_cons_succ, List.set_cons_zero])
      (refine wpS_held (by rfl) ?_ (fun W hW => ?_) ?_; rotate_left; (· (obtain ⟨kq, rfl⟩ := hW; go_simp; try with_reducible rfl)); try simp only [Act.put, List.setIfInBounds_toArray, List.set_cons_succ, List.set_cons_zero])
      (refine wpS_held (by rfl) ?_ (fun W hW => ?_) ?_; rotate_left; (· (obtain ⟨kq, rfl⟩ := hW; go_simp; try with_reducible rfl)); try simp only [Act.put, List.setIfInBounds_toArray, List.set_cons_succ, List.set_cons_zero])
      (refine wpS_held (by rfl) ?_ (fun W hW => ?_) ?_; rotate_left; (· (obtain ⟨kq, rfl⟩ := hW; go_simp; try with_reducible rfl)); try simp only [Act.put, List.setIfInBounds_toArray, List.set_cons_succ, List.set_cons_zero])
      (refine wpS_held (by rfl) ?_ (fun W hW => ?_) ?_; rotate_left; (· (obtain ⟨kq, rfl⟩ := hW; go_simp; try with_reducible rfl)); try simp only [Act.put, List.setIfInBounds_toArray, List.set_cons_succ, List.set_cons_zero])
      (refine wpS_held (by rfl) ?_ (fun W hW => ?_) ?_; rotate_left; (· (obtain ⟨kq, rfl⟩ := hW; go_simp; try with_reducible rfl)); try simp only [Act.put, List.setIfInBounds_toArray, List.set_cons_succ, List.set_cons_zero])
      (refine wpS_held (by rfl) ?_ (fun W hW => ?_) ?_; rotate_left; (· (obtain ⟨kq, rfl⟩ := hW; go_simp; try with_reducible rfl)); try simp only [Act.put, List.setIfInBounds_toArray, List.set_cons_succ, List.set_cons_zero])
      (refine wpS_step (by rfl) (fun K hK => ?_); go_simp; refine hK.out _ _ ?_ ?_; (· (repeat first | exact KeptS.refl _ _ | exact KeptS.of (only_of_below (by assumption) _) | assumption | refine KeptS.drew ?_ | refine KeptS.alloc ?_ _ | refine KeptS.grown ?_ (by assumption) | refine KeptS.below ?_ (by assumption) | refine KeptS.belowAt ?_ (by assumption) | refine KeptS.setRow ?_ (by simp; done) _ | refine KeptS.setNew ?_ (by simp) _)); clear hK K; try simp only [Act.put, List.setIfInBounds_toArray, List.set_cons_succ, List.set_cons_zero])
      (refine wpS_step (by rfl) (fun K hK => ?_); go_simp; refine hK.out _ _ ?_ ?_; (· (repeat first | exact KeptS.refl _ _ | exact KeptS.of (only_of_below (by assumption) _) | assumption | refine KeptS.drew ?_ | refine KeptS.alloc ?_ _ | refine KeptS.grown ?_ (by assumption) | refine KeptS.below ?_ (by assumption) | refine KeptS.belowAt ?_ (by assumption) | refine KeptS.setRow ?_ (by simp; done) _ | refine KeptS.setNew ?_ (by simp) _)); clear hK K; try simp only [Act.put, List.setIfInBounds_toArray, List.set_cons_succ, List.set_cons_zero])
      (refine wpS_held (by rfl) ?_ (fun W hW => ?_) ?_; rotate_left; (· (obtain ⟨kq, rfl⟩ := hW; go_simp; try with_reducible rfl)); try simp only [Act.put, List.setIfInBounds_toArray, List.set_cons_succ, List.set_cons_zero])
      (refine wpS_held (by rfl) ?_ (fun W hW => ?_) ?_; rotate_left; (· (obtain ⟨kq, rfl⟩ := hW; go_simp; try with_reducible rfl)); try simp only [Act.put, List.setIfInBounds_toArray, List.set_cons_succ, List.set_cons_zero])
      (refine wpS_call 14 (by rfl) (by rfl) Try.func14 (by kernel_rfl) (by rfl) (by rfl) ?_; (conv => arg 3; simp [Act.eval]); (refine (CBENT.out _).mono ?_; rintro e w8 ⟨u, rfl, ho8, hb8⟩; obtain ⟨A8, c8, rfl, hc8, -⟩ := (Rd.of_own ho8).shape); refine ⟨_, rfl, ?_, ?_⟩; (· (repeat first | exact KeptS.refl _ _ | exact KeptS.of (only_of_below (by assumption) _) | assumption | refine KeptS.drew ?_ | refine KeptS.alloc ?_ _ | refine KeptS.grown ?_ (by assumption) | refine KeptS.below ?_ (by assumption) | refine KeptS.belowAt ?_ (by assumption) | refine KeptS.setRow ?_ (by simp; done) _ | refine KeptS.setNew ?_ (by simp) _)); try simp only [Act.put, List.setIfInBounds_toArray, List.set_cons_succ, List.set_cons_zero])
      (refine wpS_held (by rfl) ?_ (fun W hW => ?_) ?_; rotate_left; (· (obtain ⟨kq, rfl⟩ := hW; go_simp; try with_reducible rfl)); try simp only [Act.put, List.setIfInBounds_toArray, List.set_cons_succ, List.set_cons_zero])
      (refine wpS_held (by rfl) ?_ (fun W hW => ?_) ?_; rotate_left; (· (obtain ⟨kq, rfl⟩ := hW; go_simp; try with_reducible rfl)); try simp only [Act.put, List.setIfInBounds_toArray, List.set_cons_succ, List.set_cons_zero])
      (refine wpS_held (by rfl) ?_ (fun W hW => ?_) ?_; rotate_left; (· (obtain ⟨kq, rfl⟩ := hW; go_simp; try with_reducible rfl)); try simp only [Act.put, List.setIfInBounds_toArray, List.set_cons_succ, List.set_cons_zero])
      (refine wpS_held (by rfl) ?_ (fun W hW => ?_) ?_; rotate_left; (· (obtain ⟨kq, rfl⟩ := hW; go_simp; try with_reducible rfl)); try simp only [Act.put, List.setIfInBounds_toArray, List.set_cons_succ, List.set_cons_zero])
      (refine wpS_held (by rfl) ?_ (fun W hW => ?_) ?_; rotate_left; (· (obtain ⟨kq, rfl⟩ := hW; go_simp; try with_reducible rfl)); try simp only [Act.put, List.setIfInBounds_toArray, List.set_cons_succ, List.set_cons_zero])
      refine wpS_nil ?_
      try simp only [List.getElem_toArray, List.getElem_cons_succ, List.getElem_cons_zero]
      have hs7 := hw7.size
      have hs27 := h27.size
      have hw8 : Below w.heap.size w w8 := Below.trans (by exact (by repeat first | exact Below.refl _ _ | assumption | refine Below.drew ?_ | refine below_drewN ?_ _ | refine Below.calm ?_ (by first | exact Nat.le_refl _ | (simp; done) | (simp; omega) | omega) | refine Below.alloc ?_ (by first | exact Nat.le_refl _ | (simp; done) | (simp; omega) | omega) _ | refine Below.setCell ?_ (by first | exact Nat.le_refl _ | (simp; done) | (simp; omega) | omega) _)) (hb8.mono (by simp; omega))
      have h28 : Below w2.heap.size w2 w8 := Below.trans (((h27.alloc h27.size (.cells #[.int .u8 (y : Int)] 5)).drew)) (hb8.mono (by simp; have := h27.size; omega))
      have h78 : Below w7.heap.size w7 w8 := Below.trans (((Below.refl w7.heap.size w7).alloc (Nat.le_refl _) (.cells #[.int .u8 (y : Int)] 5)).drew) (hb8.mono (by simp))
      have HO8 := Lib.hid (Rd.of_own ho8)
      clear ho8 hb8 y0 y0' y1 y1' y2 y3 y4 y5 y6 hcv z1 z2 G1 e0 CBENT
      have R7 := Lib.hid (HO7.out.below h78)
      have HTB := Rd.take HO8.out hqn
      rw [← HTT.out] at HTB
      obtain ⟨A9, hA9⟩ := cutAt_shape A8 0 n c8 1
      rw [hA9] at HTB
      have R9 : Hid (Rd w8 1 (.slice A9 n c8) n (strV (L.take n))) := Lib.hid HTB
      have HCB : Hid (∀ W, (Instr.slice 24 (.slice A8 q c8) none (some (.int .i64 (n : Int))) none).run Try.prog W = .ok (.slice A9 n c8) W) := Lib.hid (fun W => by
        have := run_cut_h (P := Try.prog) Try.underlying24 hi A8 q c8 .i64 n (by omega) W
        rw [hz1, hA9] at this
        exact this)
      have HTL := Rd.take (HRL2.out.below h28) (k := n) (by omega)
      rw [← HTAKE.out] at HTL
      obtain ⟨A10, hA10⟩ := cutAt_shape (some ⟨lb, lo, none⟩) 0 n c' 1
      rw [hA10] at HTL
      have R10 : Hid (Rd w8 1 (.slice A10 n c') n (strV (L.take n))) := Lib.hid HTL
      have HCL : Hid (∀ W, (Instr.slice 24 (.slice (some ⟨lb, lo, none⟩) L.length c') none (some (.int .i64 (n : Int))) none).run Try.prog W = .ok (.slice A10 n c') W) := Lib.hid (fun W => by
        have := run_cut_h (P := Try.prog) Try.underlying24 hi (some ⟨lb, lo, none⟩) L.length c' .i64 n (by omega) W
        rw [hz1, hA10] at this
        exact this)
      have CS12 : Hid (∀ (A : Option Addr) (c : Nat) (W : World), Below w8.heap.size w8 W → Rd w8 1 (.slice A n c) n (strV (L.take n)) → Calls Try.prog 15 #[.slice A n c, .slice A10 n c'] W fun e w' => e = .returned (.bool true) ∧ Below W.heap.size W w') := Lib.hid (fun A c W hW hr => by
        refine sameTexts_same (.slice A n c) (.slice A10 n c') (L.take n) W ?_ ?_
        · rw [HNL.out]; exact hr.below hW
        · rw [HNL.out]; exact R10.out.below hW)
      have HR2 := Lib.hid hr2
      clear hA9 hA10 HTB HTL hr2
      go_wp2_with fail
      go_loopw [13, 14] (fun t13 t14 wr => ∃ m a : Nat, m ≤ n ∧ t14 = .int .i64 m ∧ t13 = .int .i64 a ∧ Hid (a = frT (L.take m)) ∧ a ≤ k ∧ Hid (Below w8.heap.size w8 wr)) (fun _ t14 _ => n - (intOf t14).toNat)
      case atStart => exact ⟨0, 0, Nat.zero_le _, rfl, rfl, Lib.hid (by simp [frT]), Nat.zero_le _, Lib.hid (Below.refl _ _)⟩
      case round =>
        obtain ⟨m, a, hm, rfl, rfl, HA, hak, HBR⟩ := hrel
        have hml : m < L.length := by omega
        obtain ⟨x, hx⟩ : ∃ x, x = L[m] := ⟨_, rfl⟩
        have hxb := HGOOD.out x (by rw [hx]; exact List.getElem_mem hml)
        obtain ⟨hxb1, hxb2⟩ := hxb
        have h2r := h28.trans (HBR.out.mono h28.size)
        have xc := (h2r.cell (p := ⟨lb, lo + m, none⟩) hlb).trans (HLC.out m _ (strV_at hml))
        rw [← hx] at xc
        have xl := Nat.lt_of_lt_of_le hlb h2r.size
        have XC := Lib.hid xc
        have hm0 : (0 : Int) ≤ (m : Int) := by omega
        have hm1 : (m : Int) < (L.length : Int) := by omega
        obtain ⟨F, hF⟩ : ∃ F, F = frameOf x := ⟨_, rfl⟩
        have hFs : F.size = x.size + 5 := by rw [hF]; exact frame_size (by unfold Bod; omega)
        have CF := Lib.hid (fun W => frameOf_impl_any x W (by omega))
        rw [← hF] at CF
        have hFs1 : F.size ≤ x.size + 5 := by omega
        have hFs2 : x.size + 5 ≤ F.size := by omega
        have HFS := Lib.hid hFs
        by_cases hmn : m < n
        · have hle : (a : Int) + (F.size : Int) ≤ (k : Int) := by
            have e1 := HSUCC.out m hml
            have e2 := HMONO.out (m + 1) (by omega)
            rw [← hx, ← HA.out] at e1
            omega
          have HA2 := Lib.hid (show a + F.size = frT (L.take (m + 1)) by rw [HSUCC.out m hml, ← hx, ← HA.out, HFS.out])
          clear hFs hx hF
          go_wp2_with fail
          refine (CF.out _).mono ?_
          rintro e wa ⟨rfl, hba⟩
          have h8a := HBR.out.trans (hba.mono HBR.out.size)
          have xa := (hba.cell (p := ⟨lb, lo + m, none⟩) xl).trans XC.out
          have xal := Nat.lt_of_lt_of_le xl hba.size
          clear xc
          go_wp2_with fail
          refine (CF.out _).mono ?_
          rintro e wb ⟨rfl, hbb⟩
          clear xa
          go_wp2_with fail
          go_roundw
          case rel => exact ⟨m + 1, a + F.size, by omega, by go_num, by go_num, HA2, by omega, Lib.hid (h8a.trans (hbb.mono h8a.size))⟩
          case measure => simp [intOf]; omega
        · have hmn' : n = m := by omega
          subst hmn'
          have haa : a = a0 := by rw [HA0.out, HA.out]
          subst haa
          have hle : ¬ ((a : Int) + (F.size : Int) ≤ (k : Int)) := by
            have e1 := HN2.out
            rw [← hx, ← HA.out] at e1
            omega
          have hone1 : frameAtB s (a : Int) = x := by rw [HS.out, HA.out, hx]; exact HONE.out.1
          have hone2 : frameAtE s (a : Int) = (a : Int) + (F.size : Int) := by
            have e := HONE.out.2
            rw [← HS.out, ← HA.out, ← hx] at e
            rw [e, HFS.out]
            omega
          have CFA := Lib.hid (fun W => frameAt_impl_any s (a : Int) W (by omega))
          rw [hone1, hone2] at CFA
          have hqi : ¬ ((q : Int) < (n : Int)) := by omega
          have hq2 : (n : Int) ≤ (q : Int) := by omega
          have hEa : (a : Int) ≤ E := by have e := HR2.out; rw [← HA.out] at e; exact e
          clear hFs hx hF hone1 hone2 hmn
          go_wp2_with fail
          refine (CF.out _).mono ?_
          rintro e wa ⟨rfl, hba⟩
          have h8a := HBR.out.trans (hba.mono HBR.out.size)
          clear xc
          go_wp2_with fail
          refine (CFA.out _).mono ?_
          rintro e wb ⟨rfl, hbb⟩
          have hab := hba.trans (hbb.mono hba.size)
          have h8b := h8a.trans (hbb.mono h8a.size)
          have xb := (hab.cell (p := ⟨lb, lo + n, none⟩) xl).trans XC.out
          have xbl := Nat.lt_of_lt_of_le xl hab.size
          have hcutB := HCB.out
          have hcutL := HCL.out
          go_wp2_with fail
          first | refine wp_region_calm_on (by kernel_rfl) (by kernel_rfl) ?_ | refine wp_region_calm_lit (by kernel_rfl) (by kernel_rfl) ?_
          repeat (go_big_quiet_step (first | (go_at_call 15; exact calm_of (CS12.out _ _ _ (Below.calm h8b h8b.size) (by first | exact R7.out | exact R9.out))) | (go_at_call 16; exact calm_of (CF.out _))))
          refine wpQuiet_nil ?_
          intro _ hw'
          obtain ⟨kz, hw''⟩ := hw'
          subst hw''
          obtain ⟨wz, hbz, hkz⟩ := kz.out
          rw [hkz]
          clear hkz hcutB hcutL
          go_wp2_with fail
          go_ret
          exact ⟨rfl, (hw8.trans (h8b.mono hw8.size)).trans (hbz.mono (hw8.trans (h8b.mono hw8.size)).size)⟩
  · have CB := Lib.hid (big_t w v0 code hrd (by omega))
    go_enter Try.func3, Try.ntmps3
    go_wp2_with fail
    refine CB.out.mono ?_
    rintro e w0 ⟨rfl, rfl⟩
    go_wp2_with fail
    go_ret
    exact ⟨rfl, Below.refl _ _⟩
end Go.Proofs.Ythjkmefbjbfonaa

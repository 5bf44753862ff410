/- MoveFile of the reference. -/
import Derived.Test.YthjkmefbjbfonaaMoveP
import Derived.Test.YthjkmefbjbfonaaMayBe
import Derived.Test.YthjkmefbjbfonaaMove
import Derived.Test.YthjkmefbjbfonaaWrite

import Derived.Deep.Cut
namespace Go.Proofs.Ythjkmefbjbfonaa
set_option linter.unusedSimpArgs false
set_option linter.unusedVariables false
open Go.RowKit Go.ChangeShapes Go.Deep
set_option maxHeartbeats 16000000 in
set_option maxRecDepth 100000 in
theorem moveFile_spec (v : Value) (d : List Fil) (na nb : ByteArray) (w : World) (h : Rd_disk w v d) (hn : cost_disk d ≤ 1048576) (hna : na.size ≤ 1048576) (hnb : nb.size ≤ 1048576) :
    Calls Try.prog 38 #[.agg #[v], .string na, .string nb] w (GivesDB (moveFileR0 d na nb) (moveFileR1 d na nb) w) := by
  unfold cost_disk at hn
  have HRD := Lib.hid h
  obtain ⟨A, c, rfl, hnc, hcm⟩ := h.1.shape
  unfold maxLen at hcm
  have CAT := Lib.hid (fun W (hW : Below w.heap.size w W) => l04At_any (.slice A d.length c) d na W (HRD.out.below hW) (by omega))
  have CATB := Lib.hid (fun W (hW : Below w.heap.size w W) => l04At_any (.slice A d.length c) d nb W (HRD.out.below hW) (by omega))
  have COK := Lib.hid (fun W (hW : Below w.heap.size w W) => diskOk_spec (.slice A d.length c) d W (HRD.out.below hW) (by omega))
  have CNM := Lib.hid (fun W => l04Name_any nb W (by omega))
  have HL4 := Lib.hid (fun h => diskOk_four (d := d) h)
  clear h
  obtain ⟨W0, hW0⟩ : ∃ W0, W0 = (w.alloc (.cells #[.slice A d.length c] 37)).alloc (.cells #[.slice none 0 0] 37) := ⟨_, rfl⟩
  have HW := Lib.hid hW0
  have k0 : Blk W0 w.heap.size 37 #[.slice A d.length c] := by rw [hW0]; exact (Blk.new _ _ _).alloc _
  have k1 : Blk W0 (w.heap.size + 1) 37 #[.slice none 0 0] := by
    have q := Blk.new (w.alloc (.cells #[.slice A d.length c] 37)) 37 #[.slice none 0 0]
    rw [show (w.alloc (.cells #[.slice A d.length c] 37)).heap.size = w.heap.size + 1 by simp] at q
    rw [hW0]; exact q
  have hb0 : Below w.heap.size w W0 := by rw [hW0]; exact (by repeat first | exact Below.refl _ _ | assumption | refine Below.drew ?_ | refine below_drewN ?_ _ | refine Below.calm ?_ (by first | exact Nat.le_refl _ | (simp; done) | (simp; omega) | omega) | refine Below.alloc ?_ (by first | exact Nat.le_refl _ | (simp; done) | (simp; omega) | omega) _ | refine Below.setCell ?_ (by first | exact Nat.le_refl _ | (simp; done) | (simp; omega) | omega) _)
  have hs0 := k1.lt
  have HK0 := Lib.hid k0
  have HK1 := Lib.hid k1
  clear k0 k1 hW0
  by_cases ha : atF na d < d.length
  rotate_left
  · have HE1 := Lib.hid (move1_none (b := nb) ha)
    have HE0 := Lib.hid (move0_fail HE1.out)
    have hat : atR na d = -1 := by rw [atR, if_neg ha]
    rw [hat] at CAT
    clear hat ha
    go_enter Try.func38, Try.ntmps38
    go_wp2_with fail
    rw [← HW.out]
    refine (CAT.out _ hb0).mono ?_
    rintro e w3 ⟨rfl, hb3⟩
    have hsb := hb3.size
    have hw3 := hb0.trans (hb3.mono hb0.size)
    have HK03 := Lib.hid (HK0.out.belowV hb3)
    have HK13 := Lib.hid (HK1.out.belowV hb3)
    have p3 := HK03.out.cell 0
    have l3 := HK03.out.lt
    simp only [List.getElem?_toArray, List.getElem?_cons_zero] at p3
    go_wp2_with fail
    first | refine wp_region_calm_on (by kernel_rfl) (by kernel_rfl) ?_ | refine wp_region_calm_lit (by kernel_rfl) (by kernel_rfl) ?_
    repeat (go_big_quiet_step (first | (go_at_call 66; exact calm_of (COK.out _ (Below.calm hw3 hw3.size))) | (go_at_call 80; exact calm_same (CNM.out _))))
    refine wpQuiet_nil ?_
    intro _ hw'
    obtain ⟨k1, hw''⟩ := hw'
    subst hw''
    obtain ⟨w4, hb4, hkw⟩ := k1.out
    rw [hkw]
    clear hkw p3 l3
    have hsc := hb4.size
    have hw4 := hw3.trans (hb4.mono hw3.size)
    have HK04 := Lib.hid (HK03.out.belowV hb4)
    have HK14 := Lib.hid (HK13.out.belowV hb4)
    have p4 := HK04.out.cell 0
    have l4 := HK04.out.lt
    simp only [List.getElem?_toArray, List.getElem?_cons_zero] at p4
    go_wp2_with fail
    refine (l04Copy_any _ d w4 (HRD.out.below hw4) (by omega)).mono ?_
    rintro e wz ⟨uz, rfl, hoz, hbz⟩
    obtain ⟨Az, cz, rfl⟩ := hoz.form
    have HOZ := Lib.hid hoz
    have hwz := hw4.trans (hbz.mono hw4.size)
    have xz := HK14.out.belowV hbz
    have r0 := xz.cell 0
    have r1 := xz.frozen 0
    have rl := xz.lt
    have hs14 := HK14.out.lt
    simp only [List.getElem?_toArray, List.getElem?_cons_zero] at r0
    clear hoz xz p4 l4
    go_wp2_with fail
    refine bodyPost_ret (v := .tuple #[.agg #[.slice Az d.length cz], .bool false]) (by simp [results, Try.results38, go_sem, r0, r1]) rfl ?_
    rw [HE0.out, HE1.out]
    refine ⟨_, rfl, ?_, hwz.setCell (by simp) _⟩
    have hk := Own_disk.keep HOZ.out ((Part.refl (w.heap.size + 1) (w.heap.size + 2) wz).setCell (p := ⟨w.heap.size + 1, 0, none⟩) ⟨Nat.le_refl _, Nat.lt_succ_self _⟩ (.slice Az d.length cz)) (.inr (by omega))
    exact ⟨OwnS.mono hk.1 (by omega) (by have := hk.1.2.1; exact this) (Nat.le_refl _), hk.2⟩
  have hat : atR na d = (atF na d : Int) := by rw [atR, if_pos ha]
  rw [hat] at CAT
  clear hat
  have HM := Lib.hid (move1_safe (b := nb) ha)
  have HM1 := Lib.hid (move1_ok (b := nb) ha)
  have HM0 := Lib.hid (move0_ok (b := nb) ha)
  obtain ⟨k, hk⟩ : ∃ k, k = atF na d := ⟨_, rfl⟩
  have hkl : k < d.length := by omega
  obtain ⟨x, hx⟩ : ∃ x, x = d[k] := ⟨_, rfl⟩
  have hxx : d[atF na d] = x := by subst hk; exact hx.symm
  simp only [hxx] at HM HM1 HM0
  rw [← hk] at CAT HM0
  clear ha hxx hk
  obtain ⟨b1, o1, _, hv1, _, _, hl1, hc1⟩ := HRD.out.1.form (by omega) (by omega)
  have hA1 : A = some ⟨b1, o1, none⟩ := by injection hv1
  subst hA1
  have HC := Lib.hid (fun W (hW : Below w.heap.size w W) => fil_cells hW hl1 hc1 hkl x hx)
  have HCC := Lib.hid (fun (W : World) (hW : Below w.heap.size w W) (n : Nat) (hlt : n < d.length) (y : Fil) (hy : y = d[n]) => fil_cells hW hl1 hc1 hlt y hy)
  have hxs : x.data.size ≤ 1048576 := by have := szF_le (l := d) (f := x) (by rw [hx]; exact List.getElem_mem hkl); unfold szF at this; omega
  have HX := Lib.hid hx
  have hk0 : (0 : Int) ≤ (k : Int) := by omega
  have hk1 : (k : Int) < (d.length : Int) := by omega
  have tk : decide ((k : Int) < 0) = false := decide_eq_false (by omega)
  clear hv1 hc1 hx
  cases hD : diskOkR d with
  | false =>
    have HE1 := Lib.hid (move1_disk (a := na) (b := nb) hD)
    have HE0 := Lib.hid (move0_fail HE1.out)
    rw [hD] at COK
    clear hD
    go_enter Try.func38, Try.ntmps38
    go_wp2_with fail
    rw [← HW.out]
    refine (CAT.out _ hb0).mono ?_
    rintro e w3 ⟨rfl, hb3⟩
    have hsb := hb3.size
    have hw3 := hb0.trans (hb3.mono hb0.size)
    have HK03 := Lib.hid (HK0.out.belowV hb3)
    have HK13 := Lib.hid (HK1.out.belowV hb3)
    have p3 := HK03.out.cell 0
    have l3 := HK03.out.lt
    simp only [List.getElem?_toArray, List.getElem?_cons_zero] at p3
    go_wp2_with fail
    first | refine wp_region_calm_on (by kernel_rfl) (by kernel_rfl) ?_ | refine wp_region_calm_lit (by kernel_rfl) (by kernel_rfl) ?_
    repeat (go_big_quiet_step (first | (go_at_call 66; exact calm_of (COK.out _ (Below.calm hw3 hw3.size))) | (go_at_call 80; exact calm_same (CNM.out _))))
    refine wpQuiet_nil ?_
    intro _ hw'
    obtain ⟨k1, hw''⟩ := hw'
    subst hw''
    obtain ⟨w4, hb4, hkw⟩ := k1.out
    rw [hkw]
    clear hkw p3 l3
    have hsc := hb4.size
    have hw4 := hw3.trans (hb4.mono hw3.size)
    have HK04 := Lib.hid (HK03.out.belowV hb4)
    have HK14 := Lib.hid (HK13.out.belowV hb4)
    have p4 := HK04.out.cell 0
    have l4 := HK04.out.lt
    simp only [List.getElem?_toArray, List.getElem?_cons_zero] at p4
    go_wp2_with fail
    refine (l04Copy_any _ d w4 (HRD.out.below hw4) (by omega)).mono ?_
    rintro e wz ⟨uz, rfl, hoz, hbz⟩
    obtain ⟨Az, cz, rfl⟩ := hoz.form
    have HOZ := Lib.hid hoz
    have hwz := hw4.trans (hbz.mono hw4.size)
    have xz := HK14.out.belowV hbz
    have r0 := xz.cell 0
    have r1 := xz.frozen 0
    have rl := xz.lt
    have hs14 := HK14.out.lt
    simp only [List.getElem?_toArray, List.getElem?_cons_zero] at r0
    clear hoz xz p4 l4
    go_wp2_with fail
    refine bodyPost_ret (v := .tuple #[.agg #[.slice Az d.length cz], .bool false]) (by simp [results, Try.results38, go_sem, r0, r1]) rfl ?_
    rw [HE0.out, HE1.out]
    refine ⟨_, rfl, ?_, hwz.setCell (by simp) _⟩
    have hk := Own_disk.keep HOZ.out ((Part.refl (w.heap.size + 1) (w.heap.size + 2) wz).setCell (p := ⟨w.heap.size + 1, 0, none⟩) ⟨Nat.le_refl _, Nat.lt_succ_self _⟩ (.slice Az d.length cz)) (.inr (by omega))
    exact ⟨OwnS.mono hk.1 (by omega) (by have := hk.1.2.1; exact this) (Nat.le_refl _), hk.2⟩
  | true =>
    have hl4 := HL4.out hD
    have HD := Lib.hid hD
    rw [hD] at COK
    clear hD
    by_cases hab : na = nb
    · have HE1 := Lib.hid (move1_same (d := d) hab)
      have HE0 := Lib.hid (move0_fail HE1.out)
      have tb : (na.toList == nb.toList) = true := (strB_eq hab).1
      clear hab
      go_enter Try.func38, Try.ntmps38
      go_wp2_with fail
      rw [← HW.out]
      refine (CAT.out _ hb0).mono ?_
      rintro e w3 ⟨rfl, hb3⟩
      have hsb := hb3.size
      have hw3 := hb0.trans (hb3.mono hb0.size)
      have HK03 := Lib.hid (HK0.out.belowV hb3)
      have HK13 := Lib.hid (HK1.out.belowV hb3)
      have p3 := HK03.out.cell 0
      have l3 := HK03.out.lt
      simp only [List.getElem?_toArray, List.getElem?_cons_zero] at p3
      go_wp2_with fail
      first | refine wp_region_calm_on (by kernel_rfl) (by kernel_rfl) ?_ | refine wp_region_calm_lit (by kernel_rfl) (by kernel_rfl) ?_
      repeat (go_big_quiet_step (first | (go_at_call 66; exact calm_of (COK.out _ (Below.calm hw3 hw3.size))) | (go_at_call 80; exact calm_same (CNM.out _))))
      refine wpQuiet_nil ?_
      intro _ hw'
      obtain ⟨k1, hw''⟩ := hw'
      subst hw''
      obtain ⟨w4, hb4, hkw⟩ := k1.out
      rw [hkw]
      clear hkw p3 l3
      have hsc := hb4.size
      have hw4 := hw3.trans (hb4.mono hw3.size)
      have HK04 := Lib.hid (HK03.out.belowV hb4)
      have HK14 := Lib.hid (HK13.out.belowV hb4)
      have p4 := HK04.out.cell 0
      have l4 := HK04.out.lt
      simp only [List.getElem?_toArray, List.getElem?_cons_zero] at p4
      go_wp2_with fail
      refine (l04Copy_any _ d w4 (HRD.out.below hw4) (by omega)).mono ?_
      rintro e wz ⟨uz, rfl, hoz, hbz⟩
      obtain ⟨Az, cz, rfl⟩ := hoz.form
      have HOZ := Lib.hid hoz
      have hwz := hw4.trans (hbz.mono hw4.size)
      have xz := HK14.out.belowV hbz
      have r0 := xz.cell 0
      have r1 := xz.frozen 0
      have rl := xz.lt
      have hs14 := HK14.out.lt
      simp only [List.getElem?_toArray, List.getElem?_cons_zero] at r0
      clear hoz xz p4 l4
      go_wp2_with fail
      refine bodyPost_ret (v := .tuple #[.agg #[.slice Az d.length cz], .bool false]) (by simp [results, Try.results38, go_sem, r0, r1]) rfl ?_
      rw [HE0.out, HE1.out]
      refine ⟨_, rfl, ?_, hwz.setCell (by simp) _⟩
      have hk := Own_disk.keep HOZ.out ((Part.refl (w.heap.size + 1) (w.heap.size + 2) wz).setCell (p := ⟨w.heap.size + 1, 0, none⟩) ⟨Nat.le_refl _, Nat.lt_succ_self _⟩ (.slice Az d.length cz)) (.inr (by omega))
      exact ⟨OwnS.mono hk.1 (by omega) (by have := hk.1.2.1; exact this) (Nat.le_refl _), hk.2⟩
    have tb : (na.toList == nb.toList) = false := (strB_ne hab).1
    have HAB := Lib.hid hab
    clear hab
    cases hN : nmOk nb with
    | false =>
      have HE1 := Lib.hid (move1_name (d := d) (a := na) hN)
      have HE0 := Lib.hid (move0_fail HE1.out)
      rw [hN] at CNM
      clear hN
      go_enter Try.func38, Try.ntmps38
      go_wp2_with fail
      rw [← HW.out]
      refine (CAT.out _ hb0).mono ?_
      rintro e w3 ⟨rfl, hb3⟩
      have hsb := hb3.size
      have hw3 := hb0.trans (hb3.mono hb0.size)
      have HK03 := Lib.hid (HK0.out.belowV hb3)
      have HK13 := Lib.hid (HK1.out.belowV hb3)
      have p3 := HK03.out.cell 0
      have l3 := HK03.out.lt
      simp only [List.getElem?_toArray, List.getElem?_cons_zero] at p3
      go_wp2_with fail
      first | refine wp_region_calm_on (by kernel_rfl) (by kernel_rfl) ?_ | refine wp_region_calm_lit (by kernel_rfl) (by kernel_rfl) ?_
      repeat (go_big_quiet_step (first | (go_at_call 66; exact calm_of (COK.out _ (Below.calm hw3 hw3.size))) | (go_at_call 80; exact calm_same (CNM.out _))))
      refine wpQuiet_nil ?_
      intro _ hw'
      obtain ⟨k1, hw''⟩ := hw'
      subst hw''
      obtain ⟨w4, hb4, hkw⟩ := k1.out
      rw [hkw]
      clear hkw p3 l3
      have hsc := hb4.size
      have hw4 := hw3.trans (hb4.mono hw3.size)
      have HK04 := Lib.hid (HK03.out.belowV hb4)
      have HK14 := Lib.hid (HK13.out.belowV hb4)
      have p4 := HK04.out.cell 0
      have l4 := HK04.out.lt
      simp only [List.getElem?_toArray, List.getElem?_cons_zero] at p4
      go_wp2_with fail
      refine (l04Copy_any _ d w4 (HRD.out.below hw4) (by omega)).mono ?_
      rintro e wz ⟨uz, rfl, hoz, hbz⟩
      obtain ⟨Az, cz, rfl⟩ := hoz.form
      have HOZ := Lib.hid hoz
      have hwz := hw4.trans (hbz.mono hw4.size)
      have xz := HK14.out.belowV hbz
      have r0 := xz.cell 0
      have r1 := xz.frozen 0
      have rl := xz.lt
      have hs14 := HK14.out.lt
      simp only [List.getElem?_toArray, List.getElem?_cons_zero] at r0
      clear hoz xz p4 l4
      go_wp2_with fail
      refine bodyPost_ret (v := .tuple #[.agg #[.slice Az d.length cz], .bool false]) (by simp [results, Try.results38, go_sem, r0, r1]) rfl ?_
      rw [HE0.out, HE1.out]
      refine ⟨_, rfl, ?_, hwz.setCell (by simp) _⟩
      have hk := Own_disk.keep HOZ.out ((Part.refl (w.heap.size + 1) (w.heap.size + 2) wz).setCell (p := ⟨w.heap.size + 1, 0, none⟩) ⟨Nat.le_refl _, Nat.lt_succ_self _⟩ (.slice Az d.length cz)) (.inr (by omega))
      exact ⟨OwnS.mono hk.1 (by omega) (by have := hk.1.2.1; exact this) (Nat.le_refl _), hk.2⟩
    | true =>
      have HN := Lib.hid hN
      rw [hN] at CNM
      clear hN
      by_cases hsf : x.safe = (x.data.size : Int)
      rotate_left
      · have HE1 := Lib.hid (HM.out hsf)
        have HE0 := Lib.hid (move0_fail HE1.out)
        have ts : (x.safe != (x.data.size : Int)) = true := by simp [hsf]
        clear hsf
        go_enter Try.func38, Try.ntmps38
        go_wp2_with fail
        rw [← HW.out]
        refine (CAT.out _ hb0).mono ?_
        rintro e w3 ⟨rfl, hb3⟩
        have hsb := hb3.size
        have hw3 := hb0.trans (hb3.mono hb0.size)
        have HK03 := Lib.hid (HK0.out.belowV hb3)
        have HK13 := Lib.hid (HK1.out.belowV hb3)
        have p3 := HK03.out.cell 0
        have l3 := HK03.out.lt
        simp only [List.getElem?_toArray, List.getElem?_cons_zero] at p3
        obtain ⟨d0, d1, d2⟩ := HC.out w3 hw3
        have hb1l : b1 < w3.heap.size := Nat.lt_of_lt_of_le hl1 hw3.size
        go_wp2_with fail
        first | refine wp_region_calm_on (by kernel_rfl) (by kernel_rfl) ?_ | refine wp_region_calm_lit (by kernel_rfl) (by kernel_rfl) ?_
        repeat (go_big_quiet_step (first | (go_at_call 66; exact calm_of (COK.out _ (Below.calm hw3 hw3.size))) | (go_at_call 80; exact calm_same (CNM.out _))))
        refine wpQuiet_nil ?_
        intro _ hw'
        obtain ⟨k1, hw''⟩ := hw'
        subst hw''
        obtain ⟨w4, hb4, hkw⟩ := k1.out
        rw [hkw]
        clear hkw p3 l3 d0 d1 d2
        have hsc := hb4.size
        have hw4 := hw3.trans (hb4.mono hw3.size)
        have HK04 := Lib.hid (HK03.out.belowV hb4)
        have HK14 := Lib.hid (HK13.out.belowV hb4)
        have p4 := HK04.out.cell 0
        have l4 := HK04.out.lt
        simp only [List.getElem?_toArray, List.getElem?_cons_zero] at p4
        go_wp2_with fail
        refine (l04Copy_any _ d w4 (HRD.out.below hw4) (by omega)).mono ?_
        rintro e wz ⟨uz, rfl, hoz, hbz⟩
        obtain ⟨Az, cz, rfl⟩ := hoz.form
        have HOZ := Lib.hid hoz
        have hwz := hw4.trans (hbz.mono hw4.size)
        have xz := HK14.out.belowV hbz
        have r0 := xz.cell 0
        have r1 := xz.frozen 0
        have rl := xz.lt
        have hs14 := HK14.out.lt
        simp only [List.getElem?_toArray, List.getElem?_cons_zero] at r0
        clear hoz xz p4 l4
        go_wp2_with fail
        refine bodyPost_ret (v := .tuple #[.agg #[.slice Az d.length cz], .bool false]) (by simp [results, Try.results38, go_sem, r0, r1]) rfl ?_
        rw [HE0.out, HE1.out]
        refine ⟨_, rfl, ?_, hwz.setCell (by simp) _⟩
        have hk := Own_disk.keep HOZ.out ((Part.refl (w.heap.size + 1) (w.heap.size + 2) wz).setCell (p := ⟨w.heap.size + 1, 0, none⟩) ⟨Nat.le_refl _, Nat.lt_succ_self _⟩ (.slice Az d.length cz)) (.inr (by omega))
        exact ⟨OwnS.mono hk.1 (by omega) (by have := hk.1.2.1; exact this) (Nat.le_refl _), hk.2⟩
      have HE1 := Lib.hid (HM1.out HD.out HAB.out HN.out hsf)
      have HE0 := Lib.hid (HM0.out HE1.out)
      have ts : (x.safe != (x.data.size : Int)) = false := by simp [hsf]
      clear hsf
      obtain ⟨j, hjj⟩ : ∃ j, j = atF nb d := ⟨_, rfl⟩
      obtain ⟨L, hL⟩ : ∃ L, L = d.set k (renF x nb) := ⟨_, rfl⟩
      have hLl : L.length = d.length := by rw [hL, List.length_set]
      have HML := Lib.hid (show movedL d k x nb = L.eraseIdx j by rw [movedL, hjj, hL])
      have HNA := Lib.hid (fun (i : Nat) (hi : i < d.length) => name_at HD.out hi nb)
      rw [← hjj] at HNA
      have HL := Lib.hid hL
      have HLL := Lib.hid hLl
      obtain ⟨i0, hii, hz0, hz1, hz2⟩ := info_parts Try.infoFil
      clear hjj hL hLl CATB
      go_enter Try.func38, Try.ntmps38
      go_wp2_with fail
      rw [← HW.out]
      refine (CAT.out _ hb0).mono ?_
      rintro e w3 ⟨rfl, hb3⟩
      have hsb := hb3.size
      have hw3 := hb0.trans (hb3.mono hb0.size)
      have HK03 := Lib.hid (HK0.out.belowV hb3)
      have HK13 := Lib.hid (HK1.out.belowV hb3)
      have p3 := HK03.out.cell 0
      have l3 := HK03.out.lt
      simp only [List.getElem?_toArray, List.getElem?_cons_zero] at p3
      obtain ⟨d0, d1, d2⟩ := HC.out w3 hw3
      have hb1l : b1 < w3.heap.size := Nat.lt_of_lt_of_le hl1 hw3.size
      go_wp2_with fail
      first | refine wp_region_calm_on (by kernel_rfl) (by kernel_rfl) ?_ | refine wp_region_calm_lit (by kernel_rfl) (by kernel_rfl) ?_
      repeat (go_big_quiet_step (first | (go_at_call 66; exact calm_of (COK.out _ (Below.calm hw3 hw3.size))) | (go_at_call 80; exact calm_same (CNM.out _))))
      refine wpQuiet_nil ?_
      intro _ hw'
      obtain ⟨k1, hw''⟩ := hw'
      subst hw''
      obtain ⟨w4, hb4, hkw⟩ := k1.out
      rw [hkw]
      clear hkw p3 l3 d0 d1 d2
      have hsc := hb4.size
      have hw4 := hw3.trans (hb4.mono hw3.size)
      have HK04 := Lib.hid (HK03.out.belowV hb4)
      have HK14 := Lib.hid (HK13.out.belowV hb4)
      have p4 := HK04.out.cell 0
      have l4 := HK04.out.lt
      have l41 := HK14.out.lt
      simp only [List.getElem?_toArray, List.getElem?_cons_zero] at p4
      go_wp2_with fail
      go_loopw [10] (fun i wr => ∃ (n m : Nat) (A2 : Option Addr) (c2 : Nat), n ≤ d.length ∧ m ≤ n ∧ i = .int .i64 n ∧ Hid ((movedTo L j n).length = m) ∧ Hid (wr.ownsRow w.heap.size 44 3 (.slice A2 m c2) m (filV (movedTo L j n))) ∧ Hid (Blk wr w4.heap.size 37 #[.slice A2 m c2]) ∧ Hid (Blk wr w.heap.size 37 #[.slice (some ⟨b1, o1, none⟩) d.length c]) ∧ Hid (Blk wr (w.heap.size + 1) 37 #[.slice none 0 0]) ∧ Hid (Below w.heap.size w wr)) (fun i _ => d.length - (intOf i).toNat)
      case atStart =>
        have y4 := Blk.new w4 37 #[.slice none 0 0]
        exact ⟨0, 0, none, 0, Nat.zero_le _, Nat.zero_le _, rfl, Lib.hid (by rw [movedTo_zero]; rfl), Lib.hid (by rw [movedTo_zero]; exact World.ownsRow_nil _ _ _ _), Lib.hid y4, Lib.hid (HK04.out.alloc _), Lib.hid (HK14.out.alloc _), Lib.hid (hw4.alloc hw4.size _)⟩
      case round =>
        obtain ⟨n, m, A2, c2, hn, hmn, rfl, HMM, HOW, HKO, HKP, HKR, HB⟩ := hrel
        clear p4 l4
        have hw := HB.out.size
        have pp := HKP.out.cell 0
        have pl := HKP.out.lt
        have ol := HKO.out.lt
        have rl := HKR.out.lt
        have oc := HKO.out.cell 0
        simp only [List.getElem?_toArray, List.getElem?_cons_zero] at pp oc
        by_cases hlt : n < d.length
        · obtain ⟨y, hy⟩ : ∃ y, y = d[n] := ⟨_, rfl⟩
          obtain ⟨e0, e1, e2⟩ := HCC.out wr HB.out n hlt y hy
          have hb1r : b1 < wr.heap.size := Nat.lt_of_lt_of_le hl1 hw
          have hn0 : (0 : Int) ≤ (n : Int) := by omega
          have hn1 : (n : Int) < (d.length : Int) := by omega
          have HNN := Lib.hid (HNA.out n hlt)
          rw [← hy] at HNN
          have HY := Lib.hid hy
          clear hy
          by_cases hnm : y.name = nb
          · have tn : (y.name.toList == nb.toList) = true := (strB_eq hnm).1
            have hnj : n = j := HNN.out.1 hnm
            have HE := Lib.hid (show movedTo L j (n + 1) = movedTo L j n by subst hnj; exact movedTo_at (by rw [HLL.out]; exact hlt))
            clear hnm hnj
            go_wp2_with fail
            go_roundw
            case rel => exact ⟨n + 1, m, A2, c2, by omega, by omega, by go_num, by rw [HE.out]; exact HMM, by rw [HE.out]; exact Lib.hid (HOW.out.alloc _), Lib.hid (HKO.out.alloc _), Lib.hid (HKP.out.alloc _), Lib.hid (HKR.out.alloc _), Lib.hid (HB.out.alloc hw _)⟩
            case measure => simp [intOf]; omega
          · have tn : (y.name.toList == nb.toList) = false := (strB_ne hnm).1
            have hnj : ¬ n = j := fun e => hnm (HNN.out.2 e)
            have HE := Lib.hid (movedTo_on (l := L) (p := j) (show n < L.length by rw [HLL.out]; exact hlt) hnj)
            clear hnm hnj
            by_cases hnk : n = k
            · skip
              have tk2 : ((n : Int) == (k : Int)) = true := by simp; omega
              have HF := Lib.hid (show L[n]'(by rw [HLL.out]; exact hlt) = ⟨nb, y.data, y.safe⟩ by
                have hL := HL.out
                have hy := HY.out
                have hX := HX.out
                subst hL
                subst hnk
                rw [List.getElem_set_self, hX, ← hy]; rfl)
              rw [HF.out] at HE
              clear hnk
              go_upto_region 12 with (fail)
              obtain ⟨W1, hW1⟩ : ∃ W1, W1 = wr.alloc (.cells #[.string nb, .string y.data, .int .i64 y.safe] 44) := ⟨_, rfl⟩
              rw [← hW1]
              have y1 : Blk W1 wr.heap.size 44 #[.string nb, .string y.data, .int .i64 y.safe] := by rw [hW1]; exact Blk.new _ _ _
              have hp1 : Part wr.heap.size (wr.heap.size + 1) wr W1 := by rw [hW1]; exact (Part.refl _ _ _).alloc _
              have hs1 := hp1.size
              have hb1 : Below wr.heap.size wr W1 := Part.to_below (Below.refl _ _) hp1 (Nat.le_refl _) (Nat.le_refl _)
              have hw1 := HB.out.trans (hb1.mono hw)
              have hown1 : W1.ownsRow w.heap.size 44 3 (.slice A2 m c2) m (filV (movedTo L j n)) := own_below HOW.out hb1
              have HKO1 := Lib.hid (HKO.out.belowV hb1)
              have HKP1 := Lib.hid (HKP.out.belowV hb1)
              have HKR1 := Lib.hid (HKR.out.belowV hb1)
              have y10 := y1.cell 0
              have y11 := y1.cell 1
              have y12 := y1.cell 2
              simp only [List.getElem?_toArray, List.getElem?_cons_succ, List.getElem?_cons_zero] at y10 y11 y12
              have y1l := y1.lt
              have oc1 := HKO1.out.cell 0
              have oc1l := HKO1.out.lt
              simp only [List.getElem?_toArray, List.getElem?_cons_zero] at oc1
              have hbs : w.heap.size ≤ W1.heap.size := by omega
              have HW1 := Lib.hid hw1
              clear hW1 y1 hp1 e0 e1 e2 pp oc hw1
              go_wp2_with (at_builtin; refine wpList_append_new rfl _ _ _ rfl w.heap.size _ i0 _ 3 40 Try.underlying35 hii hz0 hz1 hz2 rfl (by decide) (.slice A2 m c2) m _ rfl hown1 HW1.out hbs _ 1 1 (by first | rfl | (refine slice_at_eq ?_; simp [World.setCell]; done)) rfl (fun u hu => filV_one [⟨nb, y.data, y.safe⟩] u hu) ⟨by omega, by omega⟩ ?_; intro v1 w5 hown5 hb5 hg5 hat5; obtain ⟨A6, c6, rfl, -, -⟩ := (Rd.of_own hown5).shape; have kr5 := (HKO1.out.alloc (.cells #[.string nb, .string y.data, .int .i64 y.safe] 44)).grown hg5 (Ne.symm (own_blk_ne (hown1.alloc (.cells #[.string nb, .string y.data, .int .i64 y.safe] 44)) (HKO1.out.alloc _) (by decide))); have HKP5 := Lib.hid ((HKP1.out.alloc (.cells #[.string nb, .string y.data, .int .i64 y.safe] 44)).grown hg5 (Ne.symm (own_blk_ne (hown1.alloc (.cells #[.string nb, .string y.data, .int .i64 y.safe] 44)) (HKP1.out.alloc _) (by decide)))); have HKR5 := Lib.hid ((HKR1.out.alloc (.cells #[.string nb, .string y.data, .int .i64 y.safe] 44)).grown hg5 (Ne.symm (own_blk_ne (hown1.alloc (.cells #[.string nb, .string y.data, .int .i64 y.safe] 44)) (HKR1.out.alloc _) (by decide)))); have g7 := kr5.cell 0; have gz7 := kr5.frozen 0; simp only [List.getElem?_toArray, List.getElem?_cons_zero] at g7; have g7l := kr5.lt; have HK5 := Lib.hid kr5; have HO5 := Lib.hid hown5; have HB5 := Lib.hid hb5; clear hown5 hb5 hg5 hat5 kr5 y10 y11 y12 oc1)
              go_roundw
              case rel =>
                have hgo : w5.grownBy (w5.setCell ⟨w4.heap.size, 0, none⟩ (.slice A6 (m + 1) c6)) (some w4.heap.size) := only_setCell (World.grownBy.refl _ _) (.inl rfl) _
                refine ⟨n + 1, m + 1, A6, c6, by omega, by omega, by go_num, Lib.hid ?_, Lib.hid ?_, Lib.hid ?_, Lib.hid ?_, Lib.hid ?_, Lib.hid ?_⟩
                · rw [HE.out, List.length_append, HMM.out]; rfl
                · rw [HE.out, filV_append]
                  exact own_grown HO5.out hgo (.inr (own_blk_ne HO5.out HK5.out (by decide)))
                · exact HK5.out.set_ 0 _
                · exact HKP5.out.far (show w.heap.size ≠ w4.heap.size by omega) _
                · exact HKR5.out.far (show w.heap.size + 1 ≠ w4.heap.size by omega) _
                · exact HB5.out.setCell (show w.heap.size ≤ w4.heap.size by omega) _
              case measure => simp [intOf]; omega
            · skip
              have tk2 : ((n : Int) == (k : Int)) = false := by simp; omega
              have HF := Lib.hid (show L[n]'(by rw [HLL.out]; exact hlt) = ⟨y.name, y.data, y.safe⟩ by
                have hL := HL.out
                have hy := HY.out
                have hX := HX.out
                subst hL
                rw [List.getElem_set_ne (by omega), ← hy])
              rw [HF.out] at HE
              clear hnk
              go_upto_region 12 with (fail)
              obtain ⟨W1, hW1⟩ : ∃ W1, W1 = wr.alloc (.cells #[.string y.name, .string y.data, .int .i64 y.safe] 44) := ⟨_, rfl⟩
              rw [← hW1]
              have y1 : Blk W1 wr.heap.size 44 #[.string y.name, .string y.data, .int .i64 y.safe] := by rw [hW1]; exact Blk.new _ _ _
              have hp1 : Part wr.heap.size (wr.heap.size + 1) wr W1 := by rw [hW1]; exact (Part.refl _ _ _).alloc _
              have hs1 := hp1.size
              have hb1 : Below wr.heap.size wr W1 := Part.to_below (Below.refl _ _) hp1 (Nat.le_refl _) (Nat.le_refl _)
              have hw1 := HB.out.trans (hb1.mono hw)
              have hown1 : W1.ownsRow w.heap.size 44 3 (.slice A2 m c2) m (filV (movedTo L j n)) := own_below HOW.out hb1
              have HKO1 := Lib.hid (HKO.out.belowV hb1)
              have HKP1 := Lib.hid (HKP.out.belowV hb1)
              have HKR1 := Lib.hid (HKR.out.belowV hb1)
              have y10 := y1.cell 0
              have y11 := y1.cell 1
              have y12 := y1.cell 2
              simp only [List.getElem?_toArray, List.getElem?_cons_succ, List.getElem?_cons_zero] at y10 y11 y12
              have y1l := y1.lt
              have oc1 := HKO1.out.cell 0
              have oc1l := HKO1.out.lt
              simp only [List.getElem?_toArray, List.getElem?_cons_zero] at oc1
              have hbs : w.heap.size ≤ W1.heap.size := by omega
              have HW1 := Lib.hid hw1
              clear hW1 y1 hp1 e0 e1 e2 pp oc hw1
              go_wp2_with (at_builtin; refine wpList_append_new rfl _ _ _ rfl w.heap.size _ i0 _ 3 40 Try.underlying35 hii hz0 hz1 hz2 rfl (by decide) (.slice A2 m c2) m _ rfl hown1 HW1.out hbs _ 1 1 (by first | rfl | (refine slice_at_eq ?_; simp [World.setCell]; done)) rfl (fun u hu => filV_one [⟨y.name, y.data, y.safe⟩] u hu) ⟨by omega, by omega⟩ ?_; intro v1 w5 hown5 hb5 hg5 hat5; obtain ⟨A6, c6, rfl, -, -⟩ := (Rd.of_own hown5).shape; have kr5 := (HKO1.out.alloc (.cells #[.string y.name, .string y.data, .int .i64 y.safe] 44)).grown hg5 (Ne.symm (own_blk_ne (hown1.alloc (.cells #[.string y.name, .string y.data, .int .i64 y.safe] 44)) (HKO1.out.alloc _) (by decide))); have HKP5 := Lib.hid ((HKP1.out.alloc (.cells #[.string y.name, .string y.data, .int .i64 y.safe] 44)).grown hg5 (Ne.symm (own_blk_ne (hown1.alloc (.cells #[.string y.name, .string y.data, .int .i64 y.safe] 44)) (HKP1.out.alloc _) (by decide)))); have HKR5 := Lib.hid ((HKR1.out.alloc (.cells #[.string y.name, .string y.data, .int .i64 y.safe] 44)).grown hg5 (Ne.symm (own_blk_ne (hown1.alloc (.cells #[.string y.name, .string y.data, .int .i64 y.safe] 44)) (HKR1.out.alloc _) (by decide)))); have g7 := kr5.cell 0; have gz7 := kr5.frozen 0; simp only [List.getElem?_toArray, List.getElem?_cons_zero] at g7; have g7l := kr5.lt; have HK5 := Lib.hid kr5; have HO5 := Lib.hid hown5; have HB5 := Lib.hid hb5; clear hown5 hb5 hg5 hat5 kr5 y10 y11 y12 oc1)
              go_roundw
              case rel =>
                have hgo : w5.grownBy (w5.setCell ⟨w4.heap.size, 0, none⟩ (.slice A6 (m + 1) c6)) (some w4.heap.size) := only_setCell (World.grownBy.refl _ _) (.inl rfl) _
                refine ⟨n + 1, m + 1, A6, c6, by omega, by omega, by go_num, Lib.hid ?_, Lib.hid ?_, Lib.hid ?_, Lib.hid ?_, Lib.hid ?_, Lib.hid ?_⟩
                · rw [HE.out, List.length_append, HMM.out]; rfl
                · rw [HE.out, filV_append]
                  exact own_grown HO5.out hgo (.inr (own_blk_ne HO5.out HK5.out (by decide)))
                · exact HK5.out.set_ 0 _
                · exact HKP5.out.far (show w.heap.size ≠ w4.heap.size by omega) _
                · exact HKR5.out.far (show w.heap.size + 1 ≠ w4.heap.size by omega) _
                · exact HB5.out.setCell (show w.heap.size ≤ w4.heap.size by omega) _
              case measure => simp [intOf]; omega
        · have hnd : n = d.length := by omega
          have r0 := HKR.out.cell 0
          have r1 := HKR.out.frozen 0
          simp only [List.getElem?_toArray, List.getElem?_cons_zero] at r0
          clear hlt
          go_wp2_with fail
          refine bodyPost_ret (v := .tuple #[.agg #[.slice A2 m c2], .bool true]) (by simp [results, Try.results38, go_sem, r0, r1, oc]) rfl ?_
          rw [HE0.out, HE1.out]
          refine ⟨_, rfl, ?_, HB.out.setCell (by simp) _⟩
          have hml : movedTo L j n = L.eraseIdx j := by rw [hnd, ← HLL.out, movedTo_end]
          have how := HOW.out
          have hmm := HMM.out
          rw [hml] at how hmm
          have hgo : wr.grownBy (wr.setCell ⟨w.heap.size + 1, 0, none⟩ (.slice A2 m c2)) (some (w.heap.size + 1)) := only_setCell (World.grownBy.refl _ _) (.inl rfl) _
          have hfin := OwnS.of_own (own_grown how hgo (.inr (own_blk_ne how HKR.out (by decide))))
          rw [HML.out]
          have hxok := HRD.out.2 x (by rw [HX.out]; exact List.getElem_mem hkl)
          refine ⟨?_, okF_erase (by rw [HL.out]; exact okF_set HRD.out.2 _ ⟨by show nb.size ≤ _; omega, hxok.2⟩)⟩
          rw [hmm]
          exact hfin
theorem moveFileR0_length (d : List Fil) (a b : ByteArray) : (moveFileR0 d a b).length ≤ d.length := by
  unfold moveFileR0
  split
  · split
    · unfold movedL
      have := List.length_eraseIdx_le (d.set (atF a d) (renF (d[atF a d]'(by assumption)) b)) (atF b d)
      rw [List.length_set] at this
      exact this
    · omega
  · omega
end Go.Proofs.Ythjkmefbjbfonaa

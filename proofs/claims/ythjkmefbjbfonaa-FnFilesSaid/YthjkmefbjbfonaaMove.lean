/- MoveFile of the program. -/
import Derived.Test.YthjkmefbjbfonaaMoveP
import Derived.Test.YthjkmefbjbfonaaMayBe
import Derived.Test.YthjkmefbjbfonaaDelF

import Derived.Deep.Cut
namespace Go.Proofs.Ythjkmefbjbfonaa
set_option linter.unusedSimpArgs false
set_option linter.unusedVariables false
open Go.RowKit Go.ChangeShapes Go.Deep
theorem move1_ok {d : List Fil} {a b : ByteArray} (h : atF a d < d.length) (h1 : diskOkR d = true) (h2 : ¬ a = b) (h3 : nmOk b = true) (h4 : d[atF a d].safe = (d[atF a d].data.size : Int)) : moveFileR1 d a b = true := by
  rw [moveFileR1, dif_pos h, h1, h3, decide_eq_true h4, decide_eq_true h2]; rfl
theorem move0_ok {d : List Fil} {a b : ByteArray} (h : atF a d < d.length) (h1 : moveFileR1 d a b = true) : moveFileR0 d a b = movedL d (atF a d) d[atF a d] b := by
  rw [moveFileR0, dif_pos h, if_pos h1]
theorem move1_same {d : List Fil} {a b : ByteArray} (h2 : a = b) : moveFileR1 d a b = false := by
  rw [moveFileR1, decide_eq_false (p := a ≠ b) (by simpa using h2), Bool.and_false, Bool.false_and]; simp
theorem move1_name {d : List Fil} {a b : ByteArray} (h2 : nmOk b = false) : moveFileR1 d a b = false := by
  rw [moveFileR1, h2, Bool.and_false]; simp
theorem move1_disk {d : List Fil} {a b : ByteArray} (h2 : diskOkR d = false) : moveFileR1 d a b = false := by
  rw [moveFileR1, h2]; simp
theorem move1_none {d : List Fil} {a b : ByteArray} (h : ¬ atF a d < d.length) : moveFileR1 d a b = false := by
  rw [moveFileR1, dif_neg h]
theorem move1_safe {d : List Fil} {a b : ByteArray} (h : atF a d < d.length) (h4 : ¬ d[atF a d].safe = (d[atF a d].data.size : Int)) : moveFileR1 d a b = false := by
  rw [moveFileR1, dif_pos h, decide_eq_false h4, Bool.and_false]
theorem move0_fail {d : List Fil} {a b : ByteArray} (h : moveFileR1 d a b = false) : moveFileR0 d a b = d := by
  rw [moveFileR0]
  split
  · rw [if_neg (by rw [h]; decide)]
  · rfl
set_option maxHeartbeats 16000000 in
set_option maxRecDepth 100000 in
theorem moveFile_impl (v : Value) (d : List Fil) (na nb : ByteArray) (w : World) (h : Rd_disk w v d) (hn : cost_disk d ≤ 1048576) (hna : na.size ≤ 1048576) (hnb : nb.size ≤ 1048576) :
    Calls Try.prog 35 #[.agg #[v], .string na, .string nb] w (GivesDB (moveFileR0 d na nb) (moveFileR1 d na nb) w) := by
  unfold cost_disk at hn
  have HRD := Lib.hid h
  obtain ⟨A, c, rfl, hnc, hcm⟩ := h.1.shape
  unfold maxLen at hcm
  have CAT := Lib.hid (fun W (hW : Below w.heap.size w W) => fileAt_any (.slice A d.length c) d na W (HRD.out.below hW) (by omega))
  have CATB := Lib.hid (fun W (hW : Below w.heap.size w W) => fileAt_any (.slice A d.length c) d nb W (HRD.out.below hW) (by omega))
  have COK := Lib.hid (fun W (hW : Below w.heap.size w W) => diskOk_impl (.slice A d.length c) d W (HRD.out.below hW) (by omega))
  have CNM := Lib.hid (fun W => nameOk_any nb W (by omega))
  have HL4 := Lib.hid (fun h => diskOk_four (d := d) h)
  clear h
  obtain ⟨W0, hW0⟩ : ∃ W0, W0 = (w.alloc (.cells #[.slice A d.length c] 37)).alloc (.cells #[.slice none 0 0] 37) := ⟨_, rfl⟩
  have HW := Lib.hid hW0
  have k0 : Blk W0 w.heap.size 37 #[.slice A d.length c] := by rw [hW0]; exact (Blk.new _ _ _).alloc _
  have k1 : Blk W0 (w.heap.size + 1) 37 #[.slice none 0 0] := by
    have q := Blk.new (w.alloc (.cells #[.slice A d.length c] 37)) 37 #[.slice none 0 0]
    rw [show (w.alloc (.cells #[.slice A d.length c] 37)).heap.size = w.heap.size + 1 by simp] at q
    rw [hW0]; exact q
  have hb0 : Below w.heap.size w W0 := by rw [hW0]; exact (by repeat first | exact Below.refl _ _ | assumption | refine Below.drew ?_ | refine below_drewN ?_ _ | refine Below.calm ?_ (by first | exact Nat.le_refl _ | (simp; done) | (simp; omega) | omega) | refine Below.alloc ?_ (by first | exact Nat.le_refl _ | (simp; done) | (simp; omega) | omega) _ | refine Below.setCell ?_ (by first | exact Nat.le_refl _ | (simp; done) | (simp; omega) | omega) _)
  have hs0 := k1.lt
  have HK0 := Lib.hid k0
  have HK1 := Lib.hid k1
  clear k0 k1 hW0
  by_cases ha : atF na d < d.length
  rotate_left
  · have HE1 := Lib.hid (move1_none (b := nb) ha)
    have HE0 := Lib.hid (move0_fail HE1.out)
    have hat : atR na d = -1 := by rw [atR, if_neg ha]
    rw [hat] at CAT
    clear hat ha
    go_enter Try.func35, Try.ntmps35
    go_wp2_with fail
    rw [← HW.out]
    refine (copyDisk_any _ d W0 (HRD.out.below hb0) (by omega)).mono ?_
    rintro e w2 ⟨u2, rfl, ho2, hb2⟩
    obtain ⟨A2, c2, rfl⟩ := ho2.form
    have HO2 := Lib.hid ho2
    have hw2 := hb0.trans (hb2.mono hb0.size)
    have x2 := HK0.out.belowV hb2
    have p2 := x2.cell 0
    simp only [List.getElem?_toArray, List.getElem?_cons_zero] at p2
    have l2 := x2.lt
    have HK02 := Lib.hid x2
    have HK12 := Lib.hid (HK1.out.belowV hb2)
    have hs2 := HK12.out.lt
    clear ho2 x2
    go_wp2_with fail
    refine (CAT.out _ (hw2.alloc hw2.size _)).mono ?_
    rintro e w3 ⟨rfl, hb3⟩
    have hb3' : Below w2.heap.size w2 w3 := Below.trans (by exact (by repeat first | exact Below.refl _ _ | assumption | refine Below.drew ?_ | refine below_drewN ?_ _ | refine Below.calm ?_ (by first | exact Nat.le_refl _ | (simp; done) | (simp; omega) | omega) | refine Below.alloc ?_ (by first | exact Nat.le_refl _ | (simp; done) | (simp; omega) | omega) _ | refine Below.setCell ?_ (by first | exact Nat.le_refl _ | (simp; done) | (simp; omega) | omega) _)) (hb3.mono (by simp))
    have hsa := hb2.size
    have hsb := hb3'.size
    have hw3 := hw2.trans (hb3'.mono hw2.size)
    have HK03 := Lib.hid (HK02.out.belowV hb3')
    have HK13 := Lib.hid (HK12.out.belowV hb3')
    have HO3 := Lib.hid (Own_disk.below HO2.out hb3')
    have HKO3 := Lib.hid ((Blk.new w2 37 #[.slice A2 d.length c2]).belowV hb3)
    have hs3 := HKO3.out.lt
    have p3 := HK03.out.cell 0
    have l3 := HK03.out.lt
    simp only [List.getElem?_toArray, List.getElem?_cons_zero] at p3
    clear p2 l2
    go_wp2_with fail
    first | refine wp_region_calm_on (by kernel_rfl) (by kernel_rfl) ?_ | refine wp_region_calm_lit (by kernel_rfl) (by kernel_rfl) ?_
    repeat (go_big_quiet_step (first | (go_at_call 32; exact calm_of (COK.out _ (Below.calm hw3 hw3.size))) | (go_at_call 78; exact calm_same (CNM.out _))))
    refine wpQuiet_nil ?_
    intro _ hw'
    obtain ⟨k1, hw''⟩ := hw'
    subst hw''
    obtain ⟨w4, hb4, hkw⟩ := k1.out
    rw [hkw]
    clear hkw p3 l3
    have hsc := hb4.size
    have hw4 := hw3.trans (hb4.mono hw3.size)
    have HK04 := Lib.hid (HK03.out.belowV hb4)
    have HK14 := Lib.hid (HK13.out.belowV hb4)
    have HO4 := Lib.hid (Own_disk.below HO3.out hb4)
    have HKO4 := Lib.hid (HKO3.out.belowV hb4)
    have r0 := HK14.out.cell 0
    have r1 := HK14.out.frozen 0
    have rl := HK14.out.lt
    have o0 := HKO4.out.cell 0
    have ol := HKO4.out.lt
    simp only [List.getElem?_toArray, List.getElem?_cons_zero] at r0 o0
    go_wp2_with fail
    refine bodyPost_ret (v := .tuple #[.agg #[.slice A2 d.length c2], .bool false]) (by simp [results, Try.results35, go_sem, r0, r1, o0]) rfl ?_
    rw [HE0.out, HE1.out]
    refine ⟨_, rfl, ?_, hw4.setCell (by simp) _⟩
    have hk := Own_disk.keep HO4.out ((Part.refl (w.heap.size + 1) (w.heap.size + 2) w4).setCell (p := ⟨w.heap.size + 1, 0, none⟩) ⟨Nat.le_refl _, Nat.lt_succ_self _⟩ (.slice A2 d.length c2)) (.inr (by omega))
    exact ⟨OwnS.mono hk.1 (by omega) (by simp [World.setCell]; omega) (Nat.le_refl _), hk.2⟩
  have hat : atR na d = (atF na d : Int) := by rw [atR, if_pos ha]
  rw [hat] at CAT
  clear hat
  have HM := Lib.hid (move1_safe (b := nb) ha)
  have HM1 := Lib.hid (move1_ok (b := nb) ha)
  have HM0 := Lib.hid (move0_ok (b := nb) ha)
  obtain ⟨k, hk⟩ : ∃ k, k = atF na d := ⟨_, rfl⟩
  have hkl : k < d.length := by omega
  obtain ⟨x, hx⟩ : ∃ x, x = d[k] := ⟨_, rfl⟩
  have hxx : d[atF na d] = x := by subst hk; exact hx.symm
  simp only [hxx] at HM HM1 HM0
  rw [← hk] at CAT HM0
  clear ha hxx hk
  obtain ⟨b1, o1, _, hv1, _, _, hl1, hc1⟩ := HRD.out.1.form (by omega) (by omega)
  have hA1 : A = some ⟨b1, o1, none⟩ := by injection hv1
  subst hA1
  have HC := Lib.hid (fun W (hW : Below w.heap.size w W) => fil_cells hW hl1 hc1 hkl x hx)
  have HCC := Lib.hid (fun (W : World) (hW : Below w.heap.size w W) (n : Nat) (hlt : n < d.length) (y : Fil) (hy : y = d[n]) => fil_cells hW hl1 hc1 hlt y hy)
  have hxs : x.data.size ≤ 1048576 := by have := szF_le (l := d) (f := x) (by rw [hx]; exact List.getElem_mem hkl); unfold szF at this; omega
  have HX := Lib.hid hx
  have hk0 : (0 : Int) ≤ (k : Int) := by omega
  have hk1 : (k : Int) < (d.length : Int) := by omega
  have tk : decide ((k : Int) < 0) = false := decide_eq_false (by omega)
  clear hv1 hc1 hx
  cases hD : diskOkR d with
  | false =>
    have HE1 := Lib.hid (move1_disk (a := na) (b := nb) hD)
    have HE0 := Lib.hid (move0_fail HE1.out)
    rw [hD] at COK
    clear hD
    go_enter Try.func35, Try.ntmps35
    go_wp2_with fail
    rw [← HW.out]
    refine (copyDisk_any _ d W0 (HRD.out.below hb0) (by omega)).mono ?_
    rintro e w2 ⟨u2, rfl, ho2, hb2⟩
    obtain ⟨A2, c2, rfl⟩ := ho2.form
    have HO2 := Lib.hid ho2
    have hw2 := hb0.trans (hb2.mono hb0.size)
    have x2 := HK0.out.belowV hb2
    have p2 := x2.cell 0
    simp only [List.getElem?_toArray, List.getElem?_cons_zero] at p2
    have l2 := x2.lt
    have HK02 := Lib.hid x2
    have HK12 := Lib.hid (HK1.out.belowV hb2)
    have hs2 := HK12.out.lt
    clear ho2 x2
    go_wp2_with fail
    refine (CAT.out _ (hw2.alloc hw2.size _)).mono ?_
    rintro e w3 ⟨rfl, hb3⟩
    have hb3' : Below w2.heap.size w2 w3 := Below.trans (by exact (by repeat first | exact Below.refl _ _ | assumption | refine Below.drew ?_ | refine below_drewN ?_ _ | refine Below.calm ?_ (by first | exact Nat.le_refl _ | (simp; done) | (simp; omega) | omega) | refine Below.alloc ?_ (by first | exact Nat.le_refl _ | (simp; done) | (simp; omega) | omega) _ | refine Below.setCell ?_ (by first | exact Nat.le_refl _ | (simp; done) | (simp; omega) | omega) _)) (hb3.mono (by simp))
    have hsa := hb2.size
    have hsb := hb3'.size
    have hw3 := hw2.trans (hb3'.mono hw2.size)
    have HK03 := Lib.hid (HK02.out.belowV hb3')
    have HK13 := Lib.hid (HK12.out.belowV hb3')
    have HO3 := Lib.hid (Own_disk.below HO2.out hb3')
    have HKO3 := Lib.hid ((Blk.new w2 37 #[.slice A2 d.length c2]).belowV hb3)
    have hs3 := HKO3.out.lt
    have p3 := HK03.out.cell 0
    have l3 := HK03.out.lt
    simp only [List.getElem?_toArray, List.getElem?_cons_zero] at p3
    clear p2 l2
    go_wp2_with fail
    first | refine wp_region_calm_on (by kernel_rfl) (by kernel_rfl) ?_ | refine wp_region_calm_lit (by kernel_rfl) (by kernel_rfl) ?_
    repeat (go_big_quiet_step (first | (go_at_call 32; exact calm_of (COK.out _ (Below.calm hw3 hw3.size))) | (go_at_call 78; exact calm_same (CNM.out _))))
    refine wpQuiet_nil ?_
    intro _ hw'
    obtain ⟨k1, hw''⟩ := hw'
    subst hw''
    obtain ⟨w4, hb4, hkw⟩ := k1.out
    rw [hkw]
    clear hkw p3 l3
    have hsc := hb4.size
    have hw4 := hw3.trans (hb4.mono hw3.size)
    have HK04 := Lib.hid (HK03.out.belowV hb4)
    have HK14 := Lib.hid (HK13.out.belowV hb4)
    have HO4 := Lib.hid (Own_disk.below HO3.out hb4)
    have HKO4 := Lib.hid (HKO3.out.belowV hb4)
    have r0 := HK14.out.cell 0
    have r1 := HK14.out.frozen 0
    have rl := HK14.out.lt
    have o0 := HKO4.out.cell 0
    have ol := HKO4.out.lt
    simp only [List.getElem?_toArray, List.getElem?_cons_zero] at r0 o0
    go_wp2_with fail
    refine bodyPost_ret (v := .tuple #[.agg #[.slice A2 d.length c2], .bool false]) (by simp [results, Try.results35, go_sem, r0, r1, o0]) rfl ?_
    rw [HE0.out, HE1.out]
    refine ⟨_, rfl, ?_, hw4.setCell (by simp) _⟩
    have hk := Own_disk.keep HO4.out ((Part.refl (w.heap.size + 1) (w.heap.size + 2) w4).setCell (p := ⟨w.heap.size + 1, 0, none⟩) ⟨Nat.le_refl _, Nat.lt_succ_self _⟩ (.slice A2 d.length c2)) (.inr (by omega))
    exact ⟨OwnS.mono hk.1 (by omega) (by simp [World.setCell]; omega) (Nat.le_refl _), hk.2⟩
  | true =>
    have hl4 := HL4.out hD
    have HD := Lib.hid hD
    rw [hD] at COK
    clear hD
    by_cases hab : na = nb
    · have HE1 := Lib.hid (move1_same (d := d) hab)
      have HE0 := Lib.hid (move0_fail HE1.out)
      have tb : (na.toList == nb.toList) = true := (strB_eq hab).1
      clear hab
      go_enter Try.func35, Try.ntmps35
      go_wp2_with fail
      rw [← HW.out]
      refine (copyDisk_any _ d W0 (HRD.out.below hb0) (by omega)).mono ?_
      rintro e w2 ⟨u2, rfl, ho2, hb2⟩
      obtain ⟨A2, c2, rfl⟩ := ho2.form
      have HO2 := Lib.hid ho2
      have hw2 := hb0.trans (hb2.mono hb0.size)
      have x2 := HK0.out.belowV hb2
      have p2 := x2.cell 0
      simp only [List.getElem?_toArray, List.getElem?_cons_zero] at p2
      have l2 := x2.lt
      have HK02 := Lib.hid x2
      have HK12 := Lib.hid (HK1.out.belowV hb2)
      have hs2 := HK12.out.lt
      clear ho2 x2
      go_wp2_with fail
      refine (CAT.out _ (hw2.alloc hw2.size _)).mono ?_
      rintro e w3 ⟨rfl, hb3⟩
      have hb3' : Below w2.heap.size w2 w3 := Below.trans (by exact (by repeat first | exact Below.refl _ _ | assumption | refine Below.drew ?_ | refine below_drewN ?_ _ | refine Below.calm ?_ (by first | exact Nat.le_refl _ | (simp; done) | (simp; omega) | omega) | refine Below.alloc ?_ (by first | exact Nat.le_refl _ | (simp; done) | (simp; omega) | omega) _ | refine Below.setCell ?_ (by first | exact Nat.le_refl _ | (simp; done) | (simp; omega) | omega) _)) (hb3.mono (by simp))
      have hsa := hb2.size
      have hsb := hb3'.size
      have hw3 := hw2.trans (hb3'.mono hw2.size)
      have HK03 := Lib.hid (HK02.out.belowV hb3')
      have HK13 := Lib.hid (HK12.out.belowV hb3')
      have HO3 := Lib.hid (Own_disk.below HO2.out hb3')
      have HKO3 := Lib.hid ((Blk.new w2 37 #[.slice A2 d.length c2]).belowV hb3)
      have hs3 := HKO3.out.lt
      have p3 := HK03.out.cell 0
      have l3 := HK03.out.lt
      simp only [List.getElem?_toArray, List.getElem?_cons_zero] at p3
      clear p2 l2
      go_wp2_with fail
      first | refine wp_region_calm_on (by kernel_rfl) (by kernel_rfl) ?_ | refine wp_region_calm_lit (by kernel_rfl) (by kernel_rfl) ?_
      repeat (go_big_quiet_step (first | (go_at_call 32; exact calm_of (COK.out _ (Below.calm hw3 hw3.size))) | (go_at_call 78; exact calm_same (CNM.out _))))
      refine wpQuiet_nil ?_
      intro _ hw'
      obtain ⟨k1, hw''⟩ := hw'
      subst hw''
      obtain ⟨w4, hb4, hkw⟩ := k1.out
      rw [hkw]
      clear hkw p3 l3
      have hsc := hb4.size
      have hw4 := hw3.trans (hb4.mono hw3.size)
      have HK04 := Lib.hid (HK03.out.belowV hb4)
      have HK14 := Lib.hid (HK13.out.belowV hb4)
      have HO4 := Lib.hid (Own_disk.below HO3.out hb4)
      have HKO4 := Lib.hid (HKO3.out.belowV hb4)
      have r0 := HK14.out.cell 0
      have r1 := HK14.out.frozen 0
      have rl := HK14.out.lt
      have o0 := HKO4.out.cell 0
      have ol := HKO4.out.lt
      simp only [List.getElem?_toArray, List.getElem?_cons_zero] at r0 o0
      go_wp2_with fail
      refine bodyPost_ret (v := .tuple #[.agg #[.slice A2 d.length c2], .bool false]) (by simp [results, Try.results35, go_sem, r0, r1, o0]) rfl ?_
      rw [HE0.out, HE1.out]
      refine ⟨_, rfl, ?_, hw4.setCell (by simp) _⟩
      have hk := Own_disk.keep HO4.out ((Part.refl (w.heap.size + 1) (w.heap.size + 2) w4).setCell (p := ⟨w.heap.size + 1, 0, none⟩) ⟨Nat.le_refl _, Nat.lt_succ_self _⟩ (.slice A2 d.length c2)) (.inr (by omega))
      exact ⟨OwnS.mono hk.1 (by omega) (by simp [World.setCell]; omega) (Nat.le_refl _), hk.2⟩
    have tb : (na.toList == nb.toList) = false := (strB_ne hab).1
    have HAB := Lib.hid hab
    clear hab
    cases hN : nmOk nb with
    | false =>
      have HE1 := Lib.hid (move1_name (d := d) (a := na) hN)
      have HE0 := Lib.hid (move0_fail HE1.out)
      rw [hN] at CNM
      clear hN
      go_enter Try.func35, Try.ntmps35
      go_wp2_with fail
      rw [← HW.out]
      refine (copyDisk_any _ d W0 (HRD.out.below hb0) (by omega)).mono ?_
      rintro e w2 ⟨u2, rfl, ho2, hb2⟩
      obtain ⟨A2, c2, rfl⟩ := ho2.form
      have HO2 := Lib.hid ho2
      have hw2 := hb0.trans (hb2.mono hb0.size)
      have x2 := HK0.out.belowV hb2
      have p2 := x2.cell 0
      simp only [List.getElem?_toArray, List.getElem?_cons_zero] at p2
      have l2 := x2.lt
      have HK02 := Lib.hid x2
      have HK12 := Lib.hid (HK1.out.belowV hb2)
      have hs2 := HK12.out.lt
      clear ho2 x2
      go_wp2_with fail
      refine (CAT.out _ (hw2.alloc hw2.size _)).mono ?_
      rintro e w3 ⟨rfl, hb3⟩
      have hb3' : Below w2.heap.size w2 w3 := Below.trans (by exact (by repeat first | exact Below.refl _ _ | assumption | refine Below.drew ?_ | refine below_drewN ?_ _ | refine Below.calm ?_ (by first | exact Nat.le_refl _ | (simp; done) | (simp; omega) | omega) | refine Below.alloc ?_ (by first | exact Nat.le_refl _ | (simp; done) | (simp; omega) | omega) _ | refine Below.setCell ?_ (by first | exact Nat.le_refl _ | (simp; done) | (simp; omega) | omega) _)) (hb3.mono (by simp))
      have hsa := hb2.size
      have hsb := hb3'.size
      have hw3 := hw2.trans (hb3'.mono hw2.size)
      have HK03 := Lib.hid (HK02.out.belowV hb3')
      have HK13 := Lib.hid (HK12.out.belowV hb3')
      have HO3 := Lib.hid (Own_disk.below HO2.out hb3')
      have HKO3 := Lib.hid ((Blk.new w2 37 #[.slice A2 d.length c2]).belowV hb3)
      have hs3 := HKO3.out.lt
      have p3 := HK03.out.cell 0
      have l3 := HK03.out.lt
      simp only [List.getElem?_toArray, List.getElem?_cons_zero] at p3
      clear p2 l2
      go_wp2_with fail
      first | refine wp_region_calm_on (by kernel_rfl) (by kernel_rfl) ?_ | refine wp_region_calm_lit (by kernel_rfl) (by kernel_rfl) ?_
      repeat (go_big_quiet_step (first | (go_at_call 32; exact calm_of (COK.out _ (Below.calm hw3 hw3.size))) | (go_at_call 78; exact calm_same (CNM.out _))))
      refine wpQuiet_nil ?_
      intro _ hw'
      obtain ⟨k1, hw''⟩ := hw'
      subst hw''
      obtain ⟨w4, hb4, hkw⟩ := k1.out
      rw [hkw]
      clear hkw p3 l3
      have hsc := hb4.size
      have hw4 := hw3.trans (hb4.mono hw3.size)
      have HK04 := Lib.hid (HK03.out.belowV hb4)
      have HK14 := Lib.hid (HK13.out.belowV hb4)
      have HO4 := Lib.hid (Own_disk.below HO3.out hb4)
      have HKO4 := Lib.hid (HKO3.out.belowV hb4)
      have r0 := HK14.out.cell 0
      have r1 := HK14.out.frozen 0
      have rl := HK14.out.lt
      have o0 := HKO4.out.cell 0
      have ol := HKO4.out.lt
      simp only [List.getElem?_toArray, List.getElem?_cons_zero] at r0 o0
      go_wp2_with fail
      refine bodyPost_ret (v := .tuple #[.agg #[.slice A2 d.length c2], .bool false]) (by simp [results, Try.results35, go_sem, r0, r1, o0]) rfl ?_
      rw [HE0.out, HE1.out]
      refine ⟨_, rfl, ?_, hw4.setCell (by simp) _⟩
      have hk := Own_disk.keep HO4.out ((Part.refl (w.heap.size + 1) (w.heap.size + 2) w4).setCell (p := ⟨w.heap.size + 1, 0, none⟩) ⟨Nat.le_refl _, Nat.lt_succ_self _⟩ (.slice A2 d.length c2)) (.inr (by omega))
      exact ⟨OwnS.mono hk.1 (by omega) (by simp [World.setCell]; omega) (Nat.le_refl _), hk.2⟩
    | true =>
      have HN := Lib.hid hN
      rw [hN] at CNM
      clear hN
      by_cases hsf : x.safe = (x.data.size : Int)
      rotate_left
      · have HE1 := Lib.hid (HM.out hsf)
        have HE0 := Lib.hid (move0_fail HE1.out)
        have ts : (x.safe != (x.data.size : Int)) = true := by simp [hsf]
        clear hsf
        go_enter Try.func35, Try.ntmps35
        go_wp2_with fail
        rw [← HW.out]
        refine (copyDisk_any _ d W0 (HRD.out.below hb0) (by omega)).mono ?_
        rintro e w2 ⟨u2, rfl, ho2, hb2⟩
        obtain ⟨A2, c2, rfl⟩ := ho2.form
        have HO2 := Lib.hid ho2
        have hw2 := hb0.trans (hb2.mono hb0.size)
        have x2 := HK0.out.belowV hb2
        have p2 := x2.cell 0
        simp only [List.getElem?_toArray, List.getElem?_cons_zero] at p2
        have l2 := x2.lt
        have HK02 := Lib.hid x2
        have HK12 := Lib.hid (HK1.out.belowV hb2)
        have hs2 := HK12.out.lt
        clear ho2 x2
        go_wp2_with fail
        refine (CAT.out _ (hw2.alloc hw2.size _)).mono ?_
        rintro e w3 ⟨rfl, hb3⟩
        have hb3' : Below w2.heap.size w2 w3 := Below.trans (by exact (by repeat first | exact Below.refl _ _ | assumption | refine Below.drew ?_ | refine below_drewN ?_ _ | refine Below.calm ?_ (by first | exact Nat.le_refl _ | (simp; done) | (simp; omega) | omega) | refine Below.alloc ?_ (by first | exact Nat.le_refl _ | (simp; done) | (simp; omega) | omega) _ | refine Below.setCell ?_ (by first | exact Nat.le_refl _ | (simp; done) | (simp; omega) | omega) _)) (hb3.mono (by simp))
        have hsa := hb2.size
        have hsb := hb3'.size
        have hw3 := hw2.trans (hb3'.mono hw2.size)
        have HK03 := Lib.hid (HK02.out.belowV hb3')
        have HK13 := Lib.hid (HK12.out.belowV hb3')
        have HO3 := Lib.hid (Own_disk.below HO2.out hb3')
        have HKO3 := Lib.hid ((Blk.new w2 37 #[.slice A2 d.length c2]).belowV hb3)
        have hs3 := HKO3.out.lt
        have p3 := HK03.out.cell 0
        have l3 := HK03.out.lt
        simp only [List.getElem?_toArray, List.getElem?_cons_zero] at p3
        clear p2 l2
        obtain ⟨d0, d1, d2⟩ := HC.out w3 hw3
        have hb1l : b1 < w3.heap.size := Nat.lt_of_lt_of_le hl1 hw3.size
        go_wp2_with fail
        first | refine wp_region_calm_on (by kernel_rfl) (by kernel_rfl) ?_ | refine wp_region_calm_lit (by kernel_rfl) (by kernel_rfl) ?_
        repeat (go_big_quiet_step (first | (go_at_call 32; exact calm_of (COK.out _ (Below.calm hw3 hw3.size))) | (go_at_call 78; exact calm_same (CNM.out _))))
        refine wpQuiet_nil ?_
        intro _ hw'
        obtain ⟨k1, hw''⟩ := hw'
        subst hw''
        obtain ⟨w4, hb4, hkw⟩ := k1.out
        rw [hkw]
        clear hkw p3 l3 d0 d1 d2
        have hsc := hb4.size
        have hw4 := hw3.trans (hb4.mono hw3.size)
        have HK04 := Lib.hid (HK03.out.belowV hb4)
        have HK14 := Lib.hid (HK13.out.belowV hb4)
        have HO4 := Lib.hid (Own_disk.below HO3.out hb4)
        have HKO4 := Lib.hid (HKO3.out.belowV hb4)
        have r0 := HK14.out.cell 0
        have r1 := HK14.out.frozen 0
        have rl := HK14.out.lt
        have o0 := HKO4.out.cell 0
        have ol := HKO4.out.lt
        simp only [List.getElem?_toArray, List.getElem?_cons_zero] at r0 o0
        go_wp2_with fail
        refine bodyPost_ret (v := .tuple #[.agg #[.slice A2 d.length c2], .bool false]) (by simp [results, Try.results35, go_sem, r0, r1, o0]) rfl ?_
        rw [HE0.out, HE1.out]
        refine ⟨_, rfl, ?_, hw4.setCell (by simp) _⟩
        have hk := Own_disk.keep HO4.out ((Part.refl (w.heap.size + 1) (w.heap.size + 2) w4).setCell (p := ⟨w.heap.size + 1, 0, none⟩) ⟨Nat.le_refl _, Nat.lt_succ_self _⟩ (.slice A2 d.length c2)) (.inr (by omega))
        exact ⟨OwnS.mono hk.1 (by omega) (by simp [World.setCell]; omega) (Nat.le_refl _), hk.2⟩
      have HE1 := Lib.hid (HM1.out HD.out HAB.out HN.out hsf)
      have HE0 := Lib.hid (HM0.out HE1.out)
      have ts : (x.safe != (x.data.size : Int)) = false := by simp [hsf]
      clear hsf
      by_cases hj : atF nb d < d.length
      · have hat : atR nb d = (atF nb d : Int) := by rw [atR, if_pos hj]
        rw [hat] at CATB
        clear hat
        obtain ⟨j, hjj⟩ : ∃ j, j = atF nb d := ⟨_, rfl⟩
        have HML := Lib.hid (show movedL d k x nb = (d.set k (renF x nb)).eraseIdx j by rw [movedL, hjj])
        rw [← hjj] at CATB hj
        have hjl := hj
        have hj0 : (0 : Int) ≤ (j : Int) := by omega
        have hj1 : (j : Int) < (d.length : Int) := by omega
        clear hj hjj
        go_enter Try.func35, Try.ntmps35
        go_wp2_with fail
        rw [← HW.out]
        refine (copyDisk_any _ d W0 (HRD.out.below hb0) (by omega)).mono ?_
        rintro e w2 ⟨u2, rfl, ho2, hb2⟩
        obtain ⟨A2, c2, rfl⟩ := ho2.form
        have HO2 := Lib.hid ho2
        have hw2 := hb0.trans (hb2.mono hb0.size)
        have x2 := HK0.out.belowV hb2
        have p2 := x2.cell 0
        simp only [List.getElem?_toArray, List.getElem?_cons_zero] at p2
        have l2 := x2.lt
        have HK02 := Lib.hid x2
        have HK12 := Lib.hid (HK1.out.belowV hb2)
        have hs2 := HK12.out.lt
        clear ho2 x2
        go_wp2_with fail
        refine (CAT.out _ (hw2.alloc hw2.size _)).mono ?_
        rintro e w3 ⟨rfl, hb3⟩
        have hb3' : Below w2.heap.size w2 w3 := Below.trans (by exact (by repeat first | exact Below.refl _ _ | assumption | refine Below.drew ?_ | refine below_drewN ?_ _ | refine Below.calm ?_ (by first | exact Nat.le_refl _ | (simp; done) | (simp; omega) | omega) | refine Below.alloc ?_ (by first | exact Nat.le_refl _ | (simp; done) | (simp; omega) | omega) _ | refine Below.setCell ?_ (by first | exact Nat.le_refl _ | (simp; done) | (simp; omega) | omega) _)) (hb3.mono (by simp))
        have hsa := hb2.size
        have hsb := hb3'.size
        have hw3 := hw2.trans (hb3'.mono hw2.size)
        have HK03 := Lib.hid (HK02.out.belowV hb3')
        have HK13 := Lib.hid (HK12.out.belowV hb3')
        have HO3 := Lib.hid (Own_disk.below HO2.out hb3')
        have HKO3 := Lib.hid ((Blk.new w2 37 #[.slice A2 d.length c2]).belowV hb3)
        have hs3 := HKO3.out.lt
        have p3 := HK03.out.cell 0
        have l3 := HK03.out.lt
        simp only [List.getElem?_toArray, List.getElem?_cons_zero] at p3
        clear p2 l2
        obtain ⟨d0, d1, d2⟩ := HC.out w3 hw3
        have hb1l : b1 < w3.heap.size := Nat.lt_of_lt_of_le hl1 hw3.size
        go_wp2_with fail
        first | refine wp_region_calm_on (by kernel_rfl) (by kernel_rfl) ?_ | refine wp_region_calm_lit (by kernel_rfl) (by kernel_rfl) ?_
        repeat (go_big_quiet_step (first | (go_at_call 32; exact calm_of (COK.out _ (Below.calm hw3 hw3.size))) | (go_at_call 78; exact calm_same (CNM.out _))))
        refine wpQuiet_nil ?_
        intro _ hw'
        obtain ⟨k1, hw''⟩ := hw'
        subst hw''
        obtain ⟨w4, hb4, hkw⟩ := k1.out
        rw [hkw]
        clear hkw p3 l3 d0 d1 d2
        have hsc := hb4.size
        have hw4 := hw3.trans (hb4.mono hw3.size)
        have HK04 := Lib.hid (HK03.out.belowV hb4)
        have HK14 := Lib.hid (HK13.out.belowV hb4)
        have HO4 := Lib.hid (Own_disk.below HO3.out hb4)
        have HKO4 := Lib.hid (HKO3.out.belowV hb4)
        obtain ⟨g, cap, hgv, hlg, hcm2, hcap2, hrow⟩ := RowFil.of_own HO4.out.1.1 (by omega)
        have gc : g ≠ w2.heap.size := by have := HO2.out.1.2.2 g (by rw [hgv]; rfl); have := HO2.out.1.2.1; omega
        injection hgv with hA2 _ hC2
        subst hA2 hC2
        have HROW := Lib.hid hrow
        have hglt := hrow.lt
        obtain ⟨e0, e1, e2⟩ := hrow.cell hkl x HX.out
        have z0 := hrow.frozen (k * 3)
        have gb : ¬ w2.heap.size = g := fun e => gc e.symm
        have gd : ¬ w.heap.size = g := by omega
        have ge : ¬ w.heap.size + 1 = g := by omega
        have o0 := HKO4.out.cell 0
        have ol := HKO4.out.lt
        have rl := HK14.out.lt
        simp only [List.getElem?_toArray, List.getElem?_cons_zero] at o0
        have p4 := HK04.out.cell 0
        have l4 := HK04.out.lt
        simp only [List.getElem?_toArray, List.getElem?_cons_zero] at p4
        have hokd := HO4.out.2
        have HOKD := Lib.hid hokd
        have hxok := hokd x (by rw [HX.out]; exact List.getElem_mem hkl)
        clear hrow hokd
        go_upto_region 6 with (fail)
        obtain ⟨W5, hW5⟩ : ∃ W5, W5 = w4.setCell ⟨g, k * 3, none⟩ (.string nb) := ⟨_, rfl⟩
        rw [← hW5]
        have hrow5 : RowFil W5 g c2 (d.set k (renF x nb)) := by
          rw [hW5]
          exact HROW.out.put hkl 0 (by decide) (renF x nb) _ rfl (fun i hi hne => by
            rw [← HX.out]
            match i, hi, hne with
            | 1, _, _ => rfl
            | 2, _, _ => rfl)
        have hw5 : Below w.heap.size w W5 := by rw [hW5]; exact hw4.setCell (show w.heap.size ≤ g by omega) _
        have hs5 : W5.heap.size = w4.heap.size := by rw [hW5]; simp [World.setCell]
        have HK05 := Lib.hid (show Blk W5 w.heap.size 37 #[.slice (some ⟨b1, o1, none⟩) d.length c] by rw [hW5]; exact HK04.out.far gd _)
        have HK15 := Lib.hid (show Blk W5 (w.heap.size + 1) 37 #[.slice none 0 0] by rw [hW5]; exact HK14.out.far ge _)
        have HKO5 := Lib.hid (show Blk W5 w2.heap.size 37 #[.slice (some ⟨g, 0, none⟩) d.length c2] by rw [hW5]; exact HKO4.out.far gb _)
        have HROW5 := Lib.hid hrow5
        have p5 := HK05.out.cell 0
        have l5 := HK05.out.lt
        simp only [List.getElem?_toArray, List.getElem?_cons_zero] at p5
        clear hW5 hrow5 e0 e1 e2 z0 o0 p4 l4 ol rl
        go_wp2_with fail
        refine (CATB.out _ hw5).mono ?_
        rintro e w6 ⟨rfl, hb6⟩
        have hw6 := hw5.trans (hb6.mono hw5.size)
        have hs6 := hb6.size
        have HK16 := Lib.hid (HK15.out.belowV hb6)
        have HKO6 := Lib.hid (HKO5.out.belowV hb6)
        have HROW6 := Lib.hid (HROW5.out.belowV hb6)
        have o0 := HKO6.out.cell 0
        have ol := HKO6.out.lt
        have rl := HK16.out.lt
        have of_ := HKO6.out.frozen 0
        simp only [List.getElem?_toArray, List.getElem?_cons_zero] at o0
        clear p5 l5
        have CDEL : Hid (∀ W, RowFil W g c2 (d.set k (renF x nb)) → Calls Try.prog 79 #[.slice (some ⟨g, 0, none⟩) d.length c2, .int .i64 (j : Int), .int .i64 ((j : Int) + 1)] W fun e w' =>
              e = .returned (.slice (some ⟨g, 0, none⟩) (d.length - 1) c2) ∧ RowFil w' g c2 ((d.set k (renF x nb)).eraseIdx j) ∧ W.grownBy w' (some g)) := Lib.hid (fun W hr => by
          have q := delete_any (d.set k (renF x nb)) j W g c2 hr (by rw [List.length_set]; exact hjl) hcm2 (by rw [List.length_set]; omega)
          rw [List.length_set] at q
          exact q)
        go_wp2_with fail
        refine (CDEL.out _ HROW6.out).mono ?_
        rintro e w7 ⟨rfl, hrow7, hg7⟩
        have hs7 := hg7.size
        have hp7 : Part g (g + 1) w6 w7 := Part.of_grown hg7 (fun q hq => by have e := Option.some.inj hq; omega)
        have HK17 := Lib.hid (HK16.out.keepV hp7 (by omega))
        have HKO7 := Lib.hid (HKO6.out.keepV hp7 (by omega))
        have hw7 : Below w.heap.size w w7 := Part.to_below hw6 hp7 (by omega) (Nat.le_refl _)
        have HROW7 := Lib.hid hrow7
        have r0 := HK17.out.cell 0
        have r1 := HK17.out.frozen 0
        have o7 := HKO7.out.cell 0
        have o7l := HKO7.out.lt
        have of7 := HKO7.out.frozen 0
        simp only [List.getElem?_toArray, List.getElem?_cons_zero] at r0 o7
        have gr : ¬ w2.heap.size = w.heap.size + 1 := by omega
        have gr' : ¬ w.heap.size + 1 = w2.heap.size := by omega
        clear hrow7 o0 of_ ol
        go_wp2_with fail
        refine bodyPost_ret (v := .tuple #[.agg #[.slice (some ⟨g, 0, none⟩) (d.length - 1) c2], .bool true]) (by simp [results, Try.results35, go_sem, r0, r1, o7, gr, gr']) rfl ?_
        rw [HE0.out, HE1.out]
        refine ⟨_, rfl, ?_, (hw7.setCell (show w.heap.size ≤ w2.heap.size by omega) _).setCell (by simp) _⟩
        have hrow9 := (HROW7.out.far (p := ⟨w2.heap.size, 0, none⟩) (show g ≠ w2.heap.size by omega) (.slice (some ⟨g, 0, none⟩) (d.length - 1) c2)).far (p := ⟨w.heap.size + 1, 0, none⟩) (show g ≠ w.heap.size + 1 by omega) (.slice (some ⟨g, 0, none⟩) (d.length - 1) c2)
        have hown := OwnS.of_own (hrow9.own (base := w.heap.size) (by omega) hcm2)
        rw [HML.out]
        have hl : ((d.set k (renF x nb)).eraseIdx j).length = d.length - 1 := by rw [List.length_eraseIdx_of_lt (by rw [List.length_set]; exact hjl), List.length_set]
        rw [hl] at hown
        refine ⟨?_, okF_erase (okF_set HOKD.out _ ⟨by show nb.size ≤ _; omega, hxok.2⟩)⟩
        rw [hl]
        exact hown
      · have hat : atR nb d = -1 := by rw [atR, if_neg hj]
        rw [hat] at CATB
        have HML := Lib.hid (show movedL d k x nb = d.set k (renF x nb) by rw [movedL, List.eraseIdx_of_length_le (by rw [List.length_set]; omega)])
        clear hat hj
        go_enter Try.func35, Try.ntmps35
        go_wp2_with fail
        rw [← HW.out]
        refine (copyDisk_any _ d W0 (HRD.out.below hb0) (by omega)).mono ?_
        rintro e w2 ⟨u2, rfl, ho2, hb2⟩
        obtain ⟨A2, c2, rfl⟩ := ho2.form
        have HO2 := Lib.hid ho2
        have hw2 := hb0.trans (hb2.mono hb0.size)
        have x2 := HK0.out.belowV hb2
        have p2 := x2.cell 0
        simp only [List.getElem?_toArray, List.getElem?_cons_zero] at p2
        have l2 := x2.lt
        have HK02 := Lib.hid x2
        have HK12 := Lib.hid (HK1.out.belowV hb2)
        have hs2 := HK12.out.lt
        clear ho2 x2
        go_wp2_with fail
        refine (CAT.out _ (hw2.alloc hw2.size _)).mono ?_
        rintro e w3 ⟨rfl, hb3⟩
        have hb3' : Below w2.heap.size w2 w3 := Below.trans (by exact (by repeat first | exact Below.refl _ _ | assumption | refine Below.drew ?_ | refine below_drewN ?_ _ | refine Below.calm ?_ (by first | exact Nat.le_refl _ | (simp; done) | (simp; omega) | omega) | refine Below.alloc ?_ (by first | exact Nat.le_refl _ | (simp; done) | (simp; omega) | omega) _ | refine Below.setCell ?_ (by first | exact Nat.le_refl _ | (simp; done) | (simp; omega) | omega) _)) (hb3.mono (by simp))
        have hsa := hb2.size
        have hsb := hb3'.size
        have hw3 := hw2.trans (hb3'.mono hw2.size)
        have HK03 := Lib.hid (HK02.out.belowV hb3')
        have HK13 := Lib.hid (HK12.out.belowV hb3')
        have HO3 := Lib.hid (Own_disk.below HO2.out hb3')
        have HKO3 := Lib.hid ((Blk.new w2 37 #[.slice A2 d.length c2]).belowV hb3)
        have hs3 := HKO3.out.lt
        have p3 := HK03.out.cell 0
        have l3 := HK03.out.lt
        simp only [List.getElem?_toArray, List.getElem?_cons_zero] at p3
        clear p2 l2
        obtain ⟨d0, d1, d2⟩ := HC.out w3 hw3
        have hb1l : b1 < w3.heap.size := Nat.lt_of_lt_of_le hl1 hw3.size
        go_wp2_with fail
        first | refine wp_region_calm_on (by kernel_rfl) (by kernel_rfl) ?_ | refine wp_region_calm_lit (by kernel_rfl) (by kernel_rfl) ?_
        repeat (go_big_quiet_step (first | (go_at_call 32; exact calm_of (COK.out _ (Below.calm hw3 hw3.size))) | (go_at_call 78; exact calm_same (CNM.out _))))
        refine wpQuiet_nil ?_
        intro _ hw'
        obtain ⟨k1, hw''⟩ := hw'
        subst hw''
        obtain ⟨w4, hb4, hkw⟩ := k1.out
        rw [hkw]
        clear hkw p3 l3 d0 d1 d2
        have hsc := hb4.size
        have hw4 := hw3.trans (hb4.mono hw3.size)
        have HK04 := Lib.hid (HK03.out.belowV hb4)
        have HK14 := Lib.hid (HK13.out.belowV hb4)
        have HO4 := Lib.hid (Own_disk.below HO3.out hb4)
        have HKO4 := Lib.hid (HKO3.out.belowV hb4)
        obtain ⟨g, cap, hgv, hlg, hcm2, hcap2, hrow⟩ := RowFil.of_own HO4.out.1.1 (by omega)
        have gc : g ≠ w2.heap.size := by have := HO2.out.1.2.2 g (by rw [hgv]; rfl); have := HO2.out.1.2.1; omega
        injection hgv with hA2 _ hC2
        subst hA2 hC2
        have HROW := Lib.hid hrow
        have hglt := hrow.lt
        obtain ⟨e0, e1, e2⟩ := hrow.cell hkl x HX.out
        have z0 := hrow.frozen (k * 3)
        have gb : ¬ w2.heap.size = g := fun e => gc e.symm
        have gd : ¬ w.heap.size = g := by omega
        have ge : ¬ w.heap.size + 1 = g := by omega
        have o0 := HKO4.out.cell 0
        have ol := HKO4.out.lt
        have rl := HK14.out.lt
        simp only [List.getElem?_toArray, List.getElem?_cons_zero] at o0
        have p4 := HK04.out.cell 0
        have l4 := HK04.out.lt
        simp only [List.getElem?_toArray, List.getElem?_cons_zero] at p4
        have hokd := HO4.out.2
        have HOKD := Lib.hid hokd
        have hxok := hokd x (by rw [HX.out]; exact List.getElem_mem hkl)
        clear hrow hokd
        go_upto_region 6 with (fail)
        obtain ⟨W5, hW5⟩ : ∃ W5, W5 = w4.setCell ⟨g, k * 3, none⟩ (.string nb) := ⟨_, rfl⟩
        rw [← hW5]
        have hrow5 : RowFil W5 g c2 (d.set k (renF x nb)) := by
          rw [hW5]
          exact HROW.out.put hkl 0 (by decide) (renF x nb) _ rfl (fun i hi hne => by
            rw [← HX.out]
            match i, hi, hne with
            | 1, _, _ => rfl
            | 2, _, _ => rfl)
        have hw5 : Below w.heap.size w W5 := by rw [hW5]; exact hw4.setCell (show w.heap.size ≤ g by omega) _
        have hs5 : W5.heap.size = w4.heap.size := by rw [hW5]; simp [World.setCell]
        have HK05 := Lib.hid (show Blk W5 w.heap.size 37 #[.slice (some ⟨b1, o1, none⟩) d.length c] by rw [hW5]; exact HK04.out.far gd _)
        have HK15 := Lib.hid (show Blk W5 (w.heap.size + 1) 37 #[.slice none 0 0] by rw [hW5]; exact HK14.out.far ge _)
        have HKO5 := Lib.hid (show Blk W5 w2.heap.size 37 #[.slice (some ⟨g, 0, none⟩) d.length c2] by rw [hW5]; exact HKO4.out.far gb _)
        have HROW5 := Lib.hid hrow5
        have p5 := HK05.out.cell 0
        have l5 := HK05.out.lt
        simp only [List.getElem?_toArray, List.getElem?_cons_zero] at p5
        clear hW5 hrow5 e0 e1 e2 z0 o0 p4 l4 ol rl
        go_wp2_with fail
        refine (CATB.out _ hw5).mono ?_
        rintro e w6 ⟨rfl, hb6⟩
        have hw6 := hw5.trans (hb6.mono hw5.size)
        have hs6 := hb6.size
        have HK16 := Lib.hid (HK15.out.belowV hb6)
        have HKO6 := Lib.hid (HKO5.out.belowV hb6)
        have HROW6 := Lib.hid (HROW5.out.belowV hb6)
        have o0 := HKO6.out.cell 0
        have ol := HKO6.out.lt
        have rl := HK16.out.lt
        have of_ := HKO6.out.frozen 0
        simp only [List.getElem?_toArray, List.getElem?_cons_zero] at o0
        clear p5 l5
        have r0 := HK16.out.cell 0
        have r1 := HK16.out.frozen 0
        simp only [List.getElem?_toArray, List.getElem?_cons_zero] at r0
        go_wp2_with fail
        refine bodyPost_ret (v := .tuple #[.agg #[.slice (some ⟨g, 0, none⟩) d.length c2], .bool true]) (by simp [results, Try.results35, go_sem, r0, r1, o0]) rfl ?_
        rw [HE0.out, HE1.out]
        refine ⟨_, rfl, ?_, hw6.setCell (by simp) _⟩
        have hl : (d.set k (renF x nb)).length = d.length := List.length_set
        have hrow7 := HROW6.out.far (p := ⟨w.heap.size + 1, 0, none⟩) (show g ≠ w.heap.size + 1 by omega) (.slice (some ⟨g, 0, none⟩) d.length c2)
        have hown := OwnS.of_own (hrow7.own (base := w.heap.size) (by omega) hcm2)
        rw [hl] at hown
        rw [HML.out]
        refine ⟨?_, okF_set HOKD.out _ ⟨by show nb.size ≤ _; omega, hxok.2⟩⟩
        rw [hl]
        exact hown
end Go.Proofs.Ythjkmefbjbfonaa

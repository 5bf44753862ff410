/- WriteFile, the reference's, at a file that is there. -/
import Derived.Test.YthjkmefbjbfonaaWrite
import Derived.Deep.Cut
namespace Go.Proofs.Ythjkmefbjbfonaa
set_option linter.unusedSimpArgs false
set_option linter.unusedVariables false
open Go.RowKit Go.ChangeShapes Go.Deep
set_option maxHeartbeats 16000000 in
set_option maxRecDepth 100000 in
theorem writeFile_specF (v : Value) (d : List Fil) (nm more : ByteArray) (w : World) (h : Rd_disk w v d) (hn : cost_disk d ≤ 1048576) (hnm : nm.size ≤ 1048576) (hmr : more.size ≤ 1048576) (ha : atF nm d < d.length) :
    Calls Try.prog 25 #[.agg #[v], .string nm, .string more] w (GivesDB (writeFileR0 d nm more) (writeFileR1 d nm more) w) := by
  unfold cost_disk at hn
  have HRD := Lib.hid h
  have hok := h.2
  have hszd : ∀ x ∈ d, x.data.size ≤ 1048576 := fun x hx => by have := szF_le hx; unfold szF at this; omega
  obtain ⟨A, c, rfl, hnc, hcm⟩ := h.1.shape
  unfold maxLen at hcm
  have CAT := Lib.hid (fun W (hW : Below w.heap.size w W) => l04At_any (.slice A d.length c) d nm W (HRD.out.below hW) (by omega))
  have COK := Lib.hid (fun W (hW : Below w.heap.size w W) => diskOk_spec (.slice A d.length c) d W (HRD.out.below hW) (by omega))
  have HOKF := Lib.hid (okF_base (nm := nm) hok (by omega))
  have HL4 := Lib.hid (fun h => diskOk_four (d := d) h)
  clear h hok
  obtain ⟨W0, hW0⟩ : ∃ W0, W0 = (w.alloc (.cells #[.slice A d.length c] 37)).alloc (.cells #[.slice none 0 0] 37) := ⟨_, rfl⟩
  have HW := Lib.hid hW0
  have k0 : Blk W0 w.heap.size 37 #[.slice A d.length c] := by rw [hW0]; exact (Blk.new _ _ _).alloc _
  have k1 : Blk W0 (w.heap.size + 1) 37 #[.slice none 0 0] := by
    have q := Blk.new (w.alloc (.cells #[.slice A d.length c] 37)) 37 #[.slice none 0 0]
    rw [show (w.alloc (.cells #[.slice A d.length c] 37)).heap.size = w.heap.size + 1 by simp] at q
    rw [hW0]; exact q
  have hb0 : Below w.heap.size w W0 := by rw [hW0]; exact (by repeat first | exact Below.refl _ _ | assumption | refine Below.drew ?_ | refine below_drewN ?_ _ | refine Below.calm ?_ (by first | exact Nat.le_refl _ | (simp; done) | (simp; omega) | omega) | refine Below.alloc ?_ (by first | exact Nat.le_refl _ | (simp; done) | (simp; omega) | omega) _ | refine Below.setCell ?_ (by first | exact Nat.le_refl _ | (simp; done) | (simp; omega) | omega) _)
  have hs0 := k1.lt
  have HK0 := Lib.hid k0
  have HK1 := Lib.hid k1
  clear k0 k1 hW0
  have hat : atR nm d = (atF nm d : Int) := by rw [atR, if_pos ha]
  rw [hat] at CAT
  have HWT0 := writeTo_same (more := more) ha
  obtain ⟨k, hkk⟩ : ∃ k, k = atF nm d := ⟨_, rfl⟩
  obtain ⟨x, hk, hx, hwt⟩ : ∃ x, ∃ h : k < d.length, x = d[k] ∧ writeTo d nm more = d.set k (appF x more) := by subst hkk; exact ⟨_, ha, rfl, HWT0⟩
  have hokB : okF d := HRD.out.2
  have hxs := hszd x (by rw [hx]; exact List.getElem_mem hk)
  rw [← hkk] at CAT
  have HWT := Lib.hid hwt
  clear hat HWT0 hkk hwt ha
  go_enter Try.func25, Try.ntmps25
  go_wp2_with fail
  rw [← HW.out]
  refine (l04Copy_any _ d W0 (HRD.out.below hb0) (by omega)).mono ?_
  rintro e w2 ⟨u2, rfl, ho2, hb2⟩
  obtain ⟨A2, c2, rfl⟩ := ho2.form
  have HO2 := Lib.hid ho2
  have hw2 := hb0.trans (hb2.mono hb0.size)
  have x2 := HK0.out.belowV hb2
  have p2 := x2.cell 0
  simp only [List.getElem?_toArray, List.getElem?_cons_zero] at p2
  have l2 := x2.lt
  have HK02 := Lib.hid x2
  have HK12 := Lib.hid (HK1.out.belowV hb2)
  have hs2 := HK12.out.lt
  clear ho2 x2
  go_wp2_with fail
  refine (CAT.out _ (hw2.alloc hw2.size _)).mono ?_
  rintro e w3 ⟨rfl, hb3⟩
  have hb3' : Below w2.heap.size w2 w3 := Below.trans (by exact (by repeat first | exact Below.refl _ _ | assumption | refine Below.drew ?_ | refine below_drewN ?_ _ | refine Below.calm ?_ (by first | exact Nat.le_refl _ | (simp; done) | (simp; omega) | omega) | refine Below.alloc ?_ (by first | exact Nat.le_refl _ | (simp; done) | (simp; omega) | omega) _ | refine Below.setCell ?_ (by first | exact Nat.le_refl _ | (simp; done) | (simp; omega) | omega) _)) (hb3.mono (by simp))
  have hsa := hb2.size
  have hsb := hb3'.size
  have hw3 := hw2.trans (hb3'.mono hw2.size)
  have HK03 := Lib.hid (HK02.out.belowV hb3')
  have HK13 := Lib.hid (HK12.out.belowV hb3')
  have HO3 := Lib.hid (Own_disk.below HO2.out hb3')
  have HKO3 := Lib.hid ((Blk.new w2 37 #[.slice A2 d.length c2]).belowV hb3)
  have hs3 := HKO3.out.lt
  have q3 := HKO3.out.cell 0
  have q3f := HKO3.out.frozen 0
  simp only [List.getElem?_toArray, List.getElem?_cons_zero] at q3
  clear p2 l2
  go_upto_region 6 with (fail)
  obtain ⟨g, cap, hgv, hlg, hcm2, hcap2, hrow⟩ := RowFil.of_own HO3.out.1.1 (by omega)
  have gc : g ≠ w2.heap.size := by have := HO2.out.1.2.2 g (by rw [hgv]; rfl); have := HO2.out.1.2.1; omega
  injection hgv with hA2 _ hC2
  subst hA2 hC2
  have HROW := Lib.hid hrow
  have HKO := HKO3
  have HKP := HK03
  have HKR := HK13
  have hW := hw3
  clear hrow
  have HX := Lib.hid hx
  have HKD := Lib.hid hk
  have hpl := HKP.out.cell 0
  have hpl2 := HKP.out.lt
  simp only [List.getElem?_toArray, List.getElem?_cons_zero] at hpl
  have HCOK := COK
  cases hD : diskOkR d with
  | false =>
    have HE1 := Lib.hid (show writeFileR1 d nm more = false by rw [writeFileR1, hD]; rfl)
    have HE0 := Lib.hid (show writeFileR0 d nm more = d by rw [writeFileR0, HE1.out]; rfl)
    rw [hD] at COK
    clear hD hx
    go_wp2_with fail
    refine (COK.out _ hW).mono ?_
    rintro e wa ⟨rfl, hba⟩
    have hwa := hW.trans (hba.mono hW.size)
    have xa := HKP.out.belowV hba
    have pa := xa.cell 0
    have la := xa.lt
    simp only [List.getElem?_toArray, List.getElem?_cons_zero] at pa
    have HKR0 := HKR
    have HKR := Lib.hid (HKR0.out.belowV hba)
    clear xa hpl hpl2
    go_wp2_with fail
    refine (l04Copy_any _ d wa (HRD.out.below hwa) (by omega)).mono ?_
    rintro e wz ⟨uz, rfl, hoz, hbz⟩
    obtain ⟨Az, cz, rfl⟩ := hoz.form
    have HOZ := Lib.hid hoz
    have hwz := hwa.trans (hbz.mono hwa.size)
    have xz := HKR.out.belowV hbz
    have r0 := xz.cell 0
    have r1 := xz.frozen 0
    have lz := xz.lt
    simp only [List.getElem?_toArray, List.getElem?_cons_zero] at r0
    have hsz := HKR.out.lt
    clear hoz xz
    go_wp2_with fail
    refine bodyPost_ret (v := .tuple #[.agg #[.slice Az d.length cz], .bool false]) (by simp [results, Try.results25, go_sem, r0, r1]) rfl ?_
    rw [HE0.out, HE1.out]
    refine ⟨_, rfl, ?_, hwz.setCell (by simp) _⟩
    have hk := Own_disk.keep HOZ.out ((Part.refl (w.heap.size + 1) (w.heap.size + 2) wz).setCell (p := ⟨w.heap.size + 1, 0, none⟩) ⟨Nat.le_refl _, Nat.lt_succ_self _⟩ (.slice Az d.length cz)) (.inr (by omega))
    exact ⟨OwnS.mono hk.1 (by omega) (by have := hk.1.2.1; exact this) (Nat.le_refl _), hk.2⟩
  | true =>
    have HD := Lib.hid hD
    rw [hD] at COK
    clear hD
    have CD2 := Lib.hid (fun W (hW : Below w.heap.size w W) => COK.out W hW)
    by_cases hmo : 60000 < more.size
    · have HE1 := Lib.hid (show writeFileR1 d nm more = false by rw [writeFileR1, write_long hmo, Bool.and_false])
      have HE0 := Lib.hid (show writeFileR0 d nm more = d by rw [writeFileR0, HE1.out]; rfl)
      have hm1 : (60000 : Int) < (more.size : Int) := by omega
      clear hx
      go_wp2_with fail
      refine (COK.out _ hW).mono ?_
      rintro e wa ⟨rfl, hba⟩
      have hwa := hW.trans (hba.mono hW.size)
      have xa := HKP.out.belowV hba
      have pa := xa.cell 0
      have la := xa.lt
      simp only [List.getElem?_toArray, List.getElem?_cons_zero] at pa
      have HKR0 := HKR
      have HKR := Lib.hid (HKR0.out.belowV hba)
      clear xa hpl hpl2
      go_wp2_with fail
      refine (l04Copy_any _ d wa (HRD.out.below hwa) (by omega)).mono ?_
      rintro e wz ⟨uz, rfl, hoz, hbz⟩
      obtain ⟨Az, cz, rfl⟩ := hoz.form
      have HOZ := Lib.hid hoz
      have hwz := hwa.trans (hbz.mono hwa.size)
      have xz := HKR.out.belowV hbz
      have r0 := xz.cell 0
      have r1 := xz.frozen 0
      have lz := xz.lt
      simp only [List.getElem?_toArray, List.getElem?_cons_zero] at r0
      have hsz := HKR.out.lt
      clear hoz xz
      go_wp2_with fail
      refine bodyPost_ret (v := .tuple #[.agg #[.slice Az d.length cz], .bool false]) (by simp [results, Try.results25, go_sem, r0, r1]) rfl ?_
      rw [HE0.out, HE1.out]
      refine ⟨_, rfl, ?_, hwz.setCell (by simp) _⟩
      have hk := Own_disk.keep HOZ.out ((Part.refl (w.heap.size + 1) (w.heap.size + 2) wz).setCell (p := ⟨w.heap.size + 1, 0, none⟩) ⟨Nat.le_refl _, Nat.lt_succ_self _⟩ (.slice Az d.length cz)) (.inr (by omega))
      exact ⟨OwnS.mono hk.1 (by omega) (by have := hk.1.2.1; exact this) (Nat.le_refl _), hk.2⟩
    · have hm1 : ¬ (60000 : Int) < (more.size : Int) := by omega
      clear hx
      go_wp2_with fail
      refine (COK.out _ hW).mono ?_
      rintro e wa ⟨rfl, hba⟩
      have hwa := hW.trans (hba.mono hW.size)
      have HKP0 := HKP
      have HKP := Lib.hid (HKP0.out.belowV hba)
      have HKR0 := HKR
      have HKR := Lib.hid (HKR0.out.belowV hba)
      have HKO0 := HKO
      have HKO := Lib.hid (HKO0.out.belowV hba)
      have HROW0 := HROW
      have HROW := Lib.hid (HROW0.out.belowV hba)
      have hsW0 := hba.size
      have hx := HX.out
      have hW0' := hW
      have hW := hwa
      clear hpl hpl2
      have o0 := HKO.out.cell 0
      simp only [List.getElem?_toArray, List.getElem?_cons_zero] at o0
      obtain ⟨-, e1, -⟩ := HROW.out.cell hk x hx
      have HX := Lib.hid hx
      clear hx
      have z1 := HROW.out.frozen (k * 3 + 1)
      have hglt := HROW.out.lt
      have hk1 : (k : Int) < ((d.length : Nat) : Int) := by omega
      have hk0 : (0 : Int) ≤ (k : Int) := by omega
      have hxs' : x.data.size + more.size ≤ 9223372036854775807 := by omega
      have hpl := HKP.out.cell 0
      have hpl2 := HKP.out.lt
      have hol2 := HKO.out.lt
      simp only [List.getElem?_toArray, List.getElem?_cons_zero] at hpl
      have gb : ¬ w2.heap.size = g := fun e => gc e.symm
      have gd : ¬ w.heap.size = g := by omega
      have hxi : ((x.data.size : Int)) + (more.size : Int) ≤ 9223372036854775807 := by omega
      have hc1 : ¬ ((x.data.size + more.size : Nat) : Int) > IntKind.i64.max := by show ¬ (9223372036854775807 : Int) < _; omega
      have hc2 : ¬ (9223372036854775807 : Int) < (x.data.size : Int) + (more.size : Int) := by omega
      have hc3 : ¬ IntKind.i64.max < (x.data.size : Int) + (more.size : Int) := hc2
      have hc4 : ¬ 9223372036854775807 < x.data.size + more.size := by omega
      go_wp2_with fail
      go_still_tail 13, (by kernel_rfl)
      go_upto_region 9 with (fail)
      obtain ⟨W5, hW5⟩ : ∃ W5, W5 = (wa.setCell ⟨g, k * 3 + 1, none⟩ (.string (x.data ++ more))).drew := ⟨_, rfl⟩
      rw [← hW5]
      have hrow5 : RowFil W5 g c2 ((d).set k (appF x more)) := by
        rw [hW5]
        exact HROW.out.put hk 1 (by decide) (appF x more) _ rfl (fun i hi hne => by
          rw [← HX.out]
          match i, hi, hne with
          | 0, _, _ => rfl
          | 2, _, _ => rfl)
      have hls : ((d).set k (appF x more)).length = d.length := by rw [List.length_set]; try simp
      have hw5 : Below w.heap.size w W5 := by rw [hW5]; exact (hW.setCell (show w.heap.size ≤ g by omega) _).drew
      have HKR5 := Lib.hid (show Blk W5 (w.heap.size + 1) 37 #[.slice none 0 0] by rw [hW5]; exact HKR.out.far (show w.heap.size + 1 ≠ g by omega) _)
      have hs5 : W5.heap.size = wa.heap.size := by rw [hW5]; simp [World.setCell, World.drew]
      have hsW := HKO.out.lt
      have hown5 : Own_disk W5 (w.heap.size + 2) W5.heap.size (.slice (some ⟨g, 0, none⟩) ((d).set k (appF x more)).length c2) ((d).set k (appF x more)) :=
        ⟨OwnS.of_own (hrow5.own (by omega) hcm2), okF_set hokB _ ⟨(hokB x (by rw [HX.out]; exact List.getElem_mem hk)).1, by simp only [appF, ByteArray.size_append]; omega⟩⟩
      rw [← HWT.out] at hown5 hls
      rw [hls] at hown5
      have hlw : (writeTo d nm more).length ≤ 2000000 := by rw [hls]; omega
      have HKO5 := Lib.hid (show Blk W5 w2.heap.size 37 #[.slice (some ⟨g, 0, none⟩) (d.length) c2] by rw [hW5]; exact HKO.out.far gb _)
      have HKP5 := Lib.hid (show Blk W5 w.heap.size 37 #[.slice A d.length c] by rw [hW5]; exact HKP.out.far gd _)
      clear hW5
      have HE1 := Lib.hid (show writeFileR1 d nm more = diskOkR (writeTo d nm more) by rw [writeFileR1, HD.out]; rfl)
      have HE0 := Lib.hid (show writeFileR0 d nm more = (if diskOkR (writeTo d nm more) then writeTo d nm more else d) by rw [writeFileR0, HE1.out])
      have o5 := HKO5.out.cell 0
      have p5 := HKP5.out.cell 0
      have o5l := HKO5.out.lt
      have p5l := HKP5.out.lt
      simp only [List.getElem?_toArray, List.getElem?_cons_zero] at o5 p5
      have CO5 := Lib.hid (diskOk_spec _ _ W5 hown5.rd hlw)
      have HOW5 := Lib.hid hown5
      clear hown5 hrow5
      cases hB : diskOkR (writeTo d nm more) with
      | false =>
        rw [hB] at CO5 HE1 HE0
        clear hB
        go_wp2_with fail
        refine CO5.out.mono ?_
        rintro e wb ⟨rfl, hbb⟩
        have hwb := hw5.trans (hbb.mono hw5.size)
        have xb := HKP5.out.belowV hbb
        have pb := xb.cell 0
        have lb := xb.lt
        simp only [List.getElem?_toArray, List.getElem?_cons_zero] at pb
        have HKR1 := HKR
        have HKR := Lib.hid (HKR5.out.belowV hbb)
        clear xb o5 p5 o5l p5l
        go_wp2_with fail
        refine (l04Copy_any _ d wb (HRD.out.below hwb) (by omega)).mono ?_
        rintro e wz ⟨uz, rfl, hoz, hbz⟩
        obtain ⟨Az, cz, rfl⟩ := hoz.form
        have HOZ := Lib.hid hoz
        have hwz := hwb.trans (hbz.mono hwb.size)
        have xz := HKR.out.belowV hbz
        have r0 := xz.cell 0
        have r1 := xz.frozen 0
        have lz := xz.lt
        simp only [List.getElem?_toArray, List.getElem?_cons_zero] at r0
        have hsz := HKR.out.lt
        clear hoz xz
        go_wp2_with fail
        refine bodyPost_ret (v := .tuple #[.agg #[.slice Az d.length cz], .bool false]) (by simp [results, Try.results25, go_sem, r0, r1]) rfl ?_
        rw [HE0.out, HE1.out]
        refine ⟨_, rfl, ?_, hwz.setCell (by simp) _⟩
        have hk := Own_disk.keep HOZ.out ((Part.refl (w.heap.size + 1) (w.heap.size + 2) wz).setCell (p := ⟨w.heap.size + 1, 0, none⟩) ⟨Nat.le_refl _, Nat.lt_succ_self _⟩ (.slice Az d.length cz)) (.inr (by omega))
        exact ⟨OwnS.mono hk.1 (by omega) (by have := hk.1.2.1; exact this) (Nat.le_refl _), hk.2⟩
      | true =>
        rw [hB] at CO5 HE1 HE0
        clear hB
        go_wp2_with fail
        refine CO5.out.mono ?_
        rintro e wb ⟨rfl, hbb⟩
        have hwb := hw5.trans (hbb.mono hw5.size)
        have xb := HKO5.out.belowV hbb
        have pb := xb.cell 0
        have lb := xb.lt
        have xr := HKR5.out.belowV hbb
        have r0 := xr.cell 0
        have r1 := xr.frozen 0
        have lr := xr.lt
        simp only [List.getElem?_toArray, List.getElem?_cons_zero] at pb r0
        have hoz := Own_disk.below HOW5.out hbb
        have HOZ := Lib.hid hoz
        have hsz5 := hbb.size
        clear xb xr o5 p5 o5l p5l hoz
        go_wp2_with fail
        refine bodyPost_ret (v := .tuple #[.agg #[.slice (some ⟨g, 0, none⟩) (d.length) c2], .bool true]) (by simp [results, Try.results25, go_sem, r0, r1]) rfl ?_
        rw [HE0.out, HE1.out]
        refine ⟨_, rfl, ?_, hwb.setCell (by simp) _⟩
        rw [if_pos trivial]
        have hk := Own_disk.keep HOZ.out ((Part.refl (w.heap.size + 1) (w.heap.size + 2) wb).setCell (p := ⟨w.heap.size + 1, 0, none⟩) ⟨Nat.le_refl _, Nat.lt_succ_self _⟩ (.slice (some ⟨g, 0, none⟩) (d.length) c2)) (.inr (by omega))
        exact ⟨OwnS.mono hk.1 (by omega) (by simp [World.setCell]; omega) (Nat.le_refl _), hk.2⟩
end Go.Proofs.Ythjkmefbjbfonaa

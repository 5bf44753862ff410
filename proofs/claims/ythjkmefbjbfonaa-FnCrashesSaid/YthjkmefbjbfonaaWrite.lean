/- WriteFile, the program's and the reference's. -/
import Derived.Test.YthjkmefbjbfonaaWriteP
import Derived.Deep.Cut
namespace Go.Proofs.Ythjkmefbjbfonaa
set_option linter.unusedSimpArgs false
set_option linter.unusedVariables false
open Go.RowKit Go.ChangeShapes Go.Deep

theorem filV_append (a b : List Fil) : filV (a ++ b) = filV a ++ filV b := by simp [filV]
set_option maxHeartbeats 16000000 in
set_option maxRecDepth 100000 in
theorem writeFile_impl (v : Value) (d : List Fil) (nm more : ByteArray) (w : World) (h : Rd_disk w v d) (hn : cost_disk d ≤ 1048576) (hnm : nm.size ≤ 1048576) (hmr : more.size ≤ 1048576) :
    Calls Try.prog 27 #[.agg #[v], .string nm, .string more] w (GivesDB (writeFileR0 d nm more) (writeFileR1 d nm more) w) := by
  unfold cost_disk at hn
  have HRD := Lib.hid h
  have hok := h.2
  have hszd : ∀ x ∈ d, x.data.size ≤ 1048576 := fun x hx => by have := szF_le hx; unfold szF at this; omega
  obtain ⟨A, c, rfl, hnc, hcm⟩ := h.1.shape
  unfold maxLen at hcm
  have CAT := Lib.hid (fun W (hW : Below w.heap.size w W) => fileAt_any (.slice A d.length c) d nm W (HRD.out.below hW) (by omega))
  have COK := Lib.hid (fun W (hW : Below w.heap.size w W) => diskOk_impl (.slice A d.length c) d W (HRD.out.below hW) (by omega))
  have HOKF := Lib.hid (okF_base (nm := nm) hok (by omega))
  have HL4 := Lib.hid (fun h => diskOk_four (d := d) h)
  clear h hok
  obtain ⟨W0, hW0⟩ : ∃ W0, W0 = (w.alloc (.cells #[.slice A d.length c] 37)).alloc (.cells #[.slice none 0 0] 37) := ⟨_, rfl⟩
  have HW := Lib.hid hW0
  have k0 : Blk W0 w.heap.size 37 #[.slice A d.length c] := by rw [hW0]; exact (Blk.new _ _ _).alloc _
  have k1 : Blk W0 (w.heap.size + 1) 37 #[.slice none 0 0] := by
    have q := Blk.new (w.alloc (.cells #[.slice A d.length c] 37)) 37 #[.slice none 0 0]
    rw [show (w.alloc (.cells #[.slice A d.length c] 37)).heap.size = w.heap.size + 1 by simp] at q
    rw [hW0]; exact q
  have hb0 : Below w.heap.size w W0 := by rw [hW0]; exact (by repeat first | exact Below.refl _ _ | assumption | refine Below.drew ?_ | refine below_drewN ?_ _ | refine Below.calm ?_ (by first | exact Nat.le_refl _ | (simp; done) | (simp; omega) | omega) | refine Below.alloc ?_ (by first | exact Nat.le_refl _ | (simp; done) | (simp; omega) | omega) _ | refine Below.setCell ?_ (by first | exact Nat.le_refl _ | (simp; done) | (simp; omega) | omega) _)
  have hs0 := k1.lt
  have HK0 := Lib.hid k0
  have HK1 := Lib.hid k1
  clear k0 k1 hW0
  cases hD : diskOkR d with
  | false =>
    have HE1 := Lib.hid (show writeFileR1 d nm more = false by rw [writeFileR1, hD]; rfl)
    have HE0 := Lib.hid (show writeFileR0 d nm more = d by rw [writeFileR0, HE1.out]; rfl)
    rw [hD] at COK
    clear hD
    go_enter Try.func27, Try.ntmps27
    go_wp2_with fail
    rw [← HW.out]
    refine (COK.out _ hb0).mono ?_
    rintro e w1 ⟨rfl, hb1⟩
    have x1 := HK0.out.belowV hb1
    have p1 := x1.cell 0
    simp only [List.getElem?_toArray, List.getElem?_cons_zero] at p1
    have l1 := x1.lt
    have HKR := Lib.hid (HK1.out.belowV hb1)
    have hw1 := hb0.trans (hb1.mono hb0.size)
    clear x1
    go_wp2_with fail
    refine (copyDisk_any _ d w1 (HRD.out.below hw1) (by omega)).mono ?_
    rintro e wz ⟨uz, rfl, hoz, hbz⟩
    obtain ⟨Az, cz, rfl⟩ := hoz.form
    have HOZ := Lib.hid hoz
    have hwz := hw1.trans (hbz.mono hw1.size)
    have xz := HKR.out.belowV hbz
    have r0 := xz.cell 0
    have r1 := xz.frozen 0
    have lz := xz.lt
    simp only [List.getElem?_toArray, List.getElem?_cons_zero] at r0
    have hsz := HKR.out.lt
    clear hoz xz
    go_wp2_with fail
    refine bodyPost_ret (v := .tuple #[.agg #[.slice Az d.length cz], .bool false]) (by simp [results, Try.results27, go_sem, r0, r1]) rfl ?_
    rw [HE0.out, HE1.out]
    refine ⟨_, rfl, ?_, hwz.setCell (by simp) _⟩
    have hk := Own_disk.keep HOZ.out ((Part.refl (w.heap.size + 1) (w.heap.size + 2) wz).setCell (p := ⟨w.heap.size + 1, 0, none⟩) ⟨Nat.le_refl _, Nat.lt_succ_self _⟩ (.slice Az d.length cz)) (.inr (by omega))
    exact ⟨OwnS.mono hk.1 (by omega) (by have := hk.1.2.1; exact this) (Nat.le_refl _), hk.2⟩
  | true =>
    have HD := Lib.hid hD
    have hl4 := HL4.out hD
    rw [hD] at COK
    clear hD
    by_cases ha : atF nm d < d.length
    · skip
      have hat : atR nm d = (atF nm d : Int) := by rw [atR, if_pos ha]
      rw [hat] at CAT
      have HWT0 := writeTo_same (more := more) ha
      obtain ⟨k, hkk⟩ : ∃ k, k = atF nm d := ⟨_, rfl⟩
      obtain ⟨x, hk, hx, hwt⟩ : ∃ x, ∃ h : k < d.length, x = d[k] ∧ writeTo d nm more = d.set k (appF x more) := by subst hkk; exact ⟨_, ha, rfl, HWT0⟩
      have hokB : okF d := HRD.out.2
      have hxs := hszd x (by rw [hx]; exact List.getElem_mem hk)
      rw [← hkk] at CAT
      have HWT := Lib.hid hwt
      clear hat HWT0 hkk hwt ha
      go_enter Try.func27, Try.ntmps27
      go_wp2_with fail
      rw [← HW.out]
      refine (COK.out _ hb0).mono ?_
      rintro e w1 ⟨rfl, hb1⟩
      have x1 := HK0.out.belowV hb1
      have p1 := x1.cell 0
      simp only [List.getElem?_toArray, List.getElem?_cons_zero] at p1
      have l1 := x1.lt
      have HK01 := Lib.hid x1
      have HK11 := Lib.hid (HK1.out.belowV hb1)
      have hw1 := hb0.trans (hb1.mono hb0.size)
      have hs1 := HK11.out.lt
      clear x1
      go_wp2_with fail
      refine (copyDisk_any _ d w1 (HRD.out.below hw1) (by omega)).mono ?_
      rintro e w2 ⟨u2, rfl, ho2, hb2⟩
      obtain ⟨A2, c2, rfl⟩ := ho2.form
      have HO2 := Lib.hid ho2
      have hw2 := hw1.trans (hb2.mono hw1.size)
      have x2 := HK01.out.belowV hb2
      have p2 := x2.cell 0
      simp only [List.getElem?_toArray, List.getElem?_cons_zero] at p2
      have l2 := x2.lt
      have HK02 := Lib.hid x2
      have HK12 := Lib.hid (HK11.out.belowV hb2)
      have hs2 := HK12.out.lt
      clear ho2 p1 x2
      go_wp2_with fail
      refine (CAT.out _ (hw2.alloc hw2.size _)).mono ?_
      rintro e w3 ⟨rfl, hb3⟩
      have hb3' : Below w2.heap.size w2 w3 := Below.trans (by exact (by repeat first | exact Below.refl _ _ | assumption | refine Below.drew ?_ | refine below_drewN ?_ _ | refine Below.calm ?_ (by first | exact Nat.le_refl _ | (simp; done) | (simp; omega) | omega) | refine Below.alloc ?_ (by first | exact Nat.le_refl _ | (simp; done) | (simp; omega) | omega) _ | refine Below.setCell ?_ (by first | exact Nat.le_refl _ | (simp; done) | (simp; omega) | omega) _)) (hb3.mono (by simp))
      have hsa := hb2.size
      have hsb := hb3'.size
      have hw3 := hw2.trans (hb3'.mono hw2.size)
      have HK03 := Lib.hid (HK02.out.belowV hb3')
      have HK13 := Lib.hid (HK12.out.belowV hb3')
      have HO3 := Lib.hid (Own_disk.below HO2.out hb3')
      have HKO3 := Lib.hid ((Blk.new w2 37 #[.slice A2 d.length c2]).belowV hb3)
      have hs3 := HKO3.out.lt
      have q3 := HKO3.out.cell 0
      have q3f := HKO3.out.frozen 0
      simp only [List.getElem?_toArray, List.getElem?_cons_zero] at q3
      clear p2 l2
      obtain ⟨g, cap, hgv, hlg, hcm2, hcap2, hrow⟩ := RowFil.of_own HO3.out.1.1 (by omega)
      have gc : g ≠ w2.heap.size := by have := HO2.out.1.2.2 g (by rw [hgv]; rfl); have := HO2.out.1.2.1; omega
      injection hgv with hA2 _ hC2
      subst hA2 hC2
      have HROW := Lib.hid hrow
      have HKO := HKO3
      have HKP := HK03
      have HKR := HK13
      have hW := hw3
      clear hrow
      have o0 := HKO.out.cell 0
      simp only [List.getElem?_toArray, List.getElem?_cons_zero] at o0
      obtain ⟨-, e1, -⟩ := HROW.out.cell hk x hx
      have HX := Lib.hid hx
      clear hx
      have z1 := HROW.out.frozen (k * 3 + 1)
      have hglt := HROW.out.lt
      have hk1 : (k : Int) < ((d.length : Nat) : Int) := by omega
      have hk0 : (0 : Int) ≤ (k : Int) := by omega
      have hxs' : x.data.size + more.size ≤ 9223372036854775807 := by omega
      have hpl := HKP.out.cell 0
      have hpl2 := HKP.out.lt
      have hol2 := HKO.out.lt
      simp only [List.getElem?_toArray, List.getElem?_cons_zero] at hpl
      have gb : ¬ w2.heap.size = g := fun e => gc e.symm
      have gd : ¬ w.heap.size = g := by omega
      have hxi : ((x.data.size : Int)) + (more.size : Int) ≤ 9223372036854775807 := by omega
      go_upto_region 9 with (fail)
      obtain ⟨W5, hW5⟩ : ∃ W5, W5 = w3.setCell ⟨g, k * 3 + 1, none⟩ (.string (x.data ++ more)) := ⟨_, rfl⟩
      rw [← hW5]
      have hrow5 : RowFil W5 g c2 ((d).set k (appF x more)) := by
        rw [hW5]
        exact HROW.out.put hk 1 (by decide) (appF x more) _ rfl (fun i hi hne => by
          rw [← HX.out]
          match i, hi, hne with
          | 0, _, _ => rfl
          | 2, _, _ => rfl)
      have hls : ((d).set k (appF x more)).length = d.length := by rw [List.length_set]; try simp
      have hw5 : Below w.heap.size w W5 := by rw [hW5]; exact hW.setCell (show w.heap.size ≤ g by omega) _
      have HKR5 := Lib.hid (show Blk W5 (w.heap.size + 1) 37 #[.slice none 0 0] by rw [hW5]; exact HKR.out.far (show w.heap.size + 1 ≠ g by omega) _)
      have hs5 : W5.heap.size = w3.heap.size := by rw [hW5]; simp [World.setCell]
      have hsW := HKO.out.lt
      have hown5 : Own_disk W5 (w.heap.size + 2) W5.heap.size (.slice (some ⟨g, 0, none⟩) ((d).set k (appF x more)).length c2) ((d).set k (appF x more)) :=
        ⟨OwnS.of_own (hrow5.own (by omega) hcm2), okF_set hokB _ ⟨(hokB x (by rw [HX.out]; exact List.getElem_mem hk)).1, by simp only [appF, ByteArray.size_append]; omega⟩⟩
      rw [← HWT.out] at hown5 hls
      rw [hls] at hown5
      have hlw : (writeTo d nm more).length ≤ 2000000 := by rw [hls]; omega
      have HKO5 := Lib.hid (show Blk W5 w2.heap.size 37 #[.slice (some ⟨g, 0, none⟩) (d.length) c2] by rw [hW5]; exact HKO.out.far gb _)
      have HKP5 := Lib.hid (show Blk W5 w.heap.size 37 #[.slice A d.length c] by rw [hW5]; exact HKP.out.far gd _)
      clear hW5
      have CDO := Lib.hid (diskOr_any _ (.slice A d.length c) (writeTo d nm more) d _ W5 hown5 (HRD.out.below hw5) (by omega) hlw (by omega))
      have HE1 := Lib.hid (show writeFileR1 d nm more = diskOkR (writeTo d nm more) by rw [writeFileR1, HD.out]; rfl)
      have HE0 := Lib.hid (show writeFileR0 d nm more = (if diskOkR (writeTo d nm more) then writeTo d nm more else d) by rw [writeFileR0, HE1.out])
      have o5 := HKO5.out.cell 0
      have p5 := HKP5.out.cell 0
      have o5l := HKO5.out.lt
      simp only [List.getElem?_toArray, List.getElem?_cons_zero] at o5 p5
      go_wp2_with fail
      refine CDO.out.mono ?_
      rintro e wz ⟨uz, rfl, hoz, hbz⟩
      have hfz : ∃ Az nz cz, uz = .slice Az nz cz := by obtain ⟨Az, cz, e⟩ := hoz.form; exact ⟨_, _, _, e⟩
      obtain ⟨Az, nz, cz, rfl⟩ := hfz
      have xz := HKR5.out.belowV hbz
      have r0 := xz.cell 0
      have r1 := xz.frozen 0
      have lz := xz.lt
      simp only [List.getElem?_toArray, List.getElem?_cons_zero] at r0
      have HOZ := Lib.hid hoz
      have hwz := hw5.trans (hbz.mono hw5.size)
      clear hoz xz
      go_wp2_with fail
      refine bodyPost_ret (v := .tuple #[.agg #[.slice Az nz cz], .bool (diskOkR (writeTo d nm more))]) (by simp [results, Try.results27, go_sem, r0, r1]) rfl ?_
      rw [HE0.out, HE1.out]
      refine ⟨_, rfl, ?_, hwz.setCell (by simp) _⟩
      have hk := Own_disk.keep HOZ.out ((Part.refl (w.heap.size + 1) (w.heap.size + 2) wz).setCell (p := ⟨w.heap.size + 1, 0, none⟩) ⟨Nat.le_refl _, Nat.lt_succ_self _⟩ (.slice Az nz cz)) (.inr (by omega))
      exact ⟨OwnS.mono hk.1 (by omega) (by have := hk.1.2.1; exact this) (Nat.le_refl _), hk.2⟩
    · skip
      have hat : atR nm d = -1 := by rw [atR, if_neg ha]
      rw [hat] at CAT
      have HWT := Lib.hid (writeTo_new (more := more) ha)
      have hokB : okF (d ++ [(⟨nm, noText, 0⟩ : Fil)]) := by
        have q := HOKF.out
        rw [baseF, if_neg ha] at q
        exact q
      obtain ⟨i0, hii, hz0, hz1, hz2⟩ := info_parts Try.infoFil
      clear hat ha
      go_enter Try.func27, Try.ntmps27
      go_wp2_with fail
      rw [← HW.out]
      refine (COK.out _ hb0).mono ?_
      rintro e w1 ⟨rfl, hb1⟩
      have x1 := HK0.out.belowV hb1
      have p1 := x1.cell 0
      simp only [List.getElem?_toArray, List.getElem?_cons_zero] at p1
      have l1 := x1.lt
      have HK01 := Lib.hid x1
      have HK11 := Lib.hid (HK1.out.belowV hb1)
      have hw1 := hb0.trans (hb1.mono hb0.size)
      have hs1 := HK11.out.lt
      clear x1
      go_wp2_with fail
      refine (copyDisk_any _ d w1 (HRD.out.below hw1) (by omega)).mono ?_
      rintro e w2 ⟨u2, rfl, ho2, hb2⟩
      obtain ⟨A2, c2, rfl⟩ := ho2.form
      have HO2 := Lib.hid ho2
      have hw2 := hw1.trans (hb2.mono hw1.size)
      have x2 := HK01.out.belowV hb2
      have p2 := x2.cell 0
      simp only [List.getElem?_toArray, List.getElem?_cons_zero] at p2
      have l2 := x2.lt
      have HK02 := Lib.hid x2
      have HK12 := Lib.hid (HK11.out.belowV hb2)
      have hs2 := HK12.out.lt
      clear ho2 p1 x2
      go_wp2_with fail
      refine (CAT.out _ (hw2.alloc hw2.size _)).mono ?_
      rintro e w3 ⟨rfl, hb3⟩
      have hb3' : Below w2.heap.size w2 w3 := Below.trans (by exact (by repeat first | exact Below.refl _ _ | assumption | refine Below.drew ?_ | refine below_drewN ?_ _ | refine Below.calm ?_ (by first | exact Nat.le_refl _ | (simp; done) | (simp; omega) | omega) | refine Below.alloc ?_ (by first | exact Nat.le_refl _ | (simp; done) | (simp; omega) | omega) _ | refine Below.setCell ?_ (by first | exact Nat.le_refl _ | (simp; done) | (simp; omega) | omega) _)) (hb3.mono (by simp))
      have hsa := hb2.size
      have hsb := hb3'.size
      have hw3 := hw2.trans (hb3'.mono hw2.size)
      have HK03 := Lib.hid (HK02.out.belowV hb3')
      have HK13 := Lib.hid (HK12.out.belowV hb3')
      have HO3 := Lib.hid (Own_disk.below HO2.out hb3')
      have HKO3 := Lib.hid ((Blk.new w2 37 #[.slice A2 d.length c2]).belowV hb3)
      have hs3 := HKO3.out.lt
      have q3 := HKO3.out.cell 0
      have q3f := HKO3.out.frozen 0
      simp only [List.getElem?_toArray, List.getElem?_cons_zero] at q3
      clear p2 l2
      have hownE : w3.ownsRow w1.heap.size 44 3 (.slice A2 d.length c2) d.length (filV d) := HO3.out.1.1
      have hs1e : w1.heap.size ≤ w3.heap.size := by omega
      go_wp2_with (at_builtin; refine wpList_append_new rfl _ _ _ rfl w1.heap.size _ i0 _ 3 40 Try.underlying35 hii hz0 hz1 hz2 rfl (by decide) (.slice A2 d.length c2) d.length _ rfl hownE (Below.refl _ _) hs1e _ 1 1 (by first | rfl | (refine slice_at_eq ?_; simp [World.setCell]; done)) rfl (fun u hu => filV_one [⟨nm, noText, 0⟩] u hu) ⟨by omega, by omega⟩ ?_; intro v1 w4 hown1 hb1' hg1 hat1; obtain ⟨A6, c6, rfl, -, -⟩ := (Rd.of_own hown1).shape; have kr4 := (HKO3.out.alloc (.cells #[.string nm, .string ⟨#[]⟩, .int .i64 0] 44)).grown hg1 (Ne.symm (own_blk_ne (hownE.alloc (.cells #[.string nm, .string ⟨#[]⟩, .int .i64 0] 44)) (HKO3.out.alloc _) (by decide))); have HKP4 := Lib.hid ((HK03.out.alloc (.cells #[.string nm, .string ⟨#[]⟩, .int .i64 0] 44)).grown hg1 (Ne.symm (own_blk_ne (hownE.alloc (.cells #[.string nm, .string ⟨#[]⟩, .int .i64 0] 44)) (HK03.out.alloc _) (by decide)))); have HKR4 := Lib.hid ((HK13.out.alloc (.cells #[.string nm, .string ⟨#[]⟩, .int .i64 0] 44)).grown hg1 (Ne.symm (own_blk_ne (hownE.alloc (.cells #[.string nm, .string ⟨#[]⟩, .int .i64 0] 44)) (HK13.out.alloc _) (by decide)))); have g7 := kr4.cell 0; have gz7 := kr4.frozen 0; simp only [List.getElem?_toArray, List.getElem?_cons_zero] at g7; have g7l := kr4.lt; have HK4 := Lib.hid kr4; have HO4 := Lib.hid hown1; have HG4 := Lib.hid hg1; have hg4s := hg1.size; simp at hg4s; clear hown1 hb1' hg1 hat1 kr4)
      go_upto_region 8 with (fail)
      have hW4 := (((hw3.alloc hw3.size (.cells #[.string nm, .string ⟨#[]⟩, .int .i64 0] 44)).grown HG4.out (by simp; omega) (fun g hg => by have := (hownE.lt g hg).1; omega)))
      obtain ⟨W, hWW⟩ : ∃ W, W = w4.setCell ⟨w2.heap.size, 0, none⟩ (.slice A6 (d.length + 1) c6) := ⟨_, rfl⟩
      rw [← hWW]
      have hownL : w4.ownsRow w1.heap.size 44 3 (.slice A6 (d.length + 1) c6) (d ++ [(⟨nm, noText, 0⟩ : Fil)]).length (filV (d ++ [(⟨nm, noText, 0⟩ : Fil)])) := by rw [filV_append, List.length_append]; exact HO4.out
      have hll : (d ++ [(⟨nm, noText, 0⟩ : Fil)]).length = d.length + 1 := by simp
      obtain ⟨g, cap, hgv, hlg, hcm2, hcap2, hrow⟩ := RowFil.of_own hownL (by omega)
      have gc : g ≠ w2.heap.size := fun e => by
        have q := own_blk_ne HO4.out HK4.out (by decide)
        rw [hgv] at q
        exact q (by rw [← e]; rfl)
      rw [hll] at hgv
      injection hgv with hA2 _ hC2
      subst hA2 hC2
      have HKO := Lib.hid (show Blk W w2.heap.size 37 #[.slice (some ⟨g, 0, none⟩) (d.length + 1) c6] by rw [hWW]; exact HK4.out.set_ 0 _)
      have HKP := Lib.hid (show Blk W w.heap.size 37 #[.slice A d.length c] by rw [hWW]; exact HKP4.out.far (show w.heap.size ≠ w2.heap.size by omega) _)
      have HKR := Lib.hid (show Blk W (w.heap.size + 1) 37 #[.slice none 0 0] by rw [hWW]; exact HKR4.out.far (show w.heap.size + 1 ≠ w2.heap.size by omega) _)
      have HROW := Lib.hid (show RowFil W g c6 (d ++ [(⟨nm, noText, 0⟩ : Fil)]) by rw [hWW]; exact hrow.far gc _)
      have hW : Below w.heap.size w W := by rw [hWW]; exact hW4.setCell (show w.heap.size ≤ w2.heap.size by omega) _
      obtain ⟨x, hxd⟩ : ∃ x : Fil, x = ⟨nm, noText, 0⟩ := ⟨_, rfl⟩
      have hk : d.length < (d ++ [(⟨nm, noText, 0⟩ : Fil)]).length := by omega
      have hx : x = (d ++ [(⟨nm, noText, 0⟩ : Fil)])[d.length] := by rw [hxd]; simp
      have hxs : x.data.size ≤ 1048576 := by rw [hxd]; show (0 : Nat) ≤ 1048576; decide
      have HWT := Lib.hid (show writeTo d nm more = (d ++ [(⟨nm, noText, 0⟩ : Fil)]).set d.length (appF x more) by rw [hxd]; exact HWT.out)
      clear hxd hrow hownL hWW hW4 g7 gz7
      have o0 := HKO.out.cell 0
      simp only [List.getElem?_toArray, List.getElem?_cons_zero] at o0
      obtain ⟨-, e1, -⟩ := HROW.out.cell hk x hx
      have HX := Lib.hid hx
      clear hx
      have z1 := HROW.out.frozen (d.length * 3 + 1)
      have hglt := HROW.out.lt
      have hk1 : (d.length : Int) < ((d.length + 1 : Nat) : Int) := by omega
      have hk0 : (0 : Int) ≤ (d.length : Int) := by omega
      have hxs' : x.data.size + more.size ≤ 9223372036854775807 := by omega
      have hpl := HKP.out.cell 0
      have hpl2 := HKP.out.lt
      have hol2 := HKO.out.lt
      simp only [List.getElem?_toArray, List.getElem?_cons_zero] at hpl
      have gb : ¬ w2.heap.size = g := fun e => gc e.symm
      have gd : ¬ w.heap.size = g := by omega
      have hxi : ((x.data.size : Int)) + (more.size : Int) ≤ 9223372036854775807 := by omega
      go_upto_region 9 with (fail)
      obtain ⟨W5, hW5⟩ : ∃ W5, W5 = W.setCell ⟨g, d.length * 3 + 1, none⟩ (.string (x.data ++ more)) := ⟨_, rfl⟩
      rw [← hW5]
      have hrow5 : RowFil W5 g c6 ((d ++ [(⟨nm, noText, 0⟩ : Fil)]).set d.length (appF x more)) := by
        rw [hW5]
        exact HROW.out.put hk 1 (by decide) (appF x more) _ rfl (fun i hi hne => by
          rw [← HX.out]
          match i, hi, hne with
          | 0, _, _ => rfl
          | 2, _, _ => rfl)
      have hls : ((d ++ [(⟨nm, noText, 0⟩ : Fil)]).set d.length (appF x more)).length = d.length + 1 := by rw [List.length_set]; try simp
      have hw5 : Below w.heap.size w W5 := by rw [hW5]; exact hW.setCell (show w.heap.size ≤ g by omega) _
      have HKR5 := Lib.hid (show Blk W5 (w.heap.size + 1) 37 #[.slice none 0 0] by rw [hW5]; exact HKR.out.far (show w.heap.size + 1 ≠ g by omega) _)
      have hs5 : W5.heap.size = W.heap.size := by rw [hW5]; simp [World.setCell]
      have hsW := HKO.out.lt
      have hown5 : Own_disk W5 (w.heap.size + 2) W5.heap.size (.slice (some ⟨g, 0, none⟩) ((d ++ [(⟨nm, noText, 0⟩ : Fil)]).set d.length (appF x more)).length c6) ((d ++ [(⟨nm, noText, 0⟩ : Fil)]).set d.length (appF x more)) :=
        ⟨OwnS.of_own (hrow5.own (by omega) hcm2), okF_set hokB _ ⟨(hokB x (by rw [HX.out]; exact List.getElem_mem hk)).1, by simp only [appF, ByteArray.size_append]; omega⟩⟩
      rw [← HWT.out] at hown5 hls
      rw [hls] at hown5
      have hlw : (writeTo d nm more).length ≤ 2000000 := by rw [hls]; omega
      have HKO5 := Lib.hid (show Blk W5 w2.heap.size 37 #[.slice (some ⟨g, 0, none⟩) (d.length + 1) c6] by rw [hW5]; exact HKO.out.far gb _)
      have HKP5 := Lib.hid (show Blk W5 w.heap.size 37 #[.slice A d.length c] by rw [hW5]; exact HKP.out.far gd _)
      clear hW5
      have CDO := Lib.hid (diskOr_any _ (.slice A d.length c) (writeTo d nm more) d _ W5 hown5 (HRD.out.below hw5) (by omega) hlw (by omega))
      have HE1 := Lib.hid (show writeFileR1 d nm more = diskOkR (writeTo d nm more) by rw [writeFileR1, HD.out]; rfl)
      have HE0 := Lib.hid (show writeFileR0 d nm more = (if diskOkR (writeTo d nm more) then writeTo d nm more else d) by rw [writeFileR0, HE1.out])
      have o5 := HKO5.out.cell 0
      have p5 := HKP5.out.cell 0
      have o5l := HKO5.out.lt
      simp only [List.getElem?_toArray, List.getElem?_cons_zero] at o5 p5
      go_wp2_with fail
      refine CDO.out.mono ?_
      rintro e wz ⟨uz, rfl, hoz, hbz⟩
      have hfz : ∃ Az nz cz, uz = .slice Az nz cz := by obtain ⟨Az, cz, e⟩ := hoz.form; exact ⟨_, _, _, e⟩
      obtain ⟨Az, nz, cz, rfl⟩ := hfz
      have xz := HKR5.out.belowV hbz
      have r0 := xz.cell 0
      have r1 := xz.frozen 0
      have lz := xz.lt
      simp only [List.getElem?_toArray, List.getElem?_cons_zero] at r0
      have HOZ := Lib.hid hoz
      have hwz := hw5.trans (hbz.mono hw5.size)
      clear hoz xz
      go_wp2_with fail
      refine bodyPost_ret (v := .tuple #[.agg #[.slice Az nz cz], .bool (diskOkR (writeTo d nm more))]) (by simp [results, Try.results27, go_sem, r0, r1]) rfl ?_
      rw [HE0.out, HE1.out]
      refine ⟨_, rfl, ?_, hwz.setCell (by simp) _⟩
      have hk := Own_disk.keep HOZ.out ((Part.refl (w.heap.size + 1) (w.heap.size + 2) wz).setCell (p := ⟨w.heap.size + 1, 0, none⟩) ⟨Nat.le_refl _, Nat.lt_succ_self _⟩ (.slice Az nz cz)) (.inr (by omega))
      exact ⟨OwnS.mono hk.1 (by omega) (by have := hk.1.2.1; exact this) (Nat.le_refl _), hk.2⟩
end Go.Proofs.Ythjkmefbjbfonaa

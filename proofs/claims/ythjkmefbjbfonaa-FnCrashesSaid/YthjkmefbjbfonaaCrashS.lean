/- Crashed of the reference. -/
import Derived.Test.YthjkmefbjbfonaaCrash
namespace Go.Proofs.Ythjkmefbjbfonaa
set_option linter.unusedSimpArgs false
set_option linter.unusedVariables false
open Go.RowKit Go.ChangeShapes Go.Deep
set_option maxHeartbeats 16000000 in
set_option maxRecDepth 100000 in
theorem crashed_spec (v : Value) (d : List Fil) (v' : Value) (keep : List Int) (w : World) (h : Rd_disk w v d) (h' : Rd w 1 v' keep.length (intsV keep)) (hn : cost_disk d ≤ 1048576) (hnk : keep.length ≤ 1048576) :
    Calls Try.prog 21 #[.agg #[v], v'] w (GivesD (crashedR d keep) w) := by
  unfold cost_disk at hn
  have HRD := Lib.hid h
  have HRK := Lib.hid h'
  obtain ⟨A, c, rfl, hnc, hcm⟩ := h.1.shape
  obtain ⟨A', c', rfl, hnc', hcm'⟩ := h'.shape
  unfold maxLen at hcm hcm'
  have COK := Lib.hid (fun W (hW : Below w.heap.size w W) => diskOk_spec (.slice A d.length c) d W (HRD.out.below hW) (by omega))
  clear h h'
  obtain ⟨W0, hW0⟩ : ∃ W0, W0 = (w.alloc (.cells #[.slice A d.length c] 37)).alloc (.cells #[.slice none 0 0] 37) := ⟨_, rfl⟩
  have HW := Lib.hid hW0
  have k0 : Blk W0 w.heap.size 37 #[.slice A d.length c] := by rw [hW0]; exact (Blk.new _ _ _).alloc _
  have k1 : Blk W0 (w.heap.size + 1) 37 #[.slice none 0 0] := by
    have q := Blk.new (w.alloc (.cells #[.slice A d.length c] 37)) 37 #[.slice none 0 0]
    rw [show (w.alloc (.cells #[.slice A d.length c] 37)).heap.size = w.heap.size + 1 by simp] at q
    rw [hW0]; exact q
  have hb0 : Below w.heap.size w W0 := by rw [hW0]; exact (by repeat first | exact Below.refl _ _ | assumption | refine Below.drew ?_ | refine below_drewN ?_ _ | refine Below.calm ?_ (by first | exact Nat.le_refl _ | (simp; done) | (simp; omega) | omega) | refine Below.alloc ?_ (by first | exact Nat.le_refl _ | (simp; done) | (simp; omega) | omega) _ | refine Below.setCell ?_ (by first | exact Nat.le_refl _ | (simp; done) | (simp; omega) | omega) _)
  have hs0 := k1.lt
  have HK0 := Lib.hid k0
  have HK1 := Lib.hid k1
  clear k0 k1 hW0
  have HDD := Lib.hid (show diskOkR d = true → ∀ f ∈ d, f.data.size ≤ 60000 ∧ 0 ≤ f.safe ∧ f.safe ≤ f.data.size from fun h f hf => by
    obtain ⟨q1, q2, q3, q4⟩ := diskOk_mem h f hf
    exact ⟨q1, q2, q3⟩)
  have HCR := Lib.hid (show crashedR d keep = if diskOkR d then crashL d keep else d from rfl)
  cases hD : diskOkR d with
  | false =>
    rw [hD] at COK HCR
    clear hD HDD
    go_enter Try.func21, Try.ntmps21
    go_wp2_with fail
    rw [← HW.out]
    refine (l04Copy_any _ d W0 (HRD.out.below hb0) (by omega)).mono ?_
    rintro e w2 ⟨u2, rfl, ho2, hb2⟩
    obtain ⟨A2, c2, rfl⟩ := ho2.form
    have HO2 := Lib.hid ho2
    have hw2 := hb0.trans (hb2.mono hb0.size)
    have x2 := HK0.out.belowV hb2
    have p2 := x2.cell 0
    simp only [List.getElem?_toArray, List.getElem?_cons_zero] at p2
    have l2 := x2.lt
    have HK02 := Lib.hid x2
    have HK12 := Lib.hid (HK1.out.belowV hb2)
    have hs2 := HK12.out.lt
    clear ho2 x2
    go_wp2_with fail
    refine (COK.out _ (hw2.alloc hw2.size _)).mono ?_
    rintro e w3 ⟨rfl, hb3⟩
    have hb3' : Below w2.heap.size w2 w3 := Below.trans (by exact (by repeat first | exact Below.refl _ _ | assumption | refine Below.drew ?_ | refine below_drewN ?_ _ | refine Below.calm ?_ (by first | exact Nat.le_refl _ | (simp; done) | (simp; omega) | omega) | refine Below.alloc ?_ (by first | exact Nat.le_refl _ | (simp; done) | (simp; omega) | omega) _ | refine Below.setCell ?_ (by first | exact Nat.le_refl _ | (simp; done) | (simp; omega) | omega) _)) (hb3.mono (by simp))
    have hsa := hb2.size
    have hsb := hb3'.size
    have hw3 := hw2.trans (hb3'.mono hw2.size)
    have HK03 := Lib.hid (HK02.out.belowV hb3')
    have HK13 := Lib.hid (HK12.out.belowV hb3')
    have HO3 := Lib.hid (Own_disk.below HO2.out hb3')
    have HKO3 := Lib.hid ((Blk.new w2 37 #[.slice A2 d.length c2]).belowV hb3)
    have hs3 := HKO3.out.lt
    have q3 := HKO3.out.cell 0
    simp only [List.getElem?_toArray, List.getElem?_cons_zero] at q3
    have p3 := HK03.out.cell 0
    have p3l := HK03.out.lt
    have r3 := HK13.out.cell 0
    have r3f := HK13.out.frozen 0
    simp only [List.getElem?_toArray, List.getElem?_cons_zero] at p3 r3
    clear p2 l2
    go_wp2_with fail
    refine bodyPost_ret (v := .agg #[.slice A2 d.length c2]) (by simp [results, Try.results21, go_sem, r3, r3f]) rfl ?_
    rw [HCR.out]
    refine ⟨_, rfl, ?_, hw3.setCell (by simp) _⟩
    have hk := Own_disk.keep HO3.out ((Part.refl (w.heap.size + 1) (w.heap.size + 2) w3).setCell (p := ⟨w.heap.size + 1, 0, none⟩) ⟨Nat.le_refl _, Nat.lt_succ_self _⟩ (.slice A2 d.length c2)) (.inr (by omega))
    exact ⟨OwnS.mono hk.1 (by omega) (by have := hk.1.2.1; exact Nat.le_trans hsb (by simp [World.setCell])) (Nat.le_refl _), hk.2⟩
  | true =>
    have HDM := Lib.hid (HDD.out hD)
    rw [hD] at COK HCR
    clear hD HDD
    go_enter Try.func21, Try.ntmps21
    go_wp2_with fail
    rw [← HW.out]
    refine (l04Copy_any _ d W0 (HRD.out.below hb0) (by omega)).mono ?_
    rintro e w2 ⟨u2, rfl, ho2, hb2⟩
    obtain ⟨A2, c2, rfl⟩ := ho2.form
    have HO2 := Lib.hid ho2
    have hw2 := hb0.trans (hb2.mono hb0.size)
    have x2 := HK0.out.belowV hb2
    have p2 := x2.cell 0
    simp only [List.getElem?_toArray, List.getElem?_cons_zero] at p2
    have l2 := x2.lt
    have HK02 := Lib.hid x2
    have HK12 := Lib.hid (HK1.out.belowV hb2)
    have hs2 := HK12.out.lt
    clear ho2 x2
    go_wp2_with fail
    refine (COK.out _ (hw2.alloc hw2.size _)).mono ?_
    rintro e w3 ⟨rfl, hb3⟩
    have hb3' : Below w2.heap.size w2 w3 := Below.trans (by exact (by repeat first | exact Below.refl _ _ | assumption | refine Below.drew ?_ | refine below_drewN ?_ _ | refine Below.calm ?_ (by first | exact Nat.le_refl _ | (simp; done) | (simp; omega) | omega) | refine Below.alloc ?_ (by first | exact Nat.le_refl _ | (simp; done) | (simp; omega) | omega) _ | refine Below.setCell ?_ (by first | exact Nat.le_refl _ | (simp; done) | (simp; omega) | omega) _)) (hb3.mono (by simp))
    have hsa := hb2.size
    have hsb := hb3'.size
    have hw3 := hw2.trans (hb3'.mono hw2.size)
    have HK03 := Lib.hid (HK02.out.belowV hb3')
    have HK13 := Lib.hid (HK12.out.belowV hb3')
    have HO3 := Lib.hid (Own_disk.below HO2.out hb3')
    have HKO3 := Lib.hid ((Blk.new w2 37 #[.slice A2 d.length c2]).belowV hb3)
    have hs3 := HKO3.out.lt
    have q3 := HKO3.out.cell 0
    simp only [List.getElem?_toArray, List.getElem?_cons_zero] at q3
    have p3 := HK03.out.cell 0
    have p3l := HK03.out.lt
    have r3 := HK13.out.cell 0
    have r3f := HK13.out.frozen 0
    simp only [List.getElem?_toArray, List.getElem?_cons_zero] at p3 r3
    clear p2 l2
    go_wp2_with fail
    go_loopw [6] (fun i wr => ∃ k : Nat, k ≤ d.length ∧ i = .int .i64 k ∧ Hid (wr.ownsRow W0.heap.size 44 3 (.slice A2 d.length c2) d.length (filV (crashAt d keep k))) ∧ Hid (Blk wr w.heap.size 37 #[.slice A d.length c]) ∧ Hid (Blk wr (w.heap.size + 1) 37 #[.slice none 0 0]) ∧ Hid (Blk wr w2.heap.size 37 #[.slice A2 d.length c2]) ∧ Hid (Below w.heap.size w wr) ∧ Hid (w3.heap.size ≤ wr.heap.size)) (fun i _ => d.length - (intOf i).toNat)
    case atStart => exact ⟨0, Nat.zero_le _, rfl, Lib.hid (by rw [crashAt_zero]; exact HO3.out.1.1), HK03, HK13, HKO3, Lib.hid hw3, Lib.hid (Nat.le_refl _)⟩
    case round =>
      obtain ⟨k, hk, rfl, HOW, HKP, HKR, HKO, HB, HSZ⟩ := hrel
      have hw := HB.out.size
      have hsz := HSZ.out
      have q4 := HKO.out.cell 0
      have q4l := HKO.out.lt
      have r4 := HKR.out.cell 0
      have r4f := HKR.out.frozen 0
      simp only [List.getElem?_toArray, List.getElem?_cons_zero] at q4 r4
      clear p3 q3 r3 r3f
      by_cases hlt : k < d.length
      · skip
        obtain ⟨b1, o1, _, hv1, _, _, hl1, hc1⟩ := HRD.out.1.form (by omega) (by omega)
        have hA1 : A = some ⟨b1, o1, none⟩ := by injection hv1
        subst hA1
        obtain ⟨x, hx⟩ : ∃ x, x = d[k] := ⟨_, rfl⟩
        have hxm : x ∈ d := by rw [hx]; exact List.getElem_mem hlt
        obtain ⟨hx1, hx2, hx3⟩ := HDM.out x hxm
        have hl := crashAt_length (d := d) (keep := keep) (i := k) (by omega)
        have hown := HOW.out
        rw [show wr.ownsRow W0.heap.size 44 3 (.slice A2 d.length c2) d.length (filV (crashAt d keep k)) = wr.ownsRow W0.heap.size 44 3 (.slice A2 d.length c2) (crashAt d keep k).length (filV (crashAt d keep k)) by rw [hl]] at hown
        obtain ⟨g, cap, hgv, hlg, hcm2, hcap2, hrow⟩ := RowFil.of_own hown (by omega)
        have gc : g ≠ w2.heap.size := fun e => by
          have q := own_blk_ne hown HKO.out (by decide)
          rw [hgv] at q
          exact q (by rw [← e]; rfl)
        rw [hl] at hgv
        injection hgv with hA2 _ hC2
        subst hA2 hC2
        have gb : ¬ w2.heap.size = g := fun e => gc e.symm
        have HROW := Lib.hid hrow
        have hglt := hrow.lt
        have hxk : x = (crashAt d keep k)[k]'(by rw [hl]; exact hlt) := by rw [crashAt_get hlt]; exact hx
        have HSET := Lib.hid (show (crashAt d keep k).set k (leftF x (keep.getD k 0)) = crashAt d keep (k + 1) by rw [hx]; exact crashAt_set hlt)
        obtain ⟨e0, e1, e2⟩ := hrow.cell (k := k) (by rw [hl]; exact hlt) x hxk
        have z0 := hrow.frozen (k * 3)
        have z1 := hrow.frozen (k * 3 + 1)
        have z2 := hrow.frozen (k * 3 + 2)
        have hk1 : (k : Int) < (d.length : Int) := by omega
        have hk0 : (0 : Int) ≤ (k : Int) := by omega
        obtain ⟨m, hm⟩ : ∃ m, m = keep.getD k 0 := ⟨_, rfl⟩
        rw [← hm] at HSET
        obtain ⟨q, hq⟩ : ∃ q, q = broughtR m 0 ((x.data.size : Int) - x.safe) := ⟨_, rfl⟩
        have hqb : 0 ≤ q ∧ q ≤ (x.data.size : Int) - x.safe := by rw [hq]; exact brought_in (by omega)
        obtain ⟨hq0, hq1⟩ := hqb
        have CB := Lib.hid (fun W => brought_spec m 0 ((x.data.size : Int) - x.safe) W)
        rw [← hq] at CB
        obtain ⟨y, hy⟩ : ∃ y, y = x.data.extract 0 (x.safe + q).toNat := ⟨_, rfl⟩
        have hys : (y.size : Int) = x.safe + q := by rw [hy, ByteArray.size_extract]; omega
        have HL := Lib.hid (show leftF x m = ⟨x.name, y, x.safe + q⟩ by rw [hy, hq]; rfl)
        have HY := Lib.hid hy
        have HYS := Lib.hid hys
        have HQ := Lib.hid hq
        have HM := Lib.hid hm
        have w1 : IntKind.i64.wrap (x.safe + q) = x.safe + q := IntWalk.i64_in _ (by omega)
        have w2' : IntKind.i64.wrap ((x.data.size : Int) - x.safe) = (x.data.size : Int) - x.safe := IntWalk.i64_in _ (by omega)
        have hn0 : 0 ≤ x.safe + q := by omega
        have hn1 : x.safe + q ≤ (x.data.size : Int) := by omega
        have g1 : ¬ g = w.heap.size := by omega
        have g2 : ¬ g = w.heap.size + 1 := by omega
        have g3 : ¬ g = wr.heap.size := by omega
        have g4 : ¬ wr.heap.size = g := by omega
        have g5 : ¬ w2.heap.size = wr.heap.size := by omega
        have HOLD := Lib.hid hl
        have HXK := Lib.hid (show ∀ h : k < (crashAt d keep k).length, x = (crashAt d keep k)[k] from fun _ => hxk)
        clear hx hxk hv1 hc1 hown hrow hm hq hy hys hl hxm
        by_cases hkl : k < keep.length
        · skip
          obtain ⟨b2, o2, _, hv2, _, _, hl2, hc2⟩ := HRK.out.form (by omega) (by omega)
          have hA3 : A' = some ⟨b2, o2, none⟩ := by injection hv2
          subst hA3
          have m0 := int_cell HB.out hl2 hc2 hkl m (by rw [HM.out]; simp [List.getD, hkl])
          have hb2l : b2 < wr.heap.size := Nat.lt_of_lt_of_le hl2 hw
          have hkl1 : (k : Int) < (keep.length : Int) := by omega
          clear hv2 hc2 hkl
          go_upto_region 10 with (fail)
          first | refine wp_region_calm_on (by kernel_rfl) (by kernel_rfl) ?_ | refine wp_region_calm_lit (by kernel_rfl) (by kernel_rfl) ?_
          repeat (go_big_quiet_step ((go_at_call 67; exact calm_of (CB.out _))))
          refine wpQuiet_nil ?_
          intro _ hw'
          obtain ⟨k1, hw''⟩ := hw'
          subst hw''
          obtain ⟨w5, hb5, hkw⟩ := k1.out
          rw [hkw]
          clear hkw
          have hb5' : Below wr.heap.size wr w5 := Below.trans (by exact (by repeat first | exact Below.refl _ _ | assumption | refine Below.drew ?_ | refine below_drewN ?_ _ | refine Below.calm ?_ (by first | exact Nat.le_refl _ | (simp; done) | (simp; omega) | omega) | refine Below.alloc ?_ (by first | exact Nat.le_refl _ | (simp; done) | (simp; omega) | omega) _ | refine Below.setCell ?_ (by first | exact Nat.le_refl _ | (simp; done) | (simp; omega) | omega) _)) (hb5.mono (by simp))
          have y5 := (Blk.new wr 44 #[.string x.name, .string x.data, .int .i64 x.safe]).belowV hb5
          have s0 := y5.cell 0
          have s1 := y5.cell 1
          have s2 := y5.cell 2
          have sf1 := y5.frozen 1
          have sf2 := y5.frozen 2
          have sl := y5.lt
          simp only [List.getElem?_toArray, List.getElem?_cons_succ, List.getElem?_cons_zero] at s0 s1 s2
          have o5 := (HKO.out.belowV hb5').cell 0
          have o5l := (HKO.out.belowV hb5').lt
          simp only [List.getElem?_toArray, List.getElem?_cons_zero] at o5
          have HY5 := Lib.hid y5
          clear y5
          go_upto_region 13 with (fail)
          have hs5 := hb5'.size
          have hl2' : k < (crashAt d keep k).length := by rw [HOLD.out]; omega
          have HLF : leftF x m = ⟨x.name, x.data.extract 0 (x.safe + q).toNat, x.safe + q⟩ := by rw [HL.out, HY.out]
          have hmx : max (x.safe + q) 0 = x.safe + q := by omega
          rw [hmx]
          obtain ⟨w6, hw6'⟩ : ∃ w6, w6 = (w5.setCell ⟨wr.heap.size, 1, none⟩ (.string (x.data.extract 0 (x.safe + q).toNat))).setCell ⟨wr.heap.size, 2, none⟩ (.int .i64 (x.safe + q)) := ⟨_, rfl⟩
          rw [← hw6']
          have hpa : Part wr.heap.size (wr.heap.size + 1) w5 w6 := by
            rw [hw6']
            refine Part.setCell (lo := wr.heap.size) (hi := wr.heap.size + 1) ?_ ⟨Nat.le_refl _, Nat.lt_succ_self _⟩ _
            refine Part.setCell (lo := wr.heap.size) (hi := wr.heap.size + 1) ?_ ⟨Nat.le_refl _, Nat.lt_succ_self _⟩ _
            exact Part.refl _ _ _
          have hp0 : Part wr.heap.size (wr.heap.size + 1) wr w6 := (Part.of_below hb5').trans hpa
          have hb6 : Below wr.heap.size wr w6 := Part.to_below (Below.refl _ _) hp0 (Nat.le_refl _) (Nat.le_refl _)
          have y6 : Blk w6 wr.heap.size 44 #[.string x.name, .string (x.data.extract 0 (x.safe + q).toNat), .int .i64 (x.safe + q)] := by rw [hw6']; exact (HY5.out.set_ 1 _).set_ 2 _
          have t0 := y6.cell 0
          have t1 := y6.cell 1
          have t2 := y6.cell 2
          have tl := y6.lt
          simp only [List.getElem?_toArray, List.getElem?_cons_succ, List.getElem?_cons_zero] at t0 t1 t2
          have hrow5 := HROW.out.belowV hb6
          have o6 := (HKO.out.belowV hb6).cell 0
          have o6l := (HKO.out.belowV hb6).lt
          simp only [List.getElem?_toArray, List.getElem?_cons_zero] at o6
          have zz0 := hrow5.frozen (k * 3)
          have zz1 := hrow5.frozen (k * 3 + 1)
          have zz2 := hrow5.frozen (k * 3 + 2)
          obtain ⟨ee0, ee1, ee2⟩ := hrow5.cell (k := k) hl2' x (HXK.out hl2')
          have hg6 := hrow5.lt
          have HROW5 := Lib.hid hrow5
          clear hw6' y6 s0 s1 s2 sf1 sf2 sl o5 o5l hmx hrow5
          go_upto_region 6 with (fail)
          obtain ⟨W6, hW6⟩ : ∃ W6, W6 = ((w6.setCell ⟨g, k * 3, none⟩ (.string x.name)).setCell ⟨g, k * 3 + 1, none⟩ (.string (x.data.extract 0 (x.safe + q).toNat))).setCell ⟨g, k * 3 + 2, none⟩ (.int .i64 (x.safe + q)) := ⟨_, rfl⟩
          rw [← hW6]
          have hp6 : Part g (g + 1) w6 W6 := by
            rw [hW6]
            refine Part.setCell (lo := g) (hi := g + 1) ?_ ⟨Nat.le_refl g, Nat.lt_succ_self g⟩ _
            refine Part.setCell (lo := g) (hi := g + 1) ?_ ⟨Nat.le_refl g, Nat.lt_succ_self g⟩ _
            refine Part.setCell (lo := g) (hi := g + 1) ?_ ⟨Nat.le_refl g, Nat.lt_succ_self g⟩ _
            exact Part.refl _ _ _
          have hrow6 : RowFil W6 g c2 (crashAt d keep (k + 1)) := by
            have q6 := HROW5.out.put3 hl2' ⟨x.name, x.data.extract 0 (x.safe + q).toNat, x.safe + q⟩
            dsimp only at q6
            rw [hW6, ← HSET.out, HLF]
            exact q6
          have hw6 : Below w.heap.size w W6 := Part.to_below (HB.out.trans (hb6.mono hw)) hp6 (by omega) (Nat.le_refl _)
          have HKP6 := Lib.hid ((HKP.out.belowV hb6).keepV hp6 (by omega))
          have HKR6 := Lib.hid ((HKR.out.belowV hb6).keepV hp6 (by omega))
          have HKO6 := Lib.hid ((HKO.out.belowV hb6).keepV hp6 (by omega))
          have hs6 := hp6.size
          have hs60 := hb6.size
          clear hW6 o6 o6l t0 t1 t2 tl ee0 ee1 ee2
          go_wp2_with fail
          go_roundw
          case rel =>
            have ho := hrow6.own (base := W0.heap.size) hlg hcm2
            rw [crashAt_length (by omega)] at ho
            exact ⟨k + 1, by omega, by go_num, Lib.hid ho, HKP6, HKR6, HKO6, Lib.hid hw6, Lib.hid (by omega)⟩
          case measure => simp [intOf]; omega
        · have hkl1 : ¬ (k : Int) < (keep.length : Int) := by omega
          have hm0 : m = 0 := by rw [HM.out]; simp [List.getD, hkl]
          subst hm0
          have hqz : q = 0 := by rw [HQ.out]; exact brought_zero (by omega)
          subst hqz
          clear hkl
          go_upto_region 11 with (fail)
          obtain ⟨w5, hw5⟩ : ∃ w5, w5 = wr.alloc (.cells #[.string x.name, .string x.data, .int .i64 x.safe] 44) := ⟨_, rfl⟩
          rw [← hw5]
          have hb5 : Below (wr.alloc (.cells #[.string x.name, .string x.data, .int .i64 x.safe] 44)).heap.size (wr.alloc (.cells #[.string x.name, .string x.data, .int .i64 x.safe] 44)) w5 := by rw [hw5]; exact Below.refl _ _
          clear hw5
          have hb5' : Below wr.heap.size wr w5 := Below.trans (by exact (by repeat first | exact Below.refl _ _ | assumption | refine Below.drew ?_ | refine below_drewN ?_ _ | refine Below.calm ?_ (by first | exact Nat.le_refl _ | (simp; done) | (simp; omega) | omega) | refine Below.alloc ?_ (by first | exact Nat.le_refl _ | (simp; done) | (simp; omega) | omega) _ | refine Below.setCell ?_ (by first | exact Nat.le_refl _ | (simp; done) | (simp; omega) | omega) _)) (hb5.mono (by simp))
          have y5 := (Blk.new wr 44 #[.string x.name, .string x.data, .int .i64 x.safe]).belowV hb5
          have s0 := y5.cell 0
          have s1 := y5.cell 1
          have s2 := y5.cell 2
          have sf1 := y5.frozen 1
          have sf2 := y5.frozen 2
          have sl := y5.lt
          simp only [List.getElem?_toArray, List.getElem?_cons_succ, List.getElem?_cons_zero] at s0 s1 s2
          have o5 := (HKO.out.belowV hb5').cell 0
          have o5l := (HKO.out.belowV hb5').lt
          simp only [List.getElem?_toArray, List.getElem?_cons_zero] at o5
          have HY5 := Lib.hid y5
          clear y5
          go_upto_region 13 with (fail)
          have hs5 := hb5'.size
          have hl2' : k < (crashAt d keep k).length := by rw [HOLD.out]; omega
          have HLF : leftF x 0 = ⟨x.name, x.data.extract 0 x.safe.toNat, x.safe⟩ := by rw [HL.out, HY.out]; simp
          have hmx : max x.safe 0 = x.safe := by omega
          rw [hmx]
          obtain ⟨w6, hw6'⟩ : ∃ w6, w6 = (w5.setCell ⟨wr.heap.size, 1, none⟩ (.string (x.data.extract 0 x.safe.toNat))).setCell ⟨wr.heap.size, 2, none⟩ (.int .i64 x.safe) := ⟨_, rfl⟩
          rw [← hw6']
          have hpa : Part wr.heap.size (wr.heap.size + 1) w5 w6 := by
            rw [hw6']
            refine Part.setCell (lo := wr.heap.size) (hi := wr.heap.size + 1) ?_ ⟨Nat.le_refl _, Nat.lt_succ_self _⟩ _
            refine Part.setCell (lo := wr.heap.size) (hi := wr.heap.size + 1) ?_ ⟨Nat.le_refl _, Nat.lt_succ_self _⟩ _
            exact Part.refl _ _ _
          have hp0 : Part wr.heap.size (wr.heap.size + 1) wr w6 := (Part.of_below hb5').trans hpa
          have hb6 : Below wr.heap.size wr w6 := Part.to_below (Below.refl _ _) hp0 (Nat.le_refl _) (Nat.le_refl _)
          have y6 : Blk w6 wr.heap.size 44 #[.string x.name, .string (x.data.extract 0 x.safe.toNat), .int .i64 x.safe] := by rw [hw6']; exact (HY5.out.set_ 1 _).set_ 2 _
          have t0 := y6.cell 0
          have t1 := y6.cell 1
          have t2 := y6.cell 2
          have tl := y6.lt
          simp only [List.getElem?_toArray, List.getElem?_cons_succ, List.getElem?_cons_zero] at t0 t1 t2
          have hrow5 := HROW.out.belowV hb6
          have o6 := (HKO.out.belowV hb6).cell 0
          have o6l := (HKO.out.belowV hb6).lt
          simp only [List.getElem?_toArray, List.getElem?_cons_zero] at o6
          have zz0 := hrow5.frozen (k * 3)
          have zz1 := hrow5.frozen (k * 3 + 1)
          have zz2 := hrow5.frozen (k * 3 + 2)
          obtain ⟨ee0, ee1, ee2⟩ := hrow5.cell (k := k) hl2' x (HXK.out hl2')
          have hg6 := hrow5.lt
          have HROW5 := Lib.hid hrow5
          clear hw6' y6 s0 s1 s2 sf1 sf2 sl o5 o5l hmx hrow5
          go_upto_region 6 with (fail)
          obtain ⟨W6, hW6⟩ : ∃ W6, W6 = ((w6.setCell ⟨g, k * 3, none⟩ (.string x.name)).setCell ⟨g, k * 3 + 1, none⟩ (.string (x.data.extract 0 x.safe.toNat))).setCell ⟨g, k * 3 + 2, none⟩ (.int .i64 x.safe) := ⟨_, rfl⟩
          rw [← hW6]
          have hp6 : Part g (g + 1) w6 W6 := by
            rw [hW6]
            refine Part.setCell (lo := g) (hi := g + 1) ?_ ⟨Nat.le_refl g, Nat.lt_succ_self g⟩ _
            refine Part.setCell (lo := g) (hi := g + 1) ?_ ⟨Nat.le_refl g, Nat.lt_succ_self g⟩ _
            refine Part.setCell (lo := g) (hi := g + 1) ?_ ⟨Nat.le_refl g, Nat.lt_succ_self g⟩ _
            exact Part.refl _ _ _
          have hrow6 : RowFil W6 g c2 (crashAt d keep (k + 1)) := by
            have q6 := HROW5.out.put3 hl2' ⟨x.name, x.data.extract 0 x.safe.toNat, x.safe⟩
            dsimp only at q6
            rw [hW6, ← HSET.out, HLF]
            exact q6
          have hw6 : Below w.heap.size w W6 := Part.to_below (HB.out.trans (hb6.mono hw)) hp6 (by omega) (Nat.le_refl _)
          have HKP6 := Lib.hid ((HKP.out.belowV hb6).keepV hp6 (by omega))
          have HKR6 := Lib.hid ((HKR.out.belowV hb6).keepV hp6 (by omega))
          have HKO6 := Lib.hid ((HKO.out.belowV hb6).keepV hp6 (by omega))
          have hs6 := hp6.size
          have hs60 := hb6.size
          clear hW6 o6 o6l t0 t1 t2 tl ee0 ee1 ee2
          go_wp2_with fail
          go_roundw
          case rel =>
            have ho := hrow6.own (base := W0.heap.size) hlg hcm2
            rw [crashAt_length (by omega)] at ho
            exact ⟨k + 1, by omega, by go_num, Lib.hid ho, HKP6, HKR6, HKO6, Lib.hid hw6, Lib.hid (by omega)⟩
          case measure => simp [intOf]; omega
      · have hkd : k = d.length := by omega
        subst hkd
        have hok5 := okF_crash HRD.out.2 keep d.length
        have how := HOW.out
        rw [crashAt_end] at how hok5
        have HH := Lib.hid how
        have HH5 := Lib.hid hok5
        clear how hok5
        go_wp2_with fail
        refine bodyPost_ret (v := .agg #[.slice A2 d.length c2]) (by simp [results, Try.results21, go_sem, r4, r4f]) rfl ?_
        rw [HCR.out]
        refine ⟨_, rfl, ?_, HB.out.setCell (by simp) _⟩
        have ho := OwnS.of_own HH.out
        rw [if_pos trivial]
        have hk2 := OwnS.keep ho ((Part.refl (w.heap.size + 1) (w.heap.size + 2) wr).setCell (p := ⟨w.heap.size + 1, 0, none⟩) ⟨Nat.le_refl _, Nat.lt_succ_self _⟩ (.slice A2 d.length c2)) (.inr (by omega))
        have hq := OwnS.mono (lo' := w.heap.size) (hi' := (wr.setCell ⟨w.heap.size + 1, 0, none⟩ (.slice A2 d.length c2)).heap.size) hk2 (by omega) hk2.2.1 (Nat.le_refl _)
        refine ⟨?_, HH5.out⟩
        rw [crashL_length]
        exact hq
theorem crashedR_length (d : List Fil) (keep : List Int) : (crashedR d keep).length = d.length := by
  unfold crashedR
  split
  · exact crashL_length d keep
  · rfl
end Go.Proofs.Ythjkmefbjbfonaa

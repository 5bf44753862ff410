/- Crashed of the program. -/
import Derived.Test.YthjkmefbjbfonaaCrashP
import Derived.Test.YthjkmefbjbfonaaIntsK
import Derived.Deep.Cut
namespace Go.Proofs.Ythjkmefbjbfonaa
set_option linter.unusedSimpArgs false
set_option linter.unusedVariables false
open Go.RowKit Go.ChangeShapes Go.Deep

theorem RowFil.put3 {w : World} {g cap : Nat} {l : List Fil} (h : RowFil w g cap l) {k : Nat} (hk : k < l.length) (y : Fil) :
    RowFil (((w.setCell ⟨g, k * 3, none⟩ (.string y.name)).setCell ⟨g, k * 3 + 1, none⟩ (.string y.data)).setCell ⟨g, k * 3 + 2, none⟩ (.int .i64 y.safe)) g cap (l.set k y) := by
  have h1 := h.put hk 0 (by decide) ⟨y.name, l[k].data, l[k].safe⟩ (.string y.name) rfl (fun i hi hne => by
    match i, hi, hne with
    | 1, _, _ => rfl
    | 2, _, _ => rfl)
  have h2 := h1.put (k := k) (by rw [List.length_set]; exact hk) 1 (by decide) ⟨y.name, y.data, l[k].safe⟩ (.string y.data) rfl (fun i hi hne => by
    rw [List.getElem_set_self]
    match i, hi, hne with
    | 0, _, _ => rfl
    | 2, _, _ => rfl)
  rw [List.set_set] at h2
  have h3 := h2.put (k := k) (by rw [List.length_set]; exact hk) 2 (by decide) y (.int .i64 y.safe) rfl (fun i hi hne => by
    rw [List.getElem_set_self]
    match i, hi, hne with
    | 0, _, _ => rfl
    | 1, _, _ => rfl
    | 2, _, h2 => exact absurd rfl h2)
  rw [List.set_set] at h3
  exact h3
theorem okF_crash {d : List Fil} (h : okF d) (keep : List Int) (k : Nat) : okF (crashAt d keep k) := by
  intro f hf
  unfold crashAt at hf
  rcases List.mem_append.1 hf with hf | hf
  · have hf := List.mem_of_mem_take hf
    obtain ⟨i, hi, rfl⟩ := List.mem_iff_getElem.1 hf
    have hi' : i < d.length := by rwa [crashL_length] at hi
    rw [crashL_at hi']
    obtain ⟨h1, h2⟩ := h _ (List.getElem_mem hi')
    refine ⟨h1, ?_⟩
    show (d[i].data.extract 0 _).size ≤ _
    rw [ByteArray.size_extract]
    omega
  · exact h f (List.mem_of_mem_drop hf)
set_option maxHeartbeats 16000000 in
set_option maxRecDepth 100000 in
theorem crashed_impl (v : Value) (d : List Fil) (v' : Value) (keep : List Int) (w : World) (h : Rd_disk w v d) (h' : Rd w 1 v' keep.length (intsV keep)) (hn : cost_disk d ≤ 1048576) (hnk : keep.length ≤ 1048576) :
    Calls Try.prog 19 #[.agg #[v], v'] w (GivesD (crashedR d keep) w) := by
  unfold cost_disk at hn
  have HRD := Lib.hid h
  have HRK := Lib.hid h'
  obtain ⟨A, c, rfl, hnc, hcm⟩ := h.1.shape
  obtain ⟨A', c', rfl, hnc', hcm'⟩ := h'.shape
  unfold maxLen at hcm hcm'
  have COK := Lib.hid (fun W (hW : Below w.heap.size w W) => diskOk_impl (.slice A d.length c) d W (HRD.out.below hW) (by omega))
  clear h h'
  obtain ⟨W0, hW0⟩ : ∃ W0, W0 = (w.alloc (.cells #[.slice A d.length c] 37)).alloc (.cells #[.slice none 0 0] 37) := ⟨_, rfl⟩
  have HW := Lib.hid hW0
  have k0 : Blk W0 w.heap.size 37 #[.slice A d.length c] := by rw [hW0]; exact (Blk.new _ _ _).alloc _
  have k1 : Blk W0 (w.heap.size + 1) 37 #[.slice none 0 0] := by
    have q := Blk.new (w.alloc (.cells #[.slice A d.length c] 37)) 37 #[.slice none 0 0]
    rw [show (w.alloc (.cells #[.slice A d.length c] 37)).heap.size = w.heap.size + 1 by simp] at q
    rw [hW0]; exact q
  have hb0 : Below w.heap.size w W0 := by rw [hW0]; exact (by repeat first | exact Below.refl _ _ | assumption | refine Below.drew ?_ | refine below_drewN ?_ _ | refine Below.calm ?_ (by first | exact Nat.le_refl _ | (simp; done) | (simp; omega) | omega) | refine Below.alloc ?_ (by first | exact Nat.le_refl _ | (simp; done) | (simp; omega) | omega) _ | refine Below.setCell ?_ (by first | exact Nat.le_refl _ | (simp; done) | (simp; omega) | omega) _)
  have hs0 := k1.lt
  have HK0 := Lib.hid k0
  have HK1 := Lib.hid k1
  clear k0 k1 hW0
  have HDD := Lib.hid (show diskOkR d = true → ∀ f ∈ d, f.data.size ≤ 60000 ∧ 0 ≤ f.safe ∧ f.safe ≤ f.data.size from fun h f hf => by
    obtain ⟨q1, q2, q3, q4⟩ := diskOk_mem h f hf
    exact ⟨q1, q2, q3⟩)
  have HCR := Lib.hid (show crashedR d keep = if diskOkR d then crashL d keep else d from rfl)
  cases hD : diskOkR d with
  | false =>
    rw [hD] at COK HCR
    clear hD HDD
    go_enter Try.func19, Try.ntmps19
    go_wp2_with fail
    rw [← HW.out]
    refine (copyDisk_any _ d W0 (HRD.out.below hb0) (by omega)).mono ?_
    rintro e w2 ⟨u2, rfl, ho2, hb2⟩
    obtain ⟨A2, c2, rfl⟩ := ho2.form
    have HO2 := Lib.hid ho2
    have hw2 := hb0.trans (hb2.mono hb0.size)
    have x2 := HK0.out.belowV hb2
    have p2 := x2.cell 0
    simp only [List.getElem?_toArray, List.getElem?_cons_zero] at p2
    have l2 := x2.lt
    have HK02 := Lib.hid x2
    have HK12 := Lib.hid (HK1.out.belowV hb2)
    have hs2 := HK12.out.lt
    clear ho2 x2
    go_wp2_with fail
    refine (COK.out _ (hw2.alloc hw2.size _)).mono ?_
    rintro e w3 ⟨rfl, hb3⟩
    have hb3' : Below w2.heap.size w2 w3 := Below.trans (by exact (by repeat first | exact Below.refl _ _ | assumption | refine Below.drew ?_ | refine below_drewN ?_ _ | refine Below.calm ?_ (by first | exact Nat.le_refl _ | (simp; done) | (simp; omega) | omega) | refine Below.alloc ?_ (by first | exact Nat.le_refl _ | (simp; done) | (simp; omega) | omega) _ | refine Below.setCell ?_ (by first | exact Nat.le_refl _ | (simp; done) | (simp; omega) | omega) _)) (hb3.mono (by simp))
    have hsa := hb2.size
    have hsb := hb3'.size
    have hw3 := hw2.trans (hb3'.mono hw2.size)
    have HK03 := Lib.hid (HK02.out.belowV hb3')
    have HK13 := Lib.hid (HK12.out.belowV hb3')
    have HO3 := Lib.hid (Own_disk.below HO2.out hb3')
    have HKO3 := Lib.hid ((Blk.new w2 37 #[.slice A2 d.length c2]).belowV hb3)
    have hs3 := HKO3.out.lt
    have q3 := HKO3.out.cell 0
    simp only [List.getElem?_toArray, List.getElem?_cons_zero] at q3
    have p3 := HK03.out.cell 0
    have p3l := HK03.out.lt
    have r3 := HK13.out.cell 0
    have r3f := HK13.out.frozen 0
    simp only [List.getElem?_toArray, List.getElem?_cons_zero] at p3 r3
    clear p2 l2
    go_wp2_with fail
    refine bodyPost_ret (v := .agg #[.slice A2 d.length c2]) (by simp [results, Try.results19, go_sem, r3, r3f]) rfl ?_
    rw [HCR.out]
    refine ⟨_, rfl, ?_, hw3.setCell (by simp) _⟩
    have hk := Own_disk.keep HO3.out ((Part.refl (w.heap.size + 1) (w.heap.size + 2) w3).setCell (p := ⟨w.heap.size + 1, 0, none⟩) ⟨Nat.le_refl _, Nat.lt_succ_self _⟩ (.slice A2 d.length c2)) (.inr (by omega))
    exact ⟨OwnS.mono hk.1 (by omega) (by have := hk.1.2.1; exact Nat.le_trans hsb (by simp [World.setCell])) (Nat.le_refl _), hk.2⟩
  | true =>
    have HDM := Lib.hid (HDD.out hD)
    rw [hD] at COK HCR
    clear hD HDD
    go_enter Try.func19, Try.ntmps19
    go_wp2_with fail
    rw [← HW.out]
    refine (copyDisk_any _ d W0 (HRD.out.below hb0) (by omega)).mono ?_
    rintro e w2 ⟨u2, rfl, ho2, hb2⟩
    obtain ⟨A2, c2, rfl⟩ := ho2.form
    have HO2 := Lib.hid ho2
    have hw2 := hb0.trans (hb2.mono hb0.size)
    have x2 := HK0.out.belowV hb2
    have p2 := x2.cell 0
    simp only [List.getElem?_toArray, List.getElem?_cons_zero] at p2
    have l2 := x2.lt
    have HK02 := Lib.hid x2
    have HK12 := Lib.hid (HK1.out.belowV hb2)
    have hs2 := HK12.out.lt
    clear ho2 x2
    go_wp2_with fail
    refine (COK.out _ (hw2.alloc hw2.size _)).mono ?_
    rintro e w3 ⟨rfl, hb3⟩
    have hb3' : Below w2.heap.size w2 w3 := Below.trans (by exact (by repeat first | exact Below.refl _ _ | assumption | refine Below.drew ?_ | refine below_drewN ?_ _ | refine Below.calm ?_ (by first | exact Nat.le_refl _ | (simp; done) | (simp; omega) | omega) | refine Below.alloc ?_ (by first | exact Nat.le_refl _ | (simp; done) | (simp; omega) | omega) _ | refine Below.setCell ?_ (by first | exact Nat.le_refl _ | (simp; done) | (simp; omega) | omega) _)) (hb3.mono (by simp))
    have hsa := hb2.size
    have hsb := hb3'.size
    have hw3 := hw2.trans (hb3'.mono hw2.size)
    have HK03 := Lib.hid (HK02.out.belowV hb3')
    have HK13 := Lib.hid (HK12.out.belowV hb3')
    have HO3 := Lib.hid (Own_disk.below HO2.out hb3')
    have HKO3 := Lib.hid ((Blk.new w2 37 #[.slice A2 d.length c2]).belowV hb3)
    have hs3 := HKO3.out.lt
    have q3 := HKO3.out.cell 0
    simp only [List.getElem?_toArray, List.getElem?_cons_zero] at q3
    have p3 := HK03.out.cell 0
    have p3l := HK03.out.lt
    have r3 := HK13.out.cell 0
    have r3f := HK13.out.frozen 0
    simp only [List.getElem?_toArray, List.getElem?_cons_zero] at p3 r3
    clear p2 l2
    go_wp2_with fail
    go_loopw [19] (fun i wr => ∃ k : Nat, k ≤ d.length ∧ i = .int .i64 k ∧ Hid (wr.ownsRow W0.heap.size 44 3 (.slice A2 d.length c2) d.length (filV (crashAt d keep k))) ∧ Hid (Blk wr w.heap.size 37 #[.slice A d.length c]) ∧ Hid (Blk wr (w.heap.size + 1) 37 #[.slice none 0 0]) ∧ Hid (Blk wr w2.heap.size 37 #[.slice A2 d.length c2]) ∧ Hid (Below w.heap.size w wr) ∧ Hid (w3.heap.size ≤ wr.heap.size)) (fun i _ => d.length - (intOf i).toNat)
    case atStart => exact ⟨0, Nat.zero_le _, rfl, Lib.hid (by rw [crashAt_zero]; exact HO3.out.1.1), HK03, HK13, HKO3, Lib.hid hw3, Lib.hid (Nat.le_refl _)⟩
    case round =>
      obtain ⟨k, hk, rfl, HOW, HKP, HKR, HKO, HB, HSZ⟩ := hrel
      have hw := HB.out.size
      have hsz := HSZ.out
      have q4 := HKO.out.cell 0
      have q4l := HKO.out.lt
      have r4 := HKR.out.cell 0
      have r4f := HKR.out.frozen 0
      simp only [List.getElem?_toArray, List.getElem?_cons_zero] at q4 r4
      clear p3 q3 r3 r3f
      by_cases hlt : k < d.length
      · skip
        obtain ⟨b1, o1, _, hv1, _, _, hl1, hc1⟩ := HRD.out.1.form (by omega) (by omega)
        have hA1 : A = some ⟨b1, o1, none⟩ := by injection hv1
        subst hA1
        obtain ⟨x, hx⟩ : ∃ x, x = d[k] := ⟨_, rfl⟩
        have hxm : x ∈ d := by rw [hx]; exact List.getElem_mem hlt
        obtain ⟨hx1, hx2, hx3⟩ := HDM.out x hxm
        have hl := crashAt_length (d := d) (keep := keep) (i := k) (by omega)
        have hown := HOW.out
        rw [show wr.ownsRow W0.heap.size 44 3 (.slice A2 d.length c2) d.length (filV (crashAt d keep k)) = wr.ownsRow W0.heap.size 44 3 (.slice A2 d.length c2) (crashAt d keep k).length (filV (crashAt d keep k)) by rw [hl]] at hown
        obtain ⟨g, cap, hgv, hlg, hcm2, hcap2, hrow⟩ := RowFil.of_own hown (by omega)
        have gc : g ≠ w2.heap.size := fun e => by
          have q := own_blk_ne hown HKO.out (by decide)
          rw [hgv] at q
          exact q (by rw [← e]; rfl)
        rw [hl] at hgv
        injection hgv with hA2 _ hC2
        subst hA2 hC2
        have gb : ¬ w2.heap.size = g := fun e => gc e.symm
        have HROW := Lib.hid hrow
        have hglt := hrow.lt
        have hxk : x = (crashAt d keep k)[k]'(by rw [hl]; exact hlt) := by rw [crashAt_get hlt]; exact hx
        have HSET := Lib.hid (show (crashAt d keep k).set k (leftF x (keep.getD k 0)) = crashAt d keep (k + 1) by rw [hx]; exact crashAt_set hlt)
        obtain ⟨e0, e1, e2⟩ := hrow.cell (k := k) (by rw [hl]; exact hlt) x hxk
        have z0 := hrow.frozen (k * 3)
        have z1 := hrow.frozen (k * 3 + 1)
        have z2 := hrow.frozen (k * 3 + 2)
        have hk1 : (k : Int) < (d.length : Int) := by omega
        have hk0 : (0 : Int) ≤ (k : Int) := by omega
        obtain ⟨m, hm⟩ : ∃ m, m = keep.getD k 0 := ⟨_, rfl⟩
        rw [← hm] at HSET
        obtain ⟨q, hq⟩ : ∃ q, q = broughtR m 0 ((x.data.size : Int) - x.safe) := ⟨_, rfl⟩
        have hqb : 0 ≤ q ∧ q ≤ (x.data.size : Int) - x.safe := by rw [hq]; exact brought_in (by omega)
        obtain ⟨hq0, hq1⟩ := hqb
        have CB := Lib.hid (fun W => brought_impl m 0 ((x.data.size : Int) - x.safe) W)
        rw [← hq] at CB
        obtain ⟨y, hy⟩ : ∃ y, y = x.data.extract 0 (x.safe + q).toNat := ⟨_, rfl⟩
        have hys : (y.size : Int) = x.safe + q := by rw [hy, ByteArray.size_extract]; omega
        have HL := Lib.hid (show leftF x m = ⟨x.name, y, x.safe + q⟩ by rw [hy, hq]; rfl)
        have HY := Lib.hid hy
        have HYS := Lib.hid hys
        have HQ := Lib.hid hq
        have HM := Lib.hid hm
        have w1 : IntKind.i64.wrap (x.safe + q) = x.safe + q := IntWalk.i64_in _ (by omega)
        have w2' : IntKind.i64.wrap ((x.data.size : Int) - x.safe) = (x.data.size : Int) - x.safe := IntWalk.i64_in _ (by omega)
        have hn0 : 0 ≤ x.safe + q := by omega
        have hn1 : x.safe + q ≤ (x.data.size : Int) := by omega
        have g1 : ¬ g = w.heap.size := by omega
        have g2 : ¬ g = w.heap.size + 1 := by omega
        have g3 : ¬ g = wr.heap.size := by omega
        have g4 : ¬ wr.heap.size = g := by omega
        have g5 : ¬ w2.heap.size = wr.heap.size := by omega
        have HOLD := Lib.hid hl
        have HXK := Lib.hid (show ∀ h : k < (crashAt d keep k).length, x = (crashAt d keep k)[k] from fun _ => hxk)
        obtain ⟨d0, d1, d2⟩ := fil_cells HB.out hl1 hc1 hlt x hx
        have hb1l : b1 < wr.heap.size := Nat.lt_of_lt_of_le hl1 hw
        clear hx hxk hv1 hc1 hown hrow hm hq hy hys hl hxm
        by_cases hkl : k < keep.length
        · skip
          obtain ⟨b2, o2, _, hv2, _, _, hl2, hc2⟩ := HRK.out.form (by omega) (by omega)
          have hA3 : A' = some ⟨b2, o2, none⟩ := by injection hv2
          subst hA3
          have m0 := int_cell HB.out hl2 hc2 hkl m (by rw [HM.out]; simp [List.getD, hkl])
          have hb2l : b2 < wr.heap.size := Nat.lt_of_lt_of_le hl2 hw
          have hkl1 : (k : Int) < (keep.length : Int) := by omega
          clear hv2 hc2 hkl
          go_upto_region 10 with (fail)
          first | refine wp_region_calm_on (by kernel_rfl) (by kernel_rfl) ?_ | refine wp_region_calm_lit (by kernel_rfl) (by kernel_rfl) ?_
          repeat (go_big_quiet_step ((go_at_call 63; exact calm_of (CB.out _))))
          refine wpQuiet_nil ?_
          intro _ hw'
          obtain ⟨k1, hw''⟩ := hw'
          subst hw''
          go_wp2_with fail
          go_still_tail 12, (by kernel_rfl)
          go_upto_region 12 with (fail)
          obtain ⟨w5, hb5, hkw⟩ := k1.out
          have hb5' : Below wr.heap.size wr w5 := Below.trans (by exact (by repeat first | exact Below.refl _ _ | assumption | refine Below.drew ?_ | refine below_drewN ?_ _ | refine Below.calm ?_ (by first | exact Nat.le_refl _ | (simp; done) | (simp; omega) | omega) | refine Below.alloc ?_ (by first | exact Nat.le_refl _ | (simp; done) | (simp; omega) | omega) _ | refine Below.setCell ?_ (by first | exact Nat.le_refl _ | (simp; done) | (simp; omega) | omega) _)) (hb5.mono (by simp))
          rw [hkw]
          clear hkw
          have hs5 := hb5'.size
          have hrow5 := HROW.out.belowV hb5'
          have hl2' : k < (crashAt d keep k).length := by rw [HOLD.out]; omega
          have HLF : leftF x m = ⟨x.name, x.data.extract 0 (x.safe + q).toNat, x.safe + q⟩ := by rw [HL.out, HY.out]
          obtain ⟨W6, hW6⟩ : ∃ W6, W6 = (((w5.setCell ⟨g, k * 3, none⟩ (.string x.name)).setCell ⟨g, k * 3 + 1, none⟩ (.string (x.data.extract 0 (x.safe + q).toNat))).setCell ⟨g, k * 3 + 2, none⟩ (.int .i64 (x.safe + q))).drew := ⟨_, rfl⟩
          rw [← hW6]
          have hp6 : Part g (g + 1) w5 W6 := by
            rw [hW6]
            refine Part.drew ?_
            refine Part.setCell (lo := g) (hi := g + 1) ?_ ⟨Nat.le_refl g, Nat.lt_succ_self g⟩ _
            refine Part.setCell (lo := g) (hi := g + 1) ?_ ⟨Nat.le_refl g, Nat.lt_succ_self g⟩ _
            refine Part.setCell (lo := g) (hi := g + 1) ?_ ⟨Nat.le_refl g, Nat.lt_succ_self g⟩ _
            exact Part.refl _ _ _
          have hrow6 : RowFil W6 g c2 (crashAt d keep (k + 1)) := by
            have q6 := hrow5.put3 hl2' ⟨x.name, x.data.extract 0 (x.safe + q).toNat, x.safe + q⟩
            dsimp only at q6
            rw [hW6, ← HSET.out, HLF]
            exact RowFil.of_block q6 rfl
          have hw6 : Below w.heap.size w W6 := Part.to_below (HB.out.trans (hb5'.mono hw)) hp6 (by omega) (Nat.le_refl _)
          have HKP6 := Lib.hid ((HKP.out.belowV hb5').keepV hp6 (by omega))
          have HKR6 := Lib.hid ((HKR.out.belowV hb5').keepV hp6 (by omega))
          have HKO6 := Lib.hid ((HKO.out.belowV hb5').keepV hp6 (by omega))
          have hs6 := hp6.size
          clear hW6
          go_wp2_with fail
          go_roundw
          case rel =>
            have ho := hrow6.own (base := W0.heap.size) hlg hcm2
            rw [crashAt_length (by omega)] at ho
            exact ⟨k + 1, by omega, by go_num, Lib.hid ho, HKP6, HKR6, HKO6, Lib.hid hw6, Lib.hid (by omega)⟩
          case measure => simp [intOf]; omega
        · have hkl1 : ¬ (k : Int) < (keep.length : Int) := by omega
          have hm0 : m = 0 := by rw [HM.out]; simp [List.getD, hkl]
          subst hm0
          clear hkl
          go_upto_region 10 with (fail)
          first | refine wp_region_calm_on (by kernel_rfl) (by kernel_rfl) ?_ | refine wp_region_calm_lit (by kernel_rfl) (by kernel_rfl) ?_
          repeat (go_big_quiet_step ((go_at_call 63; exact calm_of (CB.out _))))
          refine wpQuiet_nil ?_
          intro _ hw'
          obtain ⟨k1, hw''⟩ := hw'
          subst hw''
          go_wp2_with fail
          go_still_tail 12, (by kernel_rfl)
          go_upto_region 12 with (fail)
          obtain ⟨w5, hb5, hkw⟩ := k1.out
          have hb5' : Below wr.heap.size wr w5 := Below.trans (by exact (by repeat first | exact Below.refl _ _ | assumption | refine Below.drew ?_ | refine below_drewN ?_ _ | refine Below.calm ?_ (by first | exact Nat.le_refl _ | (simp; done) | (simp; omega) | omega) | refine Below.alloc ?_ (by first | exact Nat.le_refl _ | (simp; done) | (simp; omega) | omega) _ | refine Below.setCell ?_ (by first | exact Nat.le_refl _ | (simp; done) | (simp; omega) | omega) _)) (hb5.mono (by simp))
          rw [hkw]
          clear hkw
          have hs5 := hb5'.size
          have hrow5 := HROW.out.belowV hb5'
          have hl2' : k < (crashAt d keep k).length := by rw [HOLD.out]; omega
          have HLF : leftF x 0 = ⟨x.name, x.data.extract 0 (x.safe + q).toNat, x.safe + q⟩ := by rw [HL.out, HY.out]
          obtain ⟨W6, hW6⟩ : ∃ W6, W6 = (((w5.setCell ⟨g, k * 3, none⟩ (.string x.name)).setCell ⟨g, k * 3 + 1, none⟩ (.string (x.data.extract 0 (x.safe + q).toNat))).setCell ⟨g, k * 3 + 2, none⟩ (.int .i64 (x.safe + q))).drew := ⟨_, rfl⟩
          rw [← hW6]
          have hp6 : Part g (g + 1) w5 W6 := by
            rw [hW6]
            refine Part.drew ?_
            refine Part.setCell (lo := g) (hi := g + 1) ?_ ⟨Nat.le_refl g, Nat.lt_succ_self g⟩ _
            refine Part.setCell (lo := g) (hi := g + 1) ?_ ⟨Nat.le_refl g, Nat.lt_succ_self g⟩ _
            refine Part.setCell (lo := g) (hi := g + 1) ?_ ⟨Nat.le_refl g, Nat.lt_succ_self g⟩ _
            exact Part.refl _ _ _
          have hrow6 : RowFil W6 g c2 (crashAt d keep (k + 1)) := by
            have q6 := hrow5.put3 hl2' ⟨x.name, x.data.extract 0 (x.safe + q).toNat, x.safe + q⟩
            dsimp only at q6
            rw [hW6, ← HSET.out, HLF]
            exact RowFil.of_block q6 rfl
          have hw6 : Below w.heap.size w W6 := Part.to_below (HB.out.trans (hb5'.mono hw)) hp6 (by omega) (Nat.le_refl _)
          have HKP6 := Lib.hid ((HKP.out.belowV hb5').keepV hp6 (by omega))
          have HKR6 := Lib.hid ((HKR.out.belowV hb5').keepV hp6 (by omega))
          have HKO6 := Lib.hid ((HKO.out.belowV hb5').keepV hp6 (by omega))
          have hs6 := hp6.size
          clear hW6
          go_wp2_with fail
          go_roundw
          case rel =>
            have ho := hrow6.own (base := W0.heap.size) hlg hcm2
            rw [crashAt_length (by omega)] at ho
            exact ⟨k + 1, by omega, by go_num, Lib.hid ho, HKP6, HKR6, HKO6, Lib.hid hw6, Lib.hid (by omega)⟩
          case measure => simp [intOf]; omega
      · have hkd : k = d.length := by omega
        subst hkd
        have hok5 := okF_crash HRD.out.2 keep d.length
        have how := HOW.out
        rw [crashAt_end] at how hok5
        have HH := Lib.hid how
        have HH5 := Lib.hid hok5
        clear how hok5
        go_wp2_with fail
        refine bodyPost_ret (v := .agg #[.slice A2 d.length c2]) (by simp [results, Try.results19, go_sem, r4, r4f]) rfl ?_
        rw [HCR.out]
        refine ⟨_, rfl, ?_, HB.out.setCell (by simp) _⟩
        have ho := OwnS.of_own HH.out
        rw [if_pos trivial]
        have hk2 := OwnS.keep ho ((Part.refl (w.heap.size + 1) (w.heap.size + 2) wr).setCell (p := ⟨w.heap.size + 1, 0, none⟩) ⟨Nat.le_refl _, Nat.lt_succ_self _⟩ (.slice A2 d.length c2)) (.inr (by omega))
        have hq := OwnS.mono (lo' := w.heap.size) (hi' := (wr.setCell ⟨w.heap.size + 1, 0, none⟩ (.slice A2 d.length c2)).heap.size) hk2 (by omega) hk2.2.1 (Nat.le_refl _)
        refine ⟨?_, HH5.out⟩
        rw [crashL_length]
        exact hq
end Go.Proofs.Ythjkmefbjbfonaa

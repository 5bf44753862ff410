/- CutFile, the program's and the reference's. -/
import Derived.Test.YthjkmefbjbfonaaSync
namespace Go.Proofs.Ythjkmefbjbfonaa
set_option linter.unusedSimpArgs false
open Go.RowKit Go.ChangeShapes Go.Deep

def cutTo (x : Fil) (m : Int) : Fil := ⟨x.name, x.data.extract 0 m.toNat, m⟩
def cutFileR1 (d : List Fil) (nm : ByteArray) (m : Int) : Bool := if h : atF nm d < d.length then diskOkR d && inB m 0 d[atF nm d].data.size else false
def cutFileR0 (d : List Fil) (nm : ByteArray) (m : Int) : List Fil := if h : atF nm d < d.length then (if cutFileR1 d nm m then d.set (atF nm d) (cutTo d[atF nm d] m) else d) else d
theorem cutFileR0_length (d : List Fil) (nm : ByteArray) (m : Int) : (cutFileR0 d nm m).length = d.length := by
  unfold cutFileR0
  split
  · split
    · simp
    · rfl
  · rfl

set_option maxHeartbeats 4000000 in
set_option maxRecDepth 100000 in
theorem cutFile_impl (v : Value) (d : List Fil) (nm : ByteArray) (m : Int) (w : World) (h : Rd_disk w v d) (hn : cost_disk d ≤ 1048576) (_ : nm.size ≤ 1048576) :
    Calls Try.prog 37 #[.agg #[v], .string nm, .int .i64 m] w (GivesDB (cutFileR0 d nm m) (cutFileR1 d nm m) w) := by
  unfold cost_disk at hn
  have HRD := Lib.hid h
  obtain ⟨A, c, rfl, hnc, hcm⟩ := h.1.shape
  unfold maxLen at hcm
  have CAT := Lib.hid (fun W (hW : Below w.heap.size w W) => fileAt_any (.slice A d.length c) d nm W (HRD.out.below hW) (by omega))
  have COK := Lib.hid (fun W (hW : Below w.heap.size w W) => diskOk_impl (.slice A d.length c) d W (HRD.out.below hW) (by omega))
  clear h
  by_cases ha : atF nm d < d.length
  rotate_left
  · have HE0 := Lib.hid (show cutFileR0 d nm m = d by rw [cutFileR0, dif_neg ha])
    have HE1 := Lib.hid (show cutFileR1 d nm m = false by rw [cutFileR1, dif_neg ha])
    have hat : atR nm d = -1 := by rw [atR, if_neg ha]
    rw [hat] at CAT
    clear hat ha
    go_enter Try.func37, Try.ntmps37
    go_wp2_with fail
    refine (copyDisk_any _ d _ (HRD.out.below (by exact (by repeat first | exact Below.refl _ _ | assumption | refine Below.drew ?_ | refine below_drewN ?_ _ | refine Below.calm ?_ (by first | exact Nat.le_refl _ | (simp; done) | (simp; omega) | omega) | refine Below.alloc ?_ (by first | exact Nat.le_refl _ | (simp; done) | (simp; omega) | omega) _ | refine Below.setCell ?_ (by first | exact Nat.le_refl _ | (simp; done) | (simp; omega) | omega) _))) (by omega)).mono ?_
    rintro e w1 ⟨u, rfl, ho, hb1⟩
    obtain ⟨A2, c2, rfl⟩ := ho.form
    have HOW := Lib.hid ho
    have hw1 : Below w.heap.size w w1 := Below.trans (by exact (by repeat first | exact Below.refl _ _ | assumption | refine Below.drew ?_ | refine below_drewN ?_ _ | refine Below.calm ?_ (by first | exact Nat.le_refl _ | (simp; done) | (simp; omega) | omega) | refine Below.alloc ?_ (by first | exact Nat.le_refl _ | (simp; done) | (simp; omega) | omega) _ | refine Below.setCell ?_ (by first | exact Nat.le_refl _ | (simp; done) | (simp; omega) | omega) _)) (hb1.mono (by simp; omega))
    have HP := Lib.hid (show Blk w1 w.heap.size 37 #[.slice A d.length c] from ((Blk.new w 37 #[.slice A d.length c]).alloc (.cells #[.slice none 0 0] 37)).belowV hb1)
    have HR := Lib.hid (show Blk w1 (w.heap.size + 1) 37 #[.slice none 0 0] from by
      have q := (Blk.new (w.alloc (.cells #[.slice A d.length c] 37)) 37 #[.slice none 0 0]).belowV hb1
      rwa [show (w.alloc (.cells #[.slice A d.length c] 37)).heap.size = w.heap.size + 1 by simp] at q)
    have hsz1 := HR.out.lt
    have hsz0 := HP.out.lt
    clear ho
    have p0 := HP.out.cell 0
    have r0 := HR.out.cell 0
    simp only [List.getElem?_toArray, List.getElem?_cons_zero] at p0 r0
    go_wp2_with fail
    clear p0 r0
    refine (CAT.out _ (hw1.alloc hw1.size _)).mono ?_
    rintro e w2 ⟨rfl, hb2⟩
    have hb2' : Below w1.heap.size w1 w2 := Below.trans (by exact (by repeat first | exact Below.refl _ _ | assumption | refine Below.drew ?_ | refine below_drewN ?_ _ | refine Below.calm ?_ (by first | exact Nat.le_refl _ | (simp; done) | (simp; omega) | omega) | refine Below.alloc ?_ (by first | exact Nat.le_refl _ | (simp; done) | (simp; omega) | omega) _ | refine Below.setCell ?_ (by first | exact Nat.le_refl _ | (simp; done) | (simp; omega) | omega) _)) (hb2.mono (by simp))
    have hw2 := hw1.trans (hb2'.mono hw1.size)
    have HP2 := Lib.hid (HP.out.belowV hb2')
    have HR2 := Lib.hid (HR.out.belowV hb2')
    have HO2 := Lib.hid ((Blk.new w1 37 #[.slice A2 d.length c2]).belowV hb2)
    have HOW2 := Lib.hid (Own_disk.below HOW.out hb2')
    have hsz2 := HO2.out.lt
    have p0 := HP2.out.cell 0
    have r0 := HR2.out.cell 0
    have r1 := HR2.out.frozen 0
    have o0 := HO2.out.cell 0
    simp only [List.getElem?_toArray, List.getElem?_cons_zero] at p0 r0 o0
    go_wp2_with fail
    refine bodyPost_ret (v := .tuple #[.agg #[.slice A2 d.length c2], .bool false]) (by simp [results, Try.results37, go_sem, r0, r1, o0]) rfl ?_
    rw [HE0.out, HE1.out]
    refine ⟨_, rfl, ?_, hw2.setCell (by simp) _⟩
    have hk := Own_disk.keep HOW2.out ((Part.refl (w.heap.size + 1) (w.heap.size + 2) w2).setCell (p := ⟨w.heap.size + 1, 0, none⟩) ⟨Nat.le_refl _, Nat.lt_succ_self _⟩ (.slice A2 d.length c2)) (.inr (by simp))
    exact ⟨OwnS.mono hk.1 (by simp; try omega) (by have := hk.1.2.1; exact this) (Nat.le_refl _), hk.2⟩
  · have hat : atR nm d = (atF nm d : Int) := by rw [atR, if_pos ha]
    rw [hat] at CAT
    clear hat
    cases hD : diskOkR d with
    | false =>
      have HE1 := Lib.hid (show cutFileR1 d nm m = false by rw [cutFileR1, dif_pos ha, hD]; rfl)
      have HE0 := Lib.hid (show cutFileR0 d nm m = d by rw [cutFileR0, dif_pos ha, HE1.out]; rfl)
      rw [hD] at COK
      clear hD
      obtain ⟨k, hk⟩ : ∃ k, k = atF nm d := ⟨_, rfl⟩
      rw [← hk] at CAT ha
      clear hk
      go_enter Try.func37, Try.ntmps37
      go_wp2_with fail
      refine (copyDisk_any _ d _ (HRD.out.below (by exact (by repeat first | exact Below.refl _ _ | assumption | refine Below.drew ?_ | refine below_drewN ?_ _ | refine Below.calm ?_ (by first | exact Nat.le_refl _ | (simp; done) | (simp; omega) | omega) | refine Below.alloc ?_ (by first | exact Nat.le_refl _ | (simp; done) | (simp; omega) | omega) _ | refine Below.setCell ?_ (by first | exact Nat.le_refl _ | (simp; done) | (simp; omega) | omega) _))) (by omega)).mono ?_
      rintro e w1 ⟨u, rfl, ho, hb1⟩
      obtain ⟨A2, c2, rfl⟩ := ho.form
      have HOW := Lib.hid ho
      have hw1 : Below w.heap.size w w1 := Below.trans (by exact (by repeat first | exact Below.refl _ _ | assumption | refine Below.drew ?_ | refine below_drewN ?_ _ | refine Below.calm ?_ (by first | exact Nat.le_refl _ | (simp; done) | (simp; omega) | omega) | refine Below.alloc ?_ (by first | exact Nat.le_refl _ | (simp; done) | (simp; omega) | omega) _ | refine Below.setCell ?_ (by first | exact Nat.le_refl _ | (simp; done) | (simp; omega) | omega) _)) (hb1.mono (by simp; omega))
      have HP := Lib.hid (show Blk w1 w.heap.size 37 #[.slice A d.length c] from ((Blk.new w 37 #[.slice A d.length c]).alloc (.cells #[.slice none 0 0] 37)).belowV hb1)
      have HR := Lib.hid (show Blk w1 (w.heap.size + 1) 37 #[.slice none 0 0] from by
        have q := (Blk.new (w.alloc (.cells #[.slice A d.length c] 37)) 37 #[.slice none 0 0]).belowV hb1
        rwa [show (w.alloc (.cells #[.slice A d.length c] 37)).heap.size = w.heap.size + 1 by simp] at q)
      have hsz1 := HR.out.lt
      have hsz0 := HP.out.lt
      clear ho
      have p0 := HP.out.cell 0
      have r0 := HR.out.cell 0
      simp only [List.getElem?_toArray, List.getElem?_cons_zero] at p0 r0
      go_wp2_with fail
      clear p0 r0
      refine (CAT.out _ (hw1.alloc hw1.size _)).mono ?_
      rintro e w2 ⟨rfl, hb2⟩
      have hb2' : Below w1.heap.size w1 w2 := Below.trans (by exact (by repeat first | exact Below.refl _ _ | assumption | refine Below.drew ?_ | refine below_drewN ?_ _ | refine Below.calm ?_ (by first | exact Nat.le_refl _ | (simp; done) | (simp; omega) | omega) | refine Below.alloc ?_ (by first | exact Nat.le_refl _ | (simp; done) | (simp; omega) | omega) _ | refine Below.setCell ?_ (by first | exact Nat.le_refl _ | (simp; done) | (simp; omega) | omega) _)) (hb2.mono (by simp))
      have hw2 := hw1.trans (hb2'.mono hw1.size)
      have HP2 := Lib.hid (HP.out.belowV hb2')
      have HR2 := Lib.hid (HR.out.belowV hb2')
      have HO2 := Lib.hid ((Blk.new w1 37 #[.slice A2 d.length c2]).belowV hb2)
      have HOW2 := Lib.hid (Own_disk.below HOW.out hb2')
      have hsz2 := HO2.out.lt
      have p0 := HP2.out.cell 0
      have r0 := HR2.out.cell 0
      have r1 := HR2.out.frozen 0
      have o0 := HO2.out.cell 0
      simp only [List.getElem?_toArray, List.getElem?_cons_zero] at p0 r0 o0
      go_wp2_with fail
      clear p0 r0 r1 o0
      refine (COK.out _ hw2).mono ?_
      rintro e w3 ⟨rfl, hb3⟩
      have hw3 := hw2.trans (hb3.mono hw2.size)
      have r0 := (HR2.out.belowV hb3).cell 0
      have r1 := (HR2.out.belowV hb3).frozen 0
      have o0 := (HO2.out.belowV hb3).cell 0
      simp only [List.getElem?_toArray, List.getElem?_cons_zero] at r0 o0
      have HOW3 := Lib.hid (Own_disk.below HOW2.out hb3)
      go_wp2_with fail
      refine bodyPost_ret (v := .tuple #[.agg #[.slice A2 d.length c2], .bool false]) (by simp [results, Try.results37, go_sem, r0, r1, o0]) rfl ?_
      rw [HE0.out, HE1.out]
      refine ⟨_, rfl, ?_, hw3.setCell (by simp) _⟩
      have hk := Own_disk.keep HOW3.out ((Part.refl (w.heap.size + 1) (w.heap.size + 2) w3).setCell (p := ⟨w.heap.size + 1, 0, none⟩) ⟨Nat.le_refl _, Nat.lt_succ_self _⟩ (.slice A2 d.length c2)) (.inr (by simp))
      exact ⟨OwnS.mono hk.1 (by simp; try omega) (by have := hk.1.2.1; exact this) (Nat.le_refl _), hk.2⟩
    | true =>
      have HD := Lib.hid hD
      rw [hD] at COK
      clear hD
      obtain ⟨k, hk⟩ : ∃ k, k = atF nm d := ⟨_, rfl⟩
      have HKK := Lib.hid hk
      rw [← hk] at CAT ha
      clear hk
      obtain ⟨x, hx⟩ : ∃ x, x = d[k] := ⟨_, rfl⟩
      obtain ⟨b1, o1, _, hv1, _, _, hl1, hc1⟩ := HRD.out.1.form (by omega) (by omega)
      have hA1 : A = some ⟨b1, o1, none⟩ := by injection hv1
      subst hA1
      have HC := Lib.hid (fun W (hW : Below w.heap.size w W) => fil_cells hW hl1 hc1 ha x hx)
      obtain ⟨hxn, hxd⟩ := HRD.out.2 x (by rw [hx]; exact List.getElem_mem ha)
      have HIN := Lib.hid (fun w => within_b m 0 x.data.size w)
      have HX := Lib.hid hx
      clear hv1 hc1 hx
      cases hB : inB m 0 x.data.size with
      | false =>
        have HE1 := Lib.hid (show cutFileR1 d nm m = false by
          have hkk := HKK.out
          subst hkk
          rw [cutFileR1, dif_pos ha, HD.out, ← HX.out, hB]; rfl)
        have HE0 := Lib.hid (show cutFileR0 d nm m = d by
          have hkk := HKK.out
          subst hkk
          rw [cutFileR0, dif_pos ha, HE1.out]; rfl)
        rw [hB] at HIN
        clear hB
        go_enter Try.func37, Try.ntmps37
        go_wp2_with fail
        refine (copyDisk_any _ d _ (HRD.out.below (by exact (by repeat first | exact Below.refl _ _ | assumption | refine Below.drew ?_ | refine below_drewN ?_ _ | refine Below.calm ?_ (by first | exact Nat.le_refl _ | (simp; done) | (simp; omega) | omega) | refine Below.alloc ?_ (by first | exact Nat.le_refl _ | (simp; done) | (simp; omega) | omega) _ | refine Below.setCell ?_ (by first | exact Nat.le_refl _ | (simp; done) | (simp; omega) | omega) _))) (by omega)).mono ?_
        rintro e w1 ⟨u, rfl, ho, hb1⟩
        obtain ⟨A2, c2, rfl⟩ := ho.form
        have HOW := Lib.hid ho
        have hw1 : Below w.heap.size w w1 := Below.trans (by exact (by repeat first | exact Below.refl _ _ | assumption | refine Below.drew ?_ | refine below_drewN ?_ _ | refine Below.calm ?_ (by first | exact Nat.le_refl _ | (simp; done) | (simp; omega) | omega) | refine Below.alloc ?_ (by first | exact Nat.le_refl _ | (simp; done) | (simp; omega) | omega) _ | refine Below.setCell ?_ (by first | exact Nat.le_refl _ | (simp; done) | (simp; omega) | omega) _)) (hb1.mono (by simp; omega))
        have HP := Lib.hid (show Blk w1 w.heap.size 37 #[.slice (some ⟨b1, o1, none⟩) d.length c] from ((Blk.new w 37 #[.slice (some ⟨b1, o1, none⟩) d.length c]).alloc (.cells #[.slice none 0 0] 37)).belowV hb1)
        have HR := Lib.hid (show Blk w1 (w.heap.size + 1) 37 #[.slice none 0 0] from by
          have q := (Blk.new (w.alloc (.cells #[.slice (some ⟨b1, o1, none⟩) d.length c] 37)) 37 #[.slice none 0 0]).belowV hb1
          rwa [show (w.alloc (.cells #[.slice (some ⟨b1, o1, none⟩) d.length c] 37)).heap.size = w.heap.size + 1 by simp] at q)
        have hsz1 := HR.out.lt
        have hsz0 := HP.out.lt
        clear ho
        have p0 := HP.out.cell 0
        have r0 := HR.out.cell 0
        simp only [List.getElem?_toArray, List.getElem?_cons_zero] at p0 r0
        go_wp2_with fail
        clear p0 r0
        refine (CAT.out _ (hw1.alloc hw1.size _)).mono ?_
        rintro e w2 ⟨rfl, hb2⟩
        have hb2' : Below w1.heap.size w1 w2 := Below.trans (by exact (by repeat first | exact Below.refl _ _ | assumption | refine Below.drew ?_ | refine below_drewN ?_ _ | refine Below.calm ?_ (by first | exact Nat.le_refl _ | (simp; done) | (simp; omega) | omega) | refine Below.alloc ?_ (by first | exact Nat.le_refl _ | (simp; done) | (simp; omega) | omega) _ | refine Below.setCell ?_ (by first | exact Nat.le_refl _ | (simp; done) | (simp; omega) | omega) _)) (hb2.mono (by simp))
        have hw2 := hw1.trans (hb2'.mono hw1.size)
        have HP2 := Lib.hid (HP.out.belowV hb2')
        have HR2 := Lib.hid (HR.out.belowV hb2')
        have HO2 := Lib.hid ((Blk.new w1 37 #[.slice A2 d.length c2]).belowV hb2)
        have HOW2 := Lib.hid (Own_disk.below HOW.out hb2')
        have hsz2 := HO2.out.lt
        have p0 := HP2.out.cell 0
        have r0 := HR2.out.cell 0
        have r1 := HR2.out.frozen 0
        have o0 := HO2.out.cell 0
        simp only [List.getElem?_toArray, List.getElem?_cons_zero] at p0 r0 o0
        go_wp2_with fail
        clear p0 r0 r1 o0
        refine (COK.out _ hw2).mono ?_
        rintro e w3 ⟨rfl, hb3⟩
        have hw3 := hw2.trans (hb3.mono hw2.size)
        have r0 := (HR2.out.belowV hb3).cell 0
        have r1 := (HR2.out.belowV hb3).frozen 0
        have o0 := (HO2.out.belowV hb3).cell 0
        simp only [List.getElem?_toArray, List.getElem?_cons_zero] at r0 o0
        have hk1 : (k : Int) < (d.length : Int) := by omega
        have p0 := (HP2.out.belowV hb3).cell 0
        simp only [List.getElem?_toArray, List.getElem?_cons_zero] at p0
        obtain ⟨c0, c1', c2'⟩ := HC.out w3 hw3
        have hb3l : b1 < w3.heap.size := Nat.lt_of_lt_of_le hl1 hw3.size
        have HOW3 := Lib.hid (Own_disk.below HOW2.out hb3)
        go_wp2_with fail
        refine (HIN.out _).mono ?_
        rintro e w4 ⟨rfl, rfl⟩
        go_wp2_with fail
        refine bodyPost_ret (v := .tuple #[.agg #[.slice A2 d.length c2], .bool false]) (by simp [results, Try.results37, go_sem, r0, r1, o0]) rfl ?_
        rw [HE0.out, HE1.out]
        refine ⟨_, rfl, ?_, hw3.setCell (by simp) _⟩
        have hk := Own_disk.keep HOW3.out ((Part.refl (w.heap.size + 1) (w.heap.size + 2) w3).setCell (p := ⟨w.heap.size + 1, 0, none⟩) ⟨Nat.le_refl _, Nat.lt_succ_self _⟩ (.slice A2 d.length c2)) (.inr (by simp))
        exact ⟨OwnS.mono hk.1 (by simp; try omega) (by have := hk.1.2.1; exact this) (Nat.le_refl _), hk.2⟩
      | true =>
        have HB := Lib.hid hB
        have hbb : 0 ≤ m ∧ m ≤ x.data.size := by simpa [inB] using hB
        obtain ⟨hm0, hm1⟩ := hbb
        rw [hB] at HIN
        clear hB
        go_enter Try.func37, Try.ntmps37
        go_wp2_with fail
        refine (copyDisk_any _ d _ (HRD.out.below (by exact (by repeat first | exact Below.refl _ _ | assumption | refine Below.drew ?_ | refine below_drewN ?_ _ | refine Below.calm ?_ (by first | exact Nat.le_refl _ | (simp; done) | (simp; omega) | omega) | refine Below.alloc ?_ (by first | exact Nat.le_refl _ | (simp; done) | (simp; omega) | omega) _ | refine Below.setCell ?_ (by first | exact Nat.le_refl _ | (simp; done) | (simp; omega) | omega) _))) (by omega)).mono ?_
        rintro e w1 ⟨u, rfl, ho, hb1⟩
        obtain ⟨A2, c2, rfl⟩ := ho.form
        have HOW := Lib.hid ho
        have hw1 : Below w.heap.size w w1 := Below.trans (by exact (by repeat first | exact Below.refl _ _ | assumption | refine Below.drew ?_ | refine below_drewN ?_ _ | refine Below.calm ?_ (by first | exact Nat.le_refl _ | (simp; done) | (simp; omega) | omega) | refine Below.alloc ?_ (by first | exact Nat.le_refl _ | (simp; done) | (simp; omega) | omega) _ | refine Below.setCell ?_ (by first | exact Nat.le_refl _ | (simp; done) | (simp; omega) | omega) _)) (hb1.mono (by simp; omega))
        have HP := Lib.hid (show Blk w1 w.heap.size 37 #[.slice (some ⟨b1, o1, none⟩) d.length c] from ((Blk.new w 37 #[.slice (some ⟨b1, o1, none⟩) d.length c]).alloc (.cells #[.slice none 0 0] 37)).belowV hb1)
        have HR := Lib.hid (show Blk w1 (w.heap.size + 1) 37 #[.slice none 0 0] from by
          have q := (Blk.new (w.alloc (.cells #[.slice (some ⟨b1, o1, none⟩) d.length c] 37)) 37 #[.slice none 0 0]).belowV hb1
          rwa [show (w.alloc (.cells #[.slice (some ⟨b1, o1, none⟩) d.length c] 37)).heap.size = w.heap.size + 1 by simp] at q)
        have hsz1 := HR.out.lt
        have hsz0 := HP.out.lt
        clear ho
        have p0 := HP.out.cell 0
        have r0 := HR.out.cell 0
        simp only [List.getElem?_toArray, List.getElem?_cons_zero] at p0 r0
        go_wp2_with fail
        clear p0 r0
        refine (CAT.out _ (hw1.alloc hw1.size _)).mono ?_
        rintro e w2 ⟨rfl, hb2⟩
        have hb2' : Below w1.heap.size w1 w2 := Below.trans (by exact (by repeat first | exact Below.refl _ _ | assumption | refine Below.drew ?_ | refine below_drewN ?_ _ | refine Below.calm ?_ (by first | exact Nat.le_refl _ | (simp; done) | (simp; omega) | omega) | refine Below.alloc ?_ (by first | exact Nat.le_refl _ | (simp; done) | (simp; omega) | omega) _ | refine Below.setCell ?_ (by first | exact Nat.le_refl _ | (simp; done) | (simp; omega) | omega) _)) (hb2.mono (by simp))
        have hw2 := hw1.trans (hb2'.mono hw1.size)
        have HP2 := Lib.hid (HP.out.belowV hb2')
        have HR2 := Lib.hid (HR.out.belowV hb2')
        have HO2 := Lib.hid ((Blk.new w1 37 #[.slice A2 d.length c2]).belowV hb2)
        have HOW2 := Lib.hid (Own_disk.below HOW.out hb2')
        have hsz2 := HO2.out.lt
        have p0 := HP2.out.cell 0
        have r0 := HR2.out.cell 0
        have r1 := HR2.out.frozen 0
        have o0 := HO2.out.cell 0
        simp only [List.getElem?_toArray, List.getElem?_cons_zero] at p0 r0 o0
        go_wp2_with fail
        clear p0 r0 r1 o0
        refine (COK.out _ hw2).mono ?_
        rintro e w3 ⟨rfl, hb3⟩
        have hw3 := hw2.trans (hb3.mono hw2.size)
        have r0 := (HR2.out.belowV hb3).cell 0
        have r1 := (HR2.out.belowV hb3).frozen 0
        have o0 := (HO2.out.belowV hb3).cell 0
        simp only [List.getElem?_toArray, List.getElem?_cons_zero] at r0 o0
        have hk1 : (k : Int) < (d.length : Int) := by omega
        have p0 := (HP2.out.belowV hb3).cell 0
        simp only [List.getElem?_toArray, List.getElem?_cons_zero] at p0
        obtain ⟨c0, c1', c2'⟩ := HC.out w3 hw3
        have hb3l : b1 < w3.heap.size := Nat.lt_of_lt_of_le hl1 hw3.size
        have hO3 := Own_disk.below HOW2.out hb3
        obtain ⟨g, cap, f, he, hlg, hcap, hcm2, hrow, hf⟩ := rowIs_of_own hO3.1.1 (by omega)
        have hgl : g < w1.heap.size := by have := HOW.out.1.2.2 g (by rw [he]; rfl); exact this
        have hlg' : w.heap.size + 2 ≤ g := by simp at hlg; omega
        injection he with hA2 _ hC2
        subst hA2 hC2
        have fd : f (k * 3 + 1) = .string x.data := by
          have h1 := hf (k * 3 + 1) (by omega)
          rw [filV_at ha 1 (by decide), ← HX.out] at h1
          exact (Option.some.inj h1).symm
        have e1 := hrow.cell (i := k * 3 + 1) (by omega)
        rw [fd] at e1
        have e2 := hrow.cell (i := k * 3 + 2) (by omega)
        have z1 := hrow.frozen (k * 3 + 1)
        have z2 := hrow.frozen (k * 3 + 2)
        generalize f (k * 3 + 2) = y2 at e2
        have hg3 := hrow.lt
        have g1 : ¬ g = w1.heap.size := by omega
        have g2 : ¬ w1.heap.size = g := by omega
        have g3 : ¬ g = w.heap.size + 1 := by omega
        have g4 : ¬ w.heap.size + 1 = g := by omega
        have HROW := Lib.hid hrow
        have HF := Lib.hid hf
        have HOK := Lib.hid hO3.2
        have HLG := Lib.hid hlg
        clear hrow hf hO3 fd hlg
        go_wp2_with fail
        refine (HIN.out _).mono ?_
        rintro e w4 ⟨rfl, rfl⟩
        go_wp2_with fail
        go_still_tail 13, (by kernel_rfl)
        go_wp2_with fail
        have hE1 : cutFileR1 d nm m = true := by
          have hkk := HKK.out
          subst hkk
          rw [cutFileR1, dif_pos ha, HD.out, ← HX.out, HB.out]; rfl
        have hE0 : cutFileR0 d nm m = d.set k (cutTo x m) := by
          have hkk := HKK.out
          subst hkk
          rw [cutFileR0, dif_pos ha, if_pos hE1, HX.out]
        refine bodyPost_ret (v := .tuple #[.agg #[.slice (some ⟨g, 0, none⟩) d.length c2], .bool true]) (by simp [results, Try.results37, go_sem, r0, g1, g2, g3, g4]) rfl ?_
        rw [hE0, hE1]
        have hrow := (HROW.out.set (k * 3 + 1) (.string (x.data.extract 0 m.toNat))).set (k * 3 + 2) (.int .i64 m)
        have hown := own_of_fun (xs := filV (d.set k (cutTo x m))) hrow hlg' hcap hcm2 (by rw [filV_length, List.length_set]) (fun j u hu => by
          have h := filV_set (cutTo x m) hu
          have hj : j < d.length * 3 := by
            have := (List.getElem?_eq_some_iff.1 hu).1
            rwa [filV_length, List.length_set] at this
          by_cases e : j / 3 = k
          · rw [if_pos e] at h
            have hf := HF.out j hj
            have hq : j = k * 3 + j % 3 := by omega
            by_cases e2 : j = k * 3 + 2
            · rw [if_pos e2]
              rw [show j % 3 = 2 by omega] at h
              exact Option.some.inj h
            · rw [if_neg e2]
              by_cases e1 : j = k * 3 + 1
              · rw [if_pos e1]
                rw [show j % 3 = 1 by omega] at h
                exact Option.some.inj h
              · rw [if_neg e1]
                rw [hq, filV_at ha (j % 3) (by omega), ← HX.out] at hf
                rw [← hq] at hf
                have hr : j % 3 = 0 := by omega
                rw [hr] at h hf
                rw [← Option.some.inj h]
                exact (Option.some.inj hf).symm
          · rw [if_neg e] at h
            rw [if_neg (by omega), if_neg (by omega)]
            have hf := HF.out j hj
            rw [h] at hf
            exact (Option.some.inj hf).symm)
        have hl : (d.set k (cutTo x m)).length = d.length := List.length_set
        have hsz3 : w.heap.size + 2 ≤ w3.heap.size := by omega
        obtain ⟨W4, hW4⟩ : ∃ W4, W4 = (w3.setCell ⟨g, k * 3 + 1, none⟩ (.string (x.data.extract 0 m.toNat))).setCell ⟨g, k * 3 + 2, none⟩ (.int .i64 m) := ⟨_, rfl⟩
        have hs4 : W4.heap.size = w3.heap.size := by rw [hW4]; simp [World.setCell]
        have hw4 : Below w.heap.size w W4 := by rw [hW4]; exact (hw3.setCell (show w.heap.size ≤ g by omega) _).setCell (show w.heap.size ≤ g by omega) _
        rw [← hW4] at hown ⊢
        have hp : Part (w.heap.size + 1) (w.heap.size + 2) W4 (W4.setCell ⟨w.heap.size + 1, 0, none⟩ (.slice (some ⟨g, 0, none⟩) d.length c2)).drew :=
          (((Part.refl _ _ _).setCell (p := ⟨w.heap.size + 1, 0, none⟩) ⟨Nat.le_refl _, Nat.lt_succ_self _⟩ _)).drew
        have ho4 := OwnS.keep (OwnS.of_own hown) hp (.inr (Nat.le_refl _))
        have hxs : (x.data.extract 0 m.toNat).size ≤ 9223372036854775807 := by rw [ByteArray.size_extract]; omega
        refine ⟨_, rfl, ⟨?_, okF_set HOK.out _ ⟨hxn, hxs⟩⟩, (hw4.setCell (by simp) _).drew⟩
        rw [hl]
        exact OwnS.mono ho4 (by omega) (by simp [World.setCell]) (Nat.le_refl _)

end Go.Proofs.Ythjkmefbjbfonaa

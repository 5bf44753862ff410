/- SyncFile, the program's and the reference's. -/
import Derived.Test.YthjkmefbjbfonaaDiskOk
import Derived.Test.YthjkmefbjbfonaaCopyD
import Derived.Test.YthjkmefbjbfonaaCopyRow
import Derived.StillTailTactics
namespace Go.Proofs.Ythjkmefbjbfonaa
set_option linter.unusedSimpArgs false
open Go.RowKit Go.ChangeShapes Go.Deep

/-- A file in its place. -/
theorem filV_set {d : List Fil} {k : Nat} (y : Fil) {j : Nat} {u : Value} (h : (filV (d.set k y))[j]? = some u) : if j / 3 = k then y.cs[j % 3]? = some u else (filV d)[j]? = some u := by
  have hj : j < d.length * 3 := by
    have := (List.getElem?_eq_some_iff.1 h).1
    rw [filV_length, List.length_set] at this
    exact this
  have hq : j = j / 3 * 3 + j % 3 := by omega
  have hi : j / 3 < (d.set k y).length := by rw [List.length_set]; omega
  have hi' : j / 3 < d.length := by omega
  by_cases e : j / 3 = k
  · rw [if_pos e]
    rw [hq, filV_at hi (j % 3) (by omega)] at h
    rw [← h]
    have : (d.set k y)[j / 3] = y := by simp [e]
    rw [this]
  · rw [if_neg e]
    rw [hq, filV_at hi (j % 3) (by omega)] at h
    rw [hq, filV_at hi' (j % 3) (by omega), ← h]
    have : (d.set k y)[j / 3] = d[j / 3] := by simp [Ne.symm e]
    rw [this]
def synced (x : Fil) : Fil := ⟨x.name, x.data, x.data.size⟩
def syncFileR1 (d : List Fil) (nm : ByteArray) : Bool := decide (atF nm d < d.length) && diskOkR d
def syncFileR0 (d : List Fil) (nm : ByteArray) : List Fil := if h : atF nm d < d.length then (if diskOkR d then d.set (atF nm d) (synced d[atF nm d]) else d) else d
theorem syncFileR0_length (d : List Fil) (nm : ByteArray) : (syncFileR0 d nm).length = d.length := by
  unfold syncFileR0
  split
  · split
    · simp
    · rfl
  · rfl
theorem okF_set {d : List Fil} {k : Nat} (h : okF d) (y : Fil) (hy : y.ok) : okF (d.set k y) := fun f hf => by
  rcases List.mem_or_eq_of_mem_set hf with h1 | rfl
  · exact h f h1
  · exact hy

set_option maxHeartbeats 4000000 in
set_option maxRecDepth 100000 in
theorem syncFile_impl (v : Value) (d : List Fil) (nm : ByteArray) (w : World) (h : Rd_disk w v d) (hn : cost_disk d ≤ 1048576) (_ : nm.size ≤ 1048576) :
    Calls Try.prog 36 #[.agg #[v], .string nm] w (GivesDB (syncFileR0 d nm) (syncFileR1 d nm) w) := by
  unfold cost_disk at hn
  have HRD := Lib.hid h
  obtain ⟨A, c, rfl, hnc, hcm⟩ := h.1.shape
  unfold maxLen at hcm
  have CAT := Lib.hid (fun W (hW : Below w.heap.size w W) => fileAt_any (.slice A d.length c) d nm W (HRD.out.below hW) (by omega))
  have COK := Lib.hid (fun W (hW : Below w.heap.size w W) => diskOk_impl (.slice A d.length c) d W (HRD.out.below hW) (by omega))
  clear h
  by_cases ha : atF nm d < d.length
  rotate_left
  · have HE0 := Lib.hid (show syncFileR0 d nm = d by rw [syncFileR0, dif_neg ha])
    have HE1 := Lib.hid (show syncFileR1 d nm = false by rw [syncFileR1, decide_eq_false ha]; rfl)
    have hat : atR nm d = -1 := by rw [atR, if_neg ha]
    rw [hat] at CAT
    clear hat ha
    go_enter Try.func36, Try.ntmps36
    go_wp2_with fail
    refine (copyDisk_any _ d _ (HRD.out.below (by exact (by repeat first | exact Below.refl _ _ | assumption | refine Below.drew ?_ | refine below_drewN ?_ _ | refine Below.calm ?_ (by first | exact Nat.le_refl _ | (simp; done) | (simp; omega) | omega) | refine Below.alloc ?_ (by first | exact Nat.le_refl _ | (simp; done) | (simp; omega) | omega) _ | refine Below.setCell ?_ (by first | exact Nat.le_refl _ | (simp; done) | (simp; omega) | omega) _))) (by omega)).mono ?_
    rintro e w1 ⟨u, rfl, ho, hb1⟩
    obtain ⟨A2, c2, rfl⟩ := ho.form
    have HOW := Lib.hid ho
    have hw1 : Below w.heap.size w w1 := Below.trans (by exact (by repeat first | exact Below.refl _ _ | assumption | refine Below.drew ?_ | refine below_drewN ?_ _ | refine Below.calm ?_ (by first | exact Nat.le_refl _ | (simp; done) | (simp; omega) | omega) | refine Below.alloc ?_ (by first | exact Nat.le_refl _ | (simp; done) | (simp; omega) | omega) _ | refine Below.setCell ?_ (by first | exact Nat.le_refl _ | (simp; done) | (simp; omega) | omega) _)) (hb1.mono (by simp; omega))
    have HP := Lib.hid (show Blk w1 w.heap.size 37 #[.slice A d.length c] from ((Blk.new w 37 #[.slice A d.length c]).alloc (.cells #[.slice none 0 0] 37)).belowV hb1)
    have HR := Lib.hid (show Blk w1 (w.heap.size + 1) 37 #[.slice none 0 0] from by
      have q := (Blk.new (w.alloc (.cells #[.slice A d.length c] 37)) 37 #[.slice none 0 0]).belowV hb1
      rwa [show (w.alloc (.cells #[.slice A d.length c] 37)).heap.size = w.heap.size + 1 by simp] at q)
    have hsz1 := HR.out.lt
    have hsz0 := HP.out.lt
    clear ho
    have p0 := HP.out.cell 0
    have r0 := HR.out.cell 0
    simp only [List.getElem?_toArray, List.getElem?_cons_zero] at p0 r0
    go_wp2_with fail
    clear p0 r0
    refine (CAT.out _ (hw1.alloc hw1.size _)).mono ?_
    rintro e w2 ⟨rfl, hb2⟩
    have hb2' : Below w1.heap.size w1 w2 := Below.trans (by exact (by repeat first | exact Below.refl _ _ | assumption | refine Below.drew ?_ | refine below_drewN ?_ _ | refine Below.calm ?_ (by first | exact Nat.le_refl _ | (simp; done) | (simp; omega) | omega) | refine Below.alloc ?_ (by first | exact Nat.le_refl _ | (simp; done) | (simp; omega) | omega) _ | refine Below.setCell ?_ (by first | exact Nat.le_refl _ | (simp; done) | (simp; omega) | omega) _)) (hb2.mono (by simp))
    have hw2 := hw1.trans (hb2'.mono hw1.size)
    have HP2 := Lib.hid (HP.out.belowV hb2')
    have HR2 := Lib.hid (HR.out.belowV hb2')
    have HO2 := Lib.hid ((Blk.new w1 37 #[.slice A2 d.length c2]).belowV hb2)
    have HOW2 := Lib.hid (Own_disk.below HOW.out hb2')
    have hsz2 := HO2.out.lt
    have p0 := HP2.out.cell 0
    have r0 := HR2.out.cell 0
    have r1 := HR2.out.frozen 0
    have o0 := HO2.out.cell 0
    simp only [List.getElem?_toArray, List.getElem?_cons_zero] at p0 r0 o0
    go_wp2_with fail
    refine bodyPost_ret (v := .tuple #[.agg #[.slice A2 d.length c2], .bool false]) (by simp [results, Try.results36, go_sem, r0, r1, o0]) rfl ?_
    rw [HE0.out, HE1.out]
    refine ⟨_, rfl, ?_, hw2.setCell (by simp) _⟩
    have hk := Own_disk.keep HOW2.out ((Part.refl (w.heap.size + 1) (w.heap.size + 2) w2).setCell (p := ⟨w.heap.size + 1, 0, none⟩) ⟨Nat.le_refl _, Nat.lt_succ_self _⟩ (.slice A2 d.length c2)) (.inr (by simp))
    exact ⟨OwnS.mono hk.1 (by simp; try omega) (by have := hk.1.2.1; exact this) (Nat.le_refl _), hk.2⟩
  · have hat : atR nm d = (atF nm d : Int) := by rw [atR, if_pos ha]
    rw [hat] at CAT
    clear hat
    cases hD : diskOkR d with
    | false =>
      have HE0 := Lib.hid (show syncFileR0 d nm = d by rw [syncFileR0, dif_pos ha, hD]; rfl)
      have HE1 := Lib.hid (show syncFileR1 d nm = false by rw [syncFileR1, hD]; simp)
      rw [hD] at COK
      clear hD
      obtain ⟨k, hk⟩ : ∃ k, k = atF nm d := ⟨_, rfl⟩
      rw [← hk] at CAT ha
      clear hk
      go_enter Try.func36, Try.ntmps36
      go_wp2_with fail
      refine (copyDisk_any _ d _ (HRD.out.below (by exact (by repeat first | exact Below.refl _ _ | assumption | refine Below.drew ?_ | refine below_drewN ?_ _ | refine Below.calm ?_ (by first | exact Nat.le_refl _ | (simp; done) | (simp; omega) | omega) | refine Below.alloc ?_ (by first | exact Nat.le_refl _ | (simp; done) | (simp; omega) | omega) _ | refine Below.setCell ?_ (by first | exact Nat.le_refl _ | (simp; done) | (simp; omega) | omega) _))) (by omega)).mono ?_
      rintro e w1 ⟨u, rfl, ho, hb1⟩
      obtain ⟨A2, c2, rfl⟩ := ho.form
      have HOW := Lib.hid ho
      have hw1 : Below w.heap.size w w1 := Below.trans (by exact (by repeat first | exact Below.refl _ _ | assumption | refine Below.drew ?_ | refine below_drewN ?_ _ | refine Below.calm ?_ (by first | exact Nat.le_refl _ | (simp; done) | (simp; omega) | omega) | refine Below.alloc ?_ (by first | exact Nat.le_refl _ | (simp; done) | (simp; omega) | omega) _ | refine Below.setCell ?_ (by first | exact Nat.le_refl _ | (simp; done) | (simp; omega) | omega) _)) (hb1.mono (by simp; omega))
      have HP := Lib.hid (show Blk w1 w.heap.size 37 #[.slice A d.length c] from ((Blk.new w 37 #[.slice A d.length c]).alloc (.cells #[.slice none 0 0] 37)).belowV hb1)
      have HR := Lib.hid (show Blk w1 (w.heap.size + 1) 37 #[.slice none 0 0] from by
        have q := (Blk.new (w.alloc (.cells #[.slice A d.length c] 37)) 37 #[.slice none 0 0]).belowV hb1
        rwa [show (w.alloc (.cells #[.slice A d.length c] 37)).heap.size = w.heap.size + 1 by simp] at q)
      have hsz1 := HR.out.lt
      have hsz0 := HP.out.lt
      clear ho
      have p0 := HP.out.cell 0
      have r0 := HR.out.cell 0
      simp only [List.getElem?_toArray, List.getElem?_cons_zero] at p0 r0
      go_wp2_with fail
      clear p0 r0
      refine (CAT.out _ (hw1.alloc hw1.size _)).mono ?_
      rintro e w2 ⟨rfl, hb2⟩
      have hb2' : Below w1.heap.size w1 w2 := Below.trans (by exact (by repeat first | exact Below.refl _ _ | assumption | refine Below.drew ?_ | refine below_drewN ?_ _ | refine Below.calm ?_ (by first | exact Nat.le_refl _ | (simp; done) | (simp; omega) | omega) | refine Below.alloc ?_ (by first | exact Nat.le_refl _ | (simp; done) | (simp; omega) | omega) _ | refine Below.setCell ?_ (by first | exact Nat.le_refl _ | (simp; done) | (simp; omega) | omega) _)) (hb2.mono (by simp))
      have hw2 := hw1.trans (hb2'.mono hw1.size)
      have HP2 := Lib.hid (HP.out.belowV hb2')
      have HR2 := Lib.hid (HR.out.belowV hb2')
      have HO2 := Lib.hid ((Blk.new w1 37 #[.slice A2 d.length c2]).belowV hb2)
      have HOW2 := Lib.hid (Own_disk.below HOW.out hb2')
      have hsz2 := HO2.out.lt
      have p0 := HP2.out.cell 0
      have r0 := HR2.out.cell 0
      have r1 := HR2.out.frozen 0
      have o0 := HO2.out.cell 0
      simp only [List.getElem?_toArray, List.getElem?_cons_zero] at p0 r0 o0
      go_wp2_with fail
      clear p0 r0 r1 o0
      refine (COK.out _ hw2).mono ?_
      rintro e w3 ⟨rfl, hb3⟩
      have hw3 := hw2.trans (hb3.mono hw2.size)
      have r0 := (HR2.out.belowV hb3).cell 0
      have r1 := (HR2.out.belowV hb3).frozen 0
      have o0 := (HO2.out.belowV hb3).cell 0
      simp only [List.getElem?_toArray, List.getElem?_cons_zero] at r0 o0
      have HOW3 := Lib.hid (Own_disk.below HOW2.out hb3)
      go_wp2_with fail
      refine bodyPost_ret (v := .tuple #[.agg #[.slice A2 d.length c2], .bool false]) (by simp [results, Try.results36, go_sem, r0, r1, o0]) rfl ?_
      rw [HE0.out, HE1.out]
      refine ⟨_, rfl, ?_, hw3.setCell (by simp) _⟩
      have hk := Own_disk.keep HOW3.out ((Part.refl (w.heap.size + 1) (w.heap.size + 2) w3).setCell (p := ⟨w.heap.size + 1, 0, none⟩) ⟨Nat.le_refl _, Nat.lt_succ_self _⟩ (.slice A2 d.length c2)) (.inr (by simp))
      exact ⟨OwnS.mono hk.1 (by simp; try omega) (by have := hk.1.2.1; exact this) (Nat.le_refl _), hk.2⟩
    | true =>
      have HD := Lib.hid hD
      rw [hD] at COK
      clear hD
      obtain ⟨k, hk⟩ : ∃ k, k = atF nm d := ⟨_, rfl⟩
      have HKK := Lib.hid hk
      rw [← hk] at CAT ha
      clear hk
      go_enter Try.func36, Try.ntmps36
      go_wp2_with fail
      refine (copyDisk_any _ d _ (HRD.out.below (by exact (by repeat first | exact Below.refl _ _ | assumption | refine Below.drew ?_ | refine below_drewN ?_ _ | refine Below.calm ?_ (by first | exact Nat.le_refl _ | (simp; done) | (simp; omega) | omega) | refine Below.alloc ?_ (by first | exact Nat.le_refl _ | (simp; done) | (simp; omega) | omega) _ | refine Below.setCell ?_ (by first | exact Nat.le_refl _ | (simp; done) | (simp; omega) | omega) _))) (by omega)).mono ?_
      rintro e w1 ⟨u, rfl, ho, hb1⟩
      obtain ⟨A2, c2, rfl⟩ := ho.form
      have HOW := Lib.hid ho
      have hw1 : Below w.heap.size w w1 := Below.trans (by exact (by repeat first | exact Below.refl _ _ | assumption | refine Below.drew ?_ | refine below_drewN ?_ _ | refine Below.calm ?_ (by first | exact Nat.le_refl _ | (simp; done) | (simp; omega) | omega) | refine Below.alloc ?_ (by first | exact Nat.le_refl _ | (simp; done) | (simp; omega) | omega) _ | refine Below.setCell ?_ (by first | exact Nat.le_refl _ | (simp; done) | (simp; omega) | omega) _)) (hb1.mono (by simp; omega))
      have HP := Lib.hid (show Blk w1 w.heap.size 37 #[.slice A d.length c] from ((Blk.new w 37 #[.slice A d.length c]).alloc (.cells #[.slice none 0 0] 37)).belowV hb1)
      have HR := Lib.hid (show Blk w1 (w.heap.size + 1) 37 #[.slice none 0 0] from by
        have q := (Blk.new (w.alloc (.cells #[.slice A d.length c] 37)) 37 #[.slice none 0 0]).belowV hb1
        rwa [show (w.alloc (.cells #[.slice A d.length c] 37)).heap.size = w.heap.size + 1 by simp] at q)
      have hsz1 := HR.out.lt
      have hsz0 := HP.out.lt
      clear ho
      have p0 := HP.out.cell 0
      have r0 := HR.out.cell 0
      simp only [List.getElem?_toArray, List.getElem?_cons_zero] at p0 r0
      go_wp2_with fail
      clear p0 r0
      refine (CAT.out _ (hw1.alloc hw1.size _)).mono ?_
      rintro e w2 ⟨rfl, hb2⟩
      have hb2' : Below w1.heap.size w1 w2 := Below.trans (by exact (by repeat first | exact Below.refl _ _ | assumption | refine Below.drew ?_ | refine below_drewN ?_ _ | refine Below.calm ?_ (by first | exact Nat.le_refl _ | (simp; done) | (simp; omega) | omega) | refine Below.alloc ?_ (by first | exact Nat.le_refl _ | (simp; done) | (simp; omega) | omega) _ | refine Below.setCell ?_ (by first | exact Nat.le_refl _ | (simp; done) | (simp; omega) | omega) _)) (hb2.mono (by simp))
      have hw2 := hw1.trans (hb2'.mono hw1.size)
      have HP2 := Lib.hid (HP.out.belowV hb2')
      have HR2 := Lib.hid (HR.out.belowV hb2')
      have HO2 := Lib.hid ((Blk.new w1 37 #[.slice A2 d.length c2]).belowV hb2)
      have HOW2 := Lib.hid (Own_disk.below HOW.out hb2')
      have hsz2 := HO2.out.lt
      have p0 := HP2.out.cell 0
      have r0 := HR2.out.cell 0
      have r1 := HR2.out.frozen 0
      have o0 := HO2.out.cell 0
      simp only [List.getElem?_toArray, List.getElem?_cons_zero] at p0 r0 o0
      go_wp2_with fail
      clear p0 r0 r1 o0
      refine (COK.out _ hw2).mono ?_
      rintro e w3 ⟨rfl, hb3⟩
      have hw3 := hw2.trans (hb3.mono hw2.size)
      have r0 := (HR2.out.belowV hb3).cell 0
      have r1 := (HR2.out.belowV hb3).frozen 0
      have o0 := (HO2.out.belowV hb3).cell 0
      simp only [List.getElem?_toArray, List.getElem?_cons_zero] at r0 o0
      have hO3 := Own_disk.below HOW2.out hb3
      obtain ⟨g, cap, f, he, hlg, hcap, hcm2, hrow, hf⟩ := rowIs_of_own hO3.1.1 (by omega)
      have hgl : g < w1.heap.size := by have := HOW.out.1.2.2 g (by rw [he]; rfl); exact this
      have hlg' : w.heap.size + 2 ≤ g := by simp at hlg; omega
      injection he with hA2 _ hC2
      subst hA2 hC2
      obtain ⟨x, hx⟩ : ∃ x, x = d[k] := ⟨_, rfl⟩
      have fd : f (k * 3 + 1) = .string x.data := by
        have h1 := hf (k * 3 + 1) (by omega)
        rw [filV_at ha 1 (by decide), ← hx] at h1
        exact (Option.some.inj h1).symm
      have e1 := hrow.cell (i := k * 3 + 1) (by omega)
      rw [fd] at e1
      have e2 := hrow.cell (i := k * 3 + 2) (by omega)
      have z2 := hrow.frozen (k * 3 + 2)
      obtain ⟨hxn, hxd⟩ := hO3.2 x (by rw [hx]; exact List.getElem_mem ha)
      generalize f (k * 3 + 2) = y2 at e2
      have hk0 : (0 : Int) ≤ (k : Int) := by omega
      have hk1 : (k : Int) < (d.length : Int) := by omega
      have hg3 := hrow.lt
      have g1 : ¬ g = w1.heap.size := by omega
      have g2 : ¬ w1.heap.size = g := by omega
      have g3 : ¬ g = w.heap.size + 1 := by omega
      have g4 : ¬ w.heap.size + 1 = g := by omega
      have HROW := Lib.hid hrow
      have HF := Lib.hid hf
      have HOK := Lib.hid hO3.2
      have HLG := Lib.hid hlg
      have HX := Lib.hid hx
      clear hrow hf hO3 fd hx hlg
      go_wp2_with fail
      go_still_tail 12, (by kernel_rfl)
      go_wp2_with fail
      have hE0 : syncFileR0 d nm = d.set k (synced x) := by
        have hkk := HKK.out
        subst hkk
        rw [syncFileR0, dif_pos ha, if_pos HD.out, HX.out]
      have hE1 : syncFileR1 d nm = true := by
        rw [syncFileR1, HD.out, ← HKK.out, decide_eq_true ha]
        rfl
      refine bodyPost_ret (v := .tuple #[.agg #[.slice (some ⟨g, 0, none⟩) d.length c2], .bool true]) (by simp [results, Try.results36, go_sem, r0, g1, g2, g3, g4]) rfl ?_
      rw [hE0, hE1]
      have hrow := HROW.out.set (k * 3 + 2) (.int .i64 (x.data.size : Int))
      have hown := own_of_fun (xs := filV (d.set k (synced x))) hrow hlg' hcap hcm2 (by rw [filV_length, List.length_set]) (fun j u hu => by
        have h := filV_set (synced x) hu
        have hj : j < d.length * 3 := by
          have := (List.getElem?_eq_some_iff.1 hu).1
          rwa [filV_length, List.length_set] at this
        by_cases e : j / 3 = k
        · rw [if_pos e] at h
          have hf := HF.out j hj
          have hq : j = k * 3 + j % 3 := by omega
          by_cases e2 : j = k * 3 + 2
          · rw [if_pos e2]
            rw [show j % 3 = 2 by omega] at h
            exact Option.some.inj h
          · rw [if_neg e2]
            rw [hq, filV_at ha (j % 3) (by omega), ← HX.out] at hf
            rw [← hq] at hf
            have hr : j % 3 = 0 ∨ j % 3 = 1 := by omega
            rcases hr with hr | hr <;> (rw [hr] at h hf; rw [← Option.some.inj h]; exact (Option.some.inj hf).symm)
        · rw [if_neg e] at h
          rw [if_neg (by omega)]
          have hf := HF.out j hj
          rw [h] at hf
          exact (Option.some.inj hf).symm)
      have hl : (d.set k (synced x)).length = d.length := List.length_set
      have hsz3 : w.heap.size + 2 ≤ w3.heap.size := by omega
      have hp : Part (w.heap.size + 1) (w.heap.size + 2) (w3.setCell ⟨g, k * 3 + 2, none⟩ (.int .i64 (x.data.size : Int))) ((w3.setCell ⟨g, k * 3 + 2, none⟩ (.int .i64 (x.data.size : Int))).setCell ⟨w.heap.size + 1, 0, none⟩ (.slice (some ⟨g, 0, none⟩) d.length c2)).drew :=
        (((Part.refl _ _ _).setCell (p := ⟨w.heap.size + 1, 0, none⟩) ⟨Nat.le_refl _, Nat.lt_succ_self _⟩ _)).drew
      have ho4 := OwnS.keep (OwnS.of_own hown) hp (.inr (Nat.le_refl _))
      refine ⟨_, rfl, ⟨?_, okF_set HOK.out _ ⟨hxn, hxd⟩⟩, ((hw3.setCell (show w.heap.size ≤ g by omega) _).setCell (by simp) _).drew⟩
      rw [hl]
      exact OwnS.mono ho4 (by omega) (by simp [World.setCell]) (Nat.le_refl _)

end Go.Proofs.Ythjkmefbjbfonaa

/- DiskOk, the program's and the reference's. -/
import Derived.Test.YthjkmefbjbfonaaAt
import Derived.Test.YthjkmefbjbfonaaWithin
namespace Go.Proofs.Ythjkmefbjbfonaa
open Go.RowKit Go.ChangeShapes Go.Deep

def nmOk (nm : ByteArray) : Bool := inB nm.size 1 10
theorem nameOk_any (nm : ByteArray) (w : World) (_ : nm.size ≤ 9223372036854775807) : Calls Try.prog 78 #[.string nm] w fun e w' => e = .returned (.bool (nmOk nm)) ∧ w = w' := by
  have C := Lib.hid (fun w => within_b nm.size 1 10 w)
  go_enter Try.func78, Try.ntmps78
  go_wp2_with fail
  refine (C.out _).mono ?_
  rintro e w1 ⟨rfl, rfl⟩
  go_wp2_with fail
  go_ret
  exact ⟨rfl, rfl⟩
theorem l04Name_any (nm : ByteArray) (w : World) (_ : nm.size ≤ 9223372036854775807) : Calls Try.prog 80 #[.string nm] w fun e w' => e = .returned (.bool (nmOk nm)) ∧ w = w' := by
  by_cases h0 : (1 : Int) ≤ nm.size
  · by_cases h1 : (nm.size : Int) ≤ 10
    · have HR := Lib.hid (show nmOk nm = true by unfold nmOk inB; simp; omega)
      go_enter Try.func80, Try.ntmps80
      go_wp2
      go_ret
      exact ⟨ret_bool HR.out.symm, rfl⟩
    · have HR := Lib.hid (show nmOk nm = false by unfold nmOk inB; simp; omega)
      have h1' : decide ((nm.size : Int) ≤ 10) = false := by simp; omega
      go_enter Try.func80, Try.ntmps80
      go_wp2
      go_ret
      exact ⟨ret_bool HR.out.symm, rfl⟩
  · have HR := Lib.hid (show nmOk nm = false by unfold nmOk inB; simp; omega)
    have h0' : decide ((1 : Int) ≤ nm.size) = false := by simp; omega
    go_enter Try.func80, Try.ntmps80
    go_wp2
    go_ret
    exact ⟨ret_bool HR.out.symm, rfl⟩

def filOk (D : List Fil) (i : Nat) (f : Fil) : Bool := nmOk f.name && decide (atR f.name D = (i : Int)) && decide (f.data.size ≤ 60000) && inB f.safe 0 f.data.size
def okGo (D : List Fil) : Nat → List Fil → Bool
  | _, [] => true
  | i, f :: r => filOk D i f && okGo D (i + 1) r
def diskOkR (d : List Fil) : Bool := decide (d.length ≤ 4) && okGo d 0 d
theorem okGo_drop {D d : List Fil} {k : Nat} (h : k < d.length) : okGo D k (d.drop k) = (filOk D k d[k] && okGo D (k + 1) (d.drop (k + 1))) := by rw [List.drop_eq_getElem_cons h, okGo]

set_option maxHeartbeats 4000000 in
set_option maxRecDepth 100000 in
theorem diskOk_impl (v : Value) (d : List Fil) (w : World) (h : Rd_disk w v d) (hn : d.length ≤ 2000000) :
    Calls Try.prog 32 #[.agg #[v]] w fun e w' => e = .returned (.bool (diskOkR d)) ∧ Below w.heap.size w w' := by
  have HRD := Lib.hid h
  obtain ⟨h, hok⟩ := h
  obtain ⟨A, c, rfl, hnc, hcm⟩ := h.shape
  unfold maxLen at hcm
  obtain ⟨W0, hW0⟩ : ∃ W0, W0 = w.alloc (.cells #[.slice A d.length c] 37) := ⟨_, rfl⟩
  have hb0 : Below w.heap.size w W0 := by rw [hW0]; exact (Below.refl _ _).alloc (Nat.le_refl _) _
  have k0 : Blk W0 w.heap.size 37 #[.slice A d.length c] := by rw [hW0]; exact Blk.new _ _ _
  have hl0 := k0.lt
  have HK := Lib.hid k0
  have HW := Lib.hid hW0
  have H := Lib.hid h
  have HO := Lib.hid hok
  clear k0 hW0 h hok
  by_cases h4 : 4 < d.length
  · have HR := Lib.hid (show diskOkR d = false by rw [diskOkR, decide_eq_false (by omega)]; rfl)
    go_enter Try.func32, Try.ntmps32
    go_wp2
    rw [← HW.out]
    go_ret
    exact ⟨ret_bool HR.out.symm, hb0⟩
  · have HR := Lib.hid (show diskOkR d = okGo d 0 d by rw [diskOkR, decide_eq_true (by omega), Bool.true_and])
    go_enter Try.func32, Try.ntmps32
    go_wp2
    rw [← HW.out]
    go_loopw [12] (fun u wr => ∃ k : Nat, k ≤ d.length ∧ u = .int .i64 k ∧ Hid (diskOkR d = okGo d k (d.drop k)) ∧ Hid (Below W0.heap.size W0 wr)) (fun u _ => d.length - (intOf u).toNat)
    case atStart => exact ⟨0, Nat.zero_le _, rfl, HR, Lib.hid (Below.refl _ _)⟩
    case round =>
      obtain ⟨k, hk, rfl, hgo, HB⟩ := hrel
      by_cases hlt : k < d.length
      · obtain ⟨b1, o1, _, hv1, _, _, hl1, hc1⟩ := H.out.form (by omega) (by omega)
        have hA1 : A = some ⟨b1, o1, none⟩ := by injection hv1
        subst hA1
        obtain ⟨x, hx⟩ : ∃ x, x = d[k] := ⟨_, rfl⟩
        have hw : Below w.heap.size w wr := hb0.trans (HB.out.mono hb0.size)
        obtain ⟨d0, d1, d2⟩ := fil_cells hw hl1 hc1 hlt x hx
        have hb1 : b1 < wr.heap.size := Nat.lt_of_lt_of_le hl1 hw.size
        have kp := HK.out.belowV HB.out
        have p0 := kp.cell 0
        simp only [List.getElem?_toArray, List.getElem?_cons_zero] at p0
        have hpl := kp.lt
        have hws := hw.size
        have hk0 : (0 : Int) ≤ (k : Int) := by omega
        have hk1 : (k : Int) < (d.length : Int) := by omega
        have hxo := HO.out x (by rw [hx]; exact List.getElem_mem hlt)
        obtain ⟨hxn, hxd⟩ := hxo
        have HD := Lib.hid (show diskOkR d = (filOk d k x && okGo d (k + 1) (d.drop (k + 1))) by rw [hgo.out, okGo_drop hlt, ← hx])
        have CN := Lib.hid (fun w => nameOk_any x.name w hxn)
        have CI := Lib.hid (fun w => within_b x.safe 0 x.data.size w)
        have CA := Lib.hid (fun W (hW : Below w.heap.size w W) => fileAt_any _ d x.name W (HRD.out.below hW) hn)
        have HV := Lib.hid (fun W (hW : Below (wr.heap.size + 1) (wr.alloc (.cells #[.string x.name, .string x.data, .int .i64 x.safe] 44)) W) => show W.cell? ⟨wr.heap.size, 0, none⟩ = some (.string x.name) ∧ W.cell? ⟨wr.heap.size, 1, none⟩ = some (.string x.data) ∧ W.cell? ⟨wr.heap.size, 2, none⟩ = some (.int .i64 x.safe) ∧ W.cell? ⟨w.heap.size, 0, none⟩ = some (.slice (some ⟨b1, o1, none⟩) d.length c) from by
          have q := (Blk.new wr 44 #[.string x.name, .string x.data, .int .i64 x.safe]).below hW (Nat.lt_succ_self _)
          have p := (kp.alloc (.cells #[.string x.name, .string x.data, .int .i64 x.safe] 44)).below hW (Nat.lt_succ_of_lt hpl)
          exact ⟨q.cell 0, q.cell 1, q.cell 2, p.cell 0⟩)
        clear hgo hx hv1 hc1 kp
        cases hN : nmOk x.name with
        | true =>
          by_cases hA : atR x.name d = (k : Int)
          · skip
            by_cases hD : x.data.size ≤ 60000
            · skip
              cases hS : inB x.safe 0 x.data.size with
              | true =>
                have HG := Lib.hid (show diskOkR d = okGo d (k + 1) (d.drop (k + 1)) by rw [HD.out, filOk, hN, decide_eq_true hA, decide_eq_true hD, hS]; simp)
                rw [hN] at CN
                rw [hS] at CI
                rw [hA] at CA
                clear hN hS hA HD
                go_wp2_with (first | (go_at_call 78; refine (CN.out _).mono ?_; rintro e w2 ⟨rfl, rfl⟩) | (go_at_call 54; refine (CI.out _).mono ?_; rintro e w2 ⟨rfl, rfl⟩) | (go_at_call 72; refine (CA.out _ (by exact (by repeat first | exact Below.refl _ _ | assumption | refine Below.drew ?_ | refine below_drewN ?_ _ | refine Below.calm ?_ (by first | exact Nat.le_refl _ | (simp; done) | (simp; omega) | omega) | refine Below.alloc ?_ (by first | exact Nat.le_refl _ | (simp; done) | (simp; omega) | omega) _ | refine Below.setCell ?_ (by first | exact Nat.le_refl _ | (simp; done) | (simp; omega) | omega) _))).mono ?_; rintro e w1 ⟨rfl, hb1⟩; obtain ⟨v0, v1, v2, vp⟩ := HV.out _ (by simpa using hb1)))
                go_roundw
                case rel => exact ⟨k + 1, by omega, by go_num, HG, Lib.hid (HB.out.trans ((Below.refl wr.heap.size wr |>.alloc (Nat.le_refl _) _).trans (hb1.mono (by simp)) |>.mono HB.out.size))⟩
                case measure => simp [intOf]; omega
              | false =>
                have HG := Lib.hid (show diskOkR d = false by rw [HD.out, filOk, hS]; simp)
                rw [hN] at CN
                rw [hS] at CI
                rw [hA] at CA
                clear hN hS hA HD
                go_wp2_with (first | (go_at_call 78; refine (CN.out _).mono ?_; rintro e w2 ⟨rfl, rfl⟩) | (go_at_call 54; refine (CI.out _).mono ?_; rintro e w2 ⟨rfl, rfl⟩) | (go_at_call 72; refine (CA.out _ (by exact (by repeat first | exact Below.refl _ _ | assumption | refine Below.drew ?_ | refine below_drewN ?_ _ | refine Below.calm ?_ (by first | exact Nat.le_refl _ | (simp; done) | (simp; omega) | omega) | refine Below.alloc ?_ (by first | exact Nat.le_refl _ | (simp; done) | (simp; omega) | omega) _ | refine Below.setCell ?_ (by first | exact Nat.le_refl _ | (simp; done) | (simp; omega) | omega) _))).mono ?_; rintro e w1 ⟨rfl, hb1⟩; obtain ⟨v0, v1, v2, vp⟩ := HV.out _ (by simpa using hb1)))
                go_ret
                exact ⟨ret_bool HG.out.symm, hb0.trans ((HB.out.trans ((Below.refl wr.heap.size wr |>.alloc (Nat.le_refl _) _).trans (hb1.mono (by simp)) |>.mono HB.out.size)).mono hb0.size)⟩
            · skip
              have HG := Lib.hid (show diskOkR d = false by rw [HD.out, filOk, decide_eq_false hD]; simp)
              rw [hN] at CN
              rw [hA] at CA
              clear hN hA HD
              go_wp2_with (first | (go_at_call 78; refine (CN.out _).mono ?_; rintro e w2 ⟨rfl, rfl⟩) | (go_at_call 54; refine (CI.out _).mono ?_; rintro e w2 ⟨rfl, rfl⟩) | (go_at_call 72; refine (CA.out _ (by exact (by repeat first | exact Below.refl _ _ | assumption | refine Below.drew ?_ | refine below_drewN ?_ _ | refine Below.calm ?_ (by first | exact Nat.le_refl _ | (simp; done) | (simp; omega) | omega) | refine Below.alloc ?_ (by first | exact Nat.le_refl _ | (simp; done) | (simp; omega) | omega) _ | refine Below.setCell ?_ (by first | exact Nat.le_refl _ | (simp; done) | (simp; omega) | omega) _))).mono ?_; rintro e w1 ⟨rfl, hb1⟩; obtain ⟨v0, v1, v2, vp⟩ := HV.out _ (by simpa using hb1)))
              go_ret
              exact ⟨ret_bool HG.out.symm, hb0.trans ((HB.out.trans ((Below.refl wr.heap.size wr |>.alloc (Nat.le_refl _) _).trans (hb1.mono (by simp)) |>.mono HB.out.size)).mono hb0.size)⟩
          · skip
            have HG := Lib.hid (show diskOkR d = false by rw [HD.out, filOk, decide_eq_false hA]; simp)
            rw [hN] at CN
            have ta : (atR x.name d == (k : Int)) = false := by simp; exact hA
            have tb : (atR x.name d != (k : Int)) = true := by simp; exact hA
            obtain ⟨r, hr⟩ : ∃ r, r = atR x.name d := ⟨_, rfl⟩
            rw [← hr] at CA ta tb
            clear hr
            clear hN hA HD
            go_wp2_with (first | (go_at_call 78; refine (CN.out _).mono ?_; rintro e w2 ⟨rfl, rfl⟩) | (go_at_call 54; refine (CI.out _).mono ?_; rintro e w2 ⟨rfl, rfl⟩) | (go_at_call 72; refine (CA.out _ (by exact (by repeat first | exact Below.refl _ _ | assumption | refine Below.drew ?_ | refine below_drewN ?_ _ | refine Below.calm ?_ (by first | exact Nat.le_refl _ | (simp; done) | (simp; omega) | omega) | refine Below.alloc ?_ (by first | exact Nat.le_refl _ | (simp; done) | (simp; omega) | omega) _ | refine Below.setCell ?_ (by first | exact Nat.le_refl _ | (simp; done) | (simp; omega) | omega) _))).mono ?_; rintro e w1 ⟨rfl, hb1⟩; obtain ⟨v0, v1, v2, vp⟩ := HV.out _ (by simpa using hb1)))
            go_ret
            exact ⟨ret_bool HG.out.symm, hb0.trans ((HB.out.trans ((Below.refl wr.heap.size wr |>.alloc (Nat.le_refl _) _).trans (hb1.mono (by simp)) |>.mono HB.out.size)).mono hb0.size)⟩
        | false =>
          have HG := Lib.hid (show diskOkR d = false by rw [HD.out, filOk, hN]; simp)
          rw [hN] at CN
          clear hN HD
          go_wp2_with (first | (go_at_call 78; refine (CN.out _).mono ?_; rintro e w2 ⟨rfl, rfl⟩) | (go_at_call 54; refine (CI.out _).mono ?_; rintro e w2 ⟨rfl, rfl⟩) | (go_at_call 72; refine (CA.out _ (by exact (by repeat first | exact Below.refl _ _ | assumption | refine Below.drew ?_ | refine below_drewN ?_ _ | refine Below.calm ?_ (by first | exact Nat.le_refl _ | (simp; done) | (simp; omega) | omega) | refine Below.alloc ?_ (by first | exact Nat.le_refl _ | (simp; done) | (simp; omega) | omega) _ | refine Below.setCell ?_ (by first | exact Nat.le_refl _ | (simp; done) | (simp; omega) | omega) _))).mono ?_; rintro e w1 ⟨rfl, hb1⟩; obtain ⟨v0, v1, v2, vp⟩ := HV.out _ (by simpa using hb1)))
          go_ret
          exact ⟨ret_bool HG.out.symm, hb0.trans ((HB.out.alloc HB.out.size _).mono hb0.size)⟩
      · have HG := Lib.hid (show diskOkR d = true by rw [hgo.out, List.drop_of_length_le (by omega)]; rfl)
        have kp := HK.out.belowV HB.out
        have p0 := kp.cell 0
        simp only [List.getElem?_toArray, List.getElem?_cons_zero] at p0
        have hpl := kp.lt
        clear hgo kp
        go_wp2
        go_ret
        exact ⟨ret_bool HG.out.symm, hb0.trans (HB.out.mono hb0.size)⟩

set_option maxHeartbeats 4000000 in
set_option maxRecDepth 100000 in
theorem diskOk_spec (v : Value) (d : List Fil) (w : World) (h : Rd_disk w v d) (hn : d.length ≤ 2000000) :
    Calls Try.prog 66 #[.agg #[v]] w fun e w' => e = .returned (.bool (diskOkR d)) ∧ Below w.heap.size w w' := by
  have HRD := Lib.hid h
  obtain ⟨h, hok⟩ := h
  obtain ⟨A, c, rfl, hnc, hcm⟩ := h.shape
  unfold maxLen at hcm
  obtain ⟨W0, hW0⟩ : ∃ W0, W0 = w.alloc (.cells #[.slice A d.length c] 37) := ⟨_, rfl⟩
  have hb0 : Below w.heap.size w W0 := by rw [hW0]; exact (Below.refl _ _).alloc (Nat.le_refl _) _
  have k0 : Blk W0 w.heap.size 37 #[.slice A d.length c] := by rw [hW0]; exact Blk.new _ _ _
  have hl0 := k0.lt
  have HK := Lib.hid k0
  have HW := Lib.hid hW0
  have H := Lib.hid h
  have HO := Lib.hid hok
  clear k0 hW0 h hok
  by_cases h4 : 4 < d.length
  · have HR := Lib.hid (show diskOkR d = false by rw [diskOkR, decide_eq_false (by omega)]; rfl)
    go_enter Try.func66, Try.ntmps66
    go_wp2
    rw [← HW.out]
    go_ret
    exact ⟨ret_bool HR.out.symm, hb0⟩
  · have HR := Lib.hid (show diskOkR d = okGo d 0 d by rw [diskOkR, decide_eq_true (by omega), Bool.true_and])
    go_enter Try.func66, Try.ntmps66
    go_wp2
    rw [← HW.out]
    go_loopw [3] (fun u wr => ∃ k : Nat, k ≤ d.length ∧ u = .int .i64 k ∧ Hid (diskOkR d = okGo d k (d.drop k)) ∧ Hid (Below W0.heap.size W0 wr)) (fun u _ => d.length - (intOf u).toNat)
    case atStart => exact ⟨0, Nat.zero_le _, rfl, HR, Lib.hid (Below.refl _ _)⟩
    case round =>
      obtain ⟨k, hk, rfl, hgo, HB⟩ := hrel
      by_cases hlt : k < d.length
      · obtain ⟨b1, o1, _, hv1, _, _, hl1, hc1⟩ := H.out.form (by omega) (by omega)
        have hA1 : A = some ⟨b1, o1, none⟩ := by injection hv1
        subst hA1
        obtain ⟨x, hx⟩ : ∃ x, x = d[k] := ⟨_, rfl⟩
        have hw : Below w.heap.size w wr := hb0.trans (HB.out.mono hb0.size)
        obtain ⟨d0, d1, d2⟩ := fil_cells hw hl1 hc1 hlt x hx
        have hb1 : b1 < wr.heap.size := Nat.lt_of_lt_of_le hl1 hw.size
        have kp := HK.out.belowV HB.out
        have p0 := kp.cell 0
        simp only [List.getElem?_toArray, List.getElem?_cons_zero] at p0
        have hpl := kp.lt
        have hws := hw.size
        have hk0 : (0 : Int) ≤ (k : Int) := by omega
        have hk1 : (k : Int) < (d.length : Int) := by omega
        have hxo := HO.out x (by rw [hx]; exact List.getElem_mem hlt)
        obtain ⟨hxn, hxd⟩ := hxo
        have HD := Lib.hid (show diskOkR d = (filOk d k x && okGo d (k + 1) (d.drop (k + 1))) by rw [hgo.out, okGo_drop hlt, ← hx])
        have CN := Lib.hid (fun w => l04Name_any x.name w hxn)
        have CI := Lib.hid (fun w => l01In_b x.safe 0 x.data.size w)
        have CA := Lib.hid (fun W (hW : Below w.heap.size w W) => l04At_any _ d x.name W (HRD.out.below hW) hn)
        have HV := Lib.hid (fun W (hW : Below (wr.heap.size + 1) (wr.alloc (.cells #[.string x.name, .string x.data, .int .i64 x.safe] 44)) W) => show W.cell? ⟨wr.heap.size, 0, none⟩ = some (.string x.name) ∧ W.cell? ⟨wr.heap.size, 1, none⟩ = some (.string x.data) ∧ W.cell? ⟨wr.heap.size, 2, none⟩ = some (.int .i64 x.safe) ∧ W.cell? ⟨w.heap.size, 0, none⟩ = some (.slice (some ⟨b1, o1, none⟩) d.length c) from by
          have q := (Blk.new wr 44 #[.string x.name, .string x.data, .int .i64 x.safe]).below hW (Nat.lt_succ_self _)
          have p := (kp.alloc (.cells #[.string x.name, .string x.data, .int .i64 x.safe] 44)).below hW (Nat.lt_succ_of_lt hpl)
          exact ⟨q.cell 0, q.cell 1, q.cell 2, p.cell 0⟩)
        clear hgo hx hv1 hc1 kp
        cases hN : nmOk x.name with
        | true =>
          by_cases hD : x.data.size ≤ 60000
          · skip
            cases hS : inB x.safe 0 x.data.size with
            | true =>
              by_cases hA : atR x.name d = (k : Int)
              · skip
                have HG := Lib.hid (show diskOkR d = okGo d (k + 1) (d.drop (k + 1)) by rw [HD.out, filOk, hN, decide_eq_true hA, decide_eq_true hD, hS]; simp)
                rw [hN] at CN
                rw [hS] at CI
                rw [hA] at CA
                clear hN hS hA HD
                go_wp2_with (first | (go_at_call 80; refine (CN.out _).mono ?_; rintro e w2 ⟨rfl, rfl⟩) | (go_at_call 89; refine (CI.out _).mono ?_; rintro e w2 ⟨rfl, rfl⟩) | (go_at_call 70; refine (CA.out _ (by exact (by repeat first | exact Below.refl _ _ | assumption | refine Below.drew ?_ | refine below_drewN ?_ _ | refine Below.calm ?_ (by first | exact Nat.le_refl _ | (simp; done) | (simp; omega) | omega) | refine Below.alloc ?_ (by first | exact Nat.le_refl _ | (simp; done) | (simp; omega) | omega) _ | refine Below.setCell ?_ (by first | exact Nat.le_refl _ | (simp; done) | (simp; omega) | omega) _))).mono ?_; rintro e w1 ⟨rfl, hb1⟩; obtain ⟨v0, v1, v2, vp⟩ := HV.out _ (by simpa using hb1)))
                go_roundw
                case rel => exact ⟨k + 1, by omega, by go_num, HG, Lib.hid (HB.out.trans ((Below.refl wr.heap.size wr |>.alloc (Nat.le_refl _) _).trans (hb1.mono (by simp)) |>.mono HB.out.size))⟩
                case measure => simp [intOf]; omega
              · skip
                have HG := Lib.hid (show diskOkR d = false by rw [HD.out, filOk, decide_eq_false hA]; simp)
                rw [hN] at CN
                rw [hS] at CI
                have ta : (atR x.name d == (k : Int)) = false := by simp; exact hA
                have tb : (atR x.name d != (k : Int)) = true := by simp; exact hA
                obtain ⟨r, hr⟩ : ∃ r, r = atR x.name d := ⟨_, rfl⟩
                rw [← hr] at CA ta tb
                clear hr
                clear hN hS hA HD
                go_wp2_with (first | (go_at_call 80; refine (CN.out _).mono ?_; rintro e w2 ⟨rfl, rfl⟩) | (go_at_call 89; refine (CI.out _).mono ?_; rintro e w2 ⟨rfl, rfl⟩) | (go_at_call 70; refine (CA.out _ (by exact (by repeat first | exact Below.refl _ _ | assumption | refine Below.drew ?_ | refine below_drewN ?_ _ | refine Below.calm ?_ (by first | exact Nat.le_refl _ | (simp; done) | (simp; omega) | omega) | refine Below.alloc ?_ (by first | exact Nat.le_refl _ | (simp; done) | (simp; omega) | omega) _ | refine Below.setCell ?_ (by first | exact Nat.le_refl _ | (simp; done) | (simp; omega) | omega) _))).mono ?_; rintro e w1 ⟨rfl, hb1⟩; obtain ⟨v0, v1, v2, vp⟩ := HV.out _ (by simpa using hb1)))
                go_ret
                exact ⟨ret_bool HG.out.symm, hb0.trans ((HB.out.trans ((Below.refl wr.heap.size wr |>.alloc (Nat.le_refl _) _).trans (hb1.mono (by simp)) |>.mono HB.out.size)).mono hb0.size)⟩
            | false =>
              have HG := Lib.hid (show diskOkR d = false by rw [HD.out, filOk, hS]; simp)
              rw [hN] at CN
              rw [hS] at CI
              clear hN hS HD
              go_wp2_with (first | (go_at_call 80; refine (CN.out _).mono ?_; rintro e w2 ⟨rfl, rfl⟩) | (go_at_call 89; refine (CI.out _).mono ?_; rintro e w2 ⟨rfl, rfl⟩) | (go_at_call 70; refine (CA.out _ (by exact (by repeat first | exact Below.refl _ _ | assumption | refine Below.drew ?_ | refine below_drewN ?_ _ | refine Below.calm ?_ (by first | exact Nat.le_refl _ | (simp; done) | (simp; omega) | omega) | refine Below.alloc ?_ (by first | exact Nat.le_refl _ | (simp; done) | (simp; omega) | omega) _ | refine Below.setCell ?_ (by first | exact Nat.le_refl _ | (simp; done) | (simp; omega) | omega) _))).mono ?_; rintro e w1 ⟨rfl, hb1⟩; obtain ⟨v0, v1, v2, vp⟩ := HV.out _ (by simpa using hb1)))
              go_ret
              exact ⟨ret_bool HG.out.symm, hb0.trans ((HB.out.alloc HB.out.size _).mono hb0.size)⟩
          · skip
            have HG := Lib.hid (show diskOkR d = false by rw [HD.out, filOk, decide_eq_false hD]; simp)
            rw [hN] at CN
            clear hN HD
            go_wp2_with (first | (go_at_call 80; refine (CN.out _).mono ?_; rintro e w2 ⟨rfl, rfl⟩) | (go_at_call 89; refine (CI.out _).mono ?_; rintro e w2 ⟨rfl, rfl⟩) | (go_at_call 70; refine (CA.out _ (by exact (by repeat first | exact Below.refl _ _ | assumption | refine Below.drew ?_ | refine below_drewN ?_ _ | refine Below.calm ?_ (by first | exact Nat.le_refl _ | (simp; done) | (simp; omega) | omega) | refine Below.alloc ?_ (by first | exact Nat.le_refl _ | (simp; done) | (simp; omega) | omega) _ | refine Below.setCell ?_ (by first | exact Nat.le_refl _ | (simp; done) | (simp; omega) | omega) _))).mono ?_; rintro e w1 ⟨rfl, hb1⟩; obtain ⟨v0, v1, v2, vp⟩ := HV.out _ (by simpa using hb1)))
            go_ret
            exact ⟨ret_bool HG.out.symm, hb0.trans ((HB.out.alloc HB.out.size _).mono hb0.size)⟩
        | false =>
          have HG := Lib.hid (show diskOkR d = false by rw [HD.out, filOk, hN]; simp)
          rw [hN] at CN
          clear hN HD
          go_wp2_with (first | (go_at_call 80; refine (CN.out _).mono ?_; rintro e w2 ⟨rfl, rfl⟩) | (go_at_call 89; refine (CI.out _).mono ?_; rintro e w2 ⟨rfl, rfl⟩) | (go_at_call 70; refine (CA.out _ (by exact (by repeat first | exact Below.refl _ _ | assumption | refine Below.drew ?_ | refine below_drewN ?_ _ | refine Below.calm ?_ (by first | exact Nat.le_refl _ | (simp; done) | (simp; omega) | omega) | refine Below.alloc ?_ (by first | exact Nat.le_refl _ | (simp; done) | (simp; omega) | omega) _ | refine Below.setCell ?_ (by first | exact Nat.le_refl _ | (simp; done) | (simp; omega) | omega) _))).mono ?_; rintro e w1 ⟨rfl, hb1⟩; obtain ⟨v0, v1, v2, vp⟩ := HV.out _ (by simpa using hb1)))
          go_ret
          exact ⟨ret_bool HG.out.symm, hb0.trans ((HB.out.alloc HB.out.size _).mono hb0.size)⟩
      · have HG := Lib.hid (show diskOkR d = true by rw [hgo.out, List.drop_of_length_le (by omega)]; rfl)
        have kp := HK.out.belowV HB.out
        have p0 := kp.cell 0
        simp only [List.getElem?_toArray, List.getElem?_cons_zero] at p0
        have hpl := kp.lt
        clear hgo kp
        go_wp2
        go_ret
        exact ⟨ret_bool HG.out.symm, hb0.trans (HB.out.mono hb0.size)⟩
theorem diskOk_impl' (v : Value) (d : List Fil) (w : World) (h : Rd_disk w v d) (hn : cost_disk d ≤ 1048576) :
    Calls Try.prog 32 #[.agg #[v]] w fun e w' => e = .returned (.bool (diskOkR d)) ∧ Below w.heap.size w w' := diskOk_impl v d w h (by unfold cost_disk at hn; omega)
theorem diskOk_spec' (v : Value) (d : List Fil) (w : World) (h : Rd_disk w v d) (hn : cost_disk d ≤ 1048576) :
    Calls Try.prog 66 #[.agg #[v]] w fun e w' => e = .returned (.bool (diskOkR d)) ∧ Below w.heap.size w w' := diskOk_spec v d w h (by unfold cost_disk at hn; omega)
end Go.Proofs.Ythjkmefbjbfonaa

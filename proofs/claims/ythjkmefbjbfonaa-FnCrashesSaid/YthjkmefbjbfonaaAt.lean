/- The place of a file in a disk, the program's and the reference's; ReadFile. -/
import Derived.Test.YthjkmefbjbfonaaDiskK
import Derived.Lib.Strings
namespace Go.Proofs.Ythjkmefbjbfonaa
open Go.RowKit Go.ChangeShapes Go.Deep

/-- The first place of a name; the length where there is none. -/
def atF (nm : ByteArray) : List Fil → Nat
  | [] => 0
  | f :: r => if f.name = nm then 0 else atF nm r + 1
theorem atF_le (nm : ByteArray) : ∀ d : List Fil, atF nm d ≤ d.length
  | [] => Nat.le_refl _
  | f :: r => by
    rw [atF]
    split
    · exact Nat.zero_le _
    · have := atF_le nm r; simp; omega
theorem atF_drop {nm : ByteArray} {d : List Fil} {k : Nat} (h : k < d.length) : atF nm (d.drop k) = if d[k].name = nm then 0 else atF nm (d.drop (k + 1)) + 1 := by rw [List.drop_eq_getElem_cons h, atF]
theorem atF_name {nm : ByteArray} : ∀ {d : List Fil} (h : atF nm d < d.length), d[atF nm d].name = nm
  | f :: r, h => by
    by_cases e : f.name = nm
    · have : atF nm (f :: r) = 0 := by rw [atF, if_pos e]
      simp only [this, List.getElem_cons_zero]
      exact e
    · have hh : atF nm (f :: r) = atF nm r + 1 := by rw [atF, if_neg e]
      simp only [hh, List.getElem_cons_succ]
      exact atF_name (by rw [hh] at h; simpa using h)
theorem bytes_ext {a b : ByteArray} (h : a.toList = b.toList) : a = b := by
  have ha : ∀ x : ByteArray, x.toList = x.data.toList := fun x => Lib.toList_data x
  rw [ha, ha] at h
  exact ByteArray.ext (Array.toList_inj.1 h)
def atR (nm : ByteArray) (d : List Fil) : Int := if atF nm d < d.length then (atF nm d : Int) else -1

set_option maxHeartbeats 1000000 in
set_option maxRecDepth 100000 in
theorem atFunc_any (x : Fil) (nm : ByteArray) (ge : Nat) (w : World) (he : Blk w ge 9 #[.string nm]) :
    Calls Try.prog 94 #[(.agg #[.string x.name, .string x.data, .int .i64 x.safe]), .pointer (some ⟨ge, 0, none⟩)] w fun r w' => r = .returned (.bool (decide (x.name = nm))) ∧ Below w.heap.size w w' := by
  have c0 := he.cell 0
  simp only [List.getElem?_toArray, List.getElem?_cons_zero] at c0
  have hl := he.lt
  clear he
  by_cases hs : x.name = nm
  · have t0 : (x.name.toList == nm.toList) = true := by rw [hs]; simp
    rw [decide_eq_true hs]
    clear hs
    go_enter Try.func94, Try.ntmps94
    go_wp2
    go_ret
    exact ⟨rfl, (by repeat first | exact Below.refl _ _ | assumption | refine Below.drew ?_ | refine below_drewN ?_ _ | refine Below.calm ?_ (by first | exact Nat.le_refl _ | (simp; done) | (simp; omega) | omega) | refine Below.alloc ?_ (by first | exact Nat.le_refl _ | (simp; done) | (simp; omega) | omega) _ | refine Below.setCell ?_ (by first | exact Nat.le_refl _ | (simp; done) | (simp; omega) | omega) _)⟩
  · have t0 : (x.name.toList == nm.toList) = false := by
      rw [beq_eq_false_iff_ne]
      intro e
      exact hs (bytes_ext e)
    rw [decide_eq_false hs]
    clear hs
    go_enter Try.func94, Try.ntmps94
    go_wp2
    go_ret
    exact ⟨rfl, (by repeat first | exact Below.refl _ _ | assumption | refine Below.drew ?_ | refine below_drewN ?_ _ | refine Below.calm ?_ (by first | exact Nat.le_refl _ | (simp; done) | (simp; omega) | omega) | refine Below.alloc ?_ (by first | exact Nat.le_refl _ | (simp; done) | (simp; omega) | omega) _ | refine Below.setCell ?_ (by first | exact Nat.le_refl _ | (simp; done) | (simp; omega) | omega) _)⟩

set_option maxHeartbeats 1000000 in
set_option maxRecDepth 100000 in
theorem indexFunc_any (v : Value) (d : List Fil) (nm : ByteArray) (ge : Nat) (w : World) (h : Rd w 3 v d.length (filV d)) (hn : d.length ≤ 2000000) (he : Blk w ge 9 #[.string nm]) :
    Calls Try.prog 93 #[v, .func (Fn.func 94) #[] #[.pointer (some ⟨ge, 0, none⟩)]] w fun r w' => r = .returned (.int .i64 (atR nm d)) ∧ Below w.heap.size w w' := by
  obtain ⟨A1, c1, rfl, hnc1, hcm1⟩ := h.shape
  unfold maxLen at hcm1
  have HE := Lib.hid he
  have hge := he.lt
  clear he
  go_enter Try.func93, Try.ntmps93
  go_wp2
  go_loopw [8] (fun u8 wr => ∃ k : Nat, k ≤ d.length ∧ u8 = .int .i64 k ∧ Hid (atF nm d = k + atF nm (d.drop k)) ∧ Below w.heap.size w wr) (fun u8 _ => d.length - (intOf u8).toNat)
  case atStart => exact ⟨0, Nat.zero_le _, rfl, Lib.hid (by simp), Below.refl _ _⟩
  case round =>
    obtain ⟨k, hk, rfl, hgo, hb⟩ := hrel
    by_cases hlt : k < d.length
    · obtain ⟨b1, o1, _, hv1, _, _, hl1, hc1⟩ := h.form (by omega) (by omega)
      have hA1 : A1 = some ⟨b1, o1, none⟩ := by injection hv1
      subst hA1
      obtain ⟨x, hx⟩ : ∃ x, x = d[k] := ⟨_, rfl⟩
      obtain ⟨d0, d1, d2⟩ := fil_cells hb hl1 hc1 hlt x hx
      have HD := Lib.hid (show atF nm d = k + if x.name = nm then 0 else atF nm (d.drop (k + 1)) + 1 by rw [hgo.out, atF_drop hlt, ← hx])
      have CP := Lib.hid (fun W (hW : Blk W ge 9 #[.string nm]) => atFunc_any x nm ge W hW)
      have HW := Lib.hid (HE.out.below hb hge)
      have hk0 : (0 : Int) ≤ (k : Int) := by omega
      have hk1 : (k : Int) < (d.length : Int) := by omega
      clear hgo hx hv1 hc1
      by_cases hs : x.name = nm
      · have HG := Lib.hid (show atR nm d = (k : Int) by
          have h0 : atF nm d = k := by rw [HD.out, if_pos hs]; rfl
          rw [atR, h0, if_pos hlt])
        rw [decide_eq_true hs] at CP
        clear HD hs
        go_wp2_with fail
        refine (CP.out _ HW.out).mono ?_
        rintro e1 w1 ⟨rfl, hb1⟩
        go_wp2_with fail
        go_ret
        exact ⟨ret_int HG.out.symm, hb.trans (hb1.mono hb.size)⟩
      · have HG := Lib.hid (show atF nm d = (k + 1) + atF nm (d.drop (k + 1)) by rw [HD.out, if_neg hs]; omega)
        rw [decide_eq_false hs] at CP
        clear HD hs
        go_wp2_with fail
        refine (CP.out _ HW.out).mono ?_
        rintro e1 w1 ⟨rfl, hb1⟩
        go_wp2_with fail
        go_roundw
        case rel => exact ⟨k + 1, by omega, by go_num, HG, hb.trans (hb1.mono hb.size)⟩
        case measure => simp [intOf]; omega
    · have HG := Lib.hid (show atR nm d = -1 by
        have h0 : atF nm d = k := by rw [hgo.out, List.drop_of_length_le (by omega)]; rfl
        rw [atR, h0, if_neg hlt])
      clear hgo
      go_wp2_with fail
      go_ret
      exact ⟨ret_int HG.out.symm, hb⟩

set_option maxHeartbeats 1000000 in
set_option maxRecDepth 100000 in
theorem fileAt_any (v : Value) (d : List Fil) (nm : ByteArray) (w : World) (h : Rd_disk w v d) (hn : d.length ≤ 2000000) :
    Calls Try.prog 72 #[.agg #[v], .string nm] w fun r w' => r = .returned (.int .i64 (atR nm d)) ∧ Below w.heap.size w w' := by
  obtain ⟨h, hok⟩ := h
  obtain ⟨A, c, rfl, hnc, hcm⟩ := h.shape
  unfold maxLen at hcm
  obtain ⟨W0, hW0⟩ : ∃ W0, W0 = w.alloc (.cells #[.slice A d.length c] 37) := ⟨_, rfl⟩
  have hb0 : Below w.heap.size w W0 := by rw [hW0]; exact (Below.refl _ _).alloc (Nat.le_refl _) _
  have k0 : Blk W0 w.heap.size 37 #[.slice A d.length c] := by rw [hW0]; exact Blk.new _ _ _
  have hl0 := k0.lt
  have HK := Lib.hid k0
  have HW := Lib.hid hW0
  have H := Lib.hid h
  have HO := Lib.hid hok
  clear k0 hW0 h hok
  obtain ⟨W1, hW1⟩ : ∃ W1, W1 = W0.alloc (.cells #[.string nm] 9) := ⟨_, rfl⟩
  have hb1 : Below w.heap.size w W1 := by rw [hW1]; exact hb0.alloc hb0.size _
  have k1 : Blk W1 W0.heap.size 9 #[.string nm] := by rw [hW1]; exact Blk.new _ _ _
  have hs0 : W0.heap.size = w.heap.size + 1 := by rw [HW.out]; simp
  have CI := Lib.hid (indexFunc_any _ d nm W0.heap.size W1 (H.out.below hb1) hn k1)
  have HW1 := Lib.hid hW1
  have HS := Lib.hid hs0
  clear hW1 k1 hs0
  obtain ⟨r, hr⟩ : ∃ r, r = atR nm d := ⟨_, rfl⟩
  rw [← hr] at CI ⊢
  clear hr
  rw [HS.out] at CI
  go_enter Try.func72, Try.ntmps72
  go_wp2_with fail
  rw [← HW.out, ← HW1.out]
  refine CI.out.mono ?_
  rintro e w2 ⟨rfl, hb2⟩
  go_wp2_with fail
  go_ret
  exact ⟨rfl, hb1.trans (hb2.mono hb1.size)⟩

set_option maxHeartbeats 1000000 in
set_option maxRecDepth 100000 in
theorem l04At_any (v : Value) (d : List Fil) (nm : ByteArray) (w : World) (h : Rd_disk w v d) (hn : d.length ≤ 2000000) :
    Calls Try.prog 70 #[.agg #[v], .string nm] w fun r w' => r = .returned (.int .i64 (atR nm d)) ∧ Below w.heap.size w w' := by
  obtain ⟨h, hok⟩ := h
  obtain ⟨A, c, rfl, hnc, hcm⟩ := h.shape
  unfold maxLen at hcm
  obtain ⟨W0, hW0⟩ : ∃ W0, W0 = w.alloc (.cells #[.slice A d.length c] 37) := ⟨_, rfl⟩
  have hb0 : Below w.heap.size w W0 := by rw [hW0]; exact (Below.refl _ _).alloc (Nat.le_refl _) _
  have k0 : Blk W0 w.heap.size 37 #[.slice A d.length c] := by rw [hW0]; exact Blk.new _ _ _
  have hl0 := k0.lt
  have HK := Lib.hid k0
  have HW := Lib.hid hW0
  have H := Lib.hid h
  have HO := Lib.hid hok
  clear k0 hW0 h hok
  go_enter Try.func70, Try.ntmps70
  go_wp2
  rw [← HW.out]
  go_loopw [5] (fun u wr => ∃ k : Nat, k ≤ d.length ∧ u = .int .i64 k ∧ Hid (atF nm d = k + atF nm (d.drop k)) ∧ Hid (Below W0.heap.size W0 wr)) (fun u _ => d.length - (intOf u).toNat)
  case atStart => exact ⟨0, Nat.zero_le _, rfl, Lib.hid (by simp), Lib.hid (Below.refl _ _)⟩
  case round =>
    obtain ⟨k, hk, rfl, hgo, HB⟩ := hrel
    by_cases hlt : k < d.length
    · obtain ⟨b1, o1, _, hv1, _, _, hl1, hc1⟩ := H.out.form (by omega) (by omega)
      have hA1 : A = some ⟨b1, o1, none⟩ := by injection hv1
      subst hA1
      obtain ⟨x, hx⟩ : ∃ x, x = d[k] := ⟨_, rfl⟩
      have hw : Below w.heap.size w wr := hb0.trans (HB.out.mono hb0.size)
      obtain ⟨d0, d1, d2⟩ := fil_cells hw hl1 hc1 hlt x hx
      have hb1 : b1 < wr.heap.size := Nat.lt_of_lt_of_le hl1 hw.size
      have kp := HK.out.belowV HB.out
      have p0 := kp.cell 0
      simp only [List.getElem?_toArray, List.getElem?_cons_zero] at p0
      have hpl := kp.lt
      have hk0 : (0 : Int) ≤ (k : Int) := by omega
      have hk1 : (k : Int) < (d.length : Int) := by omega
      have HD := Lib.hid (show atF nm d = k + if x.name = nm then 0 else atF nm (d.drop (k + 1)) + 1 by rw [hgo.out, atF_drop hlt, ← hx])
      clear hgo hx hv1 hc1 kp
      by_cases hs : x.name = nm
      · have HG := Lib.hid (show atR nm d = (k : Int) by
          have h0 : atF nm d = k := by rw [HD.out, if_pos hs]; rfl
          rw [atR, h0, if_pos hlt])
        have t0 : (x.name.toList == nm.toList) = true := by rw [hs]; simp
        clear HD hs
        go_wp2
        go_ret
        exact ⟨ret_int HG.out.symm, hb0.trans (HB.out.mono hb0.size)⟩
      · have HG := Lib.hid (show atF nm d = (k + 1) + atF nm (d.drop (k + 1)) by rw [HD.out, if_neg hs]; omega)
        have t0 : (x.name.toList == nm.toList) = false := by
          rw [beq_eq_false_iff_ne]
          intro e
          exact hs (bytes_ext e)
        clear HD hs
        go_wp2
        go_roundw
        case rel => exact ⟨k + 1, by omega, by go_num, HG, HB⟩
        case measure => simp [intOf]; omega
    · have HG := Lib.hid (show atR nm d = -1 by
        have h0 : atF nm d = k := by rw [hgo.out, List.drop_of_length_le (by omega)]; rfl
        rw [atR, h0, if_neg hlt])
      have kp := HK.out.belowV HB.out
      have p0 := kp.cell 0
      simp only [List.getElem?_toArray, List.getElem?_cons_zero] at p0
      have hpl := kp.lt
      clear hgo kp
      go_wp2
      go_ret
      exact ⟨ret_int HG.out.symm, hb0.trans (HB.out.mono hb0.size)⟩

def noText : ByteArray := ⟨#[]⟩
def readFileR (d : List Fil) (nm : ByteArray) : ByteArray := if h : atF nm d < d.length then d[atF nm d].data else noText

set_option maxHeartbeats 1000000 in
set_option maxRecDepth 100000 in
theorem readFile_impl (v : Value) (d : List Fil) (nm : ByteArray) (w : World) (h : Rd_disk w v d) (hn : cost_disk d ≤ 1048576) (_ : nm.size ≤ 1048576) :
    Calls Try.prog 33 #[.agg #[v], .string nm] w fun r w' => r = .returned (.string (readFileR d nm)) ∧ Below w.heap.size w w' := by
  unfold cost_disk at hn
  have hrd := h
  obtain ⟨h, hok⟩ := h
  obtain ⟨A, c, rfl, hnc, hcm⟩ := h.shape
  unfold maxLen at hcm
  obtain ⟨W0, hW0⟩ : ∃ W0, W0 = w.alloc (.cells #[.slice A d.length c] 37) := ⟨_, rfl⟩
  have hb0 : Below w.heap.size w W0 := by rw [hW0]; exact (Below.refl _ _).alloc (Nat.le_refl _) _
  have k0 : Blk W0 w.heap.size 37 #[.slice A d.length c] := by rw [hW0]; exact Blk.new _ _ _
  have hl0 := k0.lt
  have HK := Lib.hid k0
  have HW := Lib.hid hW0
  have H := Lib.hid h
  have HO := Lib.hid hok
  clear k0 hW0 h hok
  have CA := Lib.hid (fileAt_any (.slice A d.length c) d nm W0 (hrd.below hb0) (by omega))
  clear hrd
  by_cases hlt : atF nm d < d.length
  · have HR := Lib.hid (show readFileR d nm = d[atF nm d].data by rw [readFileR, dif_pos hlt])
    have hat : atR nm d = (atF nm d : Int) := by rw [atR, if_pos hlt]
    rw [hat] at CA
    obtain ⟨k, hk⟩ : ∃ k, k = atF nm d := ⟨_, rfl⟩
    simp only [← hk] at CA HR hlt
    obtain ⟨b1, o1, _, hv1, _, _, hl1, hc1⟩ := H.out.form (by omega) (by omega)
    have hA1 : A = some ⟨b1, o1, none⟩ := by injection hv1
    subst hA1
    obtain ⟨x, hx⟩ : ∃ x, x = d[k] := ⟨_, rfl⟩
    have HX := Lib.hid (show readFileR d nm = x.data by rw [HR.out, hx])
    have HC := Lib.hid (fun W (hW : Below w.heap.size w W) => fil_cells hW hl1 hc1 hlt x hx)
    clear hat hk hv1 hc1 hx HR
    go_enter Try.func33, Try.ntmps33
    go_wp2_with fail
    rw [← HW.out]
    refine CA.out.mono ?_
    rintro e w1 ⟨rfl, hb1⟩
    have hw1 := hb0.trans (hb1.mono hb0.size)
    obtain ⟨d0, d1, d2⟩ := HC.out w1 hw1
    have kp := HK.out.belowV hb1
    have p0 := kp.cell 0
    simp only [List.getElem?_toArray, List.getElem?_cons_zero] at p0
    have hk1 : (k : Int) < (d.length : Int) := by omega
    clear kp
    go_wp2_with fail
    go_ret
    exact ⟨ret_str HX.out.symm, hw1⟩
  · have HR := Lib.hid (show readFileR d nm = ⟨#[]⟩ by rw [readFileR, dif_neg hlt]; rfl)
    have hat : atR nm d = -1 := by rw [atR, if_neg hlt]
    rw [hat] at CA
    clear hat hlt
    go_enter Try.func33, Try.ntmps33
    go_wp2_with fail
    rw [← HW.out]
    refine CA.out.mono ?_
    rintro e w1 ⟨rfl, hb1⟩
    go_wp2_with fail
    go_ret
    exact ⟨ret_str HR.out.symm, hb0.trans (hb1.mono hb0.size)⟩

set_option maxHeartbeats 1000000 in
set_option maxRecDepth 100000 in
theorem readFile_spec (v : Value) (d : List Fil) (nm : ByteArray) (w : World) (h : Rd_disk w v d) (hn : cost_disk d ≤ 1048576) (_ : nm.size ≤ 1048576) :
    Calls Try.prog 34 #[.agg #[v], .string nm] w fun r w' => r = .returned (.string (readFileR d nm)) ∧ Below w.heap.size w w' := by
  unfold cost_disk at hn
  have hrd := h
  obtain ⟨h, hok⟩ := h
  obtain ⟨A, c, rfl, hnc, hcm⟩ := h.shape
  unfold maxLen at hcm
  obtain ⟨W0, hW0⟩ : ∃ W0, W0 = w.alloc (.cells #[.slice A d.length c] 37) := ⟨_, rfl⟩
  have hb0 : Below w.heap.size w W0 := by rw [hW0]; exact (Below.refl _ _).alloc (Nat.le_refl _) _
  have k0 : Blk W0 w.heap.size 37 #[.slice A d.length c] := by rw [hW0]; exact Blk.new _ _ _
  have hl0 := k0.lt
  have HK := Lib.hid k0
  have HW := Lib.hid hW0
  have H := Lib.hid h
  have HO := Lib.hid hok
  clear k0 hW0 h hok
  have CA := Lib.hid (l04At_any (.slice A d.length c) d nm W0 (hrd.below hb0) (by omega))
  clear hrd
  by_cases hlt : atF nm d < d.length
  · have HR := Lib.hid (show readFileR d nm = d[atF nm d].data by rw [readFileR, dif_pos hlt])
    have hat : atR nm d = (atF nm d : Int) := by rw [atR, if_pos hlt]
    rw [hat] at CA
    obtain ⟨k, hk⟩ : ∃ k, k = atF nm d := ⟨_, rfl⟩
    simp only [← hk] at CA HR hlt
    obtain ⟨b1, o1, _, hv1, _, _, hl1, hc1⟩ := H.out.form (by omega) (by omega)
    have hA1 : A = some ⟨b1, o1, none⟩ := by injection hv1
    subst hA1
    obtain ⟨x, hx⟩ : ∃ x, x = d[k] := ⟨_, rfl⟩
    have HX := Lib.hid (show readFileR d nm = x.data by rw [HR.out, hx])
    have HC := Lib.hid (fun W (hW : Below w.heap.size w W) => fil_cells hW hl1 hc1 hlt x hx)
    clear hat hk hv1 hc1 hx HR
    go_enter Try.func34, Try.ntmps34
    go_wp2_with fail
    rw [← HW.out]
    refine CA.out.mono ?_
    rintro e w1 ⟨rfl, hb1⟩
    have hw1 := hb0.trans (hb1.mono hb0.size)
    obtain ⟨d0, d1, d2⟩ := HC.out w1 hw1
    have kp := HK.out.belowV hb1
    have p0 := kp.cell 0
    simp only [List.getElem?_toArray, List.getElem?_cons_zero] at p0
    have hk1 : (k : Int) < (d.length : Int) := by omega
    clear kp
    go_wp2_with fail
    go_ret
    exact ⟨ret_str HX.out.symm, hw1⟩
  · have HR := Lib.hid (show readFileR d nm = ⟨#[]⟩ by rw [readFileR, dif_neg hlt]; rfl)
    have hat : atR nm d = -1 := by rw [atR, if_neg hlt]
    rw [hat] at CA
    clear hat hlt
    go_enter Try.func34, Try.ntmps34
    go_wp2_with fail
    rw [← HW.out]
    refine CA.out.mono ?_
    rintro e w1 ⟨rfl, hb1⟩
    go_wp2_with fail
    go_ret
    exact ⟨ret_str HR.out.symm, hb0.trans (hb1.mono hb0.size)⟩
end Go.Proofs.Ythjkmefbjbfonaa

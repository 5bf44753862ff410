/- AllSafe, the program's and the reference's. -/
import Derived.Test.YthjkmefbjbfonaaDiskK
namespace Go.Proofs.Ythjkmefbjbfonaa
open Go.RowKit Go.ChangeShapes Go.Deep

def allSafeR (d : List Fil) : Bool := d.all fun f => f.safe == (f.data.size : Int)
theorem allSafe_drop {d : List Fil} {k : Nat} (h : k < d.length) : allSafeR (d.drop k) = ((d[k].safe == (d[k].data.size : Int)) && allSafeR (d.drop (k + 1))) := by
  rw [List.drop_eq_getElem_cons h]
  rfl

set_option maxHeartbeats 1000000 in
set_option maxRecDepth 100000 in
theorem allSafe_impl (v : Value) (d : List Fil) (w : World) (h : Rd_disk w v d) (hn : cost_disk d ≤ 1048576) :
    Calls Try.prog 23 #[.agg #[v]] w fun e w' => e = .returned (.bool (allSafeR d)) ∧ Below w.heap.size w w' := by
  unfold cost_disk at hn
  obtain ⟨h, hok⟩ := h
  obtain ⟨A, c, rfl, hnc, hcm⟩ := h.shape
  unfold maxLen at hcm
  obtain ⟨W0, hW0⟩ : ∃ W0, W0 = w.alloc (.cells #[.slice A d.length c] 37) := ⟨_, rfl⟩
  have hb0 : Below w.heap.size w W0 := by rw [hW0]; exact (Below.refl _ _).alloc (Nat.le_refl _) _
  have k0 : Blk W0 w.heap.size 37 #[.slice A d.length c] := by rw [hW0]; exact Blk.new _ _ _
  have hl0 := k0.lt
  have HK := Lib.hid k0
  have HW := Lib.hid hW0
  have H := Lib.hid h
  have HO := Lib.hid hok
  clear k0 hW0 h hok
  go_enter Try.func23, Try.ntmps23
  go_wp2
  rw [← HW.out]
  go_loopw [8] (fun u wr => ∃ k : Nat, k ≤ d.length ∧ u = .int .i64 k ∧ Hid (allSafeR d = allSafeR (d.drop k)) ∧ Hid (Below W0.heap.size W0 wr)) (fun u _ => d.length - (intOf u).toNat)
  case atStart => exact ⟨0, Nat.zero_le _, rfl, Lib.hid rfl, Lib.hid (Below.refl _ _)⟩
  case round =>
    obtain ⟨k, hk, rfl, hgo, HB⟩ := hrel
    by_cases hlt : k < d.length
    · obtain ⟨b1, o1, _, hv1, _, _, hl1, hc1⟩ := H.out.form (by omega) (by omega)
      have hA1 : A = some ⟨b1, o1, none⟩ := by injection hv1
      subst hA1
      obtain ⟨x, hx⟩ : ∃ x, x = d[k] := ⟨_, rfl⟩
      have hw : Below w.heap.size w wr := hb0.trans (HB.out.mono hb0.size)
      obtain ⟨d0, d1, d2⟩ := fil_cells hw hl1 hc1 hlt x hx
      have hb1 : b1 < wr.heap.size := Nat.lt_of_lt_of_le hl1 hw.size
      have kp := HK.out.belowV HB.out
      have p0 := kp.cell 0
      simp only [List.getElem?_toArray, List.getElem?_cons_zero] at p0
      have hpl := kp.lt
      have hk0 : (0 : Int) ≤ (k : Int) := by omega
      have hk1 : (k : Int) < (d.length : Int) := by omega
      have hxo := HO.out x (by rw [hx]; exact List.getElem_mem hlt)
      obtain ⟨hxn, hxd⟩ := hxo
      have HD := Lib.hid (show allSafeR d = ((x.safe == (x.data.size : Int)) && allSafeR (d.drop (k + 1))) by rw [hgo.out, allSafe_drop hlt, ← hx])
      clear hgo hx hv1 hc1 kp
      by_cases hs : x.safe = (x.data.size : Int)
      · have HG := Lib.hid (show allSafeR d = allSafeR (d.drop (k + 1)) by rw [HD.out, hs]; simp)
        have t0 : (x.safe == (x.data.size : Int)) = true := by simp [hs]
        have t1 : (x.safe != (x.data.size : Int)) = false := by simp [hs]
        clear hs HD
        go_wp2
        skip
        skip
        go_roundw
        case rel => exact ⟨k + 1, by omega, by go_num, HG, Lib.hid (HB.out.alloc HB.out.size _)⟩
        case measure => simp [intOf]; omega
      · have HG := Lib.hid (show allSafeR d = false by rw [HD.out]; simp [hs])
        have t0 : (x.safe == (x.data.size : Int)) = false := by simp [hs]
        have t1 : (x.safe != (x.data.size : Int)) = true := by simp [hs]
        clear hs HD
        go_wp2
        skip
        skip
        go_ret
        exact ⟨ret_bool HG.out.symm, hb0.trans ((HB.out.alloc HB.out.size _).mono hb0.size)⟩
    · have HG := Lib.hid (show allSafeR d = true by rw [hgo.out, List.drop_of_length_le (by omega)]; rfl)
      have kp := HK.out.belowV HB.out
      have p0 := kp.cell 0
      simp only [List.getElem?_toArray, List.getElem?_cons_zero] at p0
      have hpl := kp.lt
      clear hgo kp
      go_wp2
      go_ret
      exact ⟨ret_bool HG.out.symm, hb0.trans (HB.out.mono hb0.size)⟩

end Go.Proofs.Ythjkmefbjbfonaa

/- MayBe, the program's and the reference's. -/
import Derived.Test.YthjkmefbjbfonaaDiskOk
namespace Go.Proofs.Ythjkmefbjbfonaa
open Go.RowKit Go.ChangeShapes Go.Deep

def prefB (s p : ByteArray) : Bool := decide (p.size ≤ s.size) && decide (s.extract 0 p.size = p)
theorem strB_eq {a b : ByteArray} (h : a = b) : (a.toList == b.toList) = true ∧ (a.toList != b.toList) = false := by rw [h]; simp
theorem strB_ne {a b : ByteArray} (h : ¬ a = b) : (a.toList == b.toList) = false ∧ (a.toList != b.toList) = true := by
  have : ¬ a.toList = b.toList := fun e => h (bytes_ext e)
  exact ⟨by simpa using this, by simpa using this⟩
set_option maxRecDepth 100000 in
theorem slHasPrefix_any (s p : ByteArray) (w : World) (_ : s.size ≤ 9223372036854775807) (_ : p.size ≤ 9223372036854775807) :
    Calls Try.prog 90 #[.string s, .string p] w fun e w' => e = .returned (.bool (prefB s p)) ∧ w = w' := by
  by_cases h1 : p.size ≤ s.size
  · by_cases h2 : s.extract 0 p.size = p
    · obtain ⟨t0, t1⟩ := strB_eq h2
      have HR := Lib.hid (show prefB s p = true by rw [prefB, decide_eq_true h1, decide_eq_true h2]; rfl)
      clear h2
      go_enter Try.func90, Try.ntmps90
      go_wp2
      go_ret
      exact ⟨ret_bool HR.out.symm, rfl⟩
    · obtain ⟨t0, t1⟩ := strB_ne h2
      have HR := Lib.hid (show prefB s p = false by rw [prefB, decide_eq_true h1, decide_eq_false h2]; rfl)
      clear h2
      go_enter Try.func90, Try.ntmps90
      go_wp2
      go_ret
      exact ⟨ret_bool HR.out.symm, rfl⟩
  · have HR := Lib.hid (show prefB s p = false by rw [prefB, decide_eq_false h1]; rfl)
    have t0 : decide ((p.size : Int) ≤ (s.size : Int)) = false := by simp; omega
    go_enter Try.func90, Try.ntmps90
    go_wp2
    go_ret
    exact ⟨ret_bool HR.out.symm, rfl⟩
set_option maxRecDepth 100000 in
theorem hasPrefix_any (s p : ByteArray) (w : World) (_ : s.size ≤ 9223372036854775807) (_ : p.size ≤ 9223372036854775807) :
    Calls Try.prog 68 #[.string s, .string p] w fun e w' => e = .returned (.bool (prefB s p)) ∧ Below w.heap.size w w' := by
  have C := Lib.hid (fun w => slHasPrefix_any s p w (by assumption) (by assumption))
  go_enter Try.func68, Try.ntmps68
  go_wp2_with fail
  refine (C.out _).mono ?_
  rintro e w1 ⟨rfl, rfl⟩
  go_wp2_with fail
  go_ret
  exact ⟨rfl, Below.refl _ _⟩

def pairB (x y : Fil) : Bool := decide (y.name = x.name) && decide (x.safe ≤ (y.data.size : Int)) && prefB x.data y.data && decide (y.safe = (y.data.size : Int))
def pairs : List Fil → List Fil → Bool
  | x :: d, y :: l => pairB x y && pairs d l
  | _, _ => true
def mayBeR (d l : List Fil) : Bool := diskOkR d && decide (l.length = d.length) && pairs d l
theorem pairs_drop {d l : List Fil} {k : Nat} (h : k < d.length) (h' : k < l.length) : pairs (d.drop k) (l.drop k) = (pairB d[k] l[k] && pairs (d.drop (k + 1)) (l.drop (k + 1))) := by
  rw [List.drop_eq_getElem_cons h, List.drop_eq_getElem_cons h', pairs]
theorem pairs_end {d l : List Fil} {k : Nat} (h : d.length ≤ k) : pairs (d.drop k) (l.drop k) = true := by
  rw [List.drop_of_length_le h]
  rfl

set_option maxHeartbeats 8000000 in
set_option maxRecDepth 100000 in
theorem mayBe_impl (v : Value) (d : List Fil) (v' : Value) (l : List Fil) (w : World) (h : Rd_disk w v d) (h' : Rd_disk w v' l) (hn : cost_disk d ≤ 1048576) (_ : cost_disk l ≤ 1048576) :
    Calls Try.prog 22 #[.agg #[v], .agg #[v']] w fun e w' => e = .returned (.bool (mayBeR d l)) ∧ Below w.heap.size w w' := by
  have HRD := Lib.hid h
  obtain ⟨h, hok⟩ := h
  obtain ⟨h2, hok2⟩ := h'
  obtain ⟨A, c, rfl, hnc, hcm⟩ := h.shape
  obtain ⟨A', c', rfl, hnc', hcm'⟩ := h2.shape
  unfold maxLen at hcm hcm'
  obtain ⟨W1, hW1⟩ : ∃ W1, W1 = w.alloc (.cells #[.slice A d.length c] 37) := ⟨_, rfl⟩
  have hb1 : Below w.heap.size w W1 := by rw [hW1]; exact (Below.refl _ _).alloc (Nat.le_refl _) _
  have k1 : Blk W1 w.heap.size 37 #[.slice A d.length c] := by rw [hW1]; exact Blk.new _ _ _
  obtain ⟨W0, hW0⟩ : ∃ W0, W0 = W1.alloc (.cells #[.slice A' l.length c'] 37) := ⟨_, rfl⟩
  have hb0 : Below w.heap.size w W0 := by rw [hW0]; exact hb1.alloc hb1.size _
  have k2 : Blk W0 W1.heap.size 37 #[.slice A' l.length c'] := by rw [hW0]; exact Blk.new _ _ _
  have k1 : Blk W0 w.heap.size 37 #[.slice A d.length c] := by rw [hW0]; exact k1.alloc _
  have hs1 : W1.heap.size = w.heap.size + 1 := by rw [hW1]; simp
  rw [hs1] at k2
  have CD := Lib.hid (diskOk_impl' (.slice A d.length c) d W0 (HRD.out.below hb0) hn)
  have HK1 := Lib.hid k1
  have HK2 := Lib.hid k2
  have HW1 := Lib.hid hW1
  have HW0 := Lib.hid hW0
  have H := Lib.hid h
  have HO := Lib.hid hok
  have H2 := Lib.hid h2
  have HO2 := Lib.hid hok2
  clear k1 k2 hW1 hW0 h hok h2 hok2 hs1
  cases hD : diskOkR d with
  | false =>
    have HR := Lib.hid (show mayBeR d l = false by rw [mayBeR, hD]; rfl)
    rw [hD] at CD
    clear hD
    go_enter Try.func22, Try.ntmps22
    go_wp2_with fail
    rw [← HW1.out, ← HW0.out]
    refine CD.out.mono ?_
    rintro e w1 ⟨rfl, hbb⟩
    go_wp2_with fail
    go_ret
    exact ⟨ret_bool HR.out.symm, hb0.trans (hbb.mono hb0.size)⟩
  | true =>
    have HR0 := Lib.hid (show mayBeR d l = (decide (l.length = d.length) && pairs d l) by rw [mayBeR, hD]; rfl)
    rw [hD] at CD
    clear hD
    have HPC := Lib.hid (fun W (hW : Below W0.heap.size W0 W) => show W.cell? ⟨w.heap.size, 0, none⟩ = some (.slice A d.length c) ∧ W.cell? ⟨w.heap.size + 1, 0, none⟩ = some (.slice A' l.length c') ∧ w.heap.size < W.heap.size ∧ w.heap.size + 1 < W.heap.size from
      ⟨(HK1.out.belowV hW).cell 0, (HK2.out.belowV hW).cell 0, (HK1.out.belowV hW).lt, (HK2.out.belowV hW).lt⟩)
    by_cases hll : l.length = d.length
    rotate_left
    · have HR := Lib.hid (show mayBeR d l = false by rw [HR0.out, decide_eq_false hll]; rfl)
      have ta : ((l.length : Int) == (d.length : Int)) = false := by simp; omega
      have tb : ((l.length : Int) != (d.length : Int)) = true := by simp; omega
      clear HR0 hll
      go_enter Try.func22, Try.ntmps22
      go_wp2_with fail
      rw [← HW1.out, ← HW0.out]
      refine CD.out.mono ?_
      rintro e w1 ⟨rfl, hbb⟩
      obtain ⟨p0, p1, p2, p3⟩ := HPC.out w1 hbb
      go_wp2_with fail
      go_ret
      exact ⟨ret_bool HR.out.symm, hb0.trans (hbb.mono hb0.size)⟩
    · have HR := Lib.hid (show mayBeR d l = pairs d l by rw [HR0.out, decide_eq_true hll, Bool.true_and])
      have ta : ((l.length : Int) == (d.length : Int)) = true := by simp; omega
      have tb : ((l.length : Int) != (d.length : Int)) = false := by simp; omega
      have HLL := Lib.hid hll
      have hll1 : l.length ≤ d.length := by omega
      have hll2 : d.length ≤ l.length := by omega
      clear HR0 hll
      go_enter Try.func22, Try.ntmps22
      go_wp2_with fail
      rw [← HW1.out, ← HW0.out]
      refine CD.out.mono ?_
      rintro e w1 ⟨rfl, hbb⟩
      obtain ⟨p0, p1, p2, p3⟩ := HPC.out w1 hbb
      go_wp2_with fail
      clear p0 p1 p2 p3
      go_loopw [23] (fun u wr => ∃ k : Nat, k ≤ d.length ∧ u = .int .i64 k ∧ Hid (mayBeR d l = pairs (d.drop k) (l.drop k)) ∧ Hid (Below W0.heap.size W0 wr)) (fun u _ => d.length - (intOf u).toNat)
      case atStart => exact ⟨0, Nat.zero_le _, rfl, HR, Lib.hid hbb⟩
      case round =>
        obtain ⟨k, hk, rfl, hgo, HB⟩ := hrel
        obtain ⟨p0, p1, p2, p3⟩ := HPC.out wr HB.out
        by_cases hlt : k < d.length
        · obtain ⟨b1, o1, _, hv1, _, _, hl1, hc1⟩ := H.out.form (by omega) (by omega)
          obtain ⟨b2, o2, _, hv2, _, _, hl2, hc2⟩ := H2.out.form (by omega) (by omega)
          have hA1 : A = some ⟨b1, o1, none⟩ := by injection hv1
          have hA2 : A' = some ⟨b2, o2, none⟩ := by injection hv2
          subst hA1 hA2
          have hlt' : k < l.length := by omega
          obtain ⟨x, hx⟩ : ∃ x, x = d[k] := ⟨_, rfl⟩
          obtain ⟨y, hy⟩ : ∃ y, y = l[k] := ⟨_, rfl⟩
          have hw : Below w.heap.size w wr := hb0.trans (HB.out.mono hb0.size)
          obtain ⟨d0, d1, d2⟩ := fil_cells hw hl1 hc1 hlt x hx
          obtain ⟨e0, e1, e2⟩ := fil_cells hw hl2 hc2 hlt' y hy
          have hbl1 : b1 < wr.heap.size := Nat.lt_of_lt_of_le hl1 hw.size
          have hbl2 : b2 < wr.heap.size := Nat.lt_of_lt_of_le hl2 hw.size
          have hk0 : (0 : Int) ≤ (k : Int) := by omega
          have hk1 : (k : Int) < (d.length : Int) := by omega
          have hk2 : (k : Int) < (l.length : Int) := by omega
          obtain ⟨hxn, hxd⟩ := HO.out x (by rw [hx]; exact List.getElem_mem hlt)
          obtain ⟨hyn, hyd⟩ := HO2.out y (by rw [hy]; exact List.getElem_mem hlt')
          have HD := Lib.hid (show mayBeR d l = (pairB x y && pairs (d.drop (k + 1)) (l.drop (k + 1))) by rw [hgo.out, pairs_drop hlt hlt', ← hx, ← hy])
          have CH := Lib.hid (fun w => hasPrefix_any x.data y.data w hxd hyd)
          have HV := Lib.hid (fun W (hW : Below (wr.heap.size + 1 + 1) ((wr.alloc (.cells #[.string x.name, .string x.data, .int .i64 x.safe] 44)).alloc (.cells #[.string y.name, .string y.data, .int .i64 y.safe] 44)) W) => show W.cell? ⟨wr.heap.size, 0, none⟩ = some (.string x.name) ∧ W.cell? ⟨wr.heap.size, 1, none⟩ = some (.string x.data) ∧ W.cell? ⟨wr.heap.size, 2, none⟩ = some (.int .i64 x.safe) ∧ W.cell? ⟨wr.heap.size + 1, 0, none⟩ = some (.string y.name) ∧ W.cell? ⟨wr.heap.size + 1, 1, none⟩ = some (.string y.data) ∧ W.cell? ⟨wr.heap.size + 1, 2, none⟩ = some (.int .i64 y.safe) ∧ wr.heap.size < W.heap.size ∧ wr.heap.size + 1 < W.heap.size from by
            have q := ((Blk.new wr 44 #[.string x.name, .string x.data, .int .i64 x.safe]).alloc (.cells #[.string y.name, .string y.data, .int .i64 y.safe] 44)).below hW (by omega)
            have r := (Blk.new (wr.alloc (.cells #[.string x.name, .string x.data, .int .i64 x.safe] 44)) 44 #[.string y.name, .string y.data, .int .i64 y.safe]).below hW (by simp)
            have hs : (wr.alloc (.cells #[.string x.name, .string x.data, .int .i64 x.safe] 44)).heap.size = wr.heap.size + 1 := by simp
            rw [hs] at r
            exact ⟨q.cell 0, q.cell 1, q.cell 2, r.cell 0, r.cell 1, r.cell 2, q.lt, r.lt⟩)
          clear hgo hx hy hv1 hv2 hc1 hc2
          by_cases h0 : y.name = x.name
          · skip
            by_cases h1 : x.safe ≤ (y.data.size : Int)
            · skip
              cases h2 : prefB x.data y.data with
              | true =>
                by_cases h3 : y.safe = (y.data.size : Int)
                · skip
                  have HG := Lib.hid (show mayBeR d l = pairs (d.drop (k + 1)) (l.drop (k + 1)) by rw [HD.out, pairB, decide_eq_true h0, decide_eq_true h1, h2, decide_eq_true h3]; simp)
                  obtain ⟨ta0, tb0⟩ := strB_eq h0
                  rw [h2] at CH
                  have ta3 : (y.safe == (y.data.size : Int)) = true := by simp [h3]
                  have tb3 : (y.safe != (y.data.size : Int)) = false := by simp [h3]
                  clear h0 h2 h3 HD
                  go_wp2_with (go_at_call 68; refine (CH.out _).mono ?_; rintro e w2 ⟨rfl, hb2⟩; obtain ⟨v0, v1, v2, u0, u1, u2, vp, vq⟩ := HV.out _ (by simpa using hb2))
                  go_roundw
                  case rel => exact ⟨k + 1, by omega, by go_num, HG, Lib.hid (((HB.out.alloc HB.out.size _).alloc (by have := HB.out.size; simp; omega) _).trans (hb2.mono (by have := HB.out.size; simp; omega)))⟩
                  case measure => simp [intOf]; omega
                · skip
                  have HG := Lib.hid (show mayBeR d l = false by rw [HD.out, pairB, decide_eq_true h0, decide_eq_true h1, h2, decide_eq_false h3]; simp)
                  obtain ⟨ta0, tb0⟩ := strB_eq h0
                  rw [h2] at CH
                  have ta3 : (y.safe == (y.data.size : Int)) = false := by simp [h3]
                  have tb3 : (y.safe != (y.data.size : Int)) = true := by simp [h3]
                  clear h0 h2 h3 HD
                  go_wp2_with (go_at_call 68; refine (CH.out _).mono ?_; rintro e w2 ⟨rfl, hb2⟩; obtain ⟨v0, v1, v2, u0, u1, u2, vp, vq⟩ := HV.out _ (by simpa using hb2))
                  go_ret
                  exact ⟨ret_bool HG.out.symm, hb0.trans (Below.mono (((HB.out.alloc HB.out.size _).alloc (by have := HB.out.size; simp; omega) _).trans (hb2.mono (by have := HB.out.size; simp; omega))) hb0.size)⟩
              | false =>
                have HG := Lib.hid (show mayBeR d l = false by rw [HD.out, pairB, decide_eq_true h0, decide_eq_true h1, h2]; simp)
                obtain ⟨ta0, tb0⟩ := strB_eq h0
                rw [h2] at CH
                clear h0 h2 HD
                go_wp2_with (go_at_call 68; refine (CH.out _).mono ?_; rintro e w2 ⟨rfl, hb2⟩; obtain ⟨v0, v1, v2, u0, u1, u2, vp, vq⟩ := HV.out _ (by simpa using hb2))
                go_ret
                exact ⟨ret_bool HG.out.symm, hb0.trans (Below.mono (((HB.out.alloc HB.out.size _).alloc (by have := HB.out.size; simp; omega) _).trans (hb2.mono (by have := HB.out.size; simp; omega))) hb0.size)⟩
            · skip
              have HG := Lib.hid (show mayBeR d l = false by rw [HD.out, pairB, decide_eq_true h0, decide_eq_false h1]; simp)
              obtain ⟨ta0, tb0⟩ := strB_eq h0
              have ta1 : decide ((y.data.size : Int) < x.safe) = true := by simp; omega
              clear h0 HD
              go_wp2_with (go_at_call 68; refine (CH.out _).mono ?_; rintro e w2 ⟨rfl, hb2⟩; obtain ⟨v0, v1, v2, u0, u1, u2, vp, vq⟩ := HV.out _ (by simpa using hb2))
              go_ret
              exact ⟨ret_bool HG.out.symm, hb0.trans (Below.mono (((HB.out.alloc HB.out.size _).alloc (by have := HB.out.size; simp; omega) _)) hb0.size)⟩
          · skip
            have HG := Lib.hid (show mayBeR d l = false by rw [HD.out, pairB, decide_eq_false h0]; simp)
            obtain ⟨ta0, tb0⟩ := strB_ne h0
            clear h0 HD
            go_wp2_with (go_at_call 68; refine (CH.out _).mono ?_; rintro e w2 ⟨rfl, hb2⟩; obtain ⟨v0, v1, v2, u0, u1, u2, vp, vq⟩ := HV.out _ (by simpa using hb2))
            go_ret
            exact ⟨ret_bool HG.out.symm, hb0.trans (Below.mono (((HB.out.alloc HB.out.size _).alloc (by have := HB.out.size; simp; omega) _)) hb0.size)⟩
        · have HG := Lib.hid (show mayBeR d l = true by rw [hgo.out]; exact pairs_end (by omega))
          clear hgo
          go_wp2
          go_ret
          exact ⟨ret_bool HG.out.symm, hb0.trans (HB.out.mono hb0.size)⟩

end Go.Proofs.Ythjkmefbjbfonaa

/- PutEntry, the reference's. -/
import Derived.Test.YthjkmefbjbfonaaPut
namespace Go.Proofs.Ythjkmefbjbfonaa
open Go.RowKit Go.ChangeShapes Go.Deep

theorem cut_reads {w : World} {A : Option Addr} {c : Nat} {l : List Ent} (h : Rd_entries w (.slice A l.length c) l) {k : Nat} (hk : k ≤ l.length) :
    Reads w w.heap.size 4 A k (entV (l.take k)) ∧ Reads w w.heap.size 4 (if c = k then A else A.map (·.add (k * 4))) (l.length - k) (entV (l.drop k)) := by
  obtain ⟨A1, c1, he, h1, h2, h3⟩ := h
  injection he with hA hn hc
  subst hA hc
  refine ⟨?_, ?_⟩
  · rw [← entV_take l hk]
    refine ⟨by rw [List.length_take, h3.1]; exact Nat.min_eq_left (Nat.mul_le_mul_right _ hk), fun hk0 => ?_⟩
    obtain ⟨ad, rfl, hlt, hx⟩ := h3.2 (by omega)
    refine ⟨ad, rfl, hlt, fun j u hu => hx j u ?_⟩
    rw [List.getElem?_take] at hu
    split at hu
    · exact hu
    · cases hu
  · rw [← entV_drop l hk]
    exact h3.cut hk h1

set_option maxHeartbeats 4000000 in
set_option maxRecDepth 100000 in
theorem putEntry_spec (v : Value) (l : List Ent) (x : Ent) (w : World) (h : Rd_entries w v l) (hn : cost_entries l ≤ 1048576) :
    Calls Try.prog 98 #[v, (.agg #[.int .i64 x.prio, .int .i64 x.seq, .int .i64 x.run, .int .i64 x.task])] w (Gives1 (Own_entries · · · · (putEntryR l x)) w) := by
  unfold cost_entries at hn
  obtain ⟨A1, c1, rfl, hnc1, hcm1⟩ := Rd.shape h
  obtain ⟨i0, hi, hz0, hz1, hz2⟩ := info_parts Try.infoEnt
  unfold maxLen at hcm1
  have H := Lib.hid h
  obtain ⟨W0, hW0⟩ : ∃ W0, W0 = w.alloc (.cells #[.int .i64 x.prio, .int .i64 x.seq, .int .i64 x.run, .int .i64 x.task] 61) := ⟨_, rfl⟩
  have hk0 : Blk W0 w.heap.size 61 x.cs.toArray := by rw [hW0]; exact Blk.new _ _ _
  have hw0 : Below w.heap.size w W0 := by rw [hW0]; exact (Below.refl _ _).alloc (Nat.le_refl _) _
  have hl0 := hk0.lt
  have HX := Lib.hid hk0
  clear h hk0
  go_enter Try.func98, Try.ntmps98
  go_wp2
  rw [← hW0]
  go_loopw [5] (fun u5 wr => ∃ k : Nat, k ≤ l.length ∧ u5 = .int .i64 k ∧ Hid (putIdx x l = k + putIdx x (l.drop k)) ∧ Hid (Below W0.heap.size W0 wr)) (fun u5 _ => l.length - (intOf u5).toNat)
  case atStart => exact ⟨0, Nat.zero_le _, rfl, Lib.hid (by simp), Lib.hid (Below.refl _ _)⟩
  case round =>
    obtain ⟨k, hk, rfl, hgo, HB⟩ := hrel
    by_cases hlt : k < l.length
    · obtain ⟨b1, o1, _, hv1, _, _, hl1, hc1⟩ := Rd.form H.out (by omega) (by omega)
      have hA1 : A1 = some ⟨b1, o1, none⟩ := by injection hv1
      subst hA1
      obtain ⟨y, hy⟩ : ∃ y, y = l[k] := ⟨_, rfl⟩
      have hwr : Below w.heap.size w wr := hw0.trans (HB.out.mono hw0.size)
      obtain ⟨d0, d1, d2, d3⟩ := ent_cells hwr hl1 hc1 hlt y hy
      have hxr := HX.out.below HB.out hl0
      have e0 := hxr.cell 0
      have e1 := hxr.cell 1
      have e2 := hxr.cell 2
      have e3 := hxr.cell 3
      simp only [Ent.cs, List.getElem?_toArray, List.getElem?_cons_zero, List.getElem?_cons_succ] at e0 e1 e2 e3
      have hge := hxr.lt
      have hb1 : b1 < wr.heap.size := Nat.lt_of_lt_of_le hl1 hwr.size
      have HD := Lib.hid (show putIdx x l = k + if y.ahead x then putIdx x (l.drop (k + 1)) + 1 else 0 by rw [hgo.out, putIdx_drop hlt, ← hy])
      have CE := Lib.hid (fun w => ahead_spec y.prio y.seq y.run y.task x.prio x.seq x.run x.task w)
      have HA := Lib.hid (show y.ahead x = aheadB y.prio y.seq x.prio x.seq from rfl)
      have hk0 : (0 : Int) ≤ (k : Int) := by omega
      have hk1 : (k : Int) < (l.length : Int) := by omega
      obtain ⟨r, hr⟩ : ∃ r, r = y.ahead x := ⟨_, rfl⟩
      rw [← hr] at HD
      rw [← HA.out, ← hr] at CE
      clear hgo hy hv1 hc1 hr HA hxr hwr
      cases r with
      | true =>
        have HG := Lib.hid (show putIdx x l = (k + 1) + putIdx x (l.drop (k + 1)) by rw [HD.out, if_pos rfl]; omega)
        clear HD
        go_wp2
        first | refine wp_region_calm_on (by kernel_rfl) (by kernel_rfl) ?_ | refine wp_region_calm_lit (by kernel_rfl) (by kernel_rfl) ?_
        repeat (go_big_quiet_step ((go_at_call 101; exact calm_of (CE.out _))))
        refine wpQuiet_nil ?_
        intro _ hw'
        obtain ⟨k1, hw''⟩ := hw'
        subst hw''
        go_wp2
        go_roundw
        case rel => exact ⟨k + 1, by omega, by go_num, HG, Lib.hid (Below.calm HB.out HB.out.size)⟩
        case measure => simp [intOf]; omega
      | false =>
        have HP := Lib.hid (show putIdx x l = k by rw [HD.out, if_neg (by simp)]; rfl)
        clear HD
        go_wp2
        first | refine wp_region_calm_on (by kernel_rfl) (by kernel_rfl) ?_ | refine wp_region_calm_lit (by kernel_rfl) (by kernel_rfl) ?_
        repeat (go_big_quiet_step ((go_at_call 101; exact calm_of (CE.out _))))
        refine wpQuiet_nil ?_
        intro _ hw'
        obtain ⟨k1, hw''⟩ := hw'
        subst hw''
        clear d0 d1 d2 d3 e0 e1 e2 e3 CE
        generalize hgen : (some (⟨b1, o1, none⟩ : Addr)) = A1 at H ⊢
        clear hgen
        obtain ⟨W, hW, hWe⟩ := k1.out
        rw [hWe]
        clear hWe
        have hbW := HB.out.trans (hW.mono HB.out.size)
        have hw : Below w.heap.size w W := hw0.trans (hbW.mono hw0.size)
        have hxW := HX.out.below hbW hl0
        have hWs := hbW.size
        obtain ⟨a, ha⟩ : ∃ a, a = l.take k := ⟨_, rfl⟩
        obtain ⟨b, hb⟩ : ∃ b, b = l.drop k := ⟨_, rfl⟩
        have HR := Lib.hid (show putEntryR l x = a ++ (x :: b) by rw [putEntryR, HP.out, insAt, ha, hb])
        have hal : a.length ≤ 1048576 := by rw [ha, List.length_take]; omega
        have hbl : b.length ≤ 1048576 := by rw [hb, List.length_drop]; omega
        have HAB := Lib.hid (show k + 1 + (l.length - k) = (putEntryR l x).length by rw [putEntryR_length]; omega)
        have hak : a.length = k := by rw [ha, List.length_take]; omega
        have hbk : b.length = l.length - k := by rw [hb, List.length_drop]
        obtain ⟨hr0, hr2⟩ := cut_reads H.out (show k ≤ l.length by omega)
        rw [← ha] at hr0
        rw [← hb] at hr2
        have HAK := Lib.hid hak
        have HBK := Lib.hid hbk
        clear hak hbk
        have HXW := Lib.hid hxW
        have hga : w.heap.size < W.heap.size := by omega
        have o1a := entV_one a
        have o1b := entV_one b
        have HR0 := Lib.hid hr0
        clear ha hb hr0 hxW
        have hck : ¬ c1 = k := by omega
        rw [if_neg hck] at hr2
        have HR2 := Lib.hid hr2
        clear hr2
        go_wp2_with (first | (at_builtin; refine wpList_append_any _ rfl _ _ _ rfl W.heap.size _ i0 _ 4 32 Try.underlying58 hi hz0 hz1 hz2 rfl (by decide) (.slice (some ⟨W.heap.size, 0, none⟩) 0 0) 0 [] rfl (made0 rfl (Nat.le_refl _)) w.heap.size A1 k c1 (entV a) rfl (Reads.below HR0.out (hw.alloc (Nat.le_of_lt hga) _)) o1a (by unfold maxLen; omega) (by omega) (by simp) ?_; intro v1 w1 ho1 hg1 hat1; rw [Nat.zero_add, List.nil_append] at ho1; have hk1 := ((Below.refl W.heap.size W).alloc (Nat.le_refl _) (.cells #[] 61)).grown hg1 (by simp) (fun g hg => by cases hg; exact Nat.le_refl _); have hx1 := HXW.out.below hk1 hga; have q0 := hx1.cell 0; have q1 := hx1.cell 1; have q2 := hx1.cell 2; have q3 := hx1.cell 3; simp only [Ent.cs, List.getElem?_toArray, List.getElem?_cons_zero, List.getElem?_cons_succ] at q0 q1 q2 q3; have HO1 := Lib.hid ho1; clear ho1 hx1) | (at_builtin; refine wpList_append_new rfl _ _ _ rfl W.heap.size _ i0 _ 4 32 Try.underlying58 hi hz0 hz1 hz2 rfl (by decide) v1 k (entV a) rfl HO1.out (Below.refl W.heap.size w1) hk1.size #[.int .i64 x.prio, .int .i64 x.seq, .int .i64 x.run, .int .i64 x.task] 1 1 rfl rfl (cs_one x) ⟨by omega, by omega⟩ ?_; intro v2 w2 ho2 hb2 hg2 hat2; have hk2 := hk1.trans hb2; have HO2 := Lib.hid ho2; clear ho2 q0 q1 q2 q3) | (at_builtin; refine wpList_append_any _ rfl _ _ _ rfl W.heap.size _ i0 _ 4 32 Try.underlying58 hi hz0 hz1 hz2 rfl (by decide) v2 (k + 1) (entV a ++ x.cs) rfl HO2.out w.heap.size _ (l.length - k) _ (entV b) (by rfl) (Reads.below HR2.out (hw.trans (hk2.mono hw.size))) o1b (by unfold maxLen; omega) (by omega) hk2.size ?_; intro v3 w3 ho3 hg3 hat3; have hk3 := hk2.grown hg3 hk2.size (fun g hg => (HO2.out.lt g hg).1)))
        go_ret
        refine ⟨v3, rfl, ?_, hw.trans (hk3.mono hw.size)⟩
        rw [List.append_assoc] at ho3
        have he : entV (putEntryR l x) = entV a ++ (x.cs ++ entV b) := by rw [HR.out, entV_append]; rfl
        unfold Own_entries
        rw [he, ← HAB.out]
        exact OwnS.mono (OwnS.of_own ho3) hw.size (Nat.le_refl _) (Nat.le_refl _)
    · have HP := Lib.hid (show putIdx x l = k by rw [hgo.out, List.drop_of_length_le (by omega)]; rfl)
      have t0 : decide ((k : Int) < (l.length : Int)) = false := by simp; omega
      clear hgo
      go_wp2
      first | refine wp_region_calm_on (by kernel_rfl) (by kernel_rfl) ?_ | refine wp_region_calm_lit (by kernel_rfl) (by kernel_rfl) ?_
      repeat (go_big_quiet_step (fail))
      refine wpQuiet_nil ?_
      intro _ hw'
      obtain ⟨k1, hw''⟩ := hw'
      subst hw''
      obtain ⟨W, hW, hWe⟩ := k1.out
      rw [hWe]
      clear hWe
      have hbW := HB.out.trans (hW.mono HB.out.size)
      have hw : Below w.heap.size w W := hw0.trans (hbW.mono hw0.size)
      have hxW := HX.out.below hbW hl0
      have hWs := hbW.size
      obtain ⟨a, ha⟩ : ∃ a, a = l.take k := ⟨_, rfl⟩
      obtain ⟨b, hb⟩ : ∃ b, b = l.drop k := ⟨_, rfl⟩
      have HR := Lib.hid (show putEntryR l x = a ++ (x :: b) by rw [putEntryR, HP.out, insAt, ha, hb])
      have hal : a.length ≤ 1048576 := by rw [ha, List.length_take]; omega
      have hbl : b.length ≤ 1048576 := by rw [hb, List.length_drop]; omega
      have HAB := Lib.hid (show k + 1 + (l.length - k) = (putEntryR l x).length by rw [putEntryR_length]; omega)
      have hak : a.length = k := by rw [ha, List.length_take]; omega
      have hbk : b.length = l.length - k := by rw [hb, List.length_drop]
      obtain ⟨hr0, hr2⟩ := cut_reads H.out (show k ≤ l.length by omega)
      rw [← ha] at hr0
      rw [← hb] at hr2
      have HAK := Lib.hid hak
      have HBK := Lib.hid hbk
      clear hak hbk
      have HXW := Lib.hid hxW
      have hga : w.heap.size < W.heap.size := by omega
      have o1a := entV_one a
      have o1b := entV_one b
      have HR0 := Lib.hid hr0
      clear ha hb hr0 hxW
      by_cases hck : c1 = k
      all_goals
        first | rw [if_pos hck] at hr2 | rw [if_neg hck] at hr2
        first | (replace hck : ¬ c1 = k := hck) | (replace hck : (c1 = k) = True := eq_true hck)
        have HR2 := Lib.hid hr2
        clear hr2
        go_wp2_with (first | (at_builtin; refine wpList_append_any _ rfl _ _ _ rfl W.heap.size _ i0 _ 4 32 Try.underlying58 hi hz0 hz1 hz2 rfl (by decide) (.slice (some ⟨W.heap.size, 0, none⟩) 0 0) 0 [] rfl (made0 rfl (Nat.le_refl _)) w.heap.size A1 k c1 (entV a) rfl (Reads.below HR0.out (hw.alloc (Nat.le_of_lt hga) _)) o1a (by unfold maxLen; omega) (by omega) (by simp) ?_; intro v1 w1 ho1 hg1 hat1; rw [Nat.zero_add, List.nil_append] at ho1; have hk1 := ((Below.refl W.heap.size W).alloc (Nat.le_refl _) (.cells #[] 61)).grown hg1 (by simp) (fun g hg => by cases hg; exact Nat.le_refl _); have hx1 := HXW.out.below hk1 hga; have q0 := hx1.cell 0; have q1 := hx1.cell 1; have q2 := hx1.cell 2; have q3 := hx1.cell 3; simp only [Ent.cs, List.getElem?_toArray, List.getElem?_cons_zero, List.getElem?_cons_succ] at q0 q1 q2 q3; have HO1 := Lib.hid ho1; clear ho1 hx1) | (at_builtin; refine wpList_append_new rfl _ _ _ rfl W.heap.size _ i0 _ 4 32 Try.underlying58 hi hz0 hz1 hz2 rfl (by decide) v1 k (entV a) rfl HO1.out (Below.refl W.heap.size w1) hk1.size #[.int .i64 x.prio, .int .i64 x.seq, .int .i64 x.run, .int .i64 x.task] 1 1 rfl rfl (cs_one x) ⟨by omega, by omega⟩ ?_; intro v2 w2 ho2 hb2 hg2 hat2; have hk2 := hk1.trans hb2; have HO2 := Lib.hid ho2; clear ho2 q0 q1 q2 q3) | (at_builtin; refine wpList_append_any _ rfl _ _ _ rfl W.heap.size _ i0 _ 4 32 Try.underlying58 hi hz0 hz1 hz2 rfl (by decide) v2 (k + 1) (entV a ++ x.cs) rfl HO2.out w.heap.size _ (l.length - k) _ (entV b) (by rfl) (Reads.below HR2.out (hw.trans (hk2.mono hw.size))) o1b (by unfold maxLen; omega) (by omega) hk2.size ?_; intro v3 w3 ho3 hg3 hat3; have hk3 := hk2.grown hg3 hk2.size (fun g hg => (HO2.out.lt g hg).1)))
        go_ret
        refine ⟨v3, rfl, ?_, hw.trans (hk3.mono hw.size)⟩
        rw [List.append_assoc] at ho3
        have he : entV (putEntryR l x) = entV a ++ (x.cs ++ entV b) := by rw [HR.out, entV_append]; rfl
        unfold Own_entries
        rw [he, ← HAB.out]
        exact OwnS.mono (OwnS.of_own ho3) hw.size (Nat.le_refl _) (Nat.le_refl _)
end Go.Proofs.Ythjkmefbjbfonaa

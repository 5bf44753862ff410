/- The law FnExactMoveFile returns true for every argument; no conditions. -/
import Derived.Test.YthjkmefbjbfonaaMoveS
import Derived.Test.YthjkmefbjbfonaaFilM
import Derived.Test.YthjkmefbjbfonaaArgDisk
import Derived.Test.YthjkmefbjbfonaaArgs
namespace Go.Proofs.Ythjkmefbjbfonaa
set_option linter.unusedSimpArgs false
open Go.RowKit Go.ChangeShapes

set_option maxHeartbeats 8000000 in
set_option maxRecDepth 100000 in
theorem walk_FnExactMoveFile (v0 v1 v2 : Value) (w : World) (a0 : ArgDisk w v0) (a1 : ArgString w v1) (a2 : ArgString w v2) :
    Calls Try.prog 7 #[v0, v1, v2] w fun e w' => e = .returned (.bool true) ∧ Below w.heap.size w w' := by
  obtain ⟨z0_0, x0, rfl, hx0⟩ := a0
  replace hx0 : Rd_disk w z0_0 x0 := hx0
  obtain ⟨x1, rfl, hx1⟩ := a1
  unfold maxLen at hx1
  obtain ⟨x2, rfl, hx2⟩ := a2
  unfold maxLen at hx2
  have hw0 : Below w.heap.size w w := Below.refl _ _
  obtain ⟨w1, hv1⟩ : ∃ W, W = w.alloc (.cells #[z0_0] 47) := ⟨_, rfl⟩
  have hb1 : Below w.heap.size w w1 := by rw [hv1]; exact (Below.refl _ _).alloc (Nat.le_refl _) _
  have k1 : Blk w1 w.heap.size 47 #[z0_0] := by rw [hv1]; exact Blk.new _ _ _
  have HV1 := Lib.hid hv1
  clear hv1
  have hg1 := k1.lt
  have hw1 := hw0.trans (hb1.mono hw0.size)
  have hs1 := hb1.size
  by_cases hn1 : x1.size ≤ 1048576
  rotate_left
  · skip
    go_enter Try.func7, Try.ntmps7
    go_wp2_with fail
    go_ret
    first | exact ⟨rfl, hw1⟩ | (rw [HV1.out] at *; exact ⟨rfl, (by repeat first | exact Below.refl _ _ | assumption | refine Below.drew ?_ | refine below_drewN ?_ _ | refine Below.calm ?_ (by first | exact Nat.le_refl _ | (simp; done) | (simp; omega) | omega) | refine Below.alloc ?_ (by first | exact Nat.le_refl _ | (simp; done) | (simp; omega) | omega) _ | refine Below.setCell ?_ (by first | exact Nat.le_refl _ | (simp; done) | (simp; omega) | omega) _)⟩)
  by_cases hn2 : x2.size ≤ 1048576
  rotate_left
  · skip
    go_enter Try.func7, Try.ntmps7
    go_wp2_with fail
    go_ret
    first | exact ⟨rfl, hw1⟩ | (rw [HV1.out] at *; exact ⟨rfl, (by repeat first | exact Below.refl _ _ | assumption | refine Below.drew ?_ | refine below_drewN ?_ _ | refine Below.calm ?_ (by first | exact Nat.le_refl _ | (simp; done) | (simp; omega) | omega) | refine Below.alloc ?_ (by first | exact Nat.le_refl _ | (simp; done) | (simp; omega) | omega) _ | refine Below.setCell ?_ (by first | exact Nat.le_refl _ | (simp; done) | (simp; omega) | omega) _)⟩)
  have HZ0 := Lib.hid (fun (W : World) (hW : Below w.heap.size w W) => sz_disk z0_0 x0 (1048576) W (hx0.below hW) (by omega) (by omega))
  by_cases hn0 : (1048576) - (cost_disk x0 : Int) < 0
  · skip
    unfold szv at HZ0
    rw [if_pos hn0] at HZ0
    go_enter Try.func7, Try.ntmps7
    have Qk1 := k1.cellsV
    simp only [CellsV, Nat.zero_add, Nat.reduceAdd] at Qk1
    have Bk1 := k1.lt
    go_wp2_with fail
    rw [← HV1.out]
    clear Bk1 Qk1
    refine (HZ0.out _ hw1).mono ?_
    rintro e w2 ⟨rfl, hb2⟩
    have hw2 := hw1.trans (hb2.mono hw1.size)
    have hs2 := hb2.size
    have k1 := k1.belowV hb2
    go_wp2_with fail
    go_ret
    first | exact ⟨rfl, hw2⟩ | (rw [HV1.out] at *; exact ⟨rfl, (by repeat first | exact Below.refl _ _ | assumption | refine Below.drew ?_ | refine below_drewN ?_ _ | refine Below.calm ?_ (by first | exact Nat.le_refl _ | (simp; done) | (simp; omega) | omega) | refine Below.alloc ?_ (by first | exact Nat.le_refl _ | (simp; done) | (simp; omega) | omega) _ | refine Below.setCell ?_ (by first | exact Nat.le_refl _ | (simp; done) | (simp; omega) | omega) _)⟩)
  unfold szv at HZ0
  rw [if_neg hn0] at HZ0
  have hc0 : cost_disk x0 ≤ 1048576 := by omega
  have hc1 : x1.size ≤ 1048576 := hn1
  have hc2 : x2.size ≤ 1048576 := hn2
  have hce0 := cells_le_disk x0
  go_enter Try.func7, Try.ntmps7
  have Qk1 := k1.cellsV
  simp only [CellsV, Nat.zero_add, Nat.reduceAdd] at Qk1
  have Bk1 := k1.lt
  go_wp2_with fail
  rw [← HV1.out]
  clear Bk1 Qk1
  refine (HZ0.out _ hw1).mono ?_
  rintro e w2 ⟨rfl, hb2⟩
  have hw2 := hw1.trans (hb2.mono hw1.size)
  have hs2 := hb2.size
  have k1 := k1.belowV hb2
  clear HZ0
  have Qk1 := k1.cellsV
  simp only [CellsV, Nat.zero_add, Nat.reduceAdd] at Qk1
  have Ck10 := Qk1
  clear Qk1
  have Bk1 := k1.lt
  go_wp2_with fail
  clear Bk1 Ck10
  refine (to_disk z0_0 x0 _ (hx0.below hw2) hc0).mono ?_
  rintro e w3 ⟨t3_0, rfl, o3, hb3⟩
  have hw3 := hw2.trans (hb3.mono hw2.size)
  have hs3 := hb3.size
  have k1 := k1.belowV hb3
  have Qk1 := k1.cellsV
  simp only [CellsV, Nat.zero_add, Nat.reduceAdd] at Qk1
  have Ck10 := Qk1
  clear Qk1
  have Bk1 := k1.lt
  go_wp2_with fail
  clear Bk1 Ck10
  refine (moveFile_spec t3_0 x0 x1 x2 _ o3.rd hc0 hc1 hc2).mono ?_
  rintro e w4 ⟨u4_0_0, rfl, q4_0, hb4⟩
  have hw4 := hw3.trans (hb4.mono hw3.size)
  have hs4 := hb4.size
  have o3 := o3.below hb4
  have k1 := k1.belowV hb4
  obtain ⟨B4_0_0, C4_0_0, rfl⟩ := q4_0.form
  have Qk1 := k1.cellsV
  simp only [CellsV, Nat.zero_add, Nat.reduceAdd] at Qk1
  have Ck10 := Qk1
  clear Qk1
  have Bk1 := k1.lt
  go_wp2_with fail
  clear Bk1 Ck10
  obtain ⟨w5, hv5⟩ : ∃ W, W = w4.alloc (.cells #[(.slice B4_0_0 (List.length (moveFileR0 x0 x1 x2)) C4_0_0)] 37) := ⟨_, rfl⟩
  rw [← hv5]
  have hb5 : Below w4.heap.size w4 w5 := by rw [hv5]; exact (Below.refl _ _).alloc (Nat.le_refl _) _
  have k5 : Blk w5 w4.heap.size 37 #[(.slice B4_0_0 (List.length (moveFileR0 x0 x1 x2)) C4_0_0)] := by rw [hv5]; exact Blk.new _ _ _
  clear hv5
  have hg5 := k5.lt
  have hw5 := hw4.trans (hb5.mono hw4.size)
  have hs5 := hb5.size
  have q4_0 := q4_0.below hb5
  have k1 := k1.belowV hb5
  refine (to_disk z0_0 x0 _ (hx0.below hw5) hc0).mono ?_
  rintro e w6 ⟨t6_0, rfl, o6, hb6⟩
  have hw6 := hw5.trans (hb6.mono hw5.size)
  have hs6 := hb6.size
  have q4_0 := q4_0.below hb6
  have k1 := k1.belowV hb6
  have k5 := k5.belowV hb6
  obtain ⟨B6_0, C6_0, rfl⟩ := o6.form
  have Qk1 := k1.cellsV
  simp only [CellsV, Nat.zero_add, Nat.reduceAdd] at Qk1
  have Ck10 := Qk1
  clear Qk1
  have Bk1 := k1.lt
  have Qk5 := k5.cellsV
  simp only [CellsV, Nat.zero_add, Nat.reduceAdd] at Qk5
  have Ck50 := Qk5
  clear Qk5
  have Bk5 := k5.lt
  go_wp2_with fail
  clear Bk1 Ck10
  clear Bk5 Ck50
  obtain ⟨w7, hv7⟩ : ∃ W, W = w6.alloc (.cells #[(.slice B6_0 (List.length x0) C6_0)] 37) := ⟨_, rfl⟩
  rw [← hv7]
  have hb7 : Below w6.heap.size w6 w7 := by rw [hv7]; exact (Below.refl _ _).alloc (Nat.le_refl _) _
  have k7 : Blk w7 w6.heap.size 37 #[(.slice B6_0 (List.length x0) C6_0)] := by rw [hv7]; exact Blk.new _ _ _
  clear hv7
  have hg7 := k7.lt
  have hw7 := hw6.trans (hb7.mono hw6.size)
  have hs7 := hb7.size
  have o6 := o6.below hb7
  have q4_0 := q4_0.below hb7
  have k1 := k1.belowV hb7
  have k5 := k5.belowV hb7
  refine (moveFile_impl (.slice B6_0 (List.length x0) C6_0) x0 x1 x2 _ o6.rd hc0 hc1 hc2).mono ?_
  rintro e w8 ⟨u8_0_0, rfl, q8_0, hb8⟩
  have hw8 := hw7.trans (hb8.mono hw7.size)
  have hs8 := hb8.size
  have o6 := o6.below hb8
  have q4_0 := q4_0.below hb8
  have k1 := k1.belowV hb8
  have k5 := k5.belowV hb8
  have k7 := k7.belowV hb8
  obtain ⟨B8_0_0, C8_0_0, rfl⟩ := q8_0.form
  have Qk1 := k1.cellsV
  simp only [CellsV, Nat.zero_add, Nat.reduceAdd] at Qk1
  have Ck10 := Qk1
  clear Qk1
  have Bk1 := k1.lt
  have Qk5 := k5.cellsV
  simp only [CellsV, Nat.zero_add, Nat.reduceAdd] at Qk5
  have Ck50 := Qk5
  clear Qk5
  have Bk5 := k5.lt
  have Qk7 := k7.cellsV
  simp only [CellsV, Nat.zero_add, Nat.reduceAdd] at Qk7
  have Ck70 := Qk7
  clear Qk7
  have Bk7 := k7.lt
  go_wp2_with fail
  clear Bk1 Ck10
  clear Bk5 Ck50
  clear Bk7 Ck70
  obtain ⟨w9, hv9⟩ : ∃ W, W = w8.alloc (.cells #[(.slice B8_0_0 (List.length (moveFileR0 x0 x1 x2)) C8_0_0)] 37) := ⟨_, rfl⟩
  rw [← hv9]
  have hb9 : Below w8.heap.size w8 w9 := by rw [hv9]; exact (Below.refl _ _).alloc (Nat.le_refl _) _
  have k9 : Blk w9 w8.heap.size 37 #[(.slice B8_0_0 (List.length (moveFileR0 x0 x1 x2)) C8_0_0)] := by rw [hv9]; exact Blk.new _ _ _
  clear hv9
  have hg9 := k9.lt
  have hw9 := hw8.trans (hb9.mono hw8.size)
  have hs9 := hb9.size
  have o6 := o6.below hb9
  have q4_0 := q4_0.below hb9
  have q8_0 := q8_0.below hb9
  have k1 := k1.belowV hb9
  have k5 := k5.belowV hb9
  have k7 := k7.belowV hb9
  refine (eq_disk (.slice B8_0_0 (List.length (moveFileR0 x0 x1 x2)) C8_0_0) (.slice B4_0_0 (List.length (moveFileR0 x0 x1 x2)) C4_0_0) (moveFileR0 x0 x1 x2) _ q8_0.rd q4_0.rd).mono ?_
  rintro e w10 ⟨rfl, hb10⟩
  have hw10 := hw9.trans (hb10.mono hw9.size)
  have hs10 := hb10.size
  have o6 := o6.below hb10
  have q4_0 := q4_0.below hb10
  have q8_0 := q8_0.below hb10
  have k1 := k1.belowV hb10
  have k5 := k5.belowV hb10
  have k7 := k7.belowV hb10
  have k9 := k9.belowV hb10
  have Qk1 := k1.cellsV
  simp only [CellsV, Nat.zero_add, Nat.reduceAdd] at Qk1
  have Ck10 := Qk1
  clear Qk1
  have Bk1 := k1.lt
  have Qk5 := k5.cellsV
  simp only [CellsV, Nat.zero_add, Nat.reduceAdd] at Qk5
  have Ck50 := Qk5
  clear Qk5
  have Bk5 := k5.lt
  have Qk7 := k7.cellsV
  simp only [CellsV, Nat.zero_add, Nat.reduceAdd] at Qk7
  have Ck70 := Qk7
  clear Qk7
  have Bk7 := k7.lt
  have Qk9 := k9.cellsV
  simp only [CellsV, Nat.zero_add, Nat.reduceAdd] at Qk9
  have Ck90 := Qk9
  clear Qk9
  have Bk9 := k9.lt
  go_wp2_with fail
  have hb11 : Below w10.heap.size w10 w10.drew := (Below.refl _ _).drew
  have hw11 := hw10.trans (hb11.mono hw10.size)
  have hs11 := hb11.size
  have o6 := o6.below hb11
  have q4_0 := q4_0.below hb11
  have q8_0 := q8_0.below hb11
  have k1 := k1.belowV hb11
  have k5 := k5.belowV hb11
  have k7 := k7.belowV hb11
  have k9 := k9.belowV hb11
  have hq11 := hb11
  refine wp_region_sched [(0, true), (1, true), (2, false), (3, false), (4, true)] [(true, _), (true, _), (false, _), (false, _), (true, _)] rfl (by kernel_rfl) (by kernel_rfl) (KeptS _ none) (KeptS.refl _ _).drew ?_
  try simp only [List.getElem_toArray, List.getElem_cons_succ, List.getElem_cons_zero]
  (refine wpS_held (by rfl) ?_ (fun W hW => ?_) ?_; rotate_left; (· (obtain ⟨kq, rfl⟩ := hW; go_simp; try with_reducible rfl)); try simp only [Act.put, List.setIfInBounds_toArray, List.set_cons_succ, List.set_cons_zero])
  (refine wpS_held (by rfl) ?_ (fun W hW => ?_) ?_; rotate_left; (· (obtain ⟨kq, rfl⟩ := hW; go_simp; try with_reducible rfl)); try simp only [Act.put, List.setIfInBounds_toArray, List.set_cons_succ, List.set_cons_zero])
  (refine wpS_call 26 (by rfl) (by rfl) Try.func26 (by kernel_rfl) (by rfl) (by rfl) ?_; (conv => arg 3; simp [Act.eval]); (first | ((with_reducible refine (to_disk z0_0 x0 _ (hx0.below hw11) hc0).mono ?_); rintro e w12 ⟨t12_0, rfl, o12, hb12⟩; have hw12 := hw11.trans (hb12.mono hw11.size); have hs12 := hb12.size; have hq12 := hq11.trans (hb12.mono hq11.size); have o6 := o6.below hb12; have q4_0 := q4_0.below hb12; have q8_0 := q8_0.below hb12; have k1 := k1.belowV hb12; have k5 := k5.belowV hb12; have k7 := k7.belowV hb12; have k9 := k9.belowV hb12) | ((with_reducible refine (eq_disk (.slice B6_0 (List.length x0) C6_0) t12_0 x0 _ o6.rd o12.rd).mono ?_); rintro e w13 ⟨rfl, hb13⟩; have hw13 := hw12.trans (hb13.mono hw12.size); have hs13 := hb13.size; have hq13 := hq12.trans (hb13.mono hq12.size); have o6 := o6.below hb13; have q4_0 := q4_0.below hb13; have q8_0 := q8_0.below hb13; have k1 := k1.belowV hb13; have k5 := k5.belowV hb13; have k7 := k7.belowV hb13; have k9 := k9.belowV hb13)); refine ⟨_, rfl, ?_, ?_⟩; (· (repeat first | exact KeptS.refl _ _ | exact KeptS.of (only_of_below (by assumption) _) | assumption | refine KeptS.drew ?_ | refine KeptS.alloc ?_ _ | refine KeptS.grown ?_ (by assumption) | refine KeptS.below ?_ (by assumption) | refine KeptS.belowAt ?_ (by assumption) | refine KeptS.setRow ?_ (by simp; done) _ | refine KeptS.setNew ?_ (by simp) _)); try simp only [Act.put, List.setIfInBounds_toArray, List.set_cons_succ, List.set_cons_zero])
  (refine wpS_call 28 (by rfl) (by rfl) Try.func28 (by kernel_rfl) (by rfl) (by rfl) ?_; (conv => arg 3; simp [Act.eval]); (first | ((with_reducible refine (to_disk z0_0 x0 _ (hx0.below hw11) hc0).mono ?_); rintro e w12 ⟨t12_0, rfl, o12, hb12⟩; have hw12 := hw11.trans (hb12.mono hw11.size); have hs12 := hb12.size; have hq12 := hq11.trans (hb12.mono hq11.size); have o6 := o6.below hb12; have q4_0 := q4_0.below hb12; have q8_0 := q8_0.below hb12; have k1 := k1.belowV hb12; have k5 := k5.belowV hb12; have k7 := k7.belowV hb12; have k9 := k9.belowV hb12) | ((with_reducible refine (eq_disk (.slice B6_0 (List.length x0) C6_0) t12_0 x0 _ o6.rd o12.rd).mono ?_); rintro e w13 ⟨rfl, hb13⟩; have hw13 := hw12.trans (hb13.mono hw12.size); have hs13 := hb13.size; have hq13 := hq12.trans (hb13.mono hq12.size); have o6 := o6.below hb13; have q4_0 := q4_0.below hb13; have q8_0 := q8_0.below hb13; have k1 := k1.belowV hb13; have k5 := k5.belowV hb13; have k7 := k7.belowV hb13; have k9 := k9.belowV hb13)); refine ⟨_, rfl, ?_, ?_⟩; (· (repeat first | exact KeptS.refl _ _ | exact KeptS.of (only_of_below (by assumption) _) | assumption | refine KeptS.drew ?_ | refine KeptS.alloc ?_ _ | refine KeptS.grown ?_ (by assumption) | refine KeptS.below ?_ (by assumption) | refine KeptS.belowAt ?_ (by assumption) | refine KeptS.setRow ?_ (by simp; done) _ | refine KeptS.setNew ?_ (by simp) _)); try simp only [Act.put, List.setIfInBounds_toArray, List.set_cons_succ, List.set_cons_zero])
  (refine wpS_held (by rfl) ?_ (fun W hW => ?_) ?_; rotate_left; (· (obtain ⟨kq, rfl⟩ := hW; go_simp; try with_reducible rfl)); try simp only [Act.put, List.setIfInBounds_toArray, List.set_cons_succ, List.set_cons_zero])
  refine wpS_nil ?_
  try simp only [List.getElem_toArray, List.getElem_cons_succ, List.getElem_cons_zero]
  clear Bk1 Ck10
  clear Bk5 Ck50
  clear Bk7 Ck70
  clear Bk9 Ck90
  have Qk1 := k1.cellsV
  simp only [CellsV, Nat.zero_add, Nat.reduceAdd] at Qk1
  have Ck10 := Qk1
  clear Qk1
  have Bk1 := k1.lt
  have Qk5 := k5.cellsV
  simp only [CellsV, Nat.zero_add, Nat.reduceAdd] at Qk5
  have Ck50 := Qk5
  clear Qk5
  have Bk5 := k5.lt
  have Qk7 := k7.cellsV
  simp only [CellsV, Nat.zero_add, Nat.reduceAdd] at Qk7
  have Ck70 := Qk7
  clear Qk7
  have Bk7 := k7.lt
  have Qk9 := k9.cellsV
  simp only [CellsV, Nat.zero_add, Nat.reduceAdd] at Qk9
  have Ck90 := Qk9
  clear Qk9
  have Bk9 := k9.lt
  go_wp2_with fail
  clear Bk1 Ck10
  clear Bk5 Ck50
  clear Bk7 Ck70
  clear Bk9 Ck90
  refine (mark_disk (.slice B6_0 (List.length x0) C6_0) x0 _ _ (1) _ o6 (by omega) (by omega) (by omega)).mono ?_
  rintro e w14 ⟨rfl, -, hp14⟩
  have hw14 := Part.to_below hw13 hp14 (by omega) (Nat.le_refl _)
  have hs14 := hp14.size
  have q4_0 := q4_0.keep hp14 (by omega)
  have q8_0 := q8_0.keep hp14 (by omega)
  have k1 := k1.keepV hp14 (by omega)
  have k5 := k5.keepV hp14 (by omega)
  have k7 := k7.keepV hp14 (by omega)
  have k9 := k9.keepV hp14 (by omega)
  have Qk1 := k1.cellsV
  simp only [CellsV, Nat.zero_add, Nat.reduceAdd] at Qk1
  have Ck10 := Qk1
  clear Qk1
  have Bk1 := k1.lt
  have Qk5 := k5.cellsV
  simp only [CellsV, Nat.zero_add, Nat.reduceAdd] at Qk5
  have Ck50 := Qk5
  clear Qk5
  have Bk5 := k5.lt
  have Qk7 := k7.cellsV
  simp only [CellsV, Nat.zero_add, Nat.reduceAdd] at Qk7
  have Ck70 := Qk7
  clear Qk7
  have Bk7 := k7.lt
  have Qk9 := k9.cellsV
  simp only [CellsV, Nat.zero_add, Nat.reduceAdd] at Qk9
  have Ck90 := Qk9
  clear Qk9
  have Bk9 := k9.lt
  go_wp2_with fail
  clear Bk1 Ck10
  clear Bk5 Ck50
  clear Bk7 Ck70
  clear Bk9 Ck90
  refine (eq_disk (.slice B8_0_0 (List.length (moveFileR0 x0 x1 x2)) C8_0_0) (.slice B4_0_0 (List.length (moveFileR0 x0 x1 x2)) C4_0_0) (moveFileR0 x0 x1 x2) _ q8_0.rd q4_0.rd).mono ?_
  rintro e w15 ⟨rfl, hb15⟩
  have hw15 := hw14.trans (hb15.mono hw14.size)
  have hs15 := hb15.size
  have q4_0 := q4_0.below hb15
  have q8_0 := q8_0.below hb15
  have k1 := k1.belowV hb15
  have k5 := k5.belowV hb15
  have k7 := k7.belowV hb15
  have k9 := k9.belowV hb15
  have hr0 : cells_disk (moveFileR0 x0 x1 x2) ≤ 5000000 := by (unfold cells_disk; have := moveFileR0_length x0 x1 x2; unfold cost_disk at hc0; omega)
  have Qk1 := k1.cellsV
  simp only [CellsV, Nat.zero_add, Nat.reduceAdd] at Qk1
  have Ck10 := Qk1
  clear Qk1
  have Bk1 := k1.lt
  have Qk5 := k5.cellsV
  simp only [CellsV, Nat.zero_add, Nat.reduceAdd] at Qk5
  have Ck50 := Qk5
  clear Qk5
  have Bk5 := k5.lt
  have Qk7 := k7.cellsV
  simp only [CellsV, Nat.zero_add, Nat.reduceAdd] at Qk7
  have Ck70 := Qk7
  clear Qk7
  have Bk7 := k7.lt
  have Qk9 := k9.cellsV
  simp only [CellsV, Nat.zero_add, Nat.reduceAdd] at Qk9
  have Ck90 := Qk9
  clear Qk9
  have Bk9 := k9.lt
  go_wp2_with fail
  clear Bk1 Ck10
  clear Bk5 Ck50
  clear Bk7 Ck70
  clear Bk9 Ck90
  refine (mark_disk (.slice B8_0_0 (List.length (moveFileR0 x0 x1 x2)) C8_0_0) (moveFileR0 x0 x1 x2) _ _ (1) _ q8_0 (by omega) (by omega) (by omega)).mono ?_
  rintro e w16 ⟨rfl, f16, hp16⟩
  have hw16 := Part.to_below hw15 hp16 (by omega) (Nat.le_refl _)
  have hs16 := hp16.size
  have q4_0 := q4_0.keep hp16 (by omega)
  have k1 := k1.keepV hp16 (by omega)
  have k5 := k5.keepV hp16 (by omega)
  have k7 := k7.keepV hp16 (by omega)
  have k9 := k9.keepV hp16 (by omega)
  have Qk1 := k1.cellsV
  simp only [CellsV, Nat.zero_add, Nat.reduceAdd] at Qk1
  have Ck10 := Qk1
  clear Qk1
  have Bk1 := k1.lt
  have Qk5 := k5.cellsV
  simp only [CellsV, Nat.zero_add, Nat.reduceAdd] at Qk5
  have Ck50 := Qk5
  clear Qk5
  have Bk5 := k5.lt
  have Qk7 := k7.cellsV
  simp only [CellsV, Nat.zero_add, Nat.reduceAdd] at Qk7
  have Ck70 := Qk7
  clear Qk7
  have Bk7 := k7.lt
  have Qk9 := k9.cellsV
  simp only [CellsV, Nat.zero_add, Nat.reduceAdd] at Qk9
  have Ck90 := Qk9
  clear Qk9
  have Bk9 := k9.lt
  go_wp2_with fail
  clear Bk1 Ck10
  clear Bk5 Ck50
  clear Bk7 Ck70
  clear Bk9 Ck90
  refine (held_disk (.slice B8_0_0 (List.length (moveFileR0 x0 x1 x2)) C8_0_0) (moveFileR0 x0 x1 x2) _ _ (1) _ f16 (by omega) (by omega) (by omega)).mono ?_
  rintro e w17 ⟨rfl, hb17⟩
  have hw17 := hw16.trans (hb17.mono hw16.size)
  have hs17 := hb17.size
  have f16 := f16.below hb17
  have q4_0 := q4_0.below hb17
  have k1 := k1.belowV hb17
  have k5 := k5.belowV hb17
  have k7 := k7.belowV hb17
  have k9 := k9.belowV hb17
  have Qk1 := k1.cellsV
  simp only [CellsV, Nat.zero_add, Nat.reduceAdd] at Qk1
  have Ck10 := Qk1
  clear Qk1
  have Bk1 := k1.lt
  have Qk5 := k5.cellsV
  simp only [CellsV, Nat.zero_add, Nat.reduceAdd] at Qk5
  have Ck50 := Qk5
  clear Qk5
  have Bk5 := k5.lt
  have Qk7 := k7.cellsV
  simp only [CellsV, Nat.zero_add, Nat.reduceAdd] at Qk7
  have Ck70 := Qk7
  clear Qk7
  have Bk7 := k7.lt
  have Qk9 := k9.cellsV
  simp only [CellsV, Nat.zero_add, Nat.reduceAdd] at Qk9
  have Ck90 := Qk9
  clear Qk9
  have Bk9 := k9.lt
  go_wp2_with fail
  clear Bk1 Ck10
  clear Bk5 Ck50
  clear Bk7 Ck70
  clear Bk9 Ck90
  refine (to_disk z0_0 x0 _ (hx0.below hw17) hc0).mono ?_
  rintro e w18 ⟨t18_0, rfl, o18, hb18⟩
  have hw18 := hw17.trans (hb18.mono hw17.size)
  have hs18 := hb18.size
  have f16 := f16.below hb18
  have q4_0 := q4_0.below hb18
  have k1 := k1.belowV hb18
  have k5 := k5.belowV hb18
  have k7 := k7.belowV hb18
  have k9 := k9.belowV hb18
  have Qk1 := k1.cellsV
  simp only [CellsV, Nat.zero_add, Nat.reduceAdd] at Qk1
  have Ck10 := Qk1
  clear Qk1
  have Bk1 := k1.lt
  have Qk5 := k5.cellsV
  simp only [CellsV, Nat.zero_add, Nat.reduceAdd] at Qk5
  have Ck50 := Qk5
  clear Qk5
  have Bk5 := k5.lt
  have Qk7 := k7.cellsV
  simp only [CellsV, Nat.zero_add, Nat.reduceAdd] at Qk7
  have Ck70 := Qk7
  clear Qk7
  have Bk7 := k7.lt
  have Qk9 := k9.cellsV
  simp only [CellsV, Nat.zero_add, Nat.reduceAdd] at Qk9
  have Ck90 := Qk9
  clear Qk9
  have Bk9 := k9.lt
  go_wp2_with fail
  clear Bk1 Ck10
  clear Bk5 Ck50
  clear Bk7 Ck70
  clear Bk9 Ck90
  refine (moveFile_impl t18_0 x0 x1 x2 _ o18.rd hc0 hc1 hc2).mono ?_
  rintro e w19 ⟨u19_0_0, rfl, q19_0, hb19⟩
  have hw19 := hw18.trans (hb19.mono hw18.size)
  have hs19 := hb19.size
  have f16 := f16.below hb19
  have o18 := o18.below hb19
  have q4_0 := q4_0.below hb19
  have k1 := k1.belowV hb19
  have k5 := k5.belowV hb19
  have k7 := k7.belowV hb19
  have k9 := k9.belowV hb19
  obtain ⟨B19_0_0, C19_0_0, rfl⟩ := q19_0.form
  have Qk1 := k1.cellsV
  simp only [CellsV, Nat.zero_add, Nat.reduceAdd] at Qk1
  have Ck10 := Qk1
  clear Qk1
  have Bk1 := k1.lt
  have Qk5 := k5.cellsV
  simp only [CellsV, Nat.zero_add, Nat.reduceAdd] at Qk5
  have Ck50 := Qk5
  clear Qk5
  have Bk5 := k5.lt
  have Qk7 := k7.cellsV
  simp only [CellsV, Nat.zero_add, Nat.reduceAdd] at Qk7
  have Ck70 := Qk7
  clear Qk7
  have Bk7 := k7.lt
  have Qk9 := k9.cellsV
  simp only [CellsV, Nat.zero_add, Nat.reduceAdd] at Qk9
  have Ck90 := Qk9
  clear Qk9
  have Bk9 := k9.lt
  go_wp2_with fail
  clear Bk1 Ck10
  clear Bk5 Ck50
  clear Bk7 Ck70
  clear Bk9 Ck90
  obtain ⟨w20, hv20⟩ : ∃ W, W = w19.alloc (.cells #[(.slice B19_0_0 (List.length (moveFileR0 x0 x1 x2)) C19_0_0)] 37) := ⟨_, rfl⟩
  rw [← hv20]
  have hb20 : Below w19.heap.size w19 w20 := by rw [hv20]; exact (Below.refl _ _).alloc (Nat.le_refl _) _
  have k20 : Blk w20 w19.heap.size 37 #[(.slice B19_0_0 (List.length (moveFileR0 x0 x1 x2)) C19_0_0)] := by rw [hv20]; exact Blk.new _ _ _
  clear hv20
  have hg20 := k20.lt
  have hw20 := hw19.trans (hb20.mono hw19.size)
  have hs20 := hb20.size
  have f16 := f16.below hb20
  have q19_0 := q19_0.below hb20
  have q4_0 := q4_0.below hb20
  have k1 := k1.belowV hb20
  have k5 := k5.belowV hb20
  have k7 := k7.belowV hb20
  have k9 := k9.belowV hb20
  refine (eq_disk (.slice B19_0_0 (List.length (moveFileR0 x0 x1 x2)) C19_0_0) (.slice B4_0_0 (List.length (moveFileR0 x0 x1 x2)) C4_0_0) (moveFileR0 x0 x1 x2) _ q19_0.rd q4_0.rd).mono ?_
  rintro e w21 ⟨rfl, hb21⟩
  have hw21 := hw20.trans (hb21.mono hw20.size)
  have hs21 := hb21.size
  have f16 := f16.below hb21
  have q19_0 := q19_0.below hb21
  have q4_0 := q4_0.below hb21
  have k1 := k1.belowV hb21
  have k20 := k20.belowV hb21
  have k5 := k5.belowV hb21
  have k7 := k7.belowV hb21
  have k9 := k9.belowV hb21
  have Qk1 := k1.cellsV
  simp only [CellsV, Nat.zero_add, Nat.reduceAdd] at Qk1
  have Ck10 := Qk1
  clear Qk1
  have Bk1 := k1.lt
  have Qk20 := k20.cellsV
  simp only [CellsV, Nat.zero_add, Nat.reduceAdd] at Qk20
  have Ck200 := Qk20
  clear Qk20
  have Bk20 := k20.lt
  have Qk5 := k5.cellsV
  simp only [CellsV, Nat.zero_add, Nat.reduceAdd] at Qk5
  have Ck50 := Qk5
  clear Qk5
  have Bk5 := k5.lt
  have Qk7 := k7.cellsV
  simp only [CellsV, Nat.zero_add, Nat.reduceAdd] at Qk7
  have Ck70 := Qk7
  clear Qk7
  have Bk7 := k7.lt
  have Qk9 := k9.cellsV
  simp only [CellsV, Nat.zero_add, Nat.reduceAdd] at Qk9
  have Ck90 := Qk9
  clear Qk9
  have Bk9 := k9.lt
  go_wp2_with fail
  clear Bk1 Ck10
  clear Bk20 Ck200
  clear Bk5 Ck50
  clear Bk7 Ck70
  clear Bk9 Ck90
  refine (held_disk (.slice B8_0_0 (List.length (moveFileR0 x0 x1 x2)) C8_0_0) (moveFileR0 x0 x1 x2) _ _ (1) _ f16 (by omega) (by omega) (by omega)).mono ?_
  rintro e w22 ⟨rfl, hb22⟩
  have hw22 := hw21.trans (hb22.mono hw21.size)
  have hs22 := hb22.size
  have f16 := f16.below hb22
  have q19_0 := q19_0.below hb22
  have q4_0 := q4_0.below hb22
  have k1 := k1.belowV hb22
  have k20 := k20.belowV hb22
  have k5 := k5.belowV hb22
  have k7 := k7.belowV hb22
  have k9 := k9.belowV hb22
  have Qk1 := k1.cellsV
  simp only [CellsV, Nat.zero_add, Nat.reduceAdd] at Qk1
  have Ck10 := Qk1
  clear Qk1
  have Bk1 := k1.lt
  have Qk20 := k20.cellsV
  simp only [CellsV, Nat.zero_add, Nat.reduceAdd] at Qk20
  have Ck200 := Qk20
  clear Qk20
  have Bk20 := k20.lt
  have Qk5 := k5.cellsV
  simp only [CellsV, Nat.zero_add, Nat.reduceAdd] at Qk5
  have Ck50 := Qk5
  clear Qk5
  have Bk5 := k5.lt
  have Qk7 := k7.cellsV
  simp only [CellsV, Nat.zero_add, Nat.reduceAdd] at Qk7
  have Ck70 := Qk7
  clear Qk7
  have Bk7 := k7.lt
  have Qk9 := k9.cellsV
  simp only [CellsV, Nat.zero_add, Nat.reduceAdd] at Qk9
  have Ck90 := Qk9
  clear Qk9
  have Bk9 := k9.lt
  go_wp2_with fail
  clear Bk1 Ck10
  clear Bk20 Ck200
  clear Bk5 Ck50
  clear Bk7 Ck70
  clear Bk9 Ck90
  go_ret
  exact ⟨rfl, hw22⟩

namespace fnExactMoveFile
open Go.ChangeShapes Go.WideShapes Go.ChangeAt Go.RowKit
theorem own : ownKnob Try.prog.godebug = none := by kernel_rfl
theorem laidOut : laidOutB Try.prog = true := by kernel_rfl

set_option maxRecDepth 100000 in
theorem lifted (os : Os) (started : os.Started) (H : Type) (enc : TypeId × Value → H) :
    ReturnsInHanded {} Try.checked os 7 .any (Rows.fnExactMoveFileSpec.pre6 enc Try.prog Try.f7 Rows.fnExactMoveFileRow.domain false) (Rows.fnExactMoveFileSpec.post enc Try.prog Try.f7 false true false false) := by
  refine returnsInHanded_of_change (C := Try.checked) own started (by kernel_rfl) Try.func7
    (ChangeSpec.witness6 (enc := enc) (C := Try.checked) false ⟨#[], #[.agg #[.slice none 0 0], .string ⟨#[]⟩, .string ⟨#[]⟩], []⟩ 8 (by kernel_rfl) (by kernel_rfl) (by kernel_rfl) (by kernel_rfl)) ?_
  intro W base args ds gs before hval0 hW hcnd _
  have hval : ∀ (j : Nat) t v, Try.f7.params[j]? = some t → args[j]? = some v → Value.okWide Try.prog W .any base t v := hval0
  have hW' := hW
  obtain ⟨p, q, hA0, hV, rfl, hfz, hnd⟩ := hW
  have hA : DataW.TrodAll enc Try.prog W 0 (fun _ => true) true Try.f7.params.toList args.toList ds p := hA0
  rw [Try.params7] at hA hval
  obtain ⟨v0, vs0, d0, ds0, p0, q0, hargs, rfl, rfl, h0, r0⟩ := trodAll_cons hA
  obtain ⟨v1, vs1, d1, ds1, p1, q1, rfl, rfl, rfl, h1, r1⟩ := trodAll_cons r0
  obtain ⟨v2, vs2, d2, ds2, p2, q2, rfl, rfl, rfl, h2, r2⟩ := trodAll_cons r1
  obtain ⟨rfl, rfl, rfl⟩ := trodAll_nil r2
  obtain rfl : args = #[v0, v1, v2] := by cases args; simp_all
  obtain ⟨rfl, rfl⟩ := trodVars_none hV
  have lt0 : ∀ x ∈ p0, x.block < W.heap.size := by obtain ⟨m, hm⟩ := h0; exact DataW.trod_lt m _ _ _ hm
  have a0 := arg_disk (hval 0 47 v0 rfl rfl) h0
  have lt1 : ∀ x ∈ p1, x.block < W.heap.size := by obtain ⟨m, hm⟩ := h1; exact DataW.trod_lt m _ _ _ hm
  have a1 := arg_string (hval 1 9 v1 rfl rfl) h1
  have lt2 : ∀ x ∈ p2, x.block < W.heap.size := by obtain ⟨m, hm⟩ := h2; exact DataW.trod_lt m _ _ _ hm
  have a2 := arg_string (hval 2 9 v2 rfl rfl) h2
  clear hA0 hval0
  refine (walk_FnExactMoveFile v0 v1 v2 W a0 a1 a2).mono fun e W' ⟨he, bel⟩ => ?_
  subst he
  exact ⟨_, rfl, _, _, _, [], _, [], hW', trodAll_mk1 (shut_bool Try.underlying4 _), (trodAll_cons_mk (Below.trod laidOut (by kernel_rfl) (of_decide_eq_true (by kernel_rfl)) h0 bel lt0) (trodAll_cons_mk (Below.trod laidOut (by kernel_rfl) (of_decide_eq_true (by kernel_rfl)) h1 bel lt1) (trodAll_cons_mk (Below.trod laidOut (by kernel_rfl) (of_decide_eq_true (by kernel_rfl)) h2 bel lt2) trodAll_mk0))), rfl, bel.frame _, fun h => by cases h⟩

theorem over : Rows.fnExactMoveFileRow.holds Try.pinned (OpenSpec.ofChange Rows.fnExactMoveFileSpec) :=
  OpenClaim.holds_of_wide 7 Try.f7 rfl rfl rfl rfl rfl rfl rfl ⟨rfl, rfl, rfl, rfl, rfl⟩ rfl rfl rfl rfl rfl (by kernel_rfl) Try.func7 (by kernel_rfl)
    (of_decide_eq_true (by kernel_rfl)) (by unfold Func.isWrapper; first | (rw [if_pos (by decide +kernel)]; kernel_rfl) | (rw [if_neg (by decide +kernel)]; exact ⟨rfl, rfl⟩))
    (fun os started H enc _ => lifted os started H enc)

/-- The statement. -/
theorem proved : Rows.FnExactMoveFileSaid :=
  over
#print axioms proved
end fnExactMoveFile

end Go.Proofs.Ythjkmefbjbfonaa

/- The law FnExactCrashed returns true for every argument; no conditions. -/
import Derived.Test.YthjkmefbjbfonaaCrashS
import Derived.Test.YthjkmefbjbfonaaFilM
import Derived.Test.YthjkmefbjbfonaaArgDisk
import Derived.Test.YthjkmefbjbfonaaIntsK
import Derived.Test.YthjkmefbjbfonaaArgs
namespace Go.Proofs.Ythjkmefbjbfonaa
set_option linter.unusedSimpArgs false
open Go.RowKit Go.ChangeShapes

set_option maxHeartbeats 8000000 in
set_option maxRecDepth 100000 in
theorem walk_FnExactCrashed (v0 v1 : Value) (w : World) (a0 : ArgDisk w v0) (a1 : ArgInts w v1) :
    Calls Try.prog 9 #[v0, v1] w fun e w' => e = .returned (.bool true) ∧ Below w.heap.size w w' := by
  obtain ⟨z0_0, x0, rfl, hx0⟩ := a0
  replace hx0 : Rd_disk w z0_0 x0 := hx0
  obtain ⟨x1, hx1⟩ := a1
  replace hx1 : Rd_ints w v1 x1 := hx1
  obtain ⟨A1, c1, hv1, hnc1, hcm1⟩ := Rd_ints.shape hx1
  unfold maxLen at hcm1
  subst hv1
  have hw0 : Below w.heap.size w w := Below.refl _ _
  obtain ⟨w1, hv1⟩ : ∃ W, W = w.alloc (.cells #[z0_0] 47) := ⟨_, rfl⟩
  have hb1 : Below w.heap.size w w1 := by rw [hv1]; exact (Below.refl _ _).alloc (Nat.le_refl _) _
  have k1 : Blk w1 w.heap.size 47 #[z0_0] := by rw [hv1]; exact Blk.new _ _ _
  have HV1 := Lib.hid hv1
  clear hv1
  have hg1 := k1.lt
  have hw1 := hw0.trans (hb1.mono hw0.size)
  have hs1 := hb1.size
  by_cases hn1 : cost_ints x1 ≤ 1048576
  rotate_left
  · skip
    go_enter Try.func9, Try.ntmps9
    go_wp2_with fail
    go_ret
    first | exact ⟨rfl, hw1⟩ | (rw [HV1.out] at *; exact ⟨rfl, (by repeat first | exact Below.refl _ _ | assumption | refine Below.drew ?_ | refine below_drewN ?_ _ | refine Below.calm ?_ (by first | exact Nat.le_refl _ | (simp; done) | (simp; omega) | omega) | refine Below.alloc ?_ (by first | exact Nat.le_refl _ | (simp; done) | (simp; omega) | omega) _ | refine Below.setCell ?_ (by first | exact Nat.le_refl _ | (simp; done) | (simp; omega) | omega) _)⟩)
  have HZ0 := Lib.hid (fun (W : World) (hW : Below w.heap.size w W) => sz_disk z0_0 x0 (1048576) W (hx0.below hW) (by omega) (by omega))
  by_cases hn0 : (1048576) - (cost_disk x0 : Int) < 0
  · skip
    unfold szv at HZ0
    rw [if_pos hn0] at HZ0
    go_enter Try.func9, Try.ntmps9
    have Qk1 := k1.cellsV
    simp only [CellsV, Nat.zero_add, Nat.reduceAdd] at Qk1
    have Bk1 := k1.lt
    go_wp2_with fail
    rw [← HV1.out]
    clear Bk1 Qk1
    refine (HZ0.out _ hw1).mono ?_
    rintro e w2 ⟨rfl, hb2⟩
    have hw2 := hw1.trans (hb2.mono hw1.size)
    have hs2 := hb2.size
    have k1 := k1.belowV hb2
    go_wp2_with fail
    go_ret
    first | exact ⟨rfl, hw2⟩ | (rw [HV1.out] at *; exact ⟨rfl, (by repeat first | exact Below.refl _ _ | assumption | refine Below.drew ?_ | refine below_drewN ?_ _ | refine Below.calm ?_ (by first | exact Nat.le_refl _ | (simp; done) | (simp; omega) | omega) | refine Below.alloc ?_ (by first | exact Nat.le_refl _ | (simp; done) | (simp; omega) | omega) _ | refine Below.setCell ?_ (by first | exact Nat.le_refl _ | (simp; done) | (simp; omega) | omega) _)⟩)
  unfold szv at HZ0
  rw [if_neg hn0] at HZ0
  have hc0 : cost_disk x0 ≤ 1048576 := by omega
  have hc1 : cost_ints x1 ≤ 1048576 := hn1
  have hce0 := cells_le_disk x0
  have hce1 := cells_le_ints x1
  go_enter Try.func9, Try.ntmps9
  have Qk1 := k1.cellsV
  simp only [CellsV, Nat.zero_add, Nat.reduceAdd] at Qk1
  have Bk1 := k1.lt
  go_wp2_with fail
  rw [← HV1.out]
  clear Bk1 Qk1
  refine (HZ0.out _ hw1).mono ?_
  rintro e w2 ⟨rfl, hb2⟩
  have hw2 := hw1.trans (hb2.mono hw1.size)
  have hs2 := hb2.size
  have k1 := k1.belowV hb2
  clear HZ0
  have Qk1 := k1.cellsV
  simp only [CellsV, Nat.zero_add, Nat.reduceAdd] at Qk1
  have Ck10 := Qk1
  clear Qk1
  have Bk1 := k1.lt
  go_wp2_with fail
  clear Bk1 Ck10
  refine (to_disk z0_0 x0 _ (hx0.below hw2) hc0).mono ?_
  rintro e w3 ⟨t3_0, rfl, o3, hb3⟩
  have hw3 := hw2.trans (hb3.mono hw2.size)
  have hs3 := hb3.size
  have k1 := k1.belowV hb3
  have Qk1 := k1.cellsV
  simp only [CellsV, Nat.zero_add, Nat.reduceAdd] at Qk1
  have Ck10 := Qk1
  clear Qk1
  have Bk1 := k1.lt
  go_wp2_with fail
  clear Bk1 Ck10
  refine (to_ints (.slice A1 (cost_ints x1) c1) x1 _ (hx1.below hw3) hc1).mono ?_
  rintro e w4 ⟨t4_0, rfl, o4, hb4⟩
  have hw4 := hw3.trans (hb4.mono hw3.size)
  have hs4 := hb4.size
  have o3 := o3.below hb4
  have k1 := k1.belowV hb4
  have Qk1 := k1.cellsV
  simp only [CellsV, Nat.zero_add, Nat.reduceAdd] at Qk1
  have Ck10 := Qk1
  clear Qk1
  have Bk1 := k1.lt
  go_wp2_with fail
  clear Bk1 Ck10
  refine (crashed_spec t3_0 x0 t4_0 x1 _ o3.rd o4.rd hc0 hc1).mono ?_
  rintro e w5 ⟨u5_0_0, rfl, q5_0, hb5⟩
  have hw5 := hw4.trans (hb5.mono hw4.size)
  have hs5 := hb5.size
  have o3 := o3.below hb5
  have o4 := o4.below hb5
  have k1 := k1.belowV hb5
  obtain ⟨B5_0_0, C5_0_0, rfl⟩ := q5_0.form
  have Qk1 := k1.cellsV
  simp only [CellsV, Nat.zero_add, Nat.reduceAdd] at Qk1
  have Ck10 := Qk1
  clear Qk1
  have Bk1 := k1.lt
  go_wp2_with fail
  clear Bk1 Ck10
  obtain ⟨w6, hv6⟩ : ∃ W, W = w5.alloc (.cells #[(.slice B5_0_0 (List.length (crashedR x0 x1)) C5_0_0)] 37) := ⟨_, rfl⟩
  rw [← hv6]
  have hb6 : Below w5.heap.size w5 w6 := by rw [hv6]; exact (Below.refl _ _).alloc (Nat.le_refl _) _
  have k6 : Blk w6 w5.heap.size 37 #[(.slice B5_0_0 (List.length (crashedR x0 x1)) C5_0_0)] := by rw [hv6]; exact Blk.new _ _ _
  clear hv6
  have hg6 := k6.lt
  have hw6 := hw5.trans (hb6.mono hw5.size)
  have hs6 := hb6.size
  have q5_0 := q5_0.below hb6
  have k1 := k1.belowV hb6
  refine (to_disk z0_0 x0 _ (hx0.below hw6) hc0).mono ?_
  rintro e w7 ⟨t7_0, rfl, o7, hb7⟩
  have hw7 := hw6.trans (hb7.mono hw6.size)
  have hs7 := hb7.size
  have q5_0 := q5_0.below hb7
  have k1 := k1.belowV hb7
  have k6 := k6.belowV hb7
  obtain ⟨B7_0, C7_0, rfl⟩ := o7.form
  have Qk1 := k1.cellsV
  simp only [CellsV, Nat.zero_add, Nat.reduceAdd] at Qk1
  have Ck10 := Qk1
  clear Qk1
  have Bk1 := k1.lt
  have Qk6 := k6.cellsV
  simp only [CellsV, Nat.zero_add, Nat.reduceAdd] at Qk6
  have Ck60 := Qk6
  clear Qk6
  have Bk6 := k6.lt
  go_wp2_with fail
  clear Bk1 Ck10
  clear Bk6 Ck60
  obtain ⟨w8, hv8⟩ : ∃ W, W = w7.alloc (.cells #[(.slice B7_0 (List.length x0) C7_0)] 37) := ⟨_, rfl⟩
  rw [← hv8]
  have hb8 : Below w7.heap.size w7 w8 := by rw [hv8]; exact (Below.refl _ _).alloc (Nat.le_refl _) _
  have k8 : Blk w8 w7.heap.size 37 #[(.slice B7_0 (List.length x0) C7_0)] := by rw [hv8]; exact Blk.new _ _ _
  clear hv8
  have hg8 := k8.lt
  have hw8 := hw7.trans (hb8.mono hw7.size)
  have hs8 := hb8.size
  have o7 := o7.below hb8
  have q5_0 := q5_0.below hb8
  have k1 := k1.belowV hb8
  have k6 := k6.belowV hb8
  refine (to_ints (.slice A1 (cost_ints x1) c1) x1 _ (hx1.below hw8) hc1).mono ?_
  rintro e w9 ⟨t9_0, rfl, o9, hb9⟩
  have hw9 := hw8.trans (hb9.mono hw8.size)
  have hs9 := hb9.size
  have o7 := o7.below hb9
  have q5_0 := q5_0.below hb9
  have k1 := k1.belowV hb9
  have k6 := k6.belowV hb9
  have k8 := k8.belowV hb9
  have Qk1 := k1.cellsV
  simp only [CellsV, Nat.zero_add, Nat.reduceAdd] at Qk1
  have Ck10 := Qk1
  clear Qk1
  have Bk1 := k1.lt
  have Qk6 := k6.cellsV
  simp only [CellsV, Nat.zero_add, Nat.reduceAdd] at Qk6
  have Ck60 := Qk6
  clear Qk6
  have Bk6 := k6.lt
  have Qk8 := k8.cellsV
  simp only [CellsV, Nat.zero_add, Nat.reduceAdd] at Qk8
  have Ck80 := Qk8
  clear Qk8
  have Bk8 := k8.lt
  go_wp2_with fail
  clear Bk1 Ck10
  clear Bk6 Ck60
  clear Bk8 Ck80
  refine (crashed_impl (.slice B7_0 (List.length x0) C7_0) x0 t9_0 x1 _ o7.rd o9.rd hc0 hc1).mono ?_
  rintro e w10 ⟨u10_0_0, rfl, q10_0, hb10⟩
  have hw10 := hw9.trans (hb10.mono hw9.size)
  have hs10 := hb10.size
  have o7 := o7.below hb10
  have o9 := o9.below hb10
  have q5_0 := q5_0.below hb10
  have k1 := k1.belowV hb10
  have k6 := k6.belowV hb10
  have k8 := k8.belowV hb10
  obtain ⟨B10_0_0, C10_0_0, rfl⟩ := q10_0.form
  have Qk1 := k1.cellsV
  simp only [CellsV, Nat.zero_add, Nat.reduceAdd] at Qk1
  have Ck10 := Qk1
  clear Qk1
  have Bk1 := k1.lt
  have Qk6 := k6.cellsV
  simp only [CellsV, Nat.zero_add, Nat.reduceAdd] at Qk6
  have Ck60 := Qk6
  clear Qk6
  have Bk6 := k6.lt
  have Qk8 := k8.cellsV
  simp only [CellsV, Nat.zero_add, Nat.reduceAdd] at Qk8
  have Ck80 := Qk8
  clear Qk8
  have Bk8 := k8.lt
  go_wp2_with fail
  clear Bk1 Ck10
  clear Bk6 Ck60
  clear Bk8 Ck80
  obtain ⟨w11, hv11⟩ : ∃ W, W = w10.alloc (.cells #[(.slice B10_0_0 (List.length (crashedR x0 x1)) C10_0_0)] 37) := ⟨_, rfl⟩
  rw [← hv11]
  have hb11 : Below w10.heap.size w10 w11 := by rw [hv11]; exact (Below.refl _ _).alloc (Nat.le_refl _) _
  have k11 : Blk w11 w10.heap.size 37 #[(.slice B10_0_0 (List.length (crashedR x0 x1)) C10_0_0)] := by rw [hv11]; exact Blk.new _ _ _
  clear hv11
  have hg11 := k11.lt
  have hw11 := hw10.trans (hb11.mono hw10.size)
  have hs11 := hb11.size
  have o7 := o7.below hb11
  have o9 := o9.below hb11
  have q10_0 := q10_0.below hb11
  have q5_0 := q5_0.below hb11
  have k1 := k1.belowV hb11
  have k6 := k6.belowV hb11
  have k8 := k8.belowV hb11
  refine (eq_disk (.slice B10_0_0 (List.length (crashedR x0 x1)) C10_0_0) (.slice B5_0_0 (List.length (crashedR x0 x1)) C5_0_0) (crashedR x0 x1) _ q10_0.rd q5_0.rd).mono ?_
  rintro e w12 ⟨rfl, hb12⟩
  have hw12 := hw11.trans (hb12.mono hw11.size)
  have hs12 := hb12.size
  have o7 := o7.below hb12
  have o9 := o9.below hb12
  have q10_0 := q10_0.below hb12
  have q5_0 := q5_0.below hb12
  have k1 := k1.belowV hb12
  have k11 := k11.belowV hb12
  have k6 := k6.belowV hb12
  have k8 := k8.belowV hb12
  have Qk1 := k1.cellsV
  simp only [CellsV, Nat.zero_add, Nat.reduceAdd] at Qk1
  have Ck10 := Qk1
  clear Qk1
  have Bk1 := k1.lt
  have Qk11 := k11.cellsV
  simp only [CellsV, Nat.zero_add, Nat.reduceAdd] at Qk11
  have Ck110 := Qk11
  clear Qk11
  have Bk11 := k11.lt
  have Qk6 := k6.cellsV
  simp only [CellsV, Nat.zero_add, Nat.reduceAdd] at Qk6
  have Ck60 := Qk6
  clear Qk6
  have Bk6 := k6.lt
  have Qk8 := k8.cellsV
  simp only [CellsV, Nat.zero_add, Nat.reduceAdd] at Qk8
  have Ck80 := Qk8
  clear Qk8
  have Bk8 := k8.lt
  go_wp2_with fail
  have hb13 : Below w12.heap.size w12 w12.drew := (Below.refl _ _).drew
  have hw13 := hw12.trans (hb13.mono hw12.size)
  have hs13 := hb13.size
  have o7 := o7.below hb13
  have o9 := o9.below hb13
  have q10_0 := q10_0.below hb13
  have q5_0 := q5_0.below hb13
  have k1 := k1.belowV hb13
  have k11 := k11.belowV hb13
  have k6 := k6.belowV hb13
  have k8 := k8.belowV hb13
  have hq13 := hb13
  refine wp_region_sched [(0, true), (1, true), (2, false), (3, false), (4, true)] [(true, _), (true, _), (false, _), (false, _), (true, _)] rfl (by kernel_rfl) (by kernel_rfl) (KeptS _ none) (KeptS.refl _ _).drew ?_
  try simp only [List.getElem_toArray, List.getElem_cons_succ, List.getElem_cons_zero]
  (refine wpS_held (by rfl) ?_ (fun W hW => ?_) ?_; rotate_left; (· (obtain ⟨kq, rfl⟩ := hW; go_simp; try with_reducible rfl)); try simp only [Act.put, List.setIfInBounds_toArray, List.set_cons_succ, List.set_cons_zero])
  (refine wpS_held (by rfl) ?_ (fun W hW => ?_) ?_; rotate_left; (· (obtain ⟨kq, rfl⟩ := hW; go_simp; try with_reducible rfl)); try simp only [Act.put, List.setIfInBounds_toArray, List.set_cons_succ, List.set_cons_zero])
  (refine wpS_call 26 (by rfl) (by rfl) Try.func26 (by kernel_rfl) (by rfl) (by rfl) ?_; (conv => arg 3; simp [Act.eval]); (first | ((with_reducible refine (to_disk z0_0 x0 _ (hx0.below hw13) hc0).mono ?_); rintro e w14 ⟨t14_0, rfl, o14, hb14⟩; have hw14 := hw13.trans (hb14.mono hw13.size); have hs14 := hb14.size; have hq14 := hq13.trans (hb14.mono hq13.size); have o7 := o7.below hb14; have o9 := o9.below hb14; have q10_0 := q10_0.below hb14; have q5_0 := q5_0.below hb14; have k1 := k1.belowV hb14; have k11 := k11.belowV hb14; have k6 := k6.belowV hb14; have k8 := k8.belowV hb14) | ((with_reducible refine (eq_disk (.slice B7_0 (List.length x0) C7_0) t14_0 x0 _ o7.rd o14.rd).mono ?_); rintro e w15 ⟨rfl, hb15⟩; have hw15 := hw14.trans (hb15.mono hw14.size); have hs15 := hb15.size; have hq15 := hq14.trans (hb15.mono hq14.size); have o7 := o7.below hb15; have o9 := o9.below hb15; have q10_0 := q10_0.below hb15; have q5_0 := q5_0.below hb15; have k1 := k1.belowV hb15; have k11 := k11.belowV hb15; have k6 := k6.belowV hb15; have k8 := k8.belowV hb15)); refine ⟨_, rfl, ?_, ?_⟩; (· (repeat first | exact KeptS.refl _ _ | exact KeptS.of (only_of_below (by assumption) _) | assumption | refine KeptS.drew ?_ | refine KeptS.alloc ?_ _ | refine KeptS.grown ?_ (by assumption) | refine KeptS.below ?_ (by assumption) | refine KeptS.belowAt ?_ (by assumption) | refine KeptS.setRow ?_ (by simp; done) _ | refine KeptS.setNew ?_ (by simp) _)); try simp only [Act.put, List.setIfInBounds_toArray, List.set_cons_succ, List.set_cons_zero])
  (refine wpS_call 28 (by rfl) (by rfl) Try.func28 (by kernel_rfl) (by rfl) (by rfl) ?_; (conv => arg 3; simp [Act.eval]); (first | ((with_reducible refine (to_disk z0_0 x0 _ (hx0.below hw13) hc0).mono ?_); rintro e w14 ⟨t14_0, rfl, o14, hb14⟩; have hw14 := hw13.trans (hb14.mono hw13.size); have hs14 := hb14.size; have hq14 := hq13.trans (hb14.mono hq13.size); have o7 := o7.below hb14; have o9 := o9.below hb14; have q10_0 := q10_0.below hb14; have q5_0 := q5_0.below hb14; have k1 := k1.belowV hb14; have k11 := k11.belowV hb14; have k6 := k6.belowV hb14; have k8 := k8.belowV hb14) | ((with_reducible refine (eq_disk (.slice B7_0 (List.length x0) C7_0) t14_0 x0 _ o7.rd o14.rd).mono ?_); rintro e w15 ⟨rfl, hb15⟩; have hw15 := hw14.trans (hb15.mono hw14.size); have hs15 := hb15.size; have hq15 := hq14.trans (hb15.mono hq14.size); have o7 := o7.below hb15; have o9 := o9.below hb15; have q10_0 := q10_0.below hb15; have q5_0 := q5_0.below hb15; have k1 := k1.belowV hb15; have k11 := k11.belowV hb15; have k6 := k6.belowV hb15; have k8 := k8.belowV hb15)); refine ⟨_, rfl, ?_, ?_⟩; (· (repeat first | exact KeptS.refl _ _ | exact KeptS.of (only_of_below (by assumption) _) | assumption | refine KeptS.drew ?_ | refine KeptS.alloc ?_ _ | refine KeptS.grown ?_ (by assumption) | refine KeptS.below ?_ (by assumption) | refine KeptS.belowAt ?_ (by assumption) | refine KeptS.setRow ?_ (by simp; done) _ | refine KeptS.setNew ?_ (by simp) _)); try simp only [Act.put, List.setIfInBounds_toArray, List.set_cons_succ, List.set_cons_zero])
  (refine wpS_held (by rfl) ?_ (fun W hW => ?_) ?_; rotate_left; (· (obtain ⟨kq, rfl⟩ := hW; go_simp; try with_reducible rfl)); try simp only [Act.put, List.setIfInBounds_toArray, List.set_cons_succ, List.set_cons_zero])
  refine wpS_nil ?_
  try simp only [List.getElem_toArray, List.getElem_cons_succ, List.getElem_cons_zero]
  clear Bk1 Ck10
  clear Bk11 Ck110
  clear Bk6 Ck60
  clear Bk8 Ck80
  have Qk1 := k1.cellsV
  simp only [CellsV, Nat.zero_add, Nat.reduceAdd] at Qk1
  have Ck10 := Qk1
  clear Qk1
  have Bk1 := k1.lt
  have Qk11 := k11.cellsV
  simp only [CellsV, Nat.zero_add, Nat.reduceAdd] at Qk11
  have Ck110 := Qk11
  clear Qk11
  have Bk11 := k11.lt
  have Qk6 := k6.cellsV
  simp only [CellsV, Nat.zero_add, Nat.reduceAdd] at Qk6
  have Ck60 := Qk6
  clear Qk6
  have Bk6 := k6.lt
  have Qk8 := k8.cellsV
  simp only [CellsV, Nat.zero_add, Nat.reduceAdd] at Qk8
  have Ck80 := Qk8
  clear Qk8
  have Bk8 := k8.lt
  go_wp2_with fail
  clear Bk1 Ck10
  clear Bk11 Ck110
  clear Bk6 Ck60
  clear Bk8 Ck80
  refine (to_ints (.slice A1 (cost_ints x1) c1) x1 _ (hx1.below hw15) hc1).mono ?_
  rintro e w16 ⟨t16_0, rfl, o16, hb16⟩
  have hw16 := hw15.trans (hb16.mono hw15.size)
  have hs16 := hb16.size
  have o7 := o7.below hb16
  have o9 := o9.below hb16
  have q10_0 := q10_0.below hb16
  have q5_0 := q5_0.below hb16
  have k1 := k1.belowV hb16
  have k11 := k11.belowV hb16
  have k6 := k6.belowV hb16
  have k8 := k8.belowV hb16
  have Qk1 := k1.cellsV
  simp only [CellsV, Nat.zero_add, Nat.reduceAdd] at Qk1
  have Ck10 := Qk1
  clear Qk1
  have Bk1 := k1.lt
  have Qk11 := k11.cellsV
  simp only [CellsV, Nat.zero_add, Nat.reduceAdd] at Qk11
  have Ck110 := Qk11
  clear Qk11
  have Bk11 := k11.lt
  have Qk6 := k6.cellsV
  simp only [CellsV, Nat.zero_add, Nat.reduceAdd] at Qk6
  have Ck60 := Qk6
  clear Qk6
  have Bk6 := k6.lt
  have Qk8 := k8.cellsV
  simp only [CellsV, Nat.zero_add, Nat.reduceAdd] at Qk8
  have Ck80 := Qk8
  clear Qk8
  have Bk8 := k8.lt
  go_wp2_with fail
  clear Bk1 Ck10
  clear Bk11 Ck110
  clear Bk6 Ck60
  clear Bk8 Ck80
  refine (eq_ints t9_0 t16_0 x1 _ o9.rd o16.rd).mono ?_
  rintro e w17 ⟨rfl, hb17⟩
  have hw17 := hw16.trans (hb17.mono hw16.size)
  have hs17 := hb17.size
  have o7 := o7.below hb17
  have o9 := o9.below hb17
  have q10_0 := q10_0.below hb17
  have q5_0 := q5_0.below hb17
  have k1 := k1.belowV hb17
  have k11 := k11.belowV hb17
  have k6 := k6.belowV hb17
  have k8 := k8.belowV hb17
  have Qk1 := k1.cellsV
  simp only [CellsV, Nat.zero_add, Nat.reduceAdd] at Qk1
  have Ck10 := Qk1
  clear Qk1
  have Bk1 := k1.lt
  have Qk11 := k11.cellsV
  simp only [CellsV, Nat.zero_add, Nat.reduceAdd] at Qk11
  have Ck110 := Qk11
  clear Qk11
  have Bk11 := k11.lt
  have Qk6 := k6.cellsV
  simp only [CellsV, Nat.zero_add, Nat.reduceAdd] at Qk6
  have Ck60 := Qk6
  clear Qk6
  have Bk6 := k6.lt
  have Qk8 := k8.cellsV
  simp only [CellsV, Nat.zero_add, Nat.reduceAdd] at Qk8
  have Ck80 := Qk8
  clear Qk8
  have Bk8 := k8.lt
  go_wp2_with fail
  clear Bk1 Ck10
  clear Bk11 Ck110
  clear Bk6 Ck60
  clear Bk8 Ck80
  refine (mark_disk (.slice B7_0 (List.length x0) C7_0) x0 _ _ (1) _ o7 (by omega) (by omega) (by omega)).mono ?_
  rintro e w18 ⟨rfl, -, hp18⟩
  have hw18 := Part.to_below hw17 hp18 (by omega) (Nat.le_refl _)
  have hs18 := hp18.size
  have o9 := o9.keep hp18 (by omega)
  have q10_0 := q10_0.keep hp18 (by omega)
  have q5_0 := q5_0.keep hp18 (by omega)
  have k1 := k1.keepV hp18 (by omega)
  have k11 := k11.keepV hp18 (by omega)
  have k6 := k6.keepV hp18 (by omega)
  have k8 := k8.keepV hp18 (by omega)
  have Qk1 := k1.cellsV
  simp only [CellsV, Nat.zero_add, Nat.reduceAdd] at Qk1
  have Ck10 := Qk1
  clear Qk1
  have Bk1 := k1.lt
  have Qk11 := k11.cellsV
  simp only [CellsV, Nat.zero_add, Nat.reduceAdd] at Qk11
  have Ck110 := Qk11
  clear Qk11
  have Bk11 := k11.lt
  have Qk6 := k6.cellsV
  simp only [CellsV, Nat.zero_add, Nat.reduceAdd] at Qk6
  have Ck60 := Qk6
  clear Qk6
  have Bk6 := k6.lt
  have Qk8 := k8.cellsV
  simp only [CellsV, Nat.zero_add, Nat.reduceAdd] at Qk8
  have Ck80 := Qk8
  clear Qk8
  have Bk8 := k8.lt
  go_wp2_with fail
  clear Bk1 Ck10
  clear Bk11 Ck110
  clear Bk6 Ck60
  clear Bk8 Ck80
  refine (mark_ints t9_0 x1 _ _ (1 + ((cells_disk x0 : Nat) : Int)) _ o9 (by omega) (by omega) (by omega)).mono ?_
  rintro e w19 ⟨rfl, -, hp19⟩
  have hw19 := Part.to_below hw18 hp19 (by omega) (Nat.le_refl _)
  have hs19 := hp19.size
  have q10_0 := q10_0.keep hp19 (by omega)
  have q5_0 := q5_0.keep hp19 (by omega)
  have k1 := k1.keepV hp19 (by omega)
  have k11 := k11.keepV hp19 (by omega)
  have k6 := k6.keepV hp19 (by omega)
  have k8 := k8.keepV hp19 (by omega)
  have Qk1 := k1.cellsV
  simp only [CellsV, Nat.zero_add, Nat.reduceAdd] at Qk1
  have Ck10 := Qk1
  clear Qk1
  have Bk1 := k1.lt
  have Qk11 := k11.cellsV
  simp only [CellsV, Nat.zero_add, Nat.reduceAdd] at Qk11
  have Ck110 := Qk11
  clear Qk11
  have Bk11 := k11.lt
  have Qk6 := k6.cellsV
  simp only [CellsV, Nat.zero_add, Nat.reduceAdd] at Qk6
  have Ck60 := Qk6
  clear Qk6
  have Bk6 := k6.lt
  have Qk8 := k8.cellsV
  simp only [CellsV, Nat.zero_add, Nat.reduceAdd] at Qk8
  have Ck80 := Qk8
  clear Qk8
  have Bk8 := k8.lt
  go_wp2_with fail
  clear Bk1 Ck10
  clear Bk11 Ck110
  clear Bk6 Ck60
  clear Bk8 Ck80
  refine (eq_disk (.slice B10_0_0 (List.length (crashedR x0 x1)) C10_0_0) (.slice B5_0_0 (List.length (crashedR x0 x1)) C5_0_0) (crashedR x0 x1) _ q10_0.rd q5_0.rd).mono ?_
  rintro e w20 ⟨rfl, hb20⟩
  have hw20 := hw19.trans (hb20.mono hw19.size)
  have hs20 := hb20.size
  have q10_0 := q10_0.below hb20
  have q5_0 := q5_0.below hb20
  have k1 := k1.belowV hb20
  have k11 := k11.belowV hb20
  have k6 := k6.belowV hb20
  have k8 := k8.belowV hb20
  have hr0 : cells_disk (crashedR x0 x1) ≤ 5000000 := by (unfold cells_disk; rw [crashedR_length]; unfold cost_disk at hc0; omega)
  have Qk1 := k1.cellsV
  simp only [CellsV, Nat.zero_add, Nat.reduceAdd] at Qk1
  have Ck10 := Qk1
  clear Qk1
  have Bk1 := k1.lt
  have Qk11 := k11.cellsV
  simp only [CellsV, Nat.zero_add, Nat.reduceAdd] at Qk11
  have Ck110 := Qk11
  clear Qk11
  have Bk11 := k11.lt
  have Qk6 := k6.cellsV
  simp only [CellsV, Nat.zero_add, Nat.reduceAdd] at Qk6
  have Ck60 := Qk6
  clear Qk6
  have Bk6 := k6.lt
  have Qk8 := k8.cellsV
  simp only [CellsV, Nat.zero_add, Nat.reduceAdd] at Qk8
  have Ck80 := Qk8
  clear Qk8
  have Bk8 := k8.lt
  go_wp2_with fail
  clear Bk1 Ck10
  clear Bk11 Ck110
  clear Bk6 Ck60
  clear Bk8 Ck80
  refine (mark_disk (.slice B10_0_0 (List.length (crashedR x0 x1)) C10_0_0) (crashedR x0 x1) _ _ (1) _ q10_0 (by omega) (by omega) (by omega)).mono ?_
  rintro e w21 ⟨rfl, f21, hp21⟩
  have hw21 := Part.to_below hw20 hp21 (by omega) (Nat.le_refl _)
  have hs21 := hp21.size
  have q5_0 := q5_0.keep hp21 (by omega)
  have k1 := k1.keepV hp21 (by omega)
  have k11 := k11.keepV hp21 (by omega)
  have k6 := k6.keepV hp21 (by omega)
  have k8 := k8.keepV hp21 (by omega)
  have Qk1 := k1.cellsV
  simp only [CellsV, Nat.zero_add, Nat.reduceAdd] at Qk1
  have Ck10 := Qk1
  clear Qk1
  have Bk1 := k1.lt
  have Qk11 := k11.cellsV
  simp only [CellsV, Nat.zero_add, Nat.reduceAdd] at Qk11
  have Ck110 := Qk11
  clear Qk11
  have Bk11 := k11.lt
  have Qk6 := k6.cellsV
  simp only [CellsV, Nat.zero_add, Nat.reduceAdd] at Qk6
  have Ck60 := Qk6
  clear Qk6
  have Bk6 := k6.lt
  have Qk8 := k8.cellsV
  simp only [CellsV, Nat.zero_add, Nat.reduceAdd] at Qk8
  have Ck80 := Qk8
  clear Qk8
  have Bk8 := k8.lt
  go_wp2_with fail
  clear Bk1 Ck10
  clear Bk11 Ck110
  clear Bk6 Ck60
  clear Bk8 Ck80
  refine (held_disk (.slice B10_0_0 (List.length (crashedR x0 x1)) C10_0_0) (crashedR x0 x1) _ _ (1) _ f21 (by omega) (by omega) (by omega)).mono ?_
  rintro e w22 ⟨rfl, hb22⟩
  have hw22 := hw21.trans (hb22.mono hw21.size)
  have hs22 := hb22.size
  have f21 := f21.below hb22
  have q5_0 := q5_0.below hb22
  have k1 := k1.belowV hb22
  have k11 := k11.belowV hb22
  have k6 := k6.belowV hb22
  have k8 := k8.belowV hb22
  have Qk1 := k1.cellsV
  simp only [CellsV, Nat.zero_add, Nat.reduceAdd] at Qk1
  have Ck10 := Qk1
  clear Qk1
  have Bk1 := k1.lt
  have Qk11 := k11.cellsV
  simp only [CellsV, Nat.zero_add, Nat.reduceAdd] at Qk11
  have Ck110 := Qk11
  clear Qk11
  have Bk11 := k11.lt
  have Qk6 := k6.cellsV
  simp only [CellsV, Nat.zero_add, Nat.reduceAdd] at Qk6
  have Ck60 := Qk6
  clear Qk6
  have Bk6 := k6.lt
  have Qk8 := k8.cellsV
  simp only [CellsV, Nat.zero_add, Nat.reduceAdd] at Qk8
  have Ck80 := Qk8
  clear Qk8
  have Bk8 := k8.lt
  go_wp2_with fail
  clear Bk1 Ck10
  clear Bk11 Ck110
  clear Bk6 Ck60
  clear Bk8 Ck80
  refine (to_disk z0_0 x0 _ (hx0.below hw22) hc0).mono ?_
  rintro e w23 ⟨t23_0, rfl, o23, hb23⟩
  have hw23 := hw22.trans (hb23.mono hw22.size)
  have hs23 := hb23.size
  have f21 := f21.below hb23
  have q5_0 := q5_0.below hb23
  have k1 := k1.belowV hb23
  have k11 := k11.belowV hb23
  have k6 := k6.belowV hb23
  have k8 := k8.belowV hb23
  have Qk1 := k1.cellsV
  simp only [CellsV, Nat.zero_add, Nat.reduceAdd] at Qk1
  have Ck10 := Qk1
  clear Qk1
  have Bk1 := k1.lt
  have Qk11 := k11.cellsV
  simp only [CellsV, Nat.zero_add, Nat.reduceAdd] at Qk11
  have Ck110 := Qk11
  clear Qk11
  have Bk11 := k11.lt
  have Qk6 := k6.cellsV
  simp only [CellsV, Nat.zero_add, Nat.reduceAdd] at Qk6
  have Ck60 := Qk6
  clear Qk6
  have Bk6 := k6.lt
  have Qk8 := k8.cellsV
  simp only [CellsV, Nat.zero_add, Nat.reduceAdd] at Qk8
  have Ck80 := Qk8
  clear Qk8
  have Bk8 := k8.lt
  go_wp2_with fail
  clear Bk1 Ck10
  clear Bk11 Ck110
  clear Bk6 Ck60
  clear Bk8 Ck80
  refine (to_ints (.slice A1 (cost_ints x1) c1) x1 _ (hx1.below hw23) hc1).mono ?_
  rintro e w24 ⟨t24_0, rfl, o24, hb24⟩
  have hw24 := hw23.trans (hb24.mono hw23.size)
  have hs24 := hb24.size
  have f21 := f21.below hb24
  have o23 := o23.below hb24
  have q5_0 := q5_0.below hb24
  have k1 := k1.belowV hb24
  have k11 := k11.belowV hb24
  have k6 := k6.belowV hb24
  have k8 := k8.belowV hb24
  have Qk1 := k1.cellsV
  simp only [CellsV, Nat.zero_add, Nat.reduceAdd] at Qk1
  have Ck10 := Qk1
  clear Qk1
  have Bk1 := k1.lt
  have Qk11 := k11.cellsV
  simp only [CellsV, Nat.zero_add, Nat.reduceAdd] at Qk11
  have Ck110 := Qk11
  clear Qk11
  have Bk11 := k11.lt
  have Qk6 := k6.cellsV
  simp only [CellsV, Nat.zero_add, Nat.reduceAdd] at Qk6
  have Ck60 := Qk6
  clear Qk6
  have Bk6 := k6.lt
  have Qk8 := k8.cellsV
  simp only [CellsV, Nat.zero_add, Nat.reduceAdd] at Qk8
  have Ck80 := Qk8
  clear Qk8
  have Bk8 := k8.lt
  go_wp2_with fail
  clear Bk1 Ck10
  clear Bk11 Ck110
  clear Bk6 Ck60
  clear Bk8 Ck80
  refine (crashed_impl t23_0 x0 t24_0 x1 _ o23.rd o24.rd hc0 hc1).mono ?_
  rintro e w25 ⟨u25_0_0, rfl, q25_0, hb25⟩
  have hw25 := hw24.trans (hb25.mono hw24.size)
  have hs25 := hb25.size
  have f21 := f21.below hb25
  have o23 := o23.below hb25
  have o24 := o24.below hb25
  have q5_0 := q5_0.below hb25
  have k1 := k1.belowV hb25
  have k11 := k11.belowV hb25
  have k6 := k6.belowV hb25
  have k8 := k8.belowV hb25
  obtain ⟨B25_0_0, C25_0_0, rfl⟩ := q25_0.form
  have Qk1 := k1.cellsV
  simp only [CellsV, Nat.zero_add, Nat.reduceAdd] at Qk1
  have Ck10 := Qk1
  clear Qk1
  have Bk1 := k1.lt
  have Qk11 := k11.cellsV
  simp only [CellsV, Nat.zero_add, Nat.reduceAdd] at Qk11
  have Ck110 := Qk11
  clear Qk11
  have Bk11 := k11.lt
  have Qk6 := k6.cellsV
  simp only [CellsV, Nat.zero_add, Nat.reduceAdd] at Qk6
  have Ck60 := Qk6
  clear Qk6
  have Bk6 := k6.lt
  have Qk8 := k8.cellsV
  simp only [CellsV, Nat.zero_add, Nat.reduceAdd] at Qk8
  have Ck80 := Qk8
  clear Qk8
  have Bk8 := k8.lt
  go_wp2_with fail
  clear Bk1 Ck10
  clear Bk11 Ck110
  clear Bk6 Ck60
  clear Bk8 Ck80
  obtain ⟨w26, hv26⟩ : ∃ W, W = w25.alloc (.cells #[(.slice B25_0_0 (List.length (crashedR x0 x1)) C25_0_0)] 37) := ⟨_, rfl⟩
  rw [← hv26]
  have hb26 : Below w25.heap.size w25 w26 := by rw [hv26]; exact (Below.refl _ _).alloc (Nat.le_refl _) _
  have k26 : Blk w26 w25.heap.size 37 #[(.slice B25_0_0 (List.length (crashedR x0 x1)) C25_0_0)] := by rw [hv26]; exact Blk.new _ _ _
  clear hv26
  have hg26 := k26.lt
  have hw26 := hw25.trans (hb26.mono hw25.size)
  have hs26 := hb26.size
  have f21 := f21.below hb26
  have q25_0 := q25_0.below hb26
  have q5_0 := q5_0.below hb26
  have k1 := k1.belowV hb26
  have k11 := k11.belowV hb26
  have k6 := k6.belowV hb26
  have k8 := k8.belowV hb26
  refine (eq_disk (.slice B25_0_0 (List.length (crashedR x0 x1)) C25_0_0) (.slice B5_0_0 (List.length (crashedR x0 x1)) C5_0_0) (crashedR x0 x1) _ q25_0.rd q5_0.rd).mono ?_
  rintro e w27 ⟨rfl, hb27⟩
  have hw27 := hw26.trans (hb27.mono hw26.size)
  have hs27 := hb27.size
  have f21 := f21.below hb27
  have q25_0 := q25_0.below hb27
  have q5_0 := q5_0.below hb27
  have k1 := k1.belowV hb27
  have k11 := k11.belowV hb27
  have k26 := k26.belowV hb27
  have k6 := k6.belowV hb27
  have k8 := k8.belowV hb27
  have Qk1 := k1.cellsV
  simp only [CellsV, Nat.zero_add, Nat.reduceAdd] at Qk1
  have Ck10 := Qk1
  clear Qk1
  have Bk1 := k1.lt
  have Qk11 := k11.cellsV
  simp only [CellsV, Nat.zero_add, Nat.reduceAdd] at Qk11
  have Ck110 := Qk11
  clear Qk11
  have Bk11 := k11.lt
  have Qk26 := k26.cellsV
  simp only [CellsV, Nat.zero_add, Nat.reduceAdd] at Qk26
  have Ck260 := Qk26
  clear Qk26
  have Bk26 := k26.lt
  have Qk6 := k6.cellsV
  simp only [CellsV, Nat.zero_add, Nat.reduceAdd] at Qk6
  have Ck60 := Qk6
  clear Qk6
  have Bk6 := k6.lt
  have Qk8 := k8.cellsV
  simp only [CellsV, Nat.zero_add, Nat.reduceAdd] at Qk8
  have Ck80 := Qk8
  clear Qk8
  have Bk8 := k8.lt
  go_wp2_with fail
  clear Bk1 Ck10
  clear Bk11 Ck110
  clear Bk26 Ck260
  clear Bk6 Ck60
  clear Bk8 Ck80
  refine (held_disk (.slice B10_0_0 (List.length (crashedR x0 x1)) C10_0_0) (crashedR x0 x1) _ _ (1) _ f21 (by omega) (by omega) (by omega)).mono ?_
  rintro e w28 ⟨rfl, hb28⟩
  have hw28 := hw27.trans (hb28.mono hw27.size)
  have hs28 := hb28.size
  have f21 := f21.below hb28
  have q25_0 := q25_0.below hb28
  have q5_0 := q5_0.below hb28
  have k1 := k1.belowV hb28
  have k11 := k11.belowV hb28
  have k26 := k26.belowV hb28
  have k6 := k6.belowV hb28
  have k8 := k8.belowV hb28
  have Qk1 := k1.cellsV
  simp only [CellsV, Nat.zero_add, Nat.reduceAdd] at Qk1
  have Ck10 := Qk1
  clear Qk1
  have Bk1 := k1.lt
  have Qk11 := k11.cellsV
  simp only [CellsV, Nat.zero_add, Nat.reduceAdd] at Qk11
  have Ck110 := Qk11
  clear Qk11
  have Bk11 := k11.lt
  have Qk26 := k26.cellsV
  simp only [CellsV, Nat.zero_add, Nat.reduceAdd] at Qk26
  have Ck260 := Qk26
  clear Qk26
  have Bk26 := k26.lt
  have Qk6 := k6.cellsV
  simp only [CellsV, Nat.zero_add, Nat.reduceAdd] at Qk6
  have Ck60 := Qk6
  clear Qk6
  have Bk6 := k6.lt
  have Qk8 := k8.cellsV
  simp only [CellsV, Nat.zero_add, Nat.reduceAdd] at Qk8
  have Ck80 := Qk8
  clear Qk8
  have Bk8 := k8.lt
  go_wp2_with fail
  clear Bk1 Ck10
  clear Bk11 Ck110
  clear Bk26 Ck260
  clear Bk6 Ck60
  clear Bk8 Ck80
  go_ret
  exact ⟨rfl, hw28⟩

namespace fnExactCrashed
open Go.ChangeShapes Go.WideShapes Go.ChangeAt Go.RowKit
theorem own : ownKnob Try.prog.godebug = none := by kernel_rfl
theorem laidOut : laidOutB Try.prog = true := by kernel_rfl

set_option maxRecDepth 100000 in
theorem lifted (os : Os) (started : os.Started) (H : Type) (enc : TypeId × Value → H) :
    ReturnsInHanded {} Try.checked os 9 .any (Rows.fnExactCrashedSpec.pre6 enc Try.prog Try.f9 Rows.fnExactCrashedRow.domain false) (Rows.fnExactCrashedSpec.post enc Try.prog Try.f9 false true false false) := by
  refine returnsInHanded_of_change (C := Try.checked) own started (by kernel_rfl) Try.func9
    (ChangeSpec.witness6 (enc := enc) (C := Try.checked) false ⟨#[], #[.agg #[.slice none 0 0], .slice none 0 0], []⟩ 8 (by kernel_rfl) (by kernel_rfl) (by kernel_rfl) (by kernel_rfl)) ?_
  intro W base args ds gs before hval0 hW hcnd _
  have hval : ∀ (j : Nat) t v, Try.f9.params[j]? = some t → args[j]? = some v → Value.okWide Try.prog W .any base t v := hval0
  have hW' := hW
  obtain ⟨p, q, hA0, hV, rfl, hfz, hnd⟩ := hW
  have hA : DataW.TrodAll enc Try.prog W 0 (fun _ => true) true Try.f9.params.toList args.toList ds p := hA0
  rw [Try.params9] at hA hval
  obtain ⟨v0, vs0, d0, ds0, p0, q0, hargs, rfl, rfl, h0, r0⟩ := trodAll_cons hA
  obtain ⟨v1, vs1, d1, ds1, p1, q1, rfl, rfl, rfl, h1, r1⟩ := trodAll_cons r0
  obtain ⟨rfl, rfl, rfl⟩ := trodAll_nil r1
  obtain rfl : args = #[v0, v1] := by cases args; simp_all
  obtain ⟨rfl, rfl⟩ := trodVars_none hV
  have lt0 : ∀ x ∈ p0, x.block < W.heap.size := by obtain ⟨m, hm⟩ := h0; exact DataW.trod_lt m _ _ _ hm
  have a0 := arg_disk (hval 0 47 v0 rfl rfl) h0
  have lt1 : ∀ x ∈ p1, x.block < W.heap.size := by obtain ⟨m, hm⟩ := h1; exact DataW.trod_lt m _ _ _ hm
  have a1 := arg_ints (hval 1 26 v1 rfl rfl) h1
  clear hA0 hval0
  refine (walk_FnExactCrashed v0 v1 W a0 a1).mono fun e W' ⟨he, bel⟩ => ?_
  subst he
  exact ⟨_, rfl, _, _, _, [], _, [], hW', trodAll_mk1 (shut_bool Try.underlying4 _), (trodAll_cons_mk (Below.trod laidOut (by kernel_rfl) (of_decide_eq_true (by kernel_rfl)) h0 bel lt0) (trodAll_cons_mk (Below.trod laidOut (by kernel_rfl) (of_decide_eq_true (by kernel_rfl)) h1 bel lt1) trodAll_mk0)), rfl, bel.frame _, fun h => by cases h⟩

theorem over : Rows.fnExactCrashedRow.holds Try.pinned (OpenSpec.ofChange Rows.fnExactCrashedSpec) :=
  OpenClaim.holds_of_wide 9 Try.f9 rfl rfl rfl rfl rfl rfl rfl ⟨rfl, rfl, rfl, rfl, rfl⟩ rfl rfl rfl rfl rfl (by kernel_rfl) Try.func9 (by kernel_rfl)
    (of_decide_eq_true (by kernel_rfl)) (by unfold Func.isWrapper; first | (rw [if_pos (by decide +kernel)]; kernel_rfl) | (rw [if_neg (by decide +kernel)]; exact ⟨rfl, rfl⟩))
    (fun os started H enc _ => lifted os started H enc)

/-- The statement. -/
theorem proved : Rows.FnExactCrashedSaid :=
  over
#print axioms proved
end fnExactCrashed

end Go.Proofs.Ythjkmefbjbfonaa

/- The law FnExactMayBe returns true for every argument; no conditions. -/
import Derived.Test.YthjcpdiajcgceaaMayBe
import Derived.Test.YthjcpdiajcgceaaArgDisk
import Derived.Test.YthjcpdiajcgceaaArgs
namespace Go.Proofs.Ythjcpdiajcgceaa
set_option linter.unusedSimpArgs false
open Go.RowKit Go.ChangeShapes

set_option maxHeartbeats 8000000 in
set_option maxRecDepth 100000 in
theorem walk_FnExactMayBe (v0 v1 : Value) (w : World) (a0 : ArgDisk w v0) (a1 : ArgDisk w v1) :
    Calls Try.prog 6 #[v0, v1] w fun e w' => e = .returned (.bool true) ∧ Below w.heap.size w w' := by
  obtain ⟨z0_0, x0, rfl, hx0⟩ := a0
  replace hx0 : Rd_disk w z0_0 x0 := hx0
  obtain ⟨z1_0, x1, rfl, hx1⟩ := a1
  replace hx1 : Rd_disk w z1_0 x1 := hx1
  have hw0 : Below w.heap.size w w := Below.refl _ _
  obtain ⟨w1, hv1⟩ : ∃ W, W = w.alloc (.cells #[z0_0] 24) := ⟨_, rfl⟩
  have hb1 : Below w.heap.size w w1 := by rw [hv1]; exact (Below.refl _ _).alloc (Nat.le_refl _) _
  have k1 : Blk w1 w.heap.size 24 #[z0_0] := by rw [hv1]; exact Blk.new _ _ _
  have HV1 := Lib.hid hv1
  clear hv1
  have hg1 := k1.lt
  have hw1 := hw0.trans (hb1.mono hw0.size)
  have hs1 := hb1.size
  obtain ⟨w2, hv2⟩ : ∃ W, W = w1.alloc (.cells #[z1_0] 24) := ⟨_, rfl⟩
  have hb2 : Below w1.heap.size w1 w2 := by rw [hv2]; exact (Below.refl _ _).alloc (Nat.le_refl _) _
  have k2 : Blk w2 w1.heap.size 24 #[z1_0] := by rw [hv2]; exact Blk.new _ _ _
  have he2 : w1.heap.size = w.heap.size + 1 := by rw [HV1.out]; simp
  rw [he2] at k2
  clear he2
  have HV2 := Lib.hid hv2
  clear hv2
  have hg2 := k2.lt
  have hw2 := hw1.trans (hb2.mono hw1.size)
  have hs2 := hb2.size
  have k1 := k1.belowV hb2
  have HZ0 := Lib.hid (fun (W : World) (hW : Below w.heap.size w W) => sz_disk z0_0 x0 (1048576) W (hx0.below hW) (by omega) (by omega))
  by_cases hn0 : (1048576) - (cost_disk x0 : Int) < 0
  · skip
    unfold szv at HZ0
    rw [if_pos hn0] at HZ0
    go_enter Try.func6, Try.ntmps6
    have Qk1 := k1.cellsV
    simp only [CellsV, Nat.zero_add, Nat.reduceAdd] at Qk1
    have Bk1 := k1.lt
    have Qk2 := k2.cellsV
    simp only [CellsV, Nat.zero_add, Nat.reduceAdd] at Qk2
    have Bk2 := k2.lt
    go_wp2_with fail
    rw [← HV1.out]
    rw [← HV2.out]
    clear Bk1 Qk1
    clear Bk2 Qk2
    refine (HZ0.out _ hw2).mono ?_
    rintro e w3 ⟨rfl, hb3⟩
    have hw3 := hw2.trans (hb3.mono hw2.size)
    have hs3 := hb3.size
    have k1 := k1.belowV hb3
    have k2 := k2.belowV hb3
    go_wp2_with fail
    go_ret
    first | exact ⟨rfl, hw3⟩ | (rw [HV2.out, HV1.out] at *; exact ⟨rfl, (by repeat first | exact Below.refl _ _ | assumption | refine Below.drew ?_ | refine below_drewN ?_ _ | refine Below.calm ?_ (by first | exact Nat.le_refl _ | (simp; done) | (simp; omega) | omega) | refine Below.alloc ?_ (by first | exact Nat.le_refl _ | (simp; done) | (simp; omega) | omega) _ | refine Below.setCell ?_ (by first | exact Nat.le_refl _ | (simp; done) | (simp; omega) | omega) _)⟩)
  unfold szv at HZ0
  rw [if_neg hn0] at HZ0
  have HZ1 := Lib.hid (fun (W : World) (hW : Below w.heap.size w W) => sz_disk z1_0 x1 (1048576 - (cost_disk x0 : Int)) W (hx1.below hW) (by omega) (by omega))
  by_cases hn1 : (1048576 - (cost_disk x0 : Int)) - (cost_disk x1 : Int) < 0
  · skip
    unfold szv at HZ1
    rw [if_pos hn1] at HZ1
    go_enter Try.func6, Try.ntmps6
    have Qk1 := k1.cellsV
    simp only [CellsV, Nat.zero_add, Nat.reduceAdd] at Qk1
    have Bk1 := k1.lt
    have Qk2 := k2.cellsV
    simp only [CellsV, Nat.zero_add, Nat.reduceAdd] at Qk2
    have Bk2 := k2.lt
    go_wp2_with fail
    rw [← HV1.out]
    rw [← HV2.out]
    clear Bk1 Qk1
    clear Bk2 Qk2
    refine (HZ0.out _ hw2).mono ?_
    rintro e w3 ⟨rfl, hb3⟩
    have hw3 := hw2.trans (hb3.mono hw2.size)
    have hs3 := hb3.size
    have k1 := k1.belowV hb3
    have k2 := k2.belowV hb3
    have Qk1 := k1.cellsV
    simp only [CellsV, Nat.zero_add, Nat.reduceAdd] at Qk1
    have Bk1 := k1.lt
    have Qk2 := k2.cellsV
    simp only [CellsV, Nat.zero_add, Nat.reduceAdd] at Qk2
    have Bk2 := k2.lt
    go_wp2_with fail
    clear Bk1 Qk1
    clear Bk2 Qk2
    refine (HZ1.out _ hw3).mono ?_
    rintro e w4 ⟨rfl, hb4⟩
    have hw4 := hw3.trans (hb4.mono hw3.size)
    have hs4 := hb4.size
    have k1 := k1.belowV hb4
    have k2 := k2.belowV hb4
    go_wp2_with fail
    go_ret
    first | exact ⟨rfl, hw4⟩ | (rw [HV2.out, HV1.out] at *; exact ⟨rfl, (by repeat first | exact Below.refl _ _ | assumption | refine Below.drew ?_ | refine below_drewN ?_ _ | refine Below.calm ?_ (by first | exact Nat.le_refl _ | (simp; done) | (simp; omega) | omega) | refine Below.alloc ?_ (by first | exact Nat.le_refl _ | (simp; done) | (simp; omega) | omega) _ | refine Below.setCell ?_ (by first | exact Nat.le_refl _ | (simp; done) | (simp; omega) | omega) _)⟩)
  unfold szv at HZ1
  rw [if_neg hn1] at HZ1
  have hc0 : cost_disk x0 ≤ 1048576 := by omega
  have hc1 : cost_disk x1 ≤ 1048576 := by omega
  go_enter Try.func6, Try.ntmps6
  have Qk1 := k1.cellsV
  simp only [CellsV, Nat.zero_add, Nat.reduceAdd] at Qk1
  have Bk1 := k1.lt
  have Qk2 := k2.cellsV
  simp only [CellsV, Nat.zero_add, Nat.reduceAdd] at Qk2
  have Bk2 := k2.lt
  go_wp2_with fail
  rw [← HV1.out]
  rw [← HV2.out]
  clear Bk1 Qk1
  clear Bk2 Qk2
  refine (HZ0.out _ hw2).mono ?_
  rintro e w3 ⟨rfl, hb3⟩
  have hw3 := hw2.trans (hb3.mono hw2.size)
  have hs3 := hb3.size
  have k1 := k1.belowV hb3
  have k2 := k2.belowV hb3
  have Qk1 := k1.cellsV
  simp only [CellsV, Nat.zero_add, Nat.reduceAdd] at Qk1
  have Bk1 := k1.lt
  have Qk2 := k2.cellsV
  simp only [CellsV, Nat.zero_add, Nat.reduceAdd] at Qk2
  have Bk2 := k2.lt
  go_wp2_with fail
  clear Bk1 Qk1
  clear Bk2 Qk2
  refine (HZ1.out _ hw3).mono ?_
  rintro e w4 ⟨rfl, hb4⟩
  have hw4 := hw3.trans (hb4.mono hw3.size)
  have hs4 := hb4.size
  have k1 := k1.belowV hb4
  have k2 := k2.belowV hb4
  clear HZ0
  clear HZ1
  have Qk1 := k1.cellsV
  simp only [CellsV, Nat.zero_add, Nat.reduceAdd] at Qk1
  have Ck10 := Qk1
  clear Qk1
  have Bk1 := k1.lt
  have Qk2 := k2.cellsV
  simp only [CellsV, Nat.zero_add, Nat.reduceAdd] at Qk2
  have Ck20 := Qk2
  clear Qk2
  have Bk2 := k2.lt
  go_wp2_with fail
  have hb5 : Below w4.heap.size w4 w4.drew := (Below.refl _ _).drew
  have hw5 := hw4.trans (hb5.mono hw4.size)
  have hs5 := hb5.size
  have k1 := k1.belowV hb5
  have k2 := k2.belowV hb5
  have hq5 := hb5
  refine wp_region_sched [(0, true), (2, true), (1, false), (3, false), (4, false), (5, true)] [(true, _), (true, _), (false, _), (false, _), (false, _), (true, _)] rfl (by kernel_rfl) (by kernel_rfl) (KeptS _ none) (KeptS.refl _ _).drew ?_
  try simp only [List.getElem_toArray, List.getElem_cons_succ, List.getElem_cons_zero]
  (refine wpS_held (by rfl) ?_ (fun W hW => ?_) ?_; rotate_left; (· (obtain ⟨kq, rfl⟩ := hW; go_simp; try with_reducible rfl)); try simp only [Act.put, List.setIfInBounds_toArray, List.set_cons_succ, List.set_cons_zero])
  (refine wpS_held (by rfl) ?_ (fun W hW => ?_) ?_; rotate_left; (· (obtain ⟨kq, rfl⟩ := hW; go_simp; try with_reducible rfl)); try simp only [Act.put, List.setIfInBounds_toArray, List.set_cons_succ, List.set_cons_zero])
  (refine wpS_call 16 (by rfl) (by rfl) Try.func16 (by kernel_rfl) (by rfl) (by rfl) ?_; (conv => arg 3; simp [Act.eval]); (first | ((with_reducible refine (to_disk z0_0 x0 _ (hx0.below hw5) hc0).mono ?_); rintro e w6 ⟨t6_0, rfl, o6, hb6⟩; have hw6 := hw5.trans (hb6.mono hw5.size); have hs6 := hb6.size; have hq6 := hq5.trans (hb6.mono hq5.size); have k1 := k1.belowV hb6; have k2 := k2.belowV hb6) | ((with_reducible refine (to_disk z1_0 x1 _ (hx1.below hw6) hc1).mono ?_); rintro e w7 ⟨t7_0, rfl, o7, hb7⟩; have hw7 := hw6.trans (hb7.mono hw6.size); have hs7 := hb7.size; have hq7 := hq6.trans (hb7.mono hq6.size); have o6 := o6.below hb7; have k1 := k1.belowV hb7; have k2 := k2.belowV hb7) | ((with_reducible refine (mayBe_spec t6_0 x0 t7_0 x1 _ o6.rd o7.rd hc0 hc1).mono ?_); rintro e w8 ⟨rfl, hb8⟩; have hw8 := hw7.trans (hb8.mono hw7.size); have hs8 := hb8.size; have hq8 := hq7.trans (hb8.mono hq7.size); have o6 := o6.below hb8; have o7 := o7.below hb8; have k1 := k1.belowV hb8; have k2 := k2.belowV hb8)); refine ⟨_, rfl, ?_, ?_⟩; (· (repeat first | exact KeptS.refl _ _ | exact KeptS.of (only_of_below (by assumption) _) | assumption | refine KeptS.drew ?_ | refine KeptS.alloc ?_ _ | refine KeptS.grown ?_ (by assumption) | refine KeptS.below ?_ (by assumption) | refine KeptS.belowAt ?_ (by assumption) | refine KeptS.setRow ?_ (by simp; done) _ | refine KeptS.setNew ?_ (by simp) _)); try simp only [Act.put, List.setIfInBounds_toArray, List.set_cons_succ, List.set_cons_zero])
  (refine wpS_call 16 (by rfl) (by rfl) Try.func16 (by kernel_rfl) (by rfl) (by rfl) ?_; (conv => arg 3; simp [Act.eval]); (first | ((with_reducible refine (to_disk z0_0 x0 _ (hx0.below hw5) hc0).mono ?_); rintro e w6 ⟨t6_0, rfl, o6, hb6⟩; have hw6 := hw5.trans (hb6.mono hw5.size); have hs6 := hb6.size; have hq6 := hq5.trans (hb6.mono hq5.size); have k1 := k1.belowV hb6; have k2 := k2.belowV hb6) | ((with_reducible refine (to_disk z1_0 x1 _ (hx1.below hw6) hc1).mono ?_); rintro e w7 ⟨t7_0, rfl, o7, hb7⟩; have hw7 := hw6.trans (hb7.mono hw6.size); have hs7 := hb7.size; have hq7 := hq6.trans (hb7.mono hq6.size); have o6 := o6.below hb7; have k1 := k1.belowV hb7; have k2 := k2.belowV hb7) | ((with_reducible refine (mayBe_spec t6_0 x0 t7_0 x1 _ o6.rd o7.rd hc0 hc1).mono ?_); rintro e w8 ⟨rfl, hb8⟩; have hw8 := hw7.trans (hb8.mono hw7.size); have hs8 := hb8.size; have hq8 := hq7.trans (hb8.mono hq7.size); have o6 := o6.below hb8; have o7 := o7.below hb8; have k1 := k1.belowV hb8; have k2 := k2.belowV hb8)); refine ⟨_, rfl, ?_, ?_⟩; (· (repeat first | exact KeptS.refl _ _ | exact KeptS.of (only_of_below (by assumption) _) | assumption | refine KeptS.drew ?_ | refine KeptS.alloc ?_ _ | refine KeptS.grown ?_ (by assumption) | refine KeptS.below ?_ (by assumption) | refine KeptS.belowAt ?_ (by assumption) | refine KeptS.setRow ?_ (by simp; done) _ | refine KeptS.setNew ?_ (by simp) _)); try simp only [Act.put, List.setIfInBounds_toArray, List.set_cons_succ, List.set_cons_zero])
  (refine wpS_call 23 (by rfl) (by rfl) Try.func23 (by kernel_rfl) (by rfl) (by rfl) ?_; (conv => arg 3; simp [Act.eval]); (first | ((with_reducible refine (to_disk z0_0 x0 _ (hx0.below hw5) hc0).mono ?_); rintro e w6 ⟨t6_0, rfl, o6, hb6⟩; have hw6 := hw5.trans (hb6.mono hw5.size); have hs6 := hb6.size; have hq6 := hq5.trans (hb6.mono hq5.size); have k1 := k1.belowV hb6; have k2 := k2.belowV hb6) | ((with_reducible refine (to_disk z1_0 x1 _ (hx1.below hw6) hc1).mono ?_); rintro e w7 ⟨t7_0, rfl, o7, hb7⟩; have hw7 := hw6.trans (hb7.mono hw6.size); have hs7 := hb7.size; have hq7 := hq6.trans (hb7.mono hq6.size); have o6 := o6.below hb7; have k1 := k1.belowV hb7; have k2 := k2.belowV hb7) | ((with_reducible refine (mayBe_spec t6_0 x0 t7_0 x1 _ o6.rd o7.rd hc0 hc1).mono ?_); rintro e w8 ⟨rfl, hb8⟩; have hw8 := hw7.trans (hb8.mono hw7.size); have hs8 := hb8.size; have hq8 := hq7.trans (hb8.mono hq7.size); have o6 := o6.below hb8; have o7 := o7.below hb8; have k1 := k1.belowV hb8; have k2 := k2.belowV hb8)); refine ⟨_, rfl, ?_, ?_⟩; (· (repeat first | exact KeptS.refl _ _ | exact KeptS.of (only_of_below (by assumption) _) | assumption | refine KeptS.drew ?_ | refine KeptS.alloc ?_ _ | refine KeptS.grown ?_ (by assumption) | refine KeptS.below ?_ (by assumption) | refine KeptS.belowAt ?_ (by assumption) | refine KeptS.setRow ?_ (by simp; done) _ | refine KeptS.setNew ?_ (by simp) _)); try simp only [Act.put, List.setIfInBounds_toArray, List.set_cons_succ, List.set_cons_zero])
  (refine wpS_held (by rfl) ?_ (fun W hW => ?_) ?_; rotate_left; (· (obtain ⟨kq, rfl⟩ := hW; go_simp; try with_reducible rfl)); try simp only [Act.put, List.setIfInBounds_toArray, List.set_cons_succ, List.set_cons_zero])
  refine wpS_nil ?_
  try simp only [List.getElem_toArray, List.getElem_cons_succ, List.getElem_cons_zero]
  clear Bk1 Ck10
  clear Bk2 Ck20
  have Qk1 := k1.cellsV
  simp only [CellsV, Nat.zero_add, Nat.reduceAdd] at Qk1
  have Ck10 := Qk1
  clear Qk1
  have Bk1 := k1.lt
  have Qk2 := k2.cellsV
  simp only [CellsV, Nat.zero_add, Nat.reduceAdd] at Qk2
  have Ck20 := Qk2
  clear Qk2
  have Bk2 := k2.lt
  go_wp2_with fail
  clear Bk1 Ck10
  clear Bk2 Ck20
  refine (to_disk z0_0 x0 _ (hx0.below hw8) hc0).mono ?_
  rintro e w9 ⟨t9_0, rfl, o9, hb9⟩
  have hw9 := hw8.trans (hb9.mono hw8.size)
  have hs9 := hb9.size
  have k1 := k1.belowV hb9
  have k2 := k2.belowV hb9
  obtain ⟨B9_0, C9_0, rfl⟩ := o9.form
  have Qk1 := k1.cellsV
  simp only [CellsV, Nat.zero_add, Nat.reduceAdd] at Qk1
  have Ck10 := Qk1
  clear Qk1
  have Bk1 := k1.lt
  have Qk2 := k2.cellsV
  simp only [CellsV, Nat.zero_add, Nat.reduceAdd] at Qk2
  have Ck20 := Qk2
  clear Qk2
  have Bk2 := k2.lt
  go_wp2_with fail
  clear Bk1 Ck10
  clear Bk2 Ck20
  obtain ⟨w10, hv10⟩ : ∃ W, W = w9.alloc (.cells #[(.slice B9_0 (List.length x0) C9_0)] 29) := ⟨_, rfl⟩
  rw [← hv10]
  have hb10 : Below w9.heap.size w9 w10 := by rw [hv10]; exact (Below.refl _ _).alloc (Nat.le_refl _) _
  have k10 : Blk w10 w9.heap.size 29 #[(.slice B9_0 (List.length x0) C9_0)] := by rw [hv10]; exact Blk.new _ _ _
  clear hv10
  have hg10 := k10.lt
  have hw10 := hw9.trans (hb10.mono hw9.size)
  have hs10 := hb10.size
  have o9 := o9.below hb10
  have k1 := k1.belowV hb10
  have k2 := k2.belowV hb10
  refine (to_disk z1_0 x1 _ (hx1.below hw10) hc1).mono ?_
  rintro e w11 ⟨t11_0, rfl, o11, hb11⟩
  have hw11 := hw10.trans (hb11.mono hw10.size)
  have hs11 := hb11.size
  have o9 := o9.below hb11
  have k1 := k1.belowV hb11
  have k10 := k10.belowV hb11
  have k2 := k2.belowV hb11
  obtain ⟨B11_0, C11_0, rfl⟩ := o11.form
  have Qk1 := k1.cellsV
  simp only [CellsV, Nat.zero_add, Nat.reduceAdd] at Qk1
  have Ck10 := Qk1
  clear Qk1
  have Bk1 := k1.lt
  have Qk10 := k10.cellsV
  simp only [CellsV, Nat.zero_add, Nat.reduceAdd] at Qk10
  have Ck100 := Qk10
  clear Qk10
  have Bk10 := k10.lt
  have Qk2 := k2.cellsV
  simp only [CellsV, Nat.zero_add, Nat.reduceAdd] at Qk2
  have Ck20 := Qk2
  clear Qk2
  have Bk2 := k2.lt
  go_wp2_with fail
  clear Bk1 Ck10
  clear Bk10 Ck100
  clear Bk2 Ck20
  obtain ⟨w12, hv12⟩ : ∃ W, W = w11.alloc (.cells #[(.slice B11_0 (List.length x1) C11_0)] 29) := ⟨_, rfl⟩
  rw [← hv12]
  have hb12 : Below w11.heap.size w11 w12 := by rw [hv12]; exact (Below.refl _ _).alloc (Nat.le_refl _) _
  have k12 : Blk w12 w11.heap.size 29 #[(.slice B11_0 (List.length x1) C11_0)] := by rw [hv12]; exact Blk.new _ _ _
  clear hv12
  have hg12 := k12.lt
  have hw12 := hw11.trans (hb12.mono hw11.size)
  have hs12 := hb12.size
  have o11 := o11.below hb12
  have o9 := o9.below hb12
  have k1 := k1.belowV hb12
  have k10 := k10.belowV hb12
  have k2 := k2.belowV hb12
  refine (mayBe_impl (.slice B9_0 (List.length x0) C9_0) x0 (.slice B11_0 (List.length x1) C11_0) x1 _ o9.rd o11.rd hc0 hc1).mono ?_
  rintro e w13 ⟨rfl, hb13⟩
  have hw13 := hw12.trans (hb13.mono hw12.size)
  have hs13 := hb13.size
  have o11 := o11.below hb13
  have o9 := o9.below hb13
  have k1 := k1.belowV hb13
  have k10 := k10.belowV hb13
  have k12 := k12.belowV hb13
  have k2 := k2.belowV hb13
  have Qk1 := k1.cellsV
  simp only [CellsV, Nat.zero_add, Nat.reduceAdd] at Qk1
  have Ck10 := Qk1
  clear Qk1
  have Bk1 := k1.lt
  have Qk10 := k10.cellsV
  simp only [CellsV, Nat.zero_add, Nat.reduceAdd] at Qk10
  have Ck100 := Qk10
  clear Qk10
  have Bk10 := k10.lt
  have Qk12 := k12.cellsV
  simp only [CellsV, Nat.zero_add, Nat.reduceAdd] at Qk12
  have Ck120 := Qk12
  clear Qk12
  have Bk12 := k12.lt
  have Qk2 := k2.cellsV
  simp only [CellsV, Nat.zero_add, Nat.reduceAdd] at Qk2
  have Ck20 := Qk2
  clear Qk2
  have Bk2 := k2.lt
  go_wp2_with fail
  have hb14 : Below w13.heap.size w13 w13.drew := (Below.refl _ _).drew
  have hw14 := hw13.trans (hb14.mono hw13.size)
  have hs14 := hb14.size
  have o11 := o11.below hb14
  have o9 := o9.below hb14
  have k1 := k1.belowV hb14
  have k10 := k10.belowV hb14
  have k12 := k12.belowV hb14
  have k2 := k2.belowV hb14
  have hq14 := hb14
  refine wp_region_sched [(0, true), (1, true), (2, false), (3, false), (4, true)] [(true, _), (true, _), (false, _), (false, _), (true, _)] rfl (by kernel_rfl) (by kernel_rfl) (KeptS _ none) (KeptS.refl _ _).drew ?_
  try simp only [List.getElem_toArray, List.getElem_cons_succ, List.getElem_cons_zero]
  (refine wpS_held (by rfl) ?_ (fun W hW => ?_) ?_; rotate_left; (· (obtain ⟨kq, rfl⟩ := hW; go_simp; try with_reducible rfl)); try simp only [Act.put, List.setIfInBounds_toArray, List.set_cons_succ, List.set_cons_zero])
  (refine wpS_held (by rfl) ?_ (fun W hW => ?_) ?_; rotate_left; (· (obtain ⟨kq, rfl⟩ := hW; go_simp; try with_reducible rfl)); try simp only [Act.put, List.setIfInBounds_toArray, List.set_cons_succ, List.set_cons_zero])
  (refine wpS_call 16 (by rfl) (by rfl) Try.func16 (by kernel_rfl) (by rfl) (by rfl) ?_; (conv => arg 3; simp [Act.eval]); (first | ((with_reducible refine (to_disk z0_0 x0 _ (hx0.below hw14) hc0).mono ?_); rintro e w15 ⟨t15_0, rfl, o15, hb15⟩; have hw15 := hw14.trans (hb15.mono hw14.size); have hs15 := hb15.size; have hq15 := hq14.trans (hb15.mono hq14.size); have o11 := o11.below hb15; have o9 := o9.below hb15; have k1 := k1.belowV hb15; have k10 := k10.belowV hb15; have k12 := k12.belowV hb15; have k2 := k2.belowV hb15) | ((with_reducible refine (eq_disk (.slice B9_0 (List.length x0) C9_0) t15_0 x0 _ o9.rd o15.rd).mono ?_); rintro e w16 ⟨rfl, hb16⟩; have hw16 := hw15.trans (hb16.mono hw15.size); have hs16 := hb16.size; have hq16 := hq15.trans (hb16.mono hq15.size); have o11 := o11.below hb16; have o9 := o9.below hb16; have k1 := k1.belowV hb16; have k10 := k10.belowV hb16; have k12 := k12.belowV hb16; have k2 := k2.belowV hb16)); refine ⟨_, rfl, ?_, ?_⟩; (· (repeat first | exact KeptS.refl _ _ | exact KeptS.of (only_of_below (by assumption) _) | assumption | refine KeptS.drew ?_ | refine KeptS.alloc ?_ _ | refine KeptS.grown ?_ (by assumption) | refine KeptS.below ?_ (by assumption) | refine KeptS.belowAt ?_ (by assumption) | refine KeptS.setRow ?_ (by simp; done) _ | refine KeptS.setNew ?_ (by simp) _)); try simp only [Act.put, List.setIfInBounds_toArray, List.set_cons_succ, List.set_cons_zero])
  (refine wpS_call 18 (by rfl) (by rfl) Try.func18 (by kernel_rfl) (by rfl) (by rfl) ?_; (conv => arg 3; simp [Act.eval]); (first | ((with_reducible refine (to_disk z0_0 x0 _ (hx0.below hw14) hc0).mono ?_); rintro e w15 ⟨t15_0, rfl, o15, hb15⟩; have hw15 := hw14.trans (hb15.mono hw14.size); have hs15 := hb15.size; have hq15 := hq14.trans (hb15.mono hq14.size); have o11 := o11.below hb15; have o9 := o9.below hb15; have k1 := k1.belowV hb15; have k10 := k10.belowV hb15; have k12 := k12.belowV hb15; have k2 := k2.belowV hb15) | ((with_reducible refine (eq_disk (.slice B9_0 (List.length x0) C9_0) t15_0 x0 _ o9.rd o15.rd).mono ?_); rintro e w16 ⟨rfl, hb16⟩; have hw16 := hw15.trans (hb16.mono hw15.size); have hs16 := hb16.size; have hq16 := hq15.trans (hb16.mono hq15.size); have o11 := o11.below hb16; have o9 := o9.below hb16; have k1 := k1.belowV hb16; have k10 := k10.belowV hb16; have k12 := k12.belowV hb16; have k2 := k2.belowV hb16)); refine ⟨_, rfl, ?_, ?_⟩; (· (repeat first | exact KeptS.refl _ _ | exact KeptS.of (only_of_below (by assumption) _) | assumption | refine KeptS.drew ?_ | refine KeptS.alloc ?_ _ | refine KeptS.grown ?_ (by assumption) | refine KeptS.below ?_ (by assumption) | refine KeptS.belowAt ?_ (by assumption) | refine KeptS.setRow ?_ (by simp; done) _ | refine KeptS.setNew ?_ (by simp) _)); try simp only [Act.put, List.setIfInBounds_toArray, List.set_cons_succ, List.set_cons_zero])
  (refine wpS_held (by rfl) ?_ (fun W hW => ?_) ?_; rotate_left; (· (obtain ⟨kq, rfl⟩ := hW; go_simp; try with_reducible rfl)); try simp only [Act.put, List.setIfInBounds_toArray, List.set_cons_succ, List.set_cons_zero])
  refine wpS_nil ?_
  try simp only [List.getElem_toArray, List.getElem_cons_succ, List.getElem_cons_zero]
  clear Bk1 Ck10
  clear Bk10 Ck100
  clear Bk12 Ck120
  clear Bk2 Ck20
  have Qk1 := k1.cellsV
  simp only [CellsV, Nat.zero_add, Nat.reduceAdd] at Qk1
  have Ck10 := Qk1
  clear Qk1
  have Bk1 := k1.lt
  have Qk10 := k10.cellsV
  simp only [CellsV, Nat.zero_add, Nat.reduceAdd] at Qk10
  have Ck100 := Qk10
  clear Qk10
  have Bk10 := k10.lt
  have Qk12 := k12.cellsV
  simp only [CellsV, Nat.zero_add, Nat.reduceAdd] at Qk12
  have Ck120 := Qk12
  clear Qk12
  have Bk12 := k12.lt
  have Qk2 := k2.cellsV
  simp only [CellsV, Nat.zero_add, Nat.reduceAdd] at Qk2
  have Ck20 := Qk2
  clear Qk2
  have Bk2 := k2.lt
  go_wp2_with fail
  have hb17 : Below w16.heap.size w16 w16.drew := (Below.refl _ _).drew
  have hw17 := hw16.trans (hb17.mono hw16.size)
  have hs17 := hb17.size
  have o11 := o11.below hb17
  have o9 := o9.below hb17
  have k1 := k1.belowV hb17
  have k10 := k10.belowV hb17
  have k12 := k12.belowV hb17
  have k2 := k2.belowV hb17
  have hq17 := hb17
  refine wp_region_sched [(0, true), (1, true), (2, false), (3, false), (4, true)] [(true, _), (true, _), (false, _), (false, _), (true, _)] rfl (by kernel_rfl) (by kernel_rfl) (KeptS _ none) (KeptS.refl _ _).drew ?_
  try simp only [List.getElem_toArray, List.getElem_cons_succ, List.getElem_cons_zero]
  (refine wpS_held (by rfl) ?_ (fun W hW => ?_) ?_; rotate_left; (· (obtain ⟨kq, rfl⟩ := hW; go_simp; try with_reducible rfl)); try simp only [Act.put, List.setIfInBounds_toArray, List.set_cons_succ, List.set_cons_zero])
  (refine wpS_held (by rfl) ?_ (fun W hW => ?_) ?_; rotate_left; (· (obtain ⟨kq, rfl⟩ := hW; go_simp; try with_reducible rfl)); try simp only [Act.put, List.setIfInBounds_toArray, List.set_cons_succ, List.set_cons_zero])
  (refine wpS_call 16 (by rfl) (by rfl) Try.func16 (by kernel_rfl) (by rfl) (by rfl) ?_; (conv => arg 3; simp [Act.eval]); (first | ((with_reducible refine (to_disk z1_0 x1 _ (hx1.below hw17) hc1).mono ?_); rintro e w18 ⟨t18_0, rfl, o18, hb18⟩; have hw18 := hw17.trans (hb18.mono hw17.size); have hs18 := hb18.size; have hq18 := hq17.trans (hb18.mono hq17.size); have o11 := o11.below hb18; have o9 := o9.below hb18; have k1 := k1.belowV hb18; have k10 := k10.belowV hb18; have k12 := k12.belowV hb18; have k2 := k2.belowV hb18) | ((with_reducible refine (eq_disk (.slice B11_0 (List.length x1) C11_0) t18_0 x1 _ o11.rd o18.rd).mono ?_); rintro e w19 ⟨rfl, hb19⟩; have hw19 := hw18.trans (hb19.mono hw18.size); have hs19 := hb19.size; have hq19 := hq18.trans (hb19.mono hq18.size); have o11 := o11.below hb19; have o9 := o9.below hb19; have k1 := k1.belowV hb19; have k10 := k10.belowV hb19; have k12 := k12.belowV hb19; have k2 := k2.belowV hb19)); refine ⟨_, rfl, ?_, ?_⟩; (· (repeat first | exact KeptS.refl _ _ | exact KeptS.of (only_of_below (by assumption) _) | assumption | refine KeptS.drew ?_ | refine KeptS.alloc ?_ _ | refine KeptS.grown ?_ (by assumption) | refine KeptS.below ?_ (by assumption) | refine KeptS.belowAt ?_ (by assumption) | refine KeptS.setRow ?_ (by simp; done) _ | refine KeptS.setNew ?_ (by simp) _)); try simp only [Act.put, List.setIfInBounds_toArray, List.set_cons_succ, List.set_cons_zero])
  (refine wpS_call 18 (by rfl) (by rfl) Try.func18 (by kernel_rfl) (by rfl) (by rfl) ?_; (conv => arg 3; simp [Act.eval]); (first | ((with_reducible refine (to_disk z1_0 x1 _ (hx1.below hw17) hc1).mono ?_); rintro e w18 ⟨t18_0, rfl, o18, hb18⟩; have hw18 := hw17.trans (hb18.mono hw17.size); have hs18 := hb18.size; have hq18 := hq17.trans (hb18.mono hq17.size); have o11 := o11.below hb18; have o9 := o9.below hb18; have k1 := k1.belowV hb18; have k10 := k10.belowV hb18; have k12 := k12.belowV hb18; have k2 := k2.belowV hb18) | ((with_reducible refine (eq_disk (.slice B11_0 (List.length x1) C11_0) t18_0 x1 _ o11.rd o18.rd).mono ?_); rintro e w19 ⟨rfl, hb19⟩; have hw19 := hw18.trans (hb19.mono hw18.size); have hs19 := hb19.size; have hq19 := hq18.trans (hb19.mono hq18.size); have o11 := o11.below hb19; have o9 := o9.below hb19; have k1 := k1.belowV hb19; have k10 := k10.belowV hb19; have k12 := k12.belowV hb19; have k2 := k2.belowV hb19)); refine ⟨_, rfl, ?_, ?_⟩; (· (repeat first | exact KeptS.refl _ _ | exact KeptS.of (only_of_below (by assumption) _) | assumption | refine KeptS.drew ?_ | refine KeptS.alloc ?_ _ | refine KeptS.grown ?_ (by assumption) | refine KeptS.below ?_ (by assumption) | refine KeptS.belowAt ?_ (by assumption) | refine KeptS.setRow ?_ (by simp; done) _ | refine KeptS.setNew ?_ (by simp) _)); try simp only [Act.put, List.setIfInBounds_toArray, List.set_cons_succ, List.set_cons_zero])
  (refine wpS_held (by rfl) ?_ (fun W hW => ?_) ?_; rotate_left; (· (obtain ⟨kq, rfl⟩ := hW; go_simp; try with_reducible rfl)); try simp only [Act.put, List.setIfInBounds_toArray, List.set_cons_succ, List.set_cons_zero])
  refine wpS_nil ?_
  try simp only [List.getElem_toArray, List.getElem_cons_succ, List.getElem_cons_zero]
  clear Bk1 Ck10
  clear Bk10 Ck100
  clear Bk12 Ck120
  clear Bk2 Ck20
  have Qk1 := k1.cellsV
  simp only [CellsV, Nat.zero_add, Nat.reduceAdd] at Qk1
  have Ck10 := Qk1
  clear Qk1
  have Bk1 := k1.lt
  have Qk10 := k10.cellsV
  simp only [CellsV, Nat.zero_add, Nat.reduceAdd] at Qk10
  have Ck100 := Qk10
  clear Qk10
  have Bk10 := k10.lt
  have Qk12 := k12.cellsV
  simp only [CellsV, Nat.zero_add, Nat.reduceAdd] at Qk12
  have Ck120 := Qk12
  clear Qk12
  have Bk12 := k12.lt
  have Qk2 := k2.cellsV
  simp only [CellsV, Nat.zero_add, Nat.reduceAdd] at Qk2
  have Ck20 := Qk2
  clear Qk2
  have Bk2 := k2.lt
  go_wp2_with fail
  clear Bk1 Ck10
  clear Bk10 Ck100
  clear Bk12 Ck120
  clear Bk2 Ck20
  go_ret
  exact ⟨rfl, hw19⟩

namespace fnExactMayBe
open Go.ChangeShapes Go.WideShapes Go.ChangeAt Go.RowKit
theorem own : ownKnob Try.prog.godebug = none := by kernel_rfl
theorem laidOut : laidOutB Try.prog = true := by kernel_rfl

set_option maxRecDepth 100000 in
theorem lifted (os : Os) (started : os.Started) (H : Type) (enc : TypeId × Value → H) :
    ReturnsInHanded {} Try.checked os 6 .any (Rows.fnExactMayBeSpec.pre6 enc Try.prog Try.f6 Rows.fnExactMayBeRow.domain false) (Rows.fnExactMayBeSpec.post enc Try.prog Try.f6 false true false false) := by
  refine returnsInHanded_of_change (C := Try.checked) own started (by kernel_rfl) Try.func6
    (ChangeSpec.witness6 (enc := enc) (C := Try.checked) false ⟨#[], #[.agg #[.slice none 0 0], .agg #[.slice none 0 0]], []⟩ 8 (by kernel_rfl) (by kernel_rfl) (by kernel_rfl) (by kernel_rfl)) ?_
  intro W base args ds gs before hval0 hW hcnd _
  have hval : ∀ (j : Nat) t v, Try.f6.params[j]? = some t → args[j]? = some v → Value.okWide Try.prog W .any base t v := hval0
  have hW' := hW
  obtain ⟨p, q, hA0, hV, rfl, hfz, hnd⟩ := hW
  have hA : DataW.TrodAll enc Try.prog W 0 (fun _ => true) true Try.f6.params.toList args.toList ds p := hA0
  rw [Try.params6] at hA hval
  obtain ⟨v0, vs0, d0, ds0, p0, q0, hargs, rfl, rfl, h0, r0⟩ := trodAll_cons hA
  obtain ⟨v1, vs1, d1, ds1, p1, q1, rfl, rfl, rfl, h1, r1⟩ := trodAll_cons r0
  obtain ⟨rfl, rfl, rfl⟩ := trodAll_nil r1
  obtain rfl : args = #[v0, v1] := by cases args; simp_all
  obtain ⟨rfl, rfl⟩ := trodVars_none hV
  have lt0 : ∀ x ∈ p0, x.block < W.heap.size := by obtain ⟨m, hm⟩ := h0; exact DataW.trod_lt m _ _ _ hm
  have a0 := arg_disk (hval 0 24 v0 rfl rfl) h0
  have lt1 : ∀ x ∈ p1, x.block < W.heap.size := by obtain ⟨m, hm⟩ := h1; exact DataW.trod_lt m _ _ _ hm
  have a1 := arg_disk (hval 1 24 v1 rfl rfl) h1
  clear hA0 hval0
  refine (walk_FnExactMayBe v0 v1 W a0 a1).mono fun e W' ⟨he, bel⟩ => ?_
  subst he
  exact ⟨_, rfl, _, _, _, [], _, [], hW', trodAll_mk1 (shut_bool Try.underlying4 _), (trodAll_cons_mk (Below.trod laidOut (by kernel_rfl) (of_decide_eq_true (by kernel_rfl)) h0 bel lt0) (trodAll_cons_mk (Below.trod laidOut (by kernel_rfl) (of_decide_eq_true (by kernel_rfl)) h1 bel lt1) trodAll_mk0)), rfl, bel.frame _, fun h => by cases h⟩

theorem over : Rows.fnExactMayBeRow.holds Try.pinned (OpenSpec.ofChange Rows.fnExactMayBeSpec) :=
  OpenClaim.holds_of_wide 6 Try.f6 rfl rfl rfl rfl rfl rfl rfl ⟨rfl, rfl, rfl, rfl, rfl⟩ rfl rfl rfl rfl rfl (by kernel_rfl) Try.func6 (by kernel_rfl)
    (of_decide_eq_true (by kernel_rfl)) (by unfold Func.isWrapper; first | (rw [if_pos (by decide +kernel)]; kernel_rfl) | (rw [if_neg (by decide +kernel)]; exact ⟨rfl, rfl⟩))
    (fun os started H enc _ => lifted os started H enc)

/-- The statement. -/
theorem proved : Rows.FnExactMayBeSaid :=
  over
#print axioms proved
end fnExactMayBe

end Go.Proofs.Ythjcpdiajcgceaa

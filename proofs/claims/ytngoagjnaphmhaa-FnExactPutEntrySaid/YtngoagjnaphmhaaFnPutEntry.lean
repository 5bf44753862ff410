/- The law FnExactPutEntry returns true for every argument; no conditions. -/
import Derived.Test.YtngoagjnaphmhaaPutS
import Derived.Test.YtngoagjnaphmhaaArgEnt
import Derived.Test.YtngoagjnaphmhaaArgs
namespace Go.Proofs.Ytngoagjnaphmhaa
set_option linter.unusedSimpArgs false
open Go.RowKit Go.ChangeShapes

set_option maxHeartbeats 8000000 in
set_option maxRecDepth 100000 in
theorem walk_FnExactPutEntry (v0 v1 : Value) (w : World) (a0 : ArgEntries w v0) (a1 : ArgEntry w v1) :
    Calls Try.prog 6 #[v0, v1] w fun e w' => e = .returned (.bool true) ∧ Below w.heap.size w w' := by
  obtain ⟨x0, hx0⟩ := a0
  replace hx0 : Rd_entries w v0 x0 := hx0
  obtain ⟨x1, rfl⟩ : ∃ x : Ent, v1 = (.agg #[.int .i64 x.prio, .int .i64 x.seq, .int .i64 x.run, .int .i64 x.task]) := by obtain ⟨p, s, r, t, rfl⟩ := a1; exact ⟨⟨p, s, r, t⟩, rfl⟩
  have hw0 : Below w.heap.size w w := Below.refl _ _
  obtain ⟨w1, hv1⟩ : ∃ W, W = w.alloc (.cells #[.int .i64 x1.prio, .int .i64 x1.seq, .int .i64 x1.run, .int .i64 x1.task] 37) := ⟨_, rfl⟩
  have hb1 : Below w.heap.size w w1 := by rw [hv1]; exact (Below.refl _ _).alloc (Nat.le_refl _) _
  have k1 : Blk w1 w.heap.size 37 #[.int .i64 x1.prio, .int .i64 x1.seq, .int .i64 x1.run, .int .i64 x1.task] := by rw [hv1]; exact Blk.new _ _ _
  have HV1 := Lib.hid hv1
  clear hv1
  have hg1 := k1.lt
  have hw1 := hw0.trans (hb1.mono hw0.size)
  have hs1 := hb1.size
  have HZ0 := Lib.hid (sz_entries v0 x0 (1048576) w1 (hx0.below hw1) (by omega) (by omega))
  by_cases hn0 : (1048576) - (cost_entries x0 : Int) < 0
  · skip
    unfold szv at HZ0
    rw [if_pos hn0] at HZ0
    go_enter Try.func6, Try.ntmps6
    go_wp2_with fail
    rw [← HV1.out]
    refine HZ0.out.mono ?_
    rintro e w0 ⟨rfl, rfl⟩
    go_wp2_with fail
    go_ret
    first | exact ⟨rfl, hw1⟩ | (rw [HV1.out] at *; exact ⟨rfl, (by repeat first | exact Below.refl _ _ | assumption | refine Below.drew ?_ | refine below_drewN ?_ _ | refine Below.calm ?_ (by first | exact Nat.le_refl _ | (simp; done) | (simp; omega) | omega) | refine Below.alloc ?_ (by first | exact Nat.le_refl _ | (simp; done) | (simp; omega) | omega) _ | refine Below.setCell ?_ (by first | exact Nat.le_refl _ | (simp; done) | (simp; omega) | omega) _)⟩)
  unfold szv at HZ0
  rw [if_neg hn0] at HZ0
  have hc0 : cost_entries x0 ≤ 1048576 := by omega
  have hce0 := cells_le_entries x0
  go_enter Try.func6, Try.ntmps6
  go_wp2_with fail
  rw [← HV1.out]
  refine HZ0.out.mono ?_
  rintro e w0 ⟨rfl, rfl⟩
  clear HZ0
  have Qk1 := k1.cellsV
  simp only [CellsV, Nat.zero_add, Nat.reduceAdd] at Qk1
  obtain ⟨Ck10, Ck11, Ck12, Ck13⟩ := Qk1
  have Bk1 := k1.lt
  go_wp2_with fail
  have hb2 : Below w1.heap.size w1 w1.drew := (Below.refl _ _).drew
  have hw2 := hw1.trans (hb2.mono hw1.size)
  have hs2 := hb2.size
  have k1 := k1.belowV hb2
  have hq2 := hb2
  refine wp_region_sched [(0, true), (2, true), (1, false), (3, false), (4, false), (5, true)] [(true, _), (true, _), (false, _), (false, _), (false, _), (true, _)] rfl (by kernel_rfl) (by kernel_rfl) (KeptS _ none) (KeptS.refl _ _).drew ?_
  try simp only [List.getElem_toArray, List.getElem_cons_succ, List.getElem_cons_zero]
  (refine wpS_held (by rfl) ?_ (fun W hW => ?_) ?_; rotate_left; (· (obtain ⟨kq, rfl⟩ := hW; go_simp; try with_reducible rfl)); try simp only [Act.put, List.setIfInBounds_toArray, List.set_cons_succ, List.set_cons_zero])
  (refine wpS_held (by rfl) ?_ (fun W hW => ?_) ?_; rotate_left; (· (obtain ⟨kq, rfl⟩ := hW; go_simp; try with_reducible rfl)); try simp only [Act.put, List.setIfInBounds_toArray, List.set_cons_succ, List.set_cons_zero])
  (refine wpS_call 11 (by rfl) (by rfl) Try.func11 (by kernel_rfl) (by rfl) (by rfl) ?_; (conv => arg 3; simp [Act.eval]); (first | ((with_reducible refine (to_entries v0 x0 _ (hx0.below hw2) hc0).mono ?_); rintro e w3 ⟨t3_0, rfl, o3, hb3⟩; have hw3 := hw2.trans (hb3.mono hw2.size); have hs3 := hb3.size; have hq3 := hq2.trans (hb3.mono hq2.size); have k1 := k1.belowV hb3) | ((with_reducible refine (to_entry x1 _).mono ?_); rintro e w4 ⟨rfl, hb4⟩; have hw4 := hw3.trans (hb4.mono hw3.size); have hs4 := hb4.size; have hq4 := hq3.trans (hb4.mono hq3.size); have o3 := o3.below hb4; have k1 := k1.belowV hb4) | ((with_reducible refine (putEntry_spec t3_0 x0  x1 _ o3.rd hc0).mono ?_); rintro e w5 ⟨u5_0_0, rfl, q5_0, hb5⟩; have hw5 := hw4.trans (hb5.mono hw4.size); have hs5 := hb5.size; have hq5 := hq4.trans (hb5.mono hq4.size); have o3 := o3.below hb5; have k1 := k1.belowV hb5)); refine ⟨_, rfl, ?_, ?_⟩; (· (repeat first | exact KeptS.refl _ _ | exact KeptS.of (only_of_below (by assumption) _) | assumption | refine KeptS.drew ?_ | refine KeptS.alloc ?_ _ | refine KeptS.grown ?_ (by assumption) | refine KeptS.below ?_ (by assumption) | refine KeptS.belowAt ?_ (by assumption) | refine KeptS.setRow ?_ (by simp; done) _ | refine KeptS.setNew ?_ (by simp) _)); try simp only [Act.put, List.setIfInBounds_toArray, List.set_cons_succ, List.set_cons_zero])
  (refine wpS_call 22 (by rfl) (by rfl) Try.func22 (by kernel_rfl) (by rfl) (by rfl) ?_; (conv => arg 3; simp [Act.eval]); (first | ((with_reducible refine (to_entries v0 x0 _ (hx0.below hw2) hc0).mono ?_); rintro e w3 ⟨t3_0, rfl, o3, hb3⟩; have hw3 := hw2.trans (hb3.mono hw2.size); have hs3 := hb3.size; have hq3 := hq2.trans (hb3.mono hq2.size); have k1 := k1.belowV hb3) | ((with_reducible refine (to_entry x1 _).mono ?_); rintro e w4 ⟨rfl, hb4⟩; have hw4 := hw3.trans (hb4.mono hw3.size); have hs4 := hb4.size; have hq4 := hq3.trans (hb4.mono hq3.size); have o3 := o3.below hb4; have k1 := k1.belowV hb4) | ((with_reducible refine (putEntry_spec t3_0 x0  x1 _ o3.rd hc0).mono ?_); rintro e w5 ⟨u5_0_0, rfl, q5_0, hb5⟩; have hw5 := hw4.trans (hb5.mono hw4.size); have hs5 := hb5.size; have hq5 := hq4.trans (hb5.mono hq4.size); have o3 := o3.below hb5; have k1 := k1.belowV hb5)); refine ⟨_, rfl, ?_, ?_⟩; (· (repeat first | exact KeptS.refl _ _ | exact KeptS.of (only_of_below (by assumption) _) | assumption | refine KeptS.drew ?_ | refine KeptS.alloc ?_ _ | refine KeptS.grown ?_ (by assumption) | refine KeptS.below ?_ (by assumption) | refine KeptS.belowAt ?_ (by assumption) | refine KeptS.setRow ?_ (by simp; done) _ | refine KeptS.setNew ?_ (by simp) _)); try simp only [Act.put, List.setIfInBounds_toArray, List.set_cons_succ, List.set_cons_zero])
  (refine wpS_call 21 (by rfl) (by rfl) Try.func21 (by kernel_rfl) (by rfl) (by rfl) ?_; (conv => arg 3; simp [Act.eval]); (first | ((with_reducible refine (to_entries v0 x0 _ (hx0.below hw2) hc0).mono ?_); rintro e w3 ⟨t3_0, rfl, o3, hb3⟩; have hw3 := hw2.trans (hb3.mono hw2.size); have hs3 := hb3.size; have hq3 := hq2.trans (hb3.mono hq2.size); have k1 := k1.belowV hb3) | ((with_reducible refine (to_entry x1 _).mono ?_); rintro e w4 ⟨rfl, hb4⟩; have hw4 := hw3.trans (hb4.mono hw3.size); have hs4 := hb4.size; have hq4 := hq3.trans (hb4.mono hq3.size); have o3 := o3.below hb4; have k1 := k1.belowV hb4) | ((with_reducible refine (putEntry_spec t3_0 x0  x1 _ o3.rd hc0).mono ?_); rintro e w5 ⟨u5_0_0, rfl, q5_0, hb5⟩; have hw5 := hw4.trans (hb5.mono hw4.size); have hs5 := hb5.size; have hq5 := hq4.trans (hb5.mono hq4.size); have o3 := o3.below hb5; have k1 := k1.belowV hb5)); refine ⟨_, rfl, ?_, ?_⟩; (· (repeat first | exact KeptS.refl _ _ | exact KeptS.of (only_of_below (by assumption) _) | assumption | refine KeptS.drew ?_ | refine KeptS.alloc ?_ _ | refine KeptS.grown ?_ (by assumption) | refine KeptS.below ?_ (by assumption) | refine KeptS.belowAt ?_ (by assumption) | refine KeptS.setRow ?_ (by simp; done) _ | refine KeptS.setNew ?_ (by simp) _)); try simp only [Act.put, List.setIfInBounds_toArray, List.set_cons_succ, List.set_cons_zero])
  (refine wpS_held (by rfl) ?_ (fun W hW => ?_) ?_; rotate_left; (· (obtain ⟨kq, rfl⟩ := hW; go_simp; try with_reducible rfl)); try simp only [Act.put, List.setIfInBounds_toArray, List.set_cons_succ, List.set_cons_zero])
  refine wpS_nil ?_
  try simp only [List.getElem_toArray, List.getElem_cons_succ, List.getElem_cons_zero]
  clear Bk1 Ck10 Ck11 Ck12 Ck13
  have Qk1 := k1.cellsV
  simp only [CellsV, Nat.zero_add, Nat.reduceAdd] at Qk1
  obtain ⟨Ck10, Ck11, Ck12, Ck13⟩ := Qk1
  have Bk1 := k1.lt
  go_wp2_with fail
  clear Bk1 Ck10 Ck11 Ck12 Ck13
  refine (to_entries v0 x0 _ (hx0.below hw5) hc0).mono ?_
  rintro e w6 ⟨t6_0, rfl, o6, hb6⟩
  have hw6 := hw5.trans (hb6.mono hw5.size)
  have hs6 := hb6.size
  have q5_0 := q5_0.below hb6
  have k1 := k1.belowV hb6
  have Qk1 := k1.cellsV
  simp only [CellsV, Nat.zero_add, Nat.reduceAdd] at Qk1
  obtain ⟨Ck10, Ck11, Ck12, Ck13⟩ := Qk1
  have Bk1 := k1.lt
  go_wp2_with fail
  clear Bk1 Ck10 Ck11 Ck12 Ck13
  refine (to_entry x1 _).mono ?_
  rintro e w7 ⟨rfl, hb7⟩
  have hw7 := hw6.trans (hb7.mono hw6.size)
  have hs7 := hb7.size
  have o6 := o6.below hb7
  have q5_0 := q5_0.below hb7
  have k1 := k1.belowV hb7
  have Qk1 := k1.cellsV
  simp only [CellsV, Nat.zero_add, Nat.reduceAdd] at Qk1
  obtain ⟨Ck10, Ck11, Ck12, Ck13⟩ := Qk1
  have Bk1 := k1.lt
  go_wp2_with fail
  clear Bk1 Ck10 Ck11 Ck12 Ck13
  refine (putEntry_impl t6_0 x0  x1 _ o6.rd hc0).mono ?_
  rintro e w8 ⟨u8_0_0, rfl, q8_0, hb8⟩
  have hw8 := hw7.trans (hb8.mono hw7.size)
  have hs8 := hb8.size
  have o6 := o6.below hb8
  have q5_0 := q5_0.below hb8
  have k1 := k1.belowV hb8
  have Qk1 := k1.cellsV
  simp only [CellsV, Nat.zero_add, Nat.reduceAdd] at Qk1
  obtain ⟨Ck10, Ck11, Ck12, Ck13⟩ := Qk1
  have Bk1 := k1.lt
  go_wp2_with fail
  clear Bk1 Ck10 Ck11 Ck12 Ck13
  refine (eq_entries u8_0_0 u5_0_0 (putEntryR x0 x1) _ q8_0.rd q5_0.rd).mono ?_
  rintro e w9 ⟨rfl, hb9⟩
  have hw9 := hw8.trans (hb9.mono hw8.size)
  have hs9 := hb9.size
  have o6 := o6.below hb9
  have q5_0 := q5_0.below hb9
  have q8_0 := q8_0.below hb9
  have k1 := k1.belowV hb9
  have Qk1 := k1.cellsV
  simp only [CellsV, Nat.zero_add, Nat.reduceAdd] at Qk1
  obtain ⟨Ck10, Ck11, Ck12, Ck13⟩ := Qk1
  have Bk1 := k1.lt
  go_wp2_with fail
  clear Bk1 Ck10 Ck11 Ck12 Ck13
  refine (to_entries v0 x0 _ (hx0.below hw9) hc0).mono ?_
  rintro e w10 ⟨t10_0, rfl, o10, hb10⟩
  have hw10 := hw9.trans (hb10.mono hw9.size)
  have hs10 := hb10.size
  have o6 := o6.below hb10
  have q5_0 := q5_0.below hb10
  have q8_0 := q8_0.below hb10
  have k1 := k1.belowV hb10
  have Qk1 := k1.cellsV
  simp only [CellsV, Nat.zero_add, Nat.reduceAdd] at Qk1
  obtain ⟨Ck10, Ck11, Ck12, Ck13⟩ := Qk1
  have Bk1 := k1.lt
  go_wp2_with fail
  clear Bk1 Ck10 Ck11 Ck12 Ck13
  refine (eq_entries t6_0 t10_0 x0 _ o6.rd o10.rd).mono ?_
  rintro e w11 ⟨rfl, hb11⟩
  have hw11 := hw10.trans (hb11.mono hw10.size)
  have hs11 := hb11.size
  have o6 := o6.below hb11
  have q5_0 := q5_0.below hb11
  have q8_0 := q8_0.below hb11
  have k1 := k1.belowV hb11
  have Qk1 := k1.cellsV
  simp only [CellsV, Nat.zero_add, Nat.reduceAdd] at Qk1
  obtain ⟨Ck10, Ck11, Ck12, Ck13⟩ := Qk1
  have Bk1 := k1.lt
  go_wp2_with fail
  clear Bk1 Ck10 Ck11 Ck12 Ck13
  refine (mark_entries t6_0 x0 _ _ (1) _ o6 (by omega) (by omega) (by omega)).mono ?_
  rintro e w12 ⟨rfl, -, hp12⟩
  have hw12 := Part.to_below hw11 hp12 (by omega) (Nat.le_refl _)
  have hs12 := hp12.size
  have q5_0 := q5_0.keep hp12 (by omega)
  have q8_0 := q8_0.keep hp12 (by omega)
  have k1 := k1.keepV hp12 (by omega)
  have Qk1 := k1.cellsV
  simp only [CellsV, Nat.zero_add, Nat.reduceAdd] at Qk1
  obtain ⟨Ck10, Ck11, Ck12, Ck13⟩ := Qk1
  have Bk1 := k1.lt
  go_wp2_with fail
  clear Bk1 Ck10 Ck11 Ck12 Ck13
  refine (eq_entries u8_0_0 u5_0_0 (putEntryR x0 x1) _ q8_0.rd q5_0.rd).mono ?_
  rintro e w13 ⟨rfl, hb13⟩
  have hw13 := hw12.trans (hb13.mono hw12.size)
  have hs13 := hb13.size
  have q5_0 := q5_0.below hb13
  have q8_0 := q8_0.below hb13
  have k1 := k1.belowV hb13
  have hr0 : cells_entries (putEntryR x0 x1) ≤ 5000000 := by (unfold cells_entries; rw [putEntryR_length]; unfold cost_entries at hc0; omega)
  have Qk1 := k1.cellsV
  simp only [CellsV, Nat.zero_add, Nat.reduceAdd] at Qk1
  obtain ⟨Ck10, Ck11, Ck12, Ck13⟩ := Qk1
  have Bk1 := k1.lt
  go_wp2_with fail
  clear Bk1 Ck10 Ck11 Ck12 Ck13
  refine (mark_entries u8_0_0 (putEntryR x0 x1) _ _ (1) _ q8_0 (by omega) (by omega) (by omega)).mono ?_
  rintro e w14 ⟨rfl, f14, hp14⟩
  have hw14 := Part.to_below hw13 hp14 (by omega) (Nat.le_refl _)
  have hs14 := hp14.size
  have q5_0 := q5_0.keep hp14 (by omega)
  have k1 := k1.keepV hp14 (by omega)
  have Qk1 := k1.cellsV
  simp only [CellsV, Nat.zero_add, Nat.reduceAdd] at Qk1
  obtain ⟨Ck10, Ck11, Ck12, Ck13⟩ := Qk1
  have Bk1 := k1.lt
  go_wp2_with fail
  clear Bk1 Ck10 Ck11 Ck12 Ck13
  refine (held_entries u8_0_0 (putEntryR x0 x1) _ _ (1) _ f14 (by omega) (by omega) (by omega)).mono ?_
  rintro e w15 ⟨rfl, hb15⟩
  have hw15 := hw14.trans (hb15.mono hw14.size)
  have hs15 := hb15.size
  have f14 := f14.below hb15
  have q5_0 := q5_0.below hb15
  have k1 := k1.belowV hb15
  have Qk1 := k1.cellsV
  simp only [CellsV, Nat.zero_add, Nat.reduceAdd] at Qk1
  obtain ⟨Ck10, Ck11, Ck12, Ck13⟩ := Qk1
  have Bk1 := k1.lt
  go_wp2_with fail
  have hb16 : Below w15.heap.size w15 w15.drew := (Below.refl _ _).drew
  have hw16 := hw15.trans (hb16.mono hw15.size)
  have hs16 := hb16.size
  have f14 := f14.below hb16
  have q5_0 := q5_0.below hb16
  have k1 := k1.belowV hb16
  have hq16 := hb16
  refine wp_region_sched [(0, true), (2, true), (1, false), (3, false), (4, false), (5, true)] [(true, _), (true, _), (false, _), (false, _), (false, _), (true, _)] rfl (by kernel_rfl) (by kernel_rfl) (KeptS _ none) (KeptS.refl _ _).drew ?_
  try simp only [List.getElem_toArray, List.getElem_cons_succ, List.getElem_cons_zero]
  (refine wpS_held (by rfl) ?_ (fun W hW => ?_) ?_; rotate_left; (· (obtain ⟨kq, rfl⟩ := hW; go_simp; try with_reducible rfl)); try simp only [Act.put, List.setIfInBounds_toArray, List.set_cons_succ, List.set_cons_zero])
  (refine wpS_held (by rfl) ?_ (fun W hW => ?_) ?_; rotate_left; (· (obtain ⟨kq, rfl⟩ := hW; go_simp; try with_reducible rfl)); try simp only [Act.put, List.setIfInBounds_toArray, List.set_cons_succ, List.set_cons_zero])
  (refine wpS_call 11 (by rfl) (by rfl) Try.func11 (by kernel_rfl) (by rfl) (by rfl) ?_; (conv => arg 3; simp [Act.eval]); (first | ((with_reducible refine (to_entries v0 x0 _ (hx0.below hw16) hc0).mono ?_); rintro e w17 ⟨t17_0, rfl, o17, hb17⟩; have hw17 := hw16.trans (hb17.mono hw16.size); have hs17 := hb17.size; have hq17 := hq16.trans (hb17.mono hq16.size); have f14 := f14.below hb17; have q5_0 := q5_0.below hb17; have k1 := k1.belowV hb17) | ((with_reducible refine (to_entry x1 _).mono ?_); rintro e w18 ⟨rfl, hb18⟩; have hw18 := hw17.trans (hb18.mono hw17.size); have hs18 := hb18.size; have hq18 := hq17.trans (hb18.mono hq17.size); have f14 := f14.below hb18; have o17 := o17.below hb18; have q5_0 := q5_0.below hb18; have k1 := k1.belowV hb18) | ((with_reducible refine (putEntry_impl t17_0 x0  x1 _ o17.rd hc0).mono ?_); rintro e w19 ⟨u19_0_0, rfl, q19_0, hb19⟩; have hw19 := hw18.trans (hb19.mono hw18.size); have hs19 := hb19.size; have hq19 := hq18.trans (hb19.mono hq18.size); have f14 := f14.below hb19; have o17 := o17.below hb19; have q5_0 := q5_0.below hb19; have k1 := k1.belowV hb19)); refine ⟨_, rfl, ?_, ?_⟩; (· (repeat first | exact KeptS.refl _ _ | exact KeptS.of (only_of_below (by assumption) _) | assumption | refine KeptS.drew ?_ | refine KeptS.alloc ?_ _ | refine KeptS.grown ?_ (by assumption) | refine KeptS.below ?_ (by assumption) | refine KeptS.belowAt ?_ (by assumption) | refine KeptS.setRow ?_ (by simp; done) _ | refine KeptS.setNew ?_ (by simp) _)); try simp only [Act.put, List.setIfInBounds_toArray, List.set_cons_succ, List.set_cons_zero])
  (refine wpS_call 22 (by rfl) (by rfl) Try.func22 (by kernel_rfl) (by rfl) (by rfl) ?_; (conv => arg 3; simp [Act.eval]); (first | ((with_reducible refine (to_entries v0 x0 _ (hx0.below hw16) hc0).mono ?_); rintro e w17 ⟨t17_0, rfl, o17, hb17⟩; have hw17 := hw16.trans (hb17.mono hw16.size); have hs17 := hb17.size; have hq17 := hq16.trans (hb17.mono hq16.size); have f14 := f14.below hb17; have q5_0 := q5_0.below hb17; have k1 := k1.belowV hb17) | ((with_reducible refine (to_entry x1 _).mono ?_); rintro e w18 ⟨rfl, hb18⟩; have hw18 := hw17.trans (hb18.mono hw17.size); have hs18 := hb18.size; have hq18 := hq17.trans (hb18.mono hq17.size); have f14 := f14.below hb18; have o17 := o17.below hb18; have q5_0 := q5_0.below hb18; have k1 := k1.belowV hb18) | ((with_reducible refine (putEntry_impl t17_0 x0  x1 _ o17.rd hc0).mono ?_); rintro e w19 ⟨u19_0_0, rfl, q19_0, hb19⟩; have hw19 := hw18.trans (hb19.mono hw18.size); have hs19 := hb19.size; have hq19 := hq18.trans (hb19.mono hq18.size); have f14 := f14.below hb19; have o17 := o17.below hb19; have q5_0 := q5_0.below hb19; have k1 := k1.belowV hb19)); refine ⟨_, rfl, ?_, ?_⟩; (· (repeat first | exact KeptS.refl _ _ | exact KeptS.of (only_of_below (by assumption) _) | assumption | refine KeptS.drew ?_ | refine KeptS.alloc ?_ _ | refine KeptS.grown ?_ (by assumption) | refine KeptS.below ?_ (by assumption) | refine KeptS.belowAt ?_ (by assumption) | refine KeptS.setRow ?_ (by simp; done) _ | refine KeptS.setNew ?_ (by simp) _)); try simp only [Act.put, List.setIfInBounds_toArray, List.set_cons_succ, List.set_cons_zero])
  (refine wpS_call 23 (by rfl) (by rfl) Try.func23 (by kernel_rfl) (by rfl) (by rfl) ?_; (conv => arg 3; simp [Act.eval]); (first | ((with_reducible refine (to_entries v0 x0 _ (hx0.below hw16) hc0).mono ?_); rintro e w17 ⟨t17_0, rfl, o17, hb17⟩; have hw17 := hw16.trans (hb17.mono hw16.size); have hs17 := hb17.size; have hq17 := hq16.trans (hb17.mono hq16.size); have f14 := f14.below hb17; have q5_0 := q5_0.below hb17; have k1 := k1.belowV hb17) | ((with_reducible refine (to_entry x1 _).mono ?_); rintro e w18 ⟨rfl, hb18⟩; have hw18 := hw17.trans (hb18.mono hw17.size); have hs18 := hb18.size; have hq18 := hq17.trans (hb18.mono hq17.size); have f14 := f14.below hb18; have o17 := o17.below hb18; have q5_0 := q5_0.below hb18; have k1 := k1.belowV hb18) | ((with_reducible refine (putEntry_impl t17_0 x0  x1 _ o17.rd hc0).mono ?_); rintro e w19 ⟨u19_0_0, rfl, q19_0, hb19⟩; have hw19 := hw18.trans (hb19.mono hw18.size); have hs19 := hb19.size; have hq19 := hq18.trans (hb19.mono hq18.size); have f14 := f14.below hb19; have o17 := o17.below hb19; have q5_0 := q5_0.below hb19; have k1 := k1.belowV hb19)); refine ⟨_, rfl, ?_, ?_⟩; (· (repeat first | exact KeptS.refl _ _ | exact KeptS.of (only_of_below (by assumption) _) | assumption | refine KeptS.drew ?_ | refine KeptS.alloc ?_ _ | refine KeptS.grown ?_ (by assumption) | refine KeptS.below ?_ (by assumption) | refine KeptS.belowAt ?_ (by assumption) | refine KeptS.setRow ?_ (by simp; done) _ | refine KeptS.setNew ?_ (by simp) _)); try simp only [Act.put, List.setIfInBounds_toArray, List.set_cons_succ, List.set_cons_zero])
  (refine wpS_held (by rfl) ?_ (fun W hW => ?_) ?_; rotate_left; (· (obtain ⟨kq, rfl⟩ := hW; go_simp; try with_reducible rfl)); try simp only [Act.put, List.setIfInBounds_toArray, List.set_cons_succ, List.set_cons_zero])
  refine wpS_nil ?_
  try simp only [List.getElem_toArray, List.getElem_cons_succ, List.getElem_cons_zero]
  clear Bk1 Ck10 Ck11 Ck12 Ck13
  have Qk1 := k1.cellsV
  simp only [CellsV, Nat.zero_add, Nat.reduceAdd] at Qk1
  obtain ⟨Ck10, Ck11, Ck12, Ck13⟩ := Qk1
  have Bk1 := k1.lt
  go_wp2_with fail
  clear Bk1 Ck10 Ck11 Ck12 Ck13
  refine (eq_entries u19_0_0 u5_0_0 (putEntryR x0 x1) _ q19_0.rd q5_0.rd).mono ?_
  rintro e w20 ⟨rfl, hb20⟩
  have hw20 := hw19.trans (hb20.mono hw19.size)
  have hs20 := hb20.size
  have f14 := f14.below hb20
  have q19_0 := q19_0.below hb20
  have q5_0 := q5_0.below hb20
  have k1 := k1.belowV hb20
  have Qk1 := k1.cellsV
  simp only [CellsV, Nat.zero_add, Nat.reduceAdd] at Qk1
  obtain ⟨Ck10, Ck11, Ck12, Ck13⟩ := Qk1
  have Bk1 := k1.lt
  go_wp2_with fail
  clear Bk1 Ck10 Ck11 Ck12 Ck13
  refine (held_entries u8_0_0 (putEntryR x0 x1) _ _ (1) _ f14 (by omega) (by omega) (by omega)).mono ?_
  rintro e w21 ⟨rfl, hb21⟩
  have hw21 := hw20.trans (hb21.mono hw20.size)
  have hs21 := hb21.size
  have f14 := f14.below hb21
  have q19_0 := q19_0.below hb21
  have q5_0 := q5_0.below hb21
  have k1 := k1.belowV hb21
  have Qk1 := k1.cellsV
  simp only [CellsV, Nat.zero_add, Nat.reduceAdd] at Qk1
  obtain ⟨Ck10, Ck11, Ck12, Ck13⟩ := Qk1
  have Bk1 := k1.lt
  go_wp2_with fail
  clear Bk1 Ck10 Ck11 Ck12 Ck13
  go_ret
  exact ⟨rfl, hw21⟩

namespace fnExactPutEntry
open Go.ChangeShapes Go.WideShapes Go.ChangeAt Go.RowKit
theorem own : ownKnob Try.prog.godebug = none := by kernel_rfl
theorem laidOut : laidOutB Try.prog = true := by kernel_rfl

set_option maxRecDepth 100000 in
theorem lifted (os : Os) (started : os.Started) (H : Type) (enc : TypeId × Value → H) :
    ReturnsInHanded {} Try.checked os 6 .any (Rows.fnExactPutEntrySpec.pre6 enc Try.prog Try.f6 Rows.fnExactPutEntryRow.domain false) (Rows.fnExactPutEntrySpec.post enc Try.prog Try.f6 false true false false) := by
  refine returnsInHanded_of_change (C := Try.checked) own started (by kernel_rfl) Try.func6
    (ChangeSpec.witness6 (enc := enc) (C := Try.checked) false ⟨#[], #[.slice none 0 0, .agg #[.int .i64 0, .int .i64 0, .int .i64 0, .int .i64 0]], []⟩ 8 (by kernel_rfl) (by kernel_rfl) (by kernel_rfl) (by kernel_rfl)) ?_
  intro W base args ds gs before hval0 hW hcnd _
  have hval : ∀ (j : Nat) t v, Try.f6.params[j]? = some t → args[j]? = some v → Value.okWide Try.prog W .any base t v := hval0
  have hW' := hW
  obtain ⟨p, q, hA0, hV, rfl, hfz, hnd⟩ := hW
  have hA : DataW.TrodAll enc Try.prog W 0 (fun _ => true) true Try.f6.params.toList args.toList ds p := hA0
  rw [Try.params6] at hA hval
  obtain ⟨v0, vs0, d0, ds0, p0, q0, hargs, rfl, rfl, h0, r0⟩ := trodAll_cons hA
  obtain ⟨v1, vs1, d1, ds1, p1, q1, rfl, rfl, rfl, h1, r1⟩ := trodAll_cons r0
  obtain ⟨rfl, rfl, rfl⟩ := trodAll_nil r1
  obtain rfl : args = #[v0, v1] := by cases args; simp_all
  obtain ⟨rfl, rfl⟩ := trodVars_none hV
  have lt0 : ∀ x ∈ p0, x.block < W.heap.size := by obtain ⟨m, hm⟩ := h0; exact DataW.trod_lt m _ _ _ hm
  have a0 := arg_entries (hval 0 22 v0 rfl rfl) h0
  have lt1 : ∀ x ∈ p1, x.block < W.heap.size := by obtain ⟨m, hm⟩ := h1; exact DataW.trod_lt m _ _ _ hm
  have a1 := arg_entry (hval 1 37 v1 rfl rfl) h1
  clear hA0 hval0
  refine (walk_FnExactPutEntry v0 v1 W a0 a1).mono fun e W' ⟨he, bel⟩ => ?_
  subst he
  exact ⟨_, rfl, _, _, _, [], _, [], hW', trodAll_mk1 (shut_bool Try.underlying4 _), (trodAll_cons_mk (Below.trod laidOut (by kernel_rfl) (of_decide_eq_true (by kernel_rfl)) h0 bel lt0) (trodAll_cons_mk (Below.trod laidOut (by kernel_rfl) (of_decide_eq_true (by kernel_rfl)) h1 bel lt1) trodAll_mk0)), rfl, bel.frame _, fun h => by cases h⟩

theorem over : Rows.fnExactPutEntryRow.holds Try.pinned (OpenSpec.ofChange Rows.fnExactPutEntrySpec) :=
  OpenClaim.holds_of_wide 6 Try.f6 rfl rfl rfl rfl rfl rfl rfl ⟨rfl, rfl, rfl, rfl, rfl⟩ rfl rfl rfl rfl rfl (by kernel_rfl) Try.func6 (by kernel_rfl)
    (of_decide_eq_true (by kernel_rfl)) (by unfold Func.isWrapper; first | (rw [if_pos (by decide +kernel)]; kernel_rfl) | (rw [if_neg (by decide +kernel)]; exact ⟨rfl, rfl⟩))
    (fun os started H enc _ => lifted os started H enc)

/-- The statement. -/
theorem proved : Rows.FnExactPutEntrySaid :=
  over
#print axioms proved
end fnExactPutEntry

end Go.Proofs.Ytngoagjnaphmhaa

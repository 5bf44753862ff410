/- The law FnExactTakeEntry returns true for every argument; no conditions. -/
import Derived.Test.YtngoagjnaphmhaaTake
import Derived.Test.YtngoagjnaphmhaaArgEnt
import Derived.Test.YtngoagjnaphmhaaArgs
namespace Go.Proofs.Ytngoagjnaphmhaa
open Go.RowKit Go.ChangeShapes

set_option maxHeartbeats 8000000 in
set_option maxRecDepth 100000 in
theorem walk_FnExactTakeEntry (v0 : Value) (w : World) (a0 : ArgEntries w v0) :
    Calls Try.prog 5 #[v0] w fun e w' => e = .returned (.bool true) ∧ Below w.heap.size w w' := by
  obtain ⟨x0, hx0⟩ := a0
  have HZ0 := Lib.hid (sz_entries v0 x0 (1048576) w hx0 (by omega) (by omega))
  by_cases hn0 : (1048576) - (cost_entries x0 : Int) < 0
  · skip
    unfold szv at HZ0
    rw [if_pos hn0] at HZ0
    go_enter Try.func5, Try.ntmps5
    go_wp2_with fail
    refine HZ0.out.mono ?_
    rintro e w0 ⟨rfl, rfl⟩
    go_wp2_with fail
    go_ret
    exact ⟨rfl, Below.refl _ _⟩
  unfold szv at HZ0
  rw [if_neg hn0] at HZ0
  have hc0 : cost_entries x0 ≤ 1048576 := by omega
  have hce0 := cells_le_entries x0
  go_enter Try.func5, Try.ntmps5
  go_wp2_with fail
  refine HZ0.out.mono ?_
  rintro e w0 ⟨rfl, rfl⟩
  clear HZ0
  have hw0 : Below w.heap.size w w := Below.refl _ _
  go_wp2_with fail
  refine (to_entries v0 x0 _ (hx0.below hw0) hc0).mono ?_
  rintro e w1 ⟨t1_0, rfl, o1, hb1⟩
  have hw1 := hw0.trans (hb1.mono hw0.size)
  have hs1 := hb1.size
  go_wp2_with fail
  refine (takeEntry_spec t1_0 x0 _ o1.rd hc0).mono ?_
  rintro e w2 ⟨u2_1_0, rfl, q2_1, hb2⟩
  have hw2 := hw1.trans (hb2.mono hw1.size)
  have hs2 := hb2.size
  have o1 := o1.below hb2
  go_wp2_with fail
  obtain ⟨w3, hv3⟩ : ∃ W, W = w2.alloc (.cells #[.int .i64 (takeEntryR0 x0).prio, .int .i64 (takeEntryR0 x0).seq, .int .i64 (takeEntryR0 x0).run, .int .i64 (takeEntryR0 x0).task] 33) := ⟨_, rfl⟩
  rw [← hv3]
  have hb3 : Below w2.heap.size w2 w3 := by rw [hv3]; exact (Below.refl _ _).alloc (Nat.le_refl _) _
  have k3 : Blk w3 w2.heap.size 33 #[.int .i64 (takeEntryR0 x0).prio, .int .i64 (takeEntryR0 x0).seq, .int .i64 (takeEntryR0 x0).run, .int .i64 (takeEntryR0 x0).task] := by rw [hv3]; exact Blk.new _ _ _
  clear hv3
  have hg3 := k3.lt
  have hw3 := hw2.trans (hb3.mono hw2.size)
  have hs3 := hb3.size
  have q2_1 := q2_1.below hb3
  refine (to_entries v0 x0 _ (hx0.below hw3) hc0).mono ?_
  rintro e w4 ⟨t4_0, rfl, o4, hb4⟩
  have hw4 := hw3.trans (hb4.mono hw3.size)
  have hs4 := hb4.size
  have q2_1 := q2_1.below hb4
  have k3 := k3.belowV hb4
  have Qk3 := k3.cellsV
  simp only [CellsV, Nat.zero_add, Nat.reduceAdd] at Qk3
  obtain ⟨Ck30, Ck31, Ck32, Ck33⟩ := Qk3
  have Bk3 := k3.lt
  go_wp2_with fail
  clear Bk3 Ck30 Ck31 Ck32 Ck33
  refine (takeEntry_impl t4_0 x0 _ o4.rd hc0).mono ?_
  rintro e w5 ⟨u5_1_0, rfl, q5_1, hb5⟩
  have hw5 := hw4.trans (hb5.mono hw4.size)
  have hs5 := hb5.size
  have o4 := o4.below hb5
  have q2_1 := q2_1.below hb5
  have k3 := k3.belowV hb5
  have Qk3 := k3.cellsV
  simp only [CellsV, Nat.zero_add, Nat.reduceAdd] at Qk3
  obtain ⟨Ck30, Ck31, Ck32, Ck33⟩ := Qk3
  have Bk3 := k3.lt
  go_wp2_with fail
  clear Bk3 Ck30 Ck31 Ck32 Ck33
  obtain ⟨w6, hv6⟩ : ∃ W, W = w5.alloc (.cells #[.int .i64 (takeEntryR0 x0).prio, .int .i64 (takeEntryR0 x0).seq, .int .i64 (takeEntryR0 x0).run, .int .i64 (takeEntryR0 x0).task] 33) := ⟨_, rfl⟩
  rw [← hv6]
  have hb6 : Below w5.heap.size w5 w6 := by rw [hv6]; exact (Below.refl _ _).alloc (Nat.le_refl _) _
  have k6 : Blk w6 w5.heap.size 33 #[.int .i64 (takeEntryR0 x0).prio, .int .i64 (takeEntryR0 x0).seq, .int .i64 (takeEntryR0 x0).run, .int .i64 (takeEntryR0 x0).task] := by rw [hv6]; exact Blk.new _ _ _
  clear hv6
  have hg6 := k6.lt
  have hw6 := hw5.trans (hb6.mono hw5.size)
  have hs6 := hb6.size
  have o4 := o4.below hb6
  have q2_1 := q2_1.below hb6
  have q5_1 := q5_1.below hb6
  have k3 := k3.belowV hb6
  refine (eq_entry (takeEntryR0 x0) _).mono ?_
  rintro e w7 ⟨rfl, hb7⟩
  have hw7 := hw6.trans (hb7.mono hw6.size)
  have hs7 := hb7.size
  have o4 := o4.below hb7
  have q2_1 := q2_1.below hb7
  have q5_1 := q5_1.below hb7
  have k3 := k3.belowV hb7
  have k6 := k6.belowV hb7
  have Qk3 := k3.cellsV
  simp only [CellsV, Nat.zero_add, Nat.reduceAdd] at Qk3
  obtain ⟨Ck30, Ck31, Ck32, Ck33⟩ := Qk3
  have Bk3 := k3.lt
  have Qk6 := k6.cellsV
  simp only [CellsV, Nat.zero_add, Nat.reduceAdd] at Qk6
  obtain ⟨Ck60, Ck61, Ck62, Ck63⟩ := Qk6
  have Bk6 := k6.lt
  go_wp2_with fail
  clear Bk3 Ck30 Ck31 Ck32 Ck33
  clear Bk6 Ck60 Ck61 Ck62 Ck63
  refine (eq_entries u5_1_0 u2_1_0 (takeEntryR1 x0) _ q5_1.rd q2_1.rd).mono ?_
  rintro e w8 ⟨rfl, hb8⟩
  have hw8 := hw7.trans (hb8.mono hw7.size)
  have hs8 := hb8.size
  have o4 := o4.below hb8
  have q2_1 := q2_1.below hb8
  have q5_1 := q5_1.below hb8
  have k3 := k3.belowV hb8
  have k6 := k6.belowV hb8
  have Qk3 := k3.cellsV
  simp only [CellsV, Nat.zero_add, Nat.reduceAdd] at Qk3
  obtain ⟨Ck30, Ck31, Ck32, Ck33⟩ := Qk3
  have Bk3 := k3.lt
  have Qk6 := k6.cellsV
  simp only [CellsV, Nat.zero_add, Nat.reduceAdd] at Qk6
  obtain ⟨Ck60, Ck61, Ck62, Ck63⟩ := Qk6
  have Bk6 := k6.lt
  go_wp2_with fail
  clear Bk3 Ck30 Ck31 Ck32 Ck33
  clear Bk6 Ck60 Ck61 Ck62 Ck63
  refine (to_entries v0 x0 _ (hx0.below hw8) hc0).mono ?_
  rintro e w9 ⟨t9_0, rfl, o9, hb9⟩
  have hw9 := hw8.trans (hb9.mono hw8.size)
  have hs9 := hb9.size
  have o4 := o4.below hb9
  have q2_1 := q2_1.below hb9
  have q5_1 := q5_1.below hb9
  have k3 := k3.belowV hb9
  have k6 := k6.belowV hb9
  have Qk3 := k3.cellsV
  simp only [CellsV, Nat.zero_add, Nat.reduceAdd] at Qk3
  obtain ⟨Ck30, Ck31, Ck32, Ck33⟩ := Qk3
  have Bk3 := k3.lt
  have Qk6 := k6.cellsV
  simp only [CellsV, Nat.zero_add, Nat.reduceAdd] at Qk6
  obtain ⟨Ck60, Ck61, Ck62, Ck63⟩ := Qk6
  have Bk6 := k6.lt
  go_wp2_with fail
  clear Bk3 Ck30 Ck31 Ck32 Ck33
  clear Bk6 Ck60 Ck61 Ck62 Ck63
  refine (eq_entries t4_0 t9_0 x0 _ o4.rd o9.rd).mono ?_
  rintro e w10 ⟨rfl, hb10⟩
  have hw10 := hw9.trans (hb10.mono hw9.size)
  have hs10 := hb10.size
  have o4 := o4.below hb10
  have q2_1 := q2_1.below hb10
  have q5_1 := q5_1.below hb10
  have k3 := k3.belowV hb10
  have k6 := k6.belowV hb10
  have Qk3 := k3.cellsV
  simp only [CellsV, Nat.zero_add, Nat.reduceAdd] at Qk3
  obtain ⟨Ck30, Ck31, Ck32, Ck33⟩ := Qk3
  have Bk3 := k3.lt
  have Qk6 := k6.cellsV
  simp only [CellsV, Nat.zero_add, Nat.reduceAdd] at Qk6
  obtain ⟨Ck60, Ck61, Ck62, Ck63⟩ := Qk6
  have Bk6 := k6.lt
  go_wp2_with fail
  clear Bk3 Ck30 Ck31 Ck32 Ck33
  clear Bk6 Ck60 Ck61 Ck62 Ck63
  refine (mark_entries t4_0 x0 _ _ (1) _ o4 (by omega) (by omega) (by omega)).mono ?_
  rintro e w11 ⟨rfl, -, hp11⟩
  have hw11 := Part.to_below hw10 hp11 (by omega) (Nat.le_refl _)
  have hs11 := hp11.size
  have q2_1 := q2_1.keep hp11 (by omega)
  have q5_1 := q5_1.keep hp11 (by omega)
  have k3 := k3.keepV hp11 (by omega)
  have k6 := k6.keepV hp11 (by omega)
  have Qk3 := k3.cellsV
  simp only [CellsV, Nat.zero_add, Nat.reduceAdd] at Qk3
  obtain ⟨Ck30, Ck31, Ck32, Ck33⟩ := Qk3
  have Bk3 := k3.lt
  have Qk6 := k6.cellsV
  simp only [CellsV, Nat.zero_add, Nat.reduceAdd] at Qk6
  obtain ⟨Ck60, Ck61, Ck62, Ck63⟩ := Qk6
  have Bk6 := k6.lt
  go_wp2_with fail
  clear Bk3 Ck30 Ck31 Ck32 Ck33
  clear Bk6 Ck60 Ck61 Ck62 Ck63
  refine (eq_entry (takeEntryR0 x0) _).mono ?_
  rintro e w12 ⟨rfl, hb12⟩
  have hw12 := hw11.trans (hb12.mono hw11.size)
  have hs12 := hb12.size
  have q2_1 := q2_1.below hb12
  have q5_1 := q5_1.below hb12
  have k3 := k3.belowV hb12
  have k6 := k6.belowV hb12
  have Qk3 := k3.cellsV
  simp only [CellsV, Nat.zero_add, Nat.reduceAdd] at Qk3
  obtain ⟨Ck30, Ck31, Ck32, Ck33⟩ := Qk3
  have Bk3 := k3.lt
  have Qk6 := k6.cellsV
  simp only [CellsV, Nat.zero_add, Nat.reduceAdd] at Qk6
  obtain ⟨Ck60, Ck61, Ck62, Ck63⟩ := Qk6
  have Bk6 := k6.lt
  go_wp2_with fail
  clear Bk3 Ck30 Ck31 Ck32 Ck33
  clear Bk6 Ck60 Ck61 Ck62 Ck63
  refine (eq_entries u5_1_0 u2_1_0 (takeEntryR1 x0) _ q5_1.rd q2_1.rd).mono ?_
  rintro e w13 ⟨rfl, hb13⟩
  have hw13 := hw12.trans (hb13.mono hw12.size)
  have hs13 := hb13.size
  have q2_1 := q2_1.below hb13
  have q5_1 := q5_1.below hb13
  have k3 := k3.belowV hb13
  have k6 := k6.belowV hb13
  have hr1 : cells_entries (takeEntryR1 x0) ≤ 5000000 := by (unfold cells_entries takeEntryR1; rw [List.length_tail]; unfold cost_entries at hc0; omega)
  have Qk3 := k3.cellsV
  simp only [CellsV, Nat.zero_add, Nat.reduceAdd] at Qk3
  obtain ⟨Ck30, Ck31, Ck32, Ck33⟩ := Qk3
  have Bk3 := k3.lt
  have Qk6 := k6.cellsV
  simp only [CellsV, Nat.zero_add, Nat.reduceAdd] at Qk6
  obtain ⟨Ck60, Ck61, Ck62, Ck63⟩ := Qk6
  have Bk6 := k6.lt
  go_wp2_with fail
  clear Bk3 Ck30 Ck31 Ck32 Ck33
  clear Bk6 Ck60 Ck61 Ck62 Ck63
  refine (mark_entries u5_1_0 (takeEntryR1 x0) _ _ (1) _ q5_1 (by omega) (by omega) (by omega)).mono ?_
  rintro e w14 ⟨rfl, f14, hp14⟩
  have hw14 := Part.to_below hw13 hp14 (by omega) (Nat.le_refl _)
  have hs14 := hp14.size
  have q2_1 := q2_1.keep hp14 (by omega)
  have k3 := k3.keepV hp14 (by omega)
  have k6 := k6.keepV hp14 (by omega)
  have Qk3 := k3.cellsV
  simp only [CellsV, Nat.zero_add, Nat.reduceAdd] at Qk3
  obtain ⟨Ck30, Ck31, Ck32, Ck33⟩ := Qk3
  have Bk3 := k3.lt
  have Qk6 := k6.cellsV
  simp only [CellsV, Nat.zero_add, Nat.reduceAdd] at Qk6
  obtain ⟨Ck60, Ck61, Ck62, Ck63⟩ := Qk6
  have Bk6 := k6.lt
  go_wp2_with fail
  clear Bk3 Ck30 Ck31 Ck32 Ck33
  clear Bk6 Ck60 Ck61 Ck62 Ck63
  refine (held_entries u5_1_0 (takeEntryR1 x0) _ _ (1) _ f14 (by omega) (by omega) (by omega)).mono ?_
  rintro e w15 ⟨rfl, hb15⟩
  have hw15 := hw14.trans (hb15.mono hw14.size)
  have hs15 := hb15.size
  have f14 := f14.below hb15
  have q2_1 := q2_1.below hb15
  have k3 := k3.belowV hb15
  have k6 := k6.belowV hb15
  have Qk3 := k3.cellsV
  simp only [CellsV, Nat.zero_add, Nat.reduceAdd] at Qk3
  obtain ⟨Ck30, Ck31, Ck32, Ck33⟩ := Qk3
  have Bk3 := k3.lt
  have Qk6 := k6.cellsV
  simp only [CellsV, Nat.zero_add, Nat.reduceAdd] at Qk6
  obtain ⟨Ck60, Ck61, Ck62, Ck63⟩ := Qk6
  have Bk6 := k6.lt
  go_wp2_with fail
  clear Bk3 Ck30 Ck31 Ck32 Ck33
  clear Bk6 Ck60 Ck61 Ck62 Ck63
  refine (to_entries v0 x0 _ (hx0.below hw15) hc0).mono ?_
  rintro e w16 ⟨t16_0, rfl, o16, hb16⟩
  have hw16 := hw15.trans (hb16.mono hw15.size)
  have hs16 := hb16.size
  have f14 := f14.below hb16
  have q2_1 := q2_1.below hb16
  have k3 := k3.belowV hb16
  have k6 := k6.belowV hb16
  have Qk3 := k3.cellsV
  simp only [CellsV, Nat.zero_add, Nat.reduceAdd] at Qk3
  obtain ⟨Ck30, Ck31, Ck32, Ck33⟩ := Qk3
  have Bk3 := k3.lt
  have Qk6 := k6.cellsV
  simp only [CellsV, Nat.zero_add, Nat.reduceAdd] at Qk6
  obtain ⟨Ck60, Ck61, Ck62, Ck63⟩ := Qk6
  have Bk6 := k6.lt
  go_wp2_with fail
  clear Bk3 Ck30 Ck31 Ck32 Ck33
  clear Bk6 Ck60 Ck61 Ck62 Ck63
  refine (takeEntry_impl t16_0 x0 _ o16.rd hc0).mono ?_
  rintro e w17 ⟨u17_1_0, rfl, q17_1, hb17⟩
  have hw17 := hw16.trans (hb17.mono hw16.size)
  have hs17 := hb17.size
  have f14 := f14.below hb17
  have o16 := o16.below hb17
  have q2_1 := q2_1.below hb17
  have k3 := k3.belowV hb17
  have k6 := k6.belowV hb17
  have Qk3 := k3.cellsV
  simp only [CellsV, Nat.zero_add, Nat.reduceAdd] at Qk3
  obtain ⟨Ck30, Ck31, Ck32, Ck33⟩ := Qk3
  have Bk3 := k3.lt
  have Qk6 := k6.cellsV
  simp only [CellsV, Nat.zero_add, Nat.reduceAdd] at Qk6
  obtain ⟨Ck60, Ck61, Ck62, Ck63⟩ := Qk6
  have Bk6 := k6.lt
  go_wp2_with fail
  clear Bk3 Ck30 Ck31 Ck32 Ck33
  clear Bk6 Ck60 Ck61 Ck62 Ck63
  obtain ⟨w18, hv18⟩ : ∃ W, W = w17.alloc (.cells #[.int .i64 (takeEntryR0 x0).prio, .int .i64 (takeEntryR0 x0).seq, .int .i64 (takeEntryR0 x0).run, .int .i64 (takeEntryR0 x0).task] 33) := ⟨_, rfl⟩
  rw [← hv18]
  have hb18 : Below w17.heap.size w17 w18 := by rw [hv18]; exact (Below.refl _ _).alloc (Nat.le_refl _) _
  have k18 : Blk w18 w17.heap.size 33 #[.int .i64 (takeEntryR0 x0).prio, .int .i64 (takeEntryR0 x0).seq, .int .i64 (takeEntryR0 x0).run, .int .i64 (takeEntryR0 x0).task] := by rw [hv18]; exact Blk.new _ _ _
  clear hv18
  have hg18 := k18.lt
  have hw18 := hw17.trans (hb18.mono hw17.size)
  have hs18 := hb18.size
  have f14 := f14.below hb18
  have q17_1 := q17_1.below hb18
  have q2_1 := q2_1.below hb18
  have k3 := k3.belowV hb18
  have k6 := k6.belowV hb18
  refine (eq_entry (takeEntryR0 x0) _).mono ?_
  rintro e w19 ⟨rfl, hb19⟩
  have hw19 := hw18.trans (hb19.mono hw18.size)
  have hs19 := hb19.size
  have f14 := f14.below hb19
  have q17_1 := q17_1.below hb19
  have q2_1 := q2_1.below hb19
  have k18 := k18.belowV hb19
  have k3 := k3.belowV hb19
  have k6 := k6.belowV hb19
  have Qk18 := k18.cellsV
  simp only [CellsV, Nat.zero_add, Nat.reduceAdd] at Qk18
  obtain ⟨Ck180, Ck181, Ck182, Ck183⟩ := Qk18
  have Bk18 := k18.lt
  have Qk3 := k3.cellsV
  simp only [CellsV, Nat.zero_add, Nat.reduceAdd] at Qk3
  obtain ⟨Ck30, Ck31, Ck32, Ck33⟩ := Qk3
  have Bk3 := k3.lt
  have Qk6 := k6.cellsV
  simp only [CellsV, Nat.zero_add, Nat.reduceAdd] at Qk6
  obtain ⟨Ck60, Ck61, Ck62, Ck63⟩ := Qk6
  have Bk6 := k6.lt
  go_wp2_with fail
  clear Bk18 Ck180 Ck181 Ck182 Ck183
  clear Bk3 Ck30 Ck31 Ck32 Ck33
  clear Bk6 Ck60 Ck61 Ck62 Ck63
  refine (eq_entries u17_1_0 u2_1_0 (takeEntryR1 x0) _ q17_1.rd q2_1.rd).mono ?_
  rintro e w20 ⟨rfl, hb20⟩
  have hw20 := hw19.trans (hb20.mono hw19.size)
  have hs20 := hb20.size
  have f14 := f14.below hb20
  have q17_1 := q17_1.below hb20
  have q2_1 := q2_1.below hb20
  have k18 := k18.belowV hb20
  have k3 := k3.belowV hb20
  have k6 := k6.belowV hb20
  have Qk18 := k18.cellsV
  simp only [CellsV, Nat.zero_add, Nat.reduceAdd] at Qk18
  obtain ⟨Ck180, Ck181, Ck182, Ck183⟩ := Qk18
  have Bk18 := k18.lt
  have Qk3 := k3.cellsV
  simp only [CellsV, Nat.zero_add, Nat.reduceAdd] at Qk3
  obtain ⟨Ck30, Ck31, Ck32, Ck33⟩ := Qk3
  have Bk3 := k3.lt
  have Qk6 := k6.cellsV
  simp only [CellsV, Nat.zero_add, Nat.reduceAdd] at Qk6
  obtain ⟨Ck60, Ck61, Ck62, Ck63⟩ := Qk6
  have Bk6 := k6.lt
  go_wp2_with fail
  clear Bk18 Ck180 Ck181 Ck182 Ck183
  clear Bk3 Ck30 Ck31 Ck32 Ck33
  clear Bk6 Ck60 Ck61 Ck62 Ck63
  refine (held_entries u5_1_0 (takeEntryR1 x0) _ _ (1) _ f14 (by omega) (by omega) (by omega)).mono ?_
  rintro e w21 ⟨rfl, hb21⟩
  have hw21 := hw20.trans (hb21.mono hw20.size)
  have hs21 := hb21.size
  have f14 := f14.below hb21
  have q17_1 := q17_1.below hb21
  have q2_1 := q2_1.below hb21
  have k18 := k18.belowV hb21
  have k3 := k3.belowV hb21
  have k6 := k6.belowV hb21
  have Qk18 := k18.cellsV
  simp only [CellsV, Nat.zero_add, Nat.reduceAdd] at Qk18
  obtain ⟨Ck180, Ck181, Ck182, Ck183⟩ := Qk18
  have Bk18 := k18.lt
  have Qk3 := k3.cellsV
  simp only [CellsV, Nat.zero_add, Nat.reduceAdd] at Qk3
  obtain ⟨Ck30, Ck31, Ck32, Ck33⟩ := Qk3
  have Bk3 := k3.lt
  have Qk6 := k6.cellsV
  simp only [CellsV, Nat.zero_add, Nat.reduceAdd] at Qk6
  obtain ⟨Ck60, Ck61, Ck62, Ck63⟩ := Qk6
  have Bk6 := k6.lt
  go_wp2_with fail
  clear Bk18 Ck180 Ck181 Ck182 Ck183
  clear Bk3 Ck30 Ck31 Ck32 Ck33
  clear Bk6 Ck60 Ck61 Ck62 Ck63
  go_ret
  exact ⟨rfl, hw21⟩

namespace fnExactTakeEntry
open Go.ChangeShapes Go.WideShapes Go.ChangeAt Go.RowKit
theorem own : ownKnob Try.prog.godebug = none := by kernel_rfl
theorem laidOut : laidOutB Try.prog = true := by kernel_rfl

set_option maxRecDepth 100000 in
theorem lifted (os : Os) (started : os.Started) (H : Type) (enc : TypeId × Value → H) :
    ReturnsInHanded {} Try.checked os 5 .any (Rows.fnExactTakeEntrySpec.pre6 enc Try.prog Try.f5 Rows.fnExactTakeEntryRow.domain false) (Rows.fnExactTakeEntrySpec.post enc Try.prog Try.f5 false true false false) := by
  refine returnsInHanded_of_change (C := Try.checked) own started (by kernel_rfl) Try.func5
    (ChangeSpec.witness6 (enc := enc) (C := Try.checked) false ⟨#[], #[.slice none 0 0], []⟩ 8 (by kernel_rfl) (by kernel_rfl) (by kernel_rfl) (by kernel_rfl)) ?_
  intro W base args ds gs before hval0 hW hcnd _
  have hval : ∀ (j : Nat) t v, Try.f5.params[j]? = some t → args[j]? = some v → Value.okWide Try.prog W .any base t v := hval0
  have hW' := hW
  obtain ⟨p, q, hA0, hV, rfl, hfz, hnd⟩ := hW
  have hA : DataW.TrodAll enc Try.prog W 0 (fun _ => true) true Try.f5.params.toList args.toList ds p := hA0
  rw [Try.params5] at hA hval
  obtain ⟨v0, vs0, d0, ds0, p0, q0, hargs, rfl, rfl, h0, r0⟩ := trodAll_cons hA
  obtain ⟨rfl, rfl, rfl⟩ := trodAll_nil r0
  obtain rfl : args = #[v0] := by cases args; simp_all
  obtain ⟨rfl, rfl⟩ := trodVars_none hV
  have lt0 : ∀ x ∈ p0, x.block < W.heap.size := by obtain ⟨m, hm⟩ := h0; exact DataW.trod_lt m _ _ _ hm
  have a0 := arg_entries (hval 0 22 v0 rfl rfl) h0
  clear hA0 hval0
  refine (walk_FnExactTakeEntry v0 W a0).mono fun e W' ⟨he, bel⟩ => ?_
  subst he
  exact ⟨_, rfl, _, _, _, [], _, [], hW', trodAll_mk1 (shut_bool Try.underlying4 _), (trodAll_cons_mk (Below.trod laidOut (by kernel_rfl) (of_decide_eq_true (by kernel_rfl)) h0 bel lt0) trodAll_mk0), rfl, bel.frame _, fun h => by cases h⟩

theorem over : Rows.fnExactTakeEntryRow.holds Try.pinned (OpenSpec.ofChange Rows.fnExactTakeEntrySpec) :=
  OpenClaim.holds_of_wide 5 Try.f5 rfl rfl rfl rfl rfl rfl rfl ⟨rfl, rfl, rfl, rfl, rfl⟩ rfl rfl rfl rfl rfl (by kernel_rfl) Try.func5 (by kernel_rfl)
    (of_decide_eq_true (by kernel_rfl)) (by unfold Func.isWrapper; first | (rw [if_pos (by decide +kernel)]; kernel_rfl) | (rw [if_neg (by decide +kernel)]; exact ⟨rfl, rfl⟩))
    (fun os started H enc _ => lifted os started H enc)

/-- The statement. -/
theorem proved : Rows.FnExactTakeEntrySaid :=
  over
#print axioms proved
end fnExactTakeEntry

end Go.Proofs.Ytngoagjnaphmhaa

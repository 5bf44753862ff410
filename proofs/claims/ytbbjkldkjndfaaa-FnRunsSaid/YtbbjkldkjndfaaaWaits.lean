/- What waits for each task, as the bits of numbers: the program's waits. -/
import Derived.Test.YtbbjkldkjndfaaaGC
import Derived.Test.YtbbjkldkjndfaaaGB
import Derived.StillTailTactics
import Derived.IntWalk
namespace Go.Proofs.Ytbbjkldkjndfaaa
set_option linter.unusedSimpArgs false
open Go.RowKit Go.ChangeShapes Go.Deep

def natsV (l : List Nat) : List Value := l.map fun m : Nat => .int .i64 (m : Int)
theorem natsV_length (l : List Nat) : (natsV l).length = l.length := by simp [natsV]
theorem bitRounds_last {E : List Edg} : ∀ (r : Nat) (M : List Nat), bitRounds E (r + 1) M = bitRound E (bitRounds E r M)
  | 0, _ => rfl
  | r + 1, M => by rw [bitRounds, bitRounds_last r, ← bitRounds]
/-- The marks behind k edges of round r. -/
def bitAt (E : List Edg) (n r k : Nat) : List Nat := (E.take k).foldl bitOr (bitRounds E r (List.replicate n 0))
theorem bitAt_zero (E : List Edg) (n r : Nat) : bitAt E n r 0 = bitRounds E r (List.replicate n 0) := rfl
theorem bitAt_succ {E : List Edg} {n r k : Nat} (h : k < E.length) : bitAt E n r (k + 1) = bitOr (bitAt E n r k) E[k] := by
  unfold bitAt
  rw [List.take_succ_eq_append_getElem h, List.foldl_append]
  rfl
theorem bitAt_full {E : List Edg} {n r k : Nat} (h : E.length ≤ k) : bitAt E n r k = bitRounds E (r + 1) (List.replicate n 0) := by
  rw [bitRounds_last]
  unfold bitAt bitRound
  rw [List.take_of_length_le h]
theorem bitAt_length {E : List Edg} {n : Nat} (hi : Inside E n) (r k : Nat) : (bitAt E n r k).length = n :=
  (foldl_keeps hi (E.take k) (fun _ h => List.mem_of_mem_take h) _ (rounds_length hi r _ (by simp))).1
theorem bitAt_small {E : List Edg} {n : Nat} (hi : Inside E n) (hn : n ≤ 12) (r k j : Nat) : (bitAt E n r k).getD j 0 < 4096 := by
  have h := foldl_small hi (E.take k) (fun _ h => List.mem_of_mem_take h) _ (rounds_length hi r (List.replicate n 0) (by simp)) (rounds_small hi r (List.replicate n 0) (by simp) (by intro m hm; rw [(List.mem_replicate.1 hm).2]; exact Nat.two_pow_pos n))
  have hp : 2 ^ n ≤ 2 ^ 12 := Nat.pow_le_pow_right (by decide) hn
  have : (bitAt E n r k).getD j 0 < 2 ^ n := by
    rw [List.getD_eq_getElem?_getD]
    cases hj : (bitAt E n r k)[j]? with
    | none => simp [Nat.two_pow_pos]
    | some u => exact h u (List.mem_of_getElem? hj)
  omega
theorem shl_one (d : Nat) (h : d < 12) : (1 <<< d : Nat) < 4096 := by
  rw [Nat.shiftLeft_eq, Nat.one_mul]
  exact Nat.lt_of_lt_of_le (Nat.pow_lt_pow_right (by decide) h) (by decide)

theorem or_val (a b d : Nat) (ha : a < 4096) (hb : b < 4096) (hd : d < 12) : bits .or .i64 (a : Int) (bits .or .i64 (wrap64 (2 ^ d)) (b : Int)) = ((a ||| (1 <<< d ||| b) : Nat) : Int) := by
  have h1 := shl_one d hd
  have h2 : (2 : Int) ^ d = ((1 <<< d : Nat) : Int) := by rw [Nat.shiftLeft_eq, Nat.one_mul, Int.natCast_pow]; rfl
  rw [h2]
  generalize 1 <<< d = q at *
  have h3 : wrap64 (q : Int) = (q : Int) := by first | (unfold wrap64; omega) | (show IntKind.i64.wrap (q : Int) = _; rw [IntKind.wrap_i64]; omega)
  rw [h3, i64_or_nat _ _ (by omega) (by omega), i64_or_nat _ _ (by omega) ?_]
  exact Nat.lt_of_lt_of_le (Nat.or_lt_two_pow (n := 12) (by omega) (by omega)) (by decide)
theorem rowIs_made_at {w : World} {g n : Nat} {z : Value} {t : TypeId} (hg : g = w.heap.size) : (w.alloc (.cells (madeCells #[z] n) t)).rowIs g t n (fun _ => z) := by
  subst hg
  exact World.rowIs_made _ _ _ _

set_option maxHeartbeats 4000000 in
set_option maxRecDepth 100000 in
theorem waits_any (u : Value) (x : Pln) (w : World) (h : Rd_plan w u x) (hm : manyB x = false) (ho : outB x.tasks x.edges = false) :
    Calls Try.prog 67 #[.agg #[.int .i64 x.prio, .int .i64 x.most, .int .i64 x.wait, .int .i64 x.tasks, u]] w (MadeRow w 3 1 x.tasks.toNat (natsV (bitRounds x.edges x.tasks.toNat (List.replicate x.tasks.toNat 0)))) := by
  obtain ⟨hn0, hn1, hE, -⟩ := many_false hm
  obtain ⟨x1, x2, x3, x4, E⟩ := x
  simp only at hn0 hn1 hE ho
  obtain ⟨n, rfl⟩ : ∃ n : Nat, x4 = n := ⟨x4.toNat, by omega⟩
  simp only [Int.toNat_natCast]
  have hi := outB_inside ho
  obtain ⟨A, c, rfl, hnc, hcm⟩ := h.form
  simp only at hnc h
  unfold maxLen at hcm
  have hmk := fun W => run_make_row' (P := Try.prog) 28 3 (.int .i64 0) 8 Try.underlying28 Try.infoI64 rfl .i64 .i64 n (by omega) (by omega) W
  have H := Lib.hid (show Rd w 2 (.slice A E.length c) E.length (edgV E) from h)
  have HI := Lib.hid hi
  clear h hm ho hi
  go_enter Try.func67, Try.ntmps67
  go_wp2
  clear hmk
  go_loopw [11] (fun u11 wr => ∃ r : Nat, r ≤ n ∧ u11 = .int .i64 r ∧ Hid (wr.rowIs (w.heap.size + 1) 3 n (fun j => .int .i64 ((bitAt E n r 0).getD j 0 : Nat))) ∧ Hid (Blk wr w.heap.size 26 #[.int .i64 x1, .int .i64 x2, .int .i64 x3, .int .i64 n, .slice A E.length c]) ∧ Below w.heap.size w wr) (fun u11 _ => n - (intOf u11).toNat)
  case atStart =>
    refine ⟨0, Nat.zero_le _, rfl, ?_, ?_, (by repeat' first | (with_reducible exact Below.refl _ _) | (with_reducible assumption) | (with_reducible refine Below.setCell ?_ ?_ _) | (with_reducible refine Below.alloc ?_ ?_ _) | (with_reducible refine Below.drew ?_) | (with_reducible refine below_drewN ?_ _) | (with_reducible refine Below.calm ?_ ?_) | exact Nat.le_refl _ | (simp; done) | (simp; omega) | omega)⟩
    · exact Lib.hid ((rowIs_made_at (by simp)).congr (fun i hi => by simp [bitAt, bitRounds, List.getD_eq_getElem?_getD, hi]))
    · exact Lib.hid ((Blk.new w _ _).alloc _)
  case round =>
    obtain ⟨r, hr, rfl, HROW, HBLK, hb⟩ := hrel
    by_cases hlt : r < n
    · have p4 := HBLK.out.cell 4
      simp only [List.getElem?_toArray, List.getElem?_cons_succ, List.getElem?_cons_zero] at p4
      have hws := HBLK.out.lt
      go_wp2
      go_loopw [16] (fun u16 wr => ∃ k : Nat, k ≤ E.length ∧ u16 = .int .i64 k ∧ Hid (wr.rowIs (w.heap.size + 1) 3 n (fun j => .int .i64 ((bitAt E n r k).getD j 0 : Nat))) ∧ Hid (Blk wr w.heap.size 26 #[.int .i64 x1, .int .i64 x2, .int .i64 x3, .int .i64 n, .slice A E.length c]) ∧ Below w.heap.size w wr) (fun u16 _ => E.length - (intOf u16).toNat)
      case atStart => exact ⟨0, Nat.zero_le _, rfl, HROW, HBLK, hb⟩
      case round =>
        clear HROW HBLK p4 hb hws
        obtain ⟨k, hk, rfl, HROW, HBLK, hb⟩ := hrel
        by_cases hltk : k < E.length
        · obtain ⟨b1, o1, _, hv1, _, _, hl1, hc1⟩ := H.out.form (by omega) (by omega)
          have hA1 : A = some ⟨b1, o1, none⟩ := by injection hv1
          subst hA1
          obtain ⟨e, he⟩ : ∃ e, e = E[k] := ⟨_, rfl⟩
          obtain ⟨d0, d1⟩ := edg_cells hb hl1 hc1 hltk e he
          obtain ⟨hs0, hs1, hd0, hd1⟩ := HI.out e (by rw [he]; exact List.getElem_mem hltk)
          have HB := Lib.hid (bitAt_succ (n := n) (r := r) hltk)
          rw [← he] at HB
          clear he hv1 hc1
          obtain ⟨es, ed⟩ := e
          simp only at hs0 hs1 hd0 hd1 d0 d1
          obtain ⟨s, rfl⟩ : ∃ s : Nat, es = s := ⟨es.toNat, by omega⟩
          obtain ⟨d, rfl⟩ : ∃ d : Nat, ed = d := ⟨ed.toNat, by omega⟩
          have hrl := HROW.out.lt
          have hb1 : b1 < wr.heap.size := Nat.lt_of_lt_of_le hl1 hb.size
          have hk0 : (0 : Int) ≤ (k : Int) := by omega
          have hk1 : (k : Int) < (E.length : Int) := by omega
          go_wp2
          obtain ⟨W, hW⟩ : ∃ W, W = wr.alloc (.cells #[.int .i64 s, .int .i64 d] 39) := ⟨_, rfl⟩
          rw [← hW]
          have hbW : Below wr.heap.size wr W := by rw [hW]; exact (Below.refl _ _).alloc (Nat.le_refl _) _
          have kW : Blk W wr.heap.size 39 #[.int .i64 s, .int .i64 d] := by rw [hW]; exact Blk.new _ _ _
          have HROWW := Lib.hid (HROW.out.of_block (hbW.block _ hrl))
          have s0 := HROWW.out.cell (i := s) (by omega)
          have s1 := HROWW.out.cell (i := d) (by omega)
          have z0 := HROWW.out.frozen s
          have e0 := kW.cell 0
          have e1 := kW.cell 1
          simp only [List.getElem?_toArray, List.getElem?_cons_succ, List.getElem?_cons_zero] at e0 e1
          have hwl := kW.lt
          have hrW := HROWW.out.lt
          have HBW := Lib.hid hbW
          clear hW kW hbW
          go_still_tail 16, (by kernel_rfl)
          go_wp2
          go_roundw
          case rel =>
            have hBW := HBW.out
            have hbW : Below w.heap.size w W := hb.trans (hBW.mono hb.size)
            refine ⟨k + 1, by omega, by go_num, ?_, ?_, (hbW.drew).setCell (by simp) _⟩
            · have hV := or_val ((bitAt E n r k).getD s 0) ((bitAt E n r k).getD d 0) d (bitAt_small HI.out (by omega) r k s) (bitAt_small HI.out (by omega) r k d) (by omega)
              refine Lib.hid (((HROWW.out.drew).set s _).congr (fun j hj => ?_))
              rw [HB.out]
              unfold bitOr
              simp only [Int.toNat_natCast]
              rw [getD_set (by rw [bitAt_length HI.out]; omega)]
              by_cases hjs : j = s
              · rw [if_pos hjs, if_pos hjs, ← hV]
                simp only [List.getD_eq_getElem?_getD]
              · rw [if_neg hjs, if_neg hjs]
            · exact Lib.hid (Blk.far (Blk.drew (HBLK.out.belowV hBW)) (by simp) _)
          case measure => simp [intOf]; omega
        · have HB := Lib.hid (show bitAt E n r k = bitAt E n (r + 1) 0 from (bitAt_full (by omega)).trans (bitAt_zero E n (r + 1)).symm)
          go_wp2
          go_roundw
          case rel => exact ⟨r + 1, by omega, by go_num, by rw [← HB.out]; exact HROW, HBLK, hb⟩
          case measure => simp [intOf]; omega
    · obtain rfl : r = n := by omega
      go_wp2
      go_ret
      refine ⟨_, rfl, ?_, hb⟩
      refine own_of_fun (cap := r) (by rw [Nat.mul_one]; exact HROW.out) (by omega) (Nat.le_refl _) (by unfold maxLen; omega) (by rw [natsV_length, rounds_length HI.out _ _ (by simp), Nat.mul_one]) (fun j v hv => ?_)
      rw [bitAt_zero]
      simp only [natsV, List.getElem?_map, Option.map_eq_some_iff] at hv
      obtain ⟨m, hm, rfl⟩ := hv
      rw [List.getD_eq_getElem?_getD, hm]
      rfl
end Go.Proofs.Ytbbjkldkjndfaaa

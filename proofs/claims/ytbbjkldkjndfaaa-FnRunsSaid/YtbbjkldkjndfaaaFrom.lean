/- What waits for a task: the reference's search. -/
import Derived.Test.YtbbjkldkjndfaaaGC
import Derived.Test.YtbbjkldkjndfaaaGB
import Derived.Test.YtbbjkldkjndfaaaWaits
namespace Go.Proofs.Ytbbjkldkjndfaaa
set_option linter.unusedSimpArgs false
open Go.RowKit Go.ChangeShapes Go.Deep

def bfsC (E : List Edg) (t : Int) (n h : Nat) : Int := (bfsAt E t n h).2.getD h 0
/-- The state behind i edges of node h. -/
def bfsPart (E : List Edg) (t : Int) (n h i : Nat) : List Bool × List Int := (E.take i).foldl (bfsEdge (bfsC E t n h)) (bfsAt E t n h)
theorem bfsPart_zero (E : List Edg) (t : Int) (n h : Nat) : bfsPart E t n h 0 = bfsAt E t n h := rfl
theorem bfsPart_succ {E : List Edg} {t : Int} {n h i : Nat} (hi : i < E.length) : bfsPart E t n h (i + 1) = bfsEdge (bfsC E t n h) (bfsPart E t n h i) E[i] := by
  unfold bfsPart
  rw [List.take_succ_eq_append_getElem hi, List.foldl_append]
  rfl
theorem bfsPart_full {E : List Edg} {t : Int} {n h i : Nat} (hi : E.length ≤ i) : bfsPart E t n h i = bfsAt E t n (h + 1) := by
  unfold bfsPart
  rw [List.take_of_length_le hi, bfsAt, bfsNode, bfsC]
theorem bfs_head {E : List Edg} {n : Nat} {t : Int} {h : Nat} {r : List Int} (h1 : BfsInv E n t (bfsAt E t n h) r) (hlt : h < (bfsAt E t n h).2.length) : bfsC E t n h = t ∨ Way E t (bfsC E t n h) := by
  unfold bfsC
  rw [h1.queue] at hlt ⊢
  rcases Nat.eq_zero_or_pos h with h0 | h0
  · subst h0; left; simp
  · right
    obtain ⟨k, rfl⟩ : ∃ k, h = k + 1 := ⟨h - 1, by omega⟩
    have hk : k < r.length := by simpa using hlt
    refine h1.way _ ?_
    simp [List.getD_eq_getElem?_getD, List.getElem?_eq_getElem hk]
theorem bfsPart_bd {E : List Edg} {n : Nat} (hi : Inside E n) (t : Int) {h : Nat} (hh : ∀ j, j < h + 1 → j < (bfsAt E t n j).2.length) (i : Nat) :
    (bfsPart E t n h i).1.length = n ∧ (bfsPart E t n h i).2.length ≤ n + 1 ∧ h < (bfsPart E t n h i).2.length ∧ (bfsPart E t n h i).2.getD h 0 = bfsC E t n h := by
  obtain ⟨r, h1, h2, _⟩ := bfsAt_inv hi t h (fun j hj => hh j (by omega))
  have hlt := hh h (by omega)
  have hc := bfs_head h1 hlt
  obtain ⟨r', h4, _⟩ := BfsInv.node hi hc (E.take i) (fun _ h => List.mem_of_mem_take h) h1
  have hle := h4.le
  have hq : (bfsPart E t n h i).2 = t :: (r ++ r') := h4.queue
  have hq0 := h1.queue
  refine ⟨h4.len, ?_, ?_, ?_⟩
  · rw [hq]; simpa using hle
  · rw [hq]; rw [hq0] at hlt; simp at hlt ⊢; omega
  · unfold bfsC
    rw [hq, hq0]
    rw [hq0] at hlt
    rw [← List.cons_append, List.getD_eq_getElem?_getD, List.getD_eq_getElem?_getD, List.getElem?_append_left hlt]

def boolsV (l : List Bool) : List Value := l.map Value.bool
theorem boolsV_length (l : List Bool) : (boolsV l).length = l.length := by simp [boolsV]
noncomputable def fromR (E : List Edg) (n : Nat) (t : Int) : List Bool := (List.range n).map fun y : Nat => wayB E t y
theorem fromR_of {E : List Edg} {n : Nat} (hi : Inside E n) (t : Int) (h : Nat) (hh : ∀ j, j < h → j < (bfsAt E t n j).2.length) (hend : (bfsAt E t n h).2.length ≤ h) : (bfsAt E t n h).1 = fromR E n t := by
  have hl := (bfs_len hi t h hh).1
  apply List.ext_getElem
  · simp [fromR, hl]
  · intro i h1 h2
    have h3 := bfs_way hi t h hh hend (y := (i : Int)) (by omega)
    rw [Int.toNat_natCast, List.getD_eq_getElem?_getD, List.getElem?_eq_getElem h1, Option.getD_some, ← wayB_true] at h3
    have h4 : (fromR E n t)[i] = wayB E t i := by simp [fromR]
    rw [h4]
    cases hb : (bfsAt E t n h).1[i] <;> cases hc : wayB E t i <;> simp_all
theorem Try.infoBool : (Try.prog.info? 4).map (fun i => (i.zero, i.size, i.bytes)) = some (some (.bool false), 1, 1) := by kernel_rfl

set_option maxHeartbeats 8000000 in
set_option maxRecDepth 100000 in
theorem l06From_any (u : Value) (x : Pln) (t : Int) (w : World) (h : Rd_plan w u x) (hm : manyB x = false) (ho : outB x.tasks x.edges = false) :
    Calls Try.prog 70 #[.agg #[.int .i64 x.prio, .int .i64 x.most, .int .i64 x.wait, .int .i64 x.tasks, u], .int .i64 t] w (MadeRow w 4 1 x.tasks.toNat (boolsV (fromR x.edges x.tasks.toNat t))) := by
  obtain ⟨hn0, hn1, hE, -⟩ := many_false hm
  obtain ⟨x1, x2, x3, x4, E⟩ := x
  simp only at hn0 hn1 hE ho
  obtain ⟨n, rfl⟩ : ∃ n : Nat, x4 = n := ⟨x4.toNat, by omega⟩
  simp only [Int.toNat_natCast]
  have hi := outB_inside ho
  obtain ⟨A, c, rfl, hnc, hcm⟩ := h.form
  simp only at hnc h
  unfold maxLen at hcm
  have hmk := fun W => run_make_row' (P := Try.prog) 76 4 (.bool false) 1 Try.underlying76 Try.infoBool rfl .i64 .i64 n (by omega) (by omega) W
  obtain ⟨i0, hii, hz0, hz1, hz2⟩ := info_parts Try.infoI64
  have H := Lib.hid (show Rd w 2 (.slice A E.length c) E.length (edgV E) from h)
  have HI := Lib.hid hi
  clear h hm ho hi
  go_enter Try.func70, Try.ntmps70
  go_wp2
  clear hmk
  go_loopw [6, 7] (fun u6 u7 wr => ∃ hh : Nat, u7 = .int .i64 hh ∧ Hid (∀ j, j < hh → j < (bfsAt E t n j).2.length) ∧ hh ≤ n + 1 ∧ Hid (wr.ownsRow (w.heap.size + 2) 3 1 u6 (bfsAt E t n hh).2.length (intsV (bfsAt E t n hh).2)) ∧ Hid (wr.rowIs (w.heap.size + 1) 4 n (fun j => .bool ((bfsAt E t n hh).1.getD j false))) ∧ Hid (Blk wr w.heap.size 26 #[.int .i64 x1, .int .i64 x2, .int .i64 x3, .int .i64 n, .slice A E.length c]) ∧ Below w.heap.size w wr) (fun _ u7 _ => n + 2 - (intOf u7).toNat)
  case atStart =>
    refine ⟨0, rfl, Lib.hid (fun j hj => absurd hj (by omega)), by omega, ?_, ?_, ?_, (by repeat' first | (with_reducible exact Below.refl _ _) | (with_reducible assumption) | (with_reducible refine Below.setCell ?_ ?_ _) | (with_reducible refine Below.alloc ?_ ?_ _) | (with_reducible refine Below.drew ?_) | (with_reducible refine below_drewN ?_ _) | (with_reducible refine Below.calm ?_ ?_) | exact Nat.le_refl _ | (simp; done) | (simp; omega) | omega)⟩
    · exact Lib.hid (own_new #[.int .i64 t] (by simp) (Nat.le_refl _) rfl (by decide))
    · refine Lib.hid (((rowIs_made_at (w := w.alloc (.cells #[.int .i64 x1, .int .i64 x2, .int .i64 x3, .int .i64 n, .slice A E.length c] 26)) (g := w.heap.size + 1) (n := n) (z := .bool false) (t := 4) (by simp)).congr (fun i hi => by simp [bfsAt, List.getD_eq_getElem?_getD, hi])).of_block ?_)
      exact Below.heap_alloc _ _ _ (by simp)
    · exact Lib.hid (((Blk.new w _ _).alloc _).alloc _)
  case round =>
    obtain ⟨hh, rfl, HH, hh1, HOWN, HROW, HBLK, hb⟩ := hrel
    have hlen := bfs_len HI.out t hh HH.out
    obtain ⟨-, hl1, hl2, hl3⟩ := hlen
    have hws := HBLK.out.lt
    have hrl := HROW.out.lt
    by_cases hlt : hh < (bfsAt E t n hh).2.length
    · have HH2 := Lib.hid (show ∀ j, j < hh + 1 → j < (bfsAt E t n j).2.length from fun j hj => by
        by_cases e : j = hh
        · subst e; exact hlt
        · exact HH.out j (by omega))
      obtain ⟨A6, c6, rfl, hnc6, hcm6⟩ := (Rd.of_own HOWN.out).shape
      unfold maxLen at hcm6
      have hi1 : (hh : Int) < ((bfsAt E t n hh).2.length : Int) := by omega
      have p4 := HBLK.out.cell 4
      simp only [List.getElem?_toArray, List.getElem?_cons_succ, List.getElem?_cons_zero] at p4
      go_wp2
      clear p4
      go_loopw [6, 8] (fun u6 u8 wr => ∃ i : Nat, i ≤ E.length ∧ u8 = .int .i64 i ∧ Hid (wr.ownsRow (w.heap.size + 2) 3 1 u6 (bfsPart E t n hh i).2.length (intsV (bfsPart E t n hh i).2)) ∧ Hid (wr.rowIs (w.heap.size + 1) 4 n (fun j => .bool ((bfsPart E t n hh i).1.getD j false))) ∧ Hid (Blk wr w.heap.size 26 #[.int .i64 x1, .int .i64 x2, .int .i64 x3, .int .i64 n, .slice A E.length c]) ∧ Below w.heap.size w wr) (fun _ u8 _ => E.length - (intOf u8).toNat)
      case atStart => exact ⟨0, Nat.zero_le _, rfl, HOWN, HROW, HBLK, hb⟩
      case round =>
        clear HOWN HROW HBLK hb hws hrl
        obtain ⟨i, hi, rfl, HOWN, HROW, HBLK, hb⟩ := hrel
        have hws := HBLK.out.lt
        have hrl := HROW.out.lt
        have p4 := HBLK.out.cell 4
        simp only [List.getElem?_toArray, List.getElem?_cons_succ, List.getElem?_cons_zero] at p4
        by_cases hlti : i < E.length
        · obtain ⟨b1, o1, _, hv1, _, _, hl1, hc1⟩ := H.out.form (by omega) (by omega)
          have hA1 : A = some ⟨b1, o1, none⟩ := by injection hv1
          subst hA1
          obtain ⟨y, hy⟩ : ∃ y, y = E[i] := ⟨_, rfl⟩
          obtain ⟨d0, d1⟩ := edg_cells hb hl1 hc1 hlti y hy
          obtain ⟨hs0, hs1, hd0, hd1⟩ := HI.out y (by rw [hy]; exact List.getElem_mem hlti)
          have HB := Lib.hid (bfsPart_succ (t := t) (n := n) (h := hh) hlti)
          rw [← hy] at HB
          obtain ⟨q1, q2, q3, q4⟩ := bfsPart_bd HI.out t HH2.out i
          clear hy hv1 hc1
          obtain ⟨ys, yd⟩ := y
          simp only at hs0 hs1 hd0 hd1 d0 d1
          obtain ⟨d, rfl⟩ : ∃ d : Nat, yd = d := ⟨yd.toNat, by omega⟩
          have hd2 : d < n := by omega
          obtain ⟨A6, c6, rfl, hnc6, hcm6⟩ := (Rd.of_own HOWN.out).shape
          unfold maxLen at hcm6
          obtain ⟨b6, o6, _, hv6, _, _, hl6, hc6⟩ := (Rd.of_own HOWN.out).form (by omega) (by omega)
          have hA6 : A6 = some ⟨b6, o6, none⟩ := by injection hv6
          subst hA6
          obtain ⟨C, hC⟩ : ∃ C, C = bfsC E t n hh := ⟨_, rfl⟩
          have e0 : wr.cell? ⟨b6, o6 + hh, none⟩ = some (.int .i64 C) := by
            refine hc6 hh _ ?_
            rw [hC, ← q4]
            simp [intsV, List.getD_eq_getElem?_getD, List.getElem?_eq_getElem q3]
          rw [← hC] at HB
          have s0 := HROW.out.cell (i := d) (by omega)
          have z0 := HROW.out.frozen d
          obtain ⟨bb, hbb⟩ : ∃ bb, bb = (bfsPart E t n hh i).1.getD d false := ⟨_, rfl⟩
          rw [← hbb] at s0
          have hb1 : b1 < wr.heap.size := Nat.lt_of_lt_of_le hl1 hb.size
          have hk0 : (0 : Int) ≤ (i : Int) := by omega
          have hk1 : (i : Int) < (E.length : Int) := by omega
          have hk2 : (hh : Int) < ((bfsPart E t n hh i).2.length : Int) := by omega
          have hk3 : (0 : Int) ≤ (hh : Int) := by omega
          have HBB := Lib.hid hbb
          have HQ := Lib.hid (show (bfsPart E t n hh i).1.length = n ∧ (bfsPart E t n hh i).2.length ≤ n + 1 from ⟨q1, q2⟩)
          clear hC hbb q1 q4 hc6 hv6
          by_cases hs : ys = C
          · have t0 : (ys == C) = true := by simp [hs]
            cases bb with
            | false =>
              have HP := Lib.hid (show bfsPart E t n hh (i + 1) = ((bfsPart E t n hh i).1.set d true, (bfsPart E t n hh i).2 ++ [(d : Int)]) by rw [HB.out, bfsEdge, if_pos ⟨hs, HBB.out.symm⟩]; rfl)
              clear HB hs
              go_wp2
              first | refine wp_region_calm_on (by kernel_rfl) (by kernel_rfl) ?_ | refine wp_region_calm_lit (by kernel_rfl) (by kernel_rfl) ?_
              repeat (go_big_quiet_step (fail))
              refine wpQuiet_nil ?_
              intro _ hw'
              obtain ⟨k1, hw''⟩ := hw'
              subst hw''
              have hb6 : w.heap.size + 2 ≤ b6 ∧ b6 < wr.heap.size := HOWN.out.lt b6 rfl
              have HS2 := Lib.hid (own_grown (own_below (own_below HOWN.out ((Below.refl _ _).alloc (Nat.le_refl _) (.cells #[.int .i64 ys, .int .i64 d] 39))) k1.below) (only_setCell (World.grownBy.refl k1.w (some (w.heap.size + 1))) (p := ⟨w.heap.size + 1, d, none⟩) (.inl rfl) (.bool true)) (.inr (by simp [Value.ownBlock]; omega)))
              have hszk := k1.size
              simp at hszk
              have hql := HQ.out.2
              go_wp2_with (at_builtin; refine wpList_append_new rfl _ _ _ rfl (w.heap.size + 2) _ i0 _ 1 8 Try.underlying28 hii hz0 hz1 hz2 rfl (by decide) _ (bfsPart E t n hh i).2.length _ rfl HS2.out (Below.refl _ _) (by simp [World.setCell]; omega) _ 1 1 (by rw [show (k1.w.setCell ⟨w.heap.size + 1, d, none⟩ (.bool true)).heap.size = k1.w.heap.size by simp [World.setCell]]; rfl) rfl (by intro u hu; simp at hu; subst hu; rfl) ⟨by omega, by omega⟩ ?_; intro v1 w1 hown1 hbb1 hg1 hat1; have HO1 := Lib.hid hown1; have HG1 := Lib.hid (show World.grownBy _ w1 (some b6) from hg1); clear hown1 hbb1 hg1 hat1)
              go_roundw
              case rel =>
                have hrow := ((HROW.out.of_block (Below.heap_alloc wr (.cells #[.int .i64 ys, .int .i64 d] 39) _ hrl)).of_block (k1.below.block _ (by simp; omega))).set d (.bool true)
                have hblk := ((HBLK.out.alloc (.cells #[.int .i64 ys, .int .i64 d] 39)).belowV k1.below).far (p := ⟨w.heap.size + 1, d, none⟩) (by simp) (.bool true)
                have hbw : Below w.heap.size w (k1.w.setCell ⟨w.heap.size + 1, d, none⟩ (.bool true)) := (Below.calm (hb.alloc hb.size _) (by simp; omega)).setCell (by simp) _
                refine ⟨i + 1, by omega, by go_num, ?_, ?_, ?_, ?_⟩
                · rw [HP.out]
                  refine Lib.hid ?_
                  have e1 : ((bfsPart E t n hh i).2 ++ [(d : Int)]).length = (bfsPart E t n hh i).2.length + 1 := by simp
                  have e2 : intsV ((bfsPart E t n hh i).2 ++ [(d : Int)]) = intsV (bfsPart E t n hh i).2 ++ [.int .i64 d] := by rw [intsV_append]; rfl
                  simp only [e1, e2]
                  exact HO1.out
                · rw [HP.out]
                  refine Lib.hid (((hrow.of_block (Below.heap_alloc _ (.cells #[.int .i64 d] 3) _ (by simp [World.setCell]; omega))).of_block (HG1.out.block _ (by simp [World.setCell]; omega) (by simp; omega))).congr (fun j hj => ?_))
                  rw [getD_setB (by rw [HQ.out.1]; omega)]
                  by_cases e : j = d
                  · rw [if_pos e, if_pos e]
                  · rw [if_neg e, if_neg e]
                · exact Lib.hid ((hblk.alloc _).grown HG1.out (by simp; omega))
                · exact (hbw.alloc (by have := hbw.size; omega) _).grown HG1.out (by have := hbw.size; simp; omega) (fun g hg => by simp at hg; omega)
              case measure => simp [intOf]; omega
            | true =>
              have HP := Lib.hid (show bfsPart E t n hh (i + 1) = bfsPart E t n hh i by rw [HB.out, bfsEdge, if_neg (fun h => by have := HBB.out.trans h.2; cases this)])
              clear HB hs
              go_wp2
              first | refine wp_region_calm_on (by kernel_rfl) (by kernel_rfl) ?_ | refine wp_region_calm_lit (by kernel_rfl) (by kernel_rfl) ?_
              repeat (go_big_quiet_step (fail))
              refine wpQuiet_nil ?_
              intro _ hw'
              obtain ⟨k1, hw''⟩ := hw'
              subst hw''
              go_wp2
              go_roundw
              case rel => exact ⟨i + 1, by omega, by go_num, by rw [HP.out]; exact Lib.hid (own_below (own_below HOWN.out ((Below.refl _ _).alloc (Nat.le_refl _) _)) k1.below), by rw [HP.out]; exact Lib.hid ((HROW.out.of_block (Below.heap_alloc _ _ _ hrl)).of_block (k1.below.block _ (by simp; omega))), Lib.hid ((HBLK.out.alloc _).belowV k1.below), Below.calm (hb.alloc hb.size _) (by simp; omega)⟩
              case measure => simp [intOf]; omega
          · have t0 : (ys == C) = false := by simp [hs]
            have HP := Lib.hid (show bfsPart E t n hh (i + 1) = bfsPart E t n hh i by rw [HB.out, bfsEdge, if_neg (fun h => hs h.1)])
            clear HB hs
            go_wp2
            first | refine wp_region_calm_on (by kernel_rfl) (by kernel_rfl) ?_ | refine wp_region_calm_lit (by kernel_rfl) (by kernel_rfl) ?_
            repeat (go_big_quiet_step (fail))
            refine wpQuiet_nil ?_
            intro _ hw'
            obtain ⟨k1, hw''⟩ := hw'
            subst hw''
            go_wp2
            go_roundw
            case rel => exact ⟨i + 1, by omega, by go_num, by rw [HP.out]; exact Lib.hid (own_below (own_below HOWN.out ((Below.refl _ _).alloc (Nat.le_refl _) _)) k1.below), by rw [HP.out]; exact Lib.hid ((HROW.out.of_block (Below.heap_alloc _ _ _ hrl)).of_block (k1.below.block _ (by simp; omega))), Lib.hid ((HBLK.out.alloc _).belowV k1.below), Below.calm (hb.alloc hb.size _) (by simp; omega)⟩
            case measure => simp [intOf]; omega
        · have HP := Lib.hid (bfsPart_full (E := E) (t := t) (n := n) (h := hh) (i := i) (by omega))
          have HN := Lib.hid (bfs_len HI.out t (hh + 1) HH2.out).2.2
          go_wp2
          go_roundw
          case rel => exact ⟨hh + 1, by go_num, HH2, by have := HN.out; omega, by rw [← HP.out]; exact HOWN, by rw [← HP.out]; exact HROW, HBLK, hb⟩
          case measure => simp [intOf]; omega
    · have HX := Lib.hid (fromR_of HI.out t hh HH.out (by omega))
      have HL := Lib.hid (bfs_len HI.out t hh HH.out).1
      obtain ⟨A6, c6, rfl, hnc6, hcm6⟩ := (Rd.of_own HOWN.out).shape
      unfold maxLen at hcm6
      go_wp2
      go_ret
      refine ⟨_, rfl, ?_, hb⟩
      refine own_of_fun (cap := n) (by rw [Nat.mul_one]; exact HROW.out) (by omega) (Nat.le_refl _) (by unfold maxLen; omega) (by rw [boolsV_length, ← HX.out, HL.out, Nat.mul_one]) (fun j v hv => ?_)
      rw [HX.out]
      simp only [boolsV, List.getElem?_map, Option.map_eq_some_iff] at hv
      obtain ⟨m, hm, rfl⟩ := hv
      rw [List.getD_eq_getElem?_getD, hm]
      rfl
end Go.Proofs.Ytbbjkldkjndfaaa

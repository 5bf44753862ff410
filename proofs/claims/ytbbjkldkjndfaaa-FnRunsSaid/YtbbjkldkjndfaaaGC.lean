/- Parts of a proof, one behind the other: EdgK, PlanK, FaultP, TskK, RunK, RowT. No conditions. -/
import Derived.Test.YtbbjkldkjndfaaaGA
import Derived.Test.YtbbjkldkjndfaaaRows
import Derived.Test.YtbbjkldkjndfaaaGB
import Derived.WalkKit
/- Edges: slices of them, the law's own functions on these. -/
namespace Go.Proofs.Ytbbjkldkjndfaaa
open Go.RowKit Go.ChangeShapes Go.WideShapes Go.ChangeAt Go.Deep

def Edg.cs (e : Edg) : List Value := [.int .i64 e.src, .int .i64 e.dst]
def edgV (l : List Edg) : List Value := l.flatMap Edg.cs
theorem edgV_length (l : List Edg) : (edgV l).length = l.length * 2 := flat_length Edg.cs 2 (fun _ => rfl) l
theorem edgV_at {l : List Edg} {k : Nat} (h : k < l.length) (f : Nat) (hf : f < 2) : (edgV l)[k * 2 + f]? = (l[k].cs)[f]? := flat_at Edg.cs 2 (fun _ => rfl) l k h f hf
theorem edgV_one (l : List Edg) : ∀ u ∈ edgV l, u.oneCell' = true := by
  intro u hu
  obtain ⟨e, _, he⟩ := List.mem_flatMap.1 hu
  simp only [Edg.cs, List.mem_cons, List.not_mem_nil, or_false] at he
  rcases he with rfl | rfl <;> rfl
theorem edgV_append (a b : List Edg) : edgV (a ++ b) = edgV a ++ edgV b := by simp [edgV]
theorem Try.infoEdg : (Try.prog.info? 39).map (fun i => (i.zero, i.size, i.bytes)) = some (some (.agg #[.int .i64 0, .int .i64 0]), 2, 16) := by kernel_rfl
/-- The cells of an element, read. -/
theorem edg_cells {w w0 : World} {b off : Nat} {l : List Edg} (hb : Below w0.heap.size w0 w) (hbl : b < w0.heap.size) (hc : ∀ j u, (edgV l)[j]? = some u → w0.cell? ⟨b, off + j, none⟩ = some u) {k : Nat} (hk : k < l.length) (x : Edg) (hx : x = l[k]) :
    w.cell? ⟨b, off + k * 2, none⟩ = some (.int .i64 x.src) ∧ w.cell? ⟨b, off + k * 2 + 1, none⟩ = some (.int .i64 x.dst) := by
  have h := fun f hf => (hb.cell (p := ⟨b, off + (k * 2 + f), none⟩) hbl).trans (hc (k * 2 + f) _ ((edgV_at hk f hf).trans (List.getElem?_eq_getElem hf)))
  rw [← hx] at h
  exact ⟨h 0 (by decide), h 1 (by decide)⟩

set_option maxRecDepth 100000 in
theorem toEdge_any (x : Edg) (w : World) : Calls Try.prog 107 #[(.agg #[.int .i64 x.src, .int .i64 x.dst])] w fun e w' => e = .returned (.agg #[.int .i64 x.src, .int .i64 x.dst]) ∧ Below w.heap.size w w' := by
  go_enter Try.func107, Try.ntmps107
  go_wp2
  exact bodyPost_ret (v := (.agg #[.int .i64 x.src, .int .i64 x.dst])) (by simp [results, Try.results107, go_sem]) rfl ⟨rfl, (by repeat first | exact Below.refl _ _ | assumption | refine Below.drew ?_ | refine below_drewN ?_ _ | refine Below.calm ?_ (by first | exact Nat.le_refl _ | (simp; done) | (simp; omega) | omega) | refine Below.alloc ?_ (by first | exact Nat.le_refl _ | (simp; done) | (simp; omega) | omega) _ | refine Below.setCell ?_ (by first | exact Nat.le_refl _ | (simp; done) | (simp; omega) | omega) _)⟩
set_option maxRecDepth 100000 in
theorem eqEdge_any (x : Edg) (w : World) : Calls Try.prog 108 #[(.agg #[.int .i64 x.src, .int .i64 x.dst]), (.agg #[.int .i64 x.src, .int .i64 x.dst])] w fun e w' => e = .returned (.bool true) ∧ Below w.heap.size w w' := by
  go_enter Try.func108, Try.ntmps108
  go_wp2
  go_ret
  exact ⟨rfl, (by repeat first | exact Below.refl _ _ | assumption | refine Below.drew ?_ | refine below_drewN ?_ _ | refine Below.calm ?_ (by first | exact Nat.le_refl _ | (simp; done) | (simp; omega) | omega) | refine Below.alloc ?_ (by first | exact Nat.le_refl _ | (simp; done) | (simp; omega) | omega) _ | refine Below.setCell ?_ (by first | exact Nat.le_refl _ | (simp; done) | (simp; omega) | omega) _)⟩

set_option maxRecDepth 100000 in
theorem szEdgeS_any (v : Value) (l : List Edg) (left : Int) (w : World) (h : Rd w 2 v l.length (edgV l)) (h0 : 0 ≤ left) (h1 : left ≤ 1048576) :
    Calls Try.prog 71 #[v, .int .i64 left] w fun e w' => e = .returned (.int .i64 (szv left l.length)) ∧ w = w' := by
  obtain ⟨A, c, rfl, hnc, hcm⟩ := h.shape
  unfold maxLen at hcm
  unfold szv
  by_cases hneg : left - l.length < 0
  · rw [if_pos hneg]
    go_enter Try.func71, Try.ntmps71
    go_wp2
    go_ret
    exact ⟨rfl, rfl⟩
  · rw [if_neg hneg]
    go_enter Try.func71, Try.ntmps71
    go_wp2
    go_ret
    exact ⟨rfl, rfl⟩

theorem fill_edg {w : World} {g n : Nat} {t : TypeId} {z : Value} {l : List Edg} {k : Nat} (hk : k < l.length) (x : Edg) (hx : x = l[k]) (h : w.rowIs g t n (fun j => if j < k * 2 then (edgV l).getD j z else z)) :
    ((w.setCell ⟨g, k * 2, none⟩ (.int .i64 x.src)).setCell ⟨g, k * 2 + 1, none⟩ (.int .i64 x.dst)).rowIs g t n (fun j => if j < (k + 1) * 2 then (edgV l).getD j z else z) :=
  ((h.set (k * 2) _).set (k * 2 + 1) _).congr (fun j _ => by
    have e := fun f hf => edgV_at hk f hf
    rw [← hx] at e
    by_cases h1 : j = k * 2 + 1
    · subst h1; rw [if_pos rfl, if_pos (by omega), List.getD_eq_getElem?_getD, e 1 (by decide)]; rfl
    rw [if_neg h1]
    by_cases h0 : j = k * 2
    · subst h0; rw [if_pos rfl, if_pos (by omega), List.getD_eq_getElem?_getD]; have := e 0 (by decide); rw [Nat.add_zero] at this; rw [this]; rfl
    rw [if_neg h0]
    by_cases hb : j < k * 2
    · rw [if_pos hb, if_pos (by omega)]
    · rw [if_neg hb, if_neg (by omega)])

set_option maxHeartbeats 1000000 in
set_option maxRecDepth 100000 in
theorem toEdgeS_any (v : Value) (l : List Edg) (w : World) (h : Rd w 2 v l.length (edgV l)) (hn : l.length ≤ 1048576) :
    Calls Try.prog 72 #[v] w (MadeRow w 39 2 l.length (edgV l)) := by
  obtain ⟨A, c, rfl, hnc, hcm⟩ := h.shape
  obtain ⟨i0, hi, hz0, hz1, hz2⟩ := info_parts Try.infoEdg
  unfold maxLen at hcm
  have hmk := fun W => run_make_rowN (P := Try.prog) 24 39 i0 _ Try.underlying24 hi hz0 .i64 .i64 l.length l.length (Nat.le_refl _) (by rw [hz2]; omega) (by omega) W
  rw [hz1] at hmk
  go_enter Try.func72, Try.ntmps72
  go_wp2
  clear hmk
  go_loopw [4] (fun u4 wr => ∃ k : Nat, k ≤ l.length ∧ u4 = .int .i64 k ∧ wr.rowIs w.heap.size 39 (l.length * 2) (fun j => if j < k * 2 then (edgV l).getD j (.int .i64 0) else .int .i64 0) ∧ Below w.heap.size w wr) (fun u4 _ => l.length - (intOf u4).toNat)
  case atStart => exact ⟨0, Nat.zero_le _, rfl, (rowIs_madeN _ _ _ _).congr (fun j _ => by
      rw [if_neg (by omega)]
      have : j % 2 = 0 ∨ j % 2 = 1 := by omega
      show #[Value.int .i64 0, Value.int .i64 0][j % 2]! = _
      rcases this with h | h <;> rw [h] <;> rfl), (Below.refl _ _).alloc (Nat.le_refl _) _⟩
  case round =>
    obtain ⟨k, hk, rfl, hrow, hb⟩ := hrel
    by_cases hlt : k < l.length
    · obtain ⟨b, off, c', hv, _, _, hbl, hc⟩ := h.form (by omega) (by omega)
      have hA : A = some ⟨b, off, none⟩ := by injection hv
      subst hA
      obtain ⟨x, hx⟩ : ∃ x, x = l[k] := ⟨_, rfl⟩
      obtain ⟨d0, d1⟩ := edg_cells hb hbl hc hlt x hx
      have HF := Lib.hid (fun (W : World) (hr : W.rowIs w.heap.size 39 (l.length * 2) (fun j => if j < k * 2 then (edgV l).getD j (.int .i64 0) else .int .i64 0)) => fill_edg hlt x hx hr)
      clear hv hc hx
      have CT := Lib.hid (fun w => toEdge_any x w)
      have HROW := Lib.hid hrow
      clear hrow
      go_wp2_with (go_at_call 107; refine (CT.out _).mono ?_; rintro e w1 ⟨rfl, hb1⟩; have hrow1 := HROW.out.of_block (hb1.block _ HROW.out.lt); have s0 := hrow1.cell (i := k * 2) (by omega); have s1 := hrow1.cell (i := k * 2 + 1) (by omega); have z0 := hrow1.frozen (k * 2); have z1 := hrow1.frozen (k * 2 + 1); have HR1 := Lib.hid hrow1; clear hrow1)
      go_roundw
      case rel => exact ⟨k + 1, by omega, by go_num, HF.out _ HR1.out, (((hb.trans (hb1.mono hb.size)).setCell (Nat.le_refl _) _).setCell (Nat.le_refl _) _)⟩
      case measure => simp [intOf]; omega
    · obtain rfl : k = l.length := by omega
      have HO := Lib.hid (own_of_rowIs (base := w.heap.size) (size := 2) (n := l.length) hrow (Nat.le_refl _) (by unfold maxLen; omega))
      have HX := Lib.hid (show (List.range (l.length * 2)).map (fun j => if j < l.length * 2 then (edgV l).getD j (.int .i64 0) else .int .i64 0) = edgV l by
        apply List.ext_getElem
        · rw [List.length_map, List.length_range, edgV_length]
        · intro i h1 h2
          have hi : i < l.length * 2 := by simpa using h1
          rw [List.getElem_map, List.getElem_range, if_pos hi, List.getD_eq_getElem?_getD, List.getElem?_eq_getElem h2]
          rfl)
      clear hrow
      go_wp2
      go_ret
      exact ⟨_, rfl, by rw [← HX.out]; exact HO.out, hb⟩

set_option maxHeartbeats 1000000 in
set_option maxRecDepth 100000 in
theorem eqEdgeS_any (v u : Value) (l : List Edg) (w : World) (h1 : Rd w 2 v l.length (edgV l)) (h2 : Rd w 2 u l.length (edgV l)) :
    Calls Try.prog 73 #[v, u] w fun e w' => e = .returned (.bool true) ∧ Below w.heap.size w w' := by
  obtain ⟨A1, c1, rfl, hnc1, hcm1⟩ := h1.shape
  obtain ⟨A2, c2, rfl, hnc2, hcm2⟩ := h2.shape
  unfold maxLen at hcm1 hcm2
  go_enter Try.func73, Try.ntmps73
  go_wp2
  go_loopw [5] (fun i wr => ∃ k : Nat, k ≤ l.length ∧ i = .int .i64 k ∧ Below w.heap.size w wr) (fun i _ => l.length - (intOf i).toNat)
  case atStart => exact ⟨0, Nat.zero_le _, rfl, Below.refl _ _⟩
  case round =>
    obtain ⟨k, hk, rfl, hb⟩ := hrel
    by_cases hlt : k < l.length
    · obtain ⟨b1, o1, _, hv1, _, _, hl1, hc1⟩ := h1.form (by omega) (by omega)
      obtain ⟨b2, o2, _, hv2, _, _, hl2, hc2⟩ := h2.form (by omega) (by omega)
      have hA1 : A1 = some ⟨b1, o1, none⟩ := by injection hv1
      have hA2 : A2 = some ⟨b2, o2, none⟩ := by injection hv2
      subst hA1 hA2
      obtain ⟨x, hx⟩ : ∃ x, x = l[k] := ⟨_, rfl⟩
      obtain ⟨d0, d1⟩ := edg_cells hb hl1 hc1 hlt x hx
      obtain ⟨e0, e1⟩ := edg_cells hb hl2 hc2 hlt x hx
      have hb1 : b1 < wr.heap.size := Nat.lt_of_lt_of_le hl1 hb.size
      have hb2 : b2 < wr.heap.size := Nat.lt_of_lt_of_le hl2 hb.size
      have hk0 : (0 : Int) ≤ (k : Int) := by omega
      have hk1 : (k : Int) < (l.length : Int) := by omega
      have CE := Lib.hid (fun w => eqEdge_any x w)
      clear hx hv1 hv2 hc1 hc2
      go_wp2
      first | refine wp_region_calm_on (by kernel_rfl) (by kernel_rfl) ?_ | refine wp_region_calm_lit (by kernel_rfl) (by kernel_rfl) ?_
      repeat (go_big_quiet_step ((go_at_call 108; exact calm_of (CE.out _))))
      refine wpQuiet_nil ?_
      intro _ hw'
      obtain ⟨k1, hw''⟩ := hw'
      subst hw''
      go_wp2
      go_roundw
      case rel => exact ⟨k + 1, by omega, by go_num, Below.calm hb hb.size⟩
      case measure => simp [intOf]; omega
    · go_wp2
      go_ret
      exact ⟨rfl, hb⟩

set_option maxHeartbeats 1000000 in
set_option maxRecDepth 100000 in
theorem heldEdgeS_any (v : Value) (n : Nat) (k0 : Int) (w : World) (h : Rd w 2 v n (marks mInt k0 (n * 2))) (h0 : 0 ≤ k0) (h1 : k0 ≤ 20000000) (hn : n ≤ 10000000) :
    Calls Try.prog 114 #[v, .int .i64 k0] w fun e w' => e = .returned (.int .i64 (k0 + ((n * 2 : Nat) : Int))) ∧ w = w' := by
  obtain ⟨A1, c1, rfl, hnc1, hcm1⟩ := h.shape
  unfold maxLen at hcm1
  go_enter Try.func114, Try.ntmps114
  go_wp2
  go_loop [5, 1] (fun u5 u1 => ∃ k : Nat, k ≤ n ∧ u5 = .int .i64 k ∧ u1 = .int .i64 (k0 + ((k * 2 : Nat) : Int))) (fun u5 _ => n - (intOf u5).toNat)
  case atStart => exact ⟨0, Nat.zero_le _, rfl, by go_num⟩
  case round =>
    obtain ⟨k, hk, rfl, rfl⟩ := hrel
    by_cases hlt : k < n
    · obtain ⟨b1, o1, _, hv1, _, _, hl1, hc1⟩ := h.form (by omega) (by omega)
      have hA1 : A1 = some ⟨b1, o1, none⟩ := by injection hv1
      subst hA1
      have hx := fun f (hf : f < 2) => hc1 (k * 2 + f) _ (marks_at mInt k0 (show k * 2 + f < n * 2 by omega))
      obtain ⟨q, hq⟩ : ∃ q, q = k0 + ((k * 2 : Nat) : Int) := ⟨_, rfl⟩
      have d0 : w.cell? ⟨b1, o1 + k * 2, none⟩ = some (.int .i64 q) := by rw [hq]; exact hx 0 (by decide)
      have d1 : w.cell? ⟨b1, o1 + k * 2 + 1, none⟩ = some (.int .i64 (q + 1)) := by rw [hq, show k0 + ((k * 2 : Nat) : Int) + 1 = k0 + ((k * 2 + 1 : Nat) : Int) by omega]; exact hx 1 (by decide)
      have hq0 : q ≤ 60000000 := by omega
      have hq1 : 0 ≤ q := by omega
      have HQ := Lib.hid hq
      rw [← hq]
      clear hv1 hc1 hx hq
      go_wp2
      go_round
      case rel => exact ⟨k + 1, by omega, by go_num, by rw [HQ.out]; congr 1; omega⟩
      case measure => simp [intOf]; omega
    · obtain rfl : k = n := by omega
      go_wp2
      go_ret
      exact ⟨rfl, rfl⟩

theorem mark_at_edg {w : World} {g n : Nat} {t : TypeId} {k0 : Int} {f : Nat → Value} {k : Nat} (q : Int) (hq : q = k0 + ((k * 2 : Nat) : Int)) (h : w.rowIs g t n (fun j => if j < k * 2 then mInt (k0 + j) else f j)) :
    ((w.setCell ⟨g, k * 2, none⟩ (.int .i64 (q))).setCell ⟨g, k * 2 + 1, none⟩ (.int .i64 (q + 1))).rowIs g t n (fun j => if j < (k + 1) * 2 then mInt (k0 + j) else f j) :=
  ((h.set (k * 2) _).set (k * 2 + 1) _).congr (fun j _ => by
    subst hq
    by_cases h1 : j = k * 2 + 1
    · subst h1; rw [if_pos rfl, if_pos (by omega)]; show Value.int .i64 _ = .int .i64 _; (first | rfl | (congr 1; omega))
    rw [if_neg h1]
    by_cases h0 : j = k * 2
    · subst h0; rw [if_pos rfl, if_pos (by omega)]; show Value.int .i64 _ = .int .i64 _; (first | rfl | (congr 1; omega))
    rw [if_neg h0]
    by_cases hb : j < k * 2
    · rw [if_pos hb, if_pos (by omega)]
    · rw [if_neg hb, if_neg (by omega)])

set_option maxHeartbeats 1000000 in
set_option maxRecDepth 100000 in
theorem markEdgeS_any (v : Value) (n base : Nat) (xs : List Value) (k0 : Int) (w : World) (h : w.ownsRow base 39 2 v n xs) (h0 : 0 ≤ k0) (h1 : k0 ≤ 20000000) (hn : n ≤ 10000000) :
    Calls Try.prog 74 #[v, .int .i64 k0] w (Marked w base 39 2 n v mInt k0) := by
  by_cases hz : n = 0
  · subst hz
    have hx : xs = [] := List.eq_nil_of_length_eq_zero (by simpa using h.1)
    subst hx
    obtain ⟨A1, c1, rfl, hnc1, hcm1⟩ := (Rd.of_own h).shape
    have H := Lib.hid h
    clear h
    go_enter Try.func74, Try.ntmps74
    go_wp2
    refine wp_loop_rounds 1 ?_
    rw [rounds_succ]
    go_wp2
    go_ret
    exact ⟨ret_int (by simp), by simpa [marks] using H.out, World.grownBy.refl _ _⟩
  · obtain ⟨g, cap, f, rfl, hg, hcap, hcm, hrow0, _⟩ := rowIs_of_own h (by omega)
    unfold maxLen at hcm
    go_enter Try.func74, Try.ntmps74
    go_wp2
    go_loopw [5, 1] (fun u5 u1 wr => ∃ k : Nat, k ≤ n ∧ u5 = .int .i64 k ∧ u1 = .int .i64 (k0 + ((k * 2 : Nat) : Int)) ∧ wr.rowIs g 39 (cap * 2) (fun j => if j < k * 2 then mInt (k0 + j) else f j) ∧ w.grownBy wr (some g)) (fun u5 _ _ => n - (intOf u5).toNat)
    case atStart => exact ⟨0, Nat.zero_le _, rfl, by go_num, hrow0.congr (fun i hi => by simp), World.grownBy.refl _ _⟩
    case round =>
      obtain ⟨k, hk, rfl, rfl, hrow, hgr⟩ := hrel
      by_cases hlt : k < n
      · obtain ⟨q, hq⟩ : ∃ q, q = k0 + ((k * 2 : Nat) : Int) := ⟨_, rfl⟩
        have HM := Lib.hid (mark_at_edg q hq hrow)
        have s0 := hrow.cell (i := k * 2) (by omega)
        have s1 := hrow.cell (i := k * 2 + 1) (by omega)
        have z0 := hrow.frozen (k * 2)
        have z1 := hrow.frozen (k * 2 + 1)
        have hq0 : q ≤ 60000000 := by omega
        have hq1 : 0 ≤ q := by omega
        have HQ := Lib.hid hq
        rw [← hq]
        clear hq hrow hrow0
        go_wp2
        go_roundw
        case rel =>
          refine ⟨k + 1, by omega, by go_num, by rw [HQ.out]; congr 1; omega, ?_, (only_setCell (only_setCell hgr (.inl rfl) _) (.inl rfl) _)⟩
          exact HM.out
        case measure => simp [intOf]; omega
      · obtain rfl : k = n := by omega
        have HO := Lib.hid (own_of_rowIs_cap (base := base) (size := 2) (n := k) (cap := cap) hrow hg hcap (by unfold maxLen; omega))
        have HX := Lib.hid (show (List.range (k * 2)).map (fun j => if j < k * 2 then mInt (k0 + j) else f j) = marks mInt k0 (k * 2) by
          apply List.map_congr_left
          intro j hj
          rw [if_pos (by simpa using hj)])
        clear hrow hrow0
        go_wp2
        go_ret
        exact ⟨rfl, by rw [← HX.out]; exact HO.out, hgr⟩

def Rd_edgs (w : World) (v : Value) (l : List Edg) : Prop := Rd w 2 v l.length (edgV l)
def Own_edgs (w : World) (lo hi : Nat) (v : Value) (l : List Edg) : Prop := OwnS w lo hi 39 2 v l.length (edgV l)
def Held_edgs (w : World) (lo hi : Nat) (v : Value) (n : Nat) (k : Int) : Prop := OwnS w lo hi 39 2 v n (marks mInt k (n * 2))
/-- An argument's slice, read. -/
theorem Try.cellsEdge : Try.prog.cellsOf 108 = 2 := by kernel_rfl
section
variable {H : Type} {enc : TypeId × Value → H} {W : World}
theorem edgs_read {fuel : Nat} {u : Value} {y : DataW H × List MemPlace} (hf : DataW.trod enc Try.prog W 0 (fun _ => true) true fuel 40 [u] = some y) : ∃ l, Rd_edgs W u l := by
  rcases open_slice_fields Try.underlying40 Try.underlying108 (by kernel_rfl) Try.cellsEdge hf with ⟨hcs, _⟩ | ⟨a, len, c, m, D, Pl, hcs, _, hl, hm, hmm, hx, hi⟩
  · simp at hcs
    subst hcs
    exact ⟨[], ⟨none, 0, rfl, Nat.le_refl _, Nat.zero_le _, Reads.none_⟩⟩
  · simp at hcs
    subst hcs
    have hml : len ≤ m := by rw [hmm, if_pos rfl]; exact hl
    have key : ∀ i, ∃ x : Edg, i < len → ∀ f u, x.cs[f]? = some u → W.cell? (a.add (i * 2 + f)) = some u := by
      intro i
      by_cases hil : i < len
      · obtain ⟨ys, n, _, _, _, hcell⟩ := hi i (by omega)
        obtain ⟨v0, y0, g0, _, t0⟩ := hcell 0 _ rfl
        obtain ⟨v1, y1, g1, _, t1⟩ := hcell 1 _ rfl
        obtain ⟨n0, e0, _, _⟩ := DataW.trod_int Try.underlying3 t0
        obtain ⟨n1, e1, _, _⟩ := DataW.trod_int Try.underlying3 t1
        simp at e0 e1
        subst e0 e1
        refine ⟨⟨n0, n1⟩, fun _ f u hu => ?_⟩
        have hf4 : f < 2 := (List.getElem?_eq_some_iff.1 hu).1
        have : f = 0 ∨ f = 1 := by omega
        rcases this with rfl | rfl <;> (simp only [Edg.cs, List.getElem?_cons_zero, List.getElem?_cons_succ, Option.some.injEq] at hu; subst hu; assumption)
      · exact ⟨⟨0, 0⟩, fun h => absurd h hil⟩
    obtain ⟨E, hE⟩ := Classical.axiomOfChoice key
    have hlen : ((List.range len).map E).length = len := by simp
    refine ⟨(List.range len).map E, ?_⟩
    unfold Rd_edgs
    rw [hlen]
    refine ⟨some a, c, rfl, hl, hm, by rw [edgV_length, hlen], fun hn => ⟨a, rfl, ?_, fun j u hu => ?_⟩⟩
    · have h0 := hE 0 (by omega) 0 _ rfl
      have := World.block_lt_of_cell? W _ h0
      rwa [block_of_add] at this
    · have hj : j < len * 2 := by
        rcases Nat.lt_or_ge j (len * 2) with h | h
        · exact h
        · rw [List.getElem?_eq_none (by rw [edgV_length, hlen]; exact h)] at hu; cases hu
      have hq : j = j / 2 * 2 + j % 2 := by omega
      have hk : j / 2 < ((List.range len).map E).length := by rw [hlen]; omega
      rw [hq, edgV_at hk (j % 2) (by omega)] at hu
      rw [hq]
      exact hE (j / 2) (by omega) _ _ (by simpa using hu)
end
end Go.Proofs.Ytbbjkldkjndfaaa

/- Plans: copies, sizes, comparisons and marks of the laws. -/
namespace Go.Proofs.Ytbbjkldkjndfaaa
set_option linter.unusedSimpArgs false
set_option maxRecDepth 100000
open Go.RowKit Go.ChangeShapes Go.WideShapes Go.ChangeAt Go.Deep Go.Joins

structure Pln where
  prio : Int
  most : Int
  wait : Int
  tasks : Int
  edges : List Edg
def cost_plan (x : Pln) : Nat := x.edges.length
def cells_plan (x : Pln) : Nat := x.edges.length * 2
theorem cells_le_plan (x : Pln) : cells_plan x ≤ 4 * cost_plan x := by unfold cells_plan cost_plan; omega
def Rd_plan (w : World) (u : Value) (x : Pln) : Prop := Rd_edgs w u x.edges
def Own_plan (w : World) (lo hi : Nat) (u : Value) (x : Pln) : Prop := Own_edgs w lo hi u x.edges
def Held_plan (w : World) (lo hi : Nat) (u : Value) (x : Pln) (k : Int) : Prop := Held_edgs w lo hi u x.edges.length k
section
variable {w w' : World} {lo hi lo' hi' : Nat} {u : Value} {x : Pln} {k : Int}
theorem Rd_plan.below (h : Rd_plan w u x) (hb : Below w.heap.size w w') : Rd_plan w' u x := Rd.below h hb
theorem Own_plan.rd (h : Own_plan w lo hi u x) : Rd_plan w u x := OwnS.rd h
theorem Own_plan.below (h : Own_plan w lo hi u x) (hb : Below w.heap.size w w') : Own_plan w' lo hi u x := OwnS.below h hb
theorem Own_plan.keep (h : Own_plan w lo hi u x) (hp : Part lo' hi' w w') (ha : hi ≤ lo' ∨ hi' ≤ lo) : Own_plan w' lo hi u x := OwnS.keep h hp ha
theorem Held_plan.below (h : Held_plan w lo hi u x k) (hb : Below w.heap.size w w') : Held_plan w' lo hi u x k := OwnS.below h hb
theorem Held_plan.keep (h : Held_plan w lo hi u x k) (hp : Part lo' hi' w w') (ha : hi ≤ lo' ∨ hi' ≤ lo) : Held_plan w' lo hi u x k := OwnS.keep h hp ha
theorem Rd_plan.form (h : Rd_plan w u x) : ∃ A c, u = .slice A x.edges.length c ∧ x.edges.length ≤ c ∧ c ≤ maxLen := Rd.shape h
theorem Own_plan.form (h : Own_plan w lo hi u x) : ∃ A c, u = .slice A x.edges.length c := by
  obtain ⟨A, c, h, -, -⟩ := h.rd.form
  exact ⟨A, c, h⟩
end
/-- A plan's value. -/
def planV (x : Pln) (u : Value) : Value := .agg #[.int .i64 x.prio, .int .i64 x.most, .int .i64 x.wait, .int .i64 x.tasks, u]
/-- What a call leaves that hands back a plan of its own. -/
def GivesP (x : Pln) (w0 : World) (e : Ending) (w' : World) : Prop := ∃ u, e = .returned (.agg #[.int .i64 x.prio, .int .i64 x.most, .int .i64 x.wait, .int .i64 x.tasks, u]) ∧ Own_plan w' w0.heap.size w'.heap.size u x ∧ Below w0.heap.size w0 w'

set_option maxRecDepth 100000 in
theorem sz_plan (u : Value) (x : Pln) (left : Int) (w : World) (h : Rd_plan w u x) (h0 : 0 ≤ left) (h1 : left ≤ 1048576) :
    Calls Try.prog 28 #[.agg #[.int .i64 x.prio, .int .i64 x.most, .int .i64 x.wait, .int .i64 x.tasks, u], .int .i64 left] w fun e w' => e = .returned (.int .i64 (szv left (cost_plan x))) ∧ Below w.heap.size w w' := by
  obtain ⟨x1, x2, x3, x4, es⟩ := x
  obtain ⟨W0, hW0⟩ : ∃ W0, W0 = w.alloc (.cells #[.int .i64 x1, .int .i64 x2, .int .i64 x3, .int .i64 x4, u] 42) := ⟨_, rfl⟩
  have hb0 : Below w.heap.size w W0 := by rw [hW0]; exact (Below.refl _ _).alloc (Nat.le_refl _) _
  have C := Lib.hid (szEdgeS_any u es left W0 (Rd.below h hb0) h0 h1)
  have HW := Lib.hid hW0
  clear hW0 h
  obtain ⟨q, hq⟩ : ∃ q, q = szv left es.length := ⟨_, rfl⟩
  have HQ := Lib.hid (show szv left (cost_plan ⟨x1, x2, x3, x4, es⟩) = q from hq.symm)
  rw [← hq] at C
  rw [HQ.out]
  have hq2 : q < 0 → q = -1 := fun hn => by
    rw [hq] at hn ⊢
    unfold szv at hn ⊢
    split
    · rfl
    · rename_i hh; rw [if_neg hh] at hn; omega
  clear hq HQ
  by_cases hn : q < 0
  · have := hq2 hn
    subst this
    clear hq2
    go_enter Try.func28, Try.ntmps28
    go_wp2_with fail
    rw [← HW.out]
    refine C.out.mono ?_
    rintro e w1 ⟨rfl, rfl⟩
    go_wp2_with fail
    go_ret
    exact ⟨rfl, hb0⟩
  · clear hq2
    go_enter Try.func28, Try.ntmps28
    go_wp2_with fail
    rw [← HW.out]
    refine C.out.mono ?_
    rintro e w1 ⟨rfl, rfl⟩
    go_wp2_with fail
    go_ret
    exact ⟨rfl, hb0⟩

set_option maxHeartbeats 1000000 in
set_option maxRecDepth 100000 in
theorem to_plan (u : Value) (x : Pln) (w : World) (h : Rd_plan w u x) (hn : cost_plan x ≤ 1048576) :
    Calls Try.prog 30 #[.agg #[.int .i64 x.prio, .int .i64 x.most, .int .i64 x.wait, .int .i64 x.tasks, u]] w (GivesP x w) := by
  obtain ⟨x1, x2, x3, x4, es⟩ := x
  unfold cost_plan at hn
  simp only at hn
  have H := Lib.hid h
  clear h
  go_enter Try.func30, Try.ntmps30
  go_wp2_with fail
  refine (toEdgeS_any u es _ (Rd.below H.out (by exact (by repeat' first | (with_reducible exact Below.refl _ _) | (with_reducible assumption) | (with_reducible refine Below.setCell ?_ ?_ _) | (with_reducible refine Below.alloc ?_ ?_ _) | (with_reducible refine Below.drew ?_) | (with_reducible refine below_drewN ?_ _) | (with_reducible refine Below.calm ?_ ?_) | exact Nat.le_refl _ | (simp; done) | (simp; omega) | omega))) (by omega)).mono ?_
  rintro e w1 ⟨u, rfl, ho, hb1⟩
  obtain ⟨A2, c2, rfl, -, -⟩ := (Rd.of_own ho).shape
  obtain ⟨hcc, hff⟩ := bcell hb1
  have HW := Lib.hid ho
  have hbs := hb1.size
  simp at hbs
  clear ho
  go_wp2_with fail
  have hw1 : Below w.heap.size w w1 := Below.trans (by exact (by repeat' first | (with_reducible exact Below.refl _ _) | (with_reducible assumption) | (with_reducible refine Below.setCell ?_ ?_ _) | (with_reducible refine Below.alloc ?_ ?_ _) | (with_reducible refine Below.drew ?_) | (with_reducible refine below_drewN ?_ _) | (with_reducible refine Below.calm ?_ ?_) | exact Nat.le_refl _ | (simp; done) | (simp; omega) | omega)) (hb1.mono (by simp; omega))
  refine bodyPost_ret (v := .agg #[.int .i64 x1, .int .i64 x2, .int .i64 x3, .int .i64 x4, .slice A2 es.length c2]) (by simp [results, Try.results30, go_sem, hcc]) rfl ⟨_, rfl, ?_, (by repeat' first | (with_reducible exact Below.refl _ _) | (with_reducible assumption) | (with_reducible refine Below.setCell ?_ ?_ _) | (with_reducible refine Below.alloc ?_ ?_ _) | (with_reducible refine Below.drew ?_) | (with_reducible refine below_drewN ?_ _) | (with_reducible refine Below.calm ?_ ?_) | exact Nat.le_refl _ | (simp; done) | (simp; omega) | omega)⟩
  have hp : Part (w.heap.size + 1) (w.heap.size + 3) w1 _ := ((((((Part.refl (w.heap.size + 1) (w.heap.size + 3) w1).setCell (p := ⟨w.heap.size + 1 + 1, 4, none⟩) ⟨by simp, by simp⟩ (.slice A2 es.length c2)).setCell (p := ⟨w.heap.size + 1, 0, none⟩) ⟨by simp, by simp⟩ (.int .i64 x1)).setCell (p := ⟨w.heap.size + 1, 1, none⟩) ⟨by simp, by simp⟩ (.int .i64 x2)).setCell (p := ⟨w.heap.size + 1, 2, none⟩) ⟨by simp, by simp⟩ (.int .i64 x3)).setCell (p := ⟨w.heap.size + 1, 3, none⟩) ⟨by simp, by simp⟩ (.int .i64 x4)).setCell (p := ⟨w.heap.size + 1, 4, none⟩) ⟨by simp, by simp⟩ (.slice A2 es.length c2)
  exact OwnS.mono (OwnS.keep (OwnS.of_own HW.out) hp (.inr (by simp))) (by simp; try omega) (by simp [World.setCell]) (Nat.le_refl _)

set_option maxHeartbeats 1000000 in
set_option maxRecDepth 100000 in
theorem eq_plan (u v : Value) (x : Pln) (w : World) (h1 : Rd_plan w u x) (h2 : Rd_plan w v x) :
    Calls Try.prog 32 #[.agg #[.int .i64 x.prio, .int .i64 x.most, .int .i64 x.wait, .int .i64 x.tasks, u], .agg #[.int .i64 x.prio, .int .i64 x.most, .int .i64 x.wait, .int .i64 x.tasks, v]] w fun e w' => e = .returned (.bool true) ∧ Below w.heap.size w w' := by
  obtain ⟨x1, x2, x3, x4, es⟩ := x
  have H1 := Lib.hid h1
  have H2 := Lib.hid h2
  clear h1 h2
  go_enter Try.func32, Try.ntmps32
  go_wp2_with fail
  refine (eqEdgeS_any u v es _ (Rd.below H1.out (by exact (by repeat' first | (with_reducible exact Below.refl _ _) | (with_reducible assumption) | (with_reducible refine Below.setCell ?_ ?_ _) | (with_reducible refine Below.alloc ?_ ?_ _) | (with_reducible refine Below.drew ?_) | (with_reducible refine below_drewN ?_ _) | (with_reducible refine Below.calm ?_ ?_) | exact Nat.le_refl _ | (simp; done) | (simp; omega) | omega))) (Rd.below H2.out (by exact (by repeat' first | (with_reducible exact Below.refl _ _) | (with_reducible assumption) | (with_reducible refine Below.setCell ?_ ?_ _) | (with_reducible refine Below.alloc ?_ ?_ _) | (with_reducible refine Below.drew ?_) | (with_reducible refine below_drewN ?_ _) | (with_reducible refine Below.calm ?_ ?_) | exact Nat.le_refl _ | (simp; done) | (simp; omega) | omega)))).mono ?_
  rintro e w1 ⟨rfl, hb1⟩
  go_wp2_with fail
  go_ret
  exact ⟨rfl, Below.trans (by exact (by repeat' first | (with_reducible exact Below.refl _ _) | (with_reducible assumption) | (with_reducible refine Below.setCell ?_ ?_ _) | (with_reducible refine Below.alloc ?_ ?_ _) | (with_reducible refine Below.drew ?_) | (with_reducible refine below_drewN ?_ _) | (with_reducible refine Below.calm ?_ ?_) | exact Nat.le_refl _ | (simp; done) | (simp; omega) | omega)) (hb1.mono (by simp; omega))⟩

set_option maxRecDepth 100000 in
theorem mark_plan (u : Value) (x : Pln) (lo hi : Nat) (k : Int) (w : World) (h : Own_plan w lo hi u x) (h0 : 0 ≤ k) (h1 : k ≤ 10000000) (hn : cells_plan x ≤ 10000000) :
    Calls Try.prog 33 #[.agg #[.int .i64 x.prio, .int .i64 x.most, .int .i64 x.wait, .int .i64 x.tasks, u], .int .i64 k] w fun e w' => e = .returned (.int .i64 (k + ((cells_plan x : Nat) : Int))) ∧ Held_plan w' lo hi u x k ∧ Part lo hi w w' := by
  obtain ⟨x1, x2, x3, x4, es⟩ := x
  obtain ⟨ho, hh, hy⟩ := h
  have HO := Lib.hid ho
  have hn' : es.length ≤ 10000000 := by unfold cells_plan at hn; simp only at hn; omega
  have HC := Lib.hid (show cells_plan ⟨x1, x2, x3, x4, es⟩ = es.length * 2 from rfl)
  clear ho
  go_enter Try.func33, Try.ntmps33
  go_wp2_with fail
  refine (markEdgeS_any u es.length lo _ k _ (HO.out.alloc _) h0 (by omega) hn').mono ?_
  rintro e w1 ⟨rfl, ho1, hg1⟩
  go_wp2_with fail
  go_ret
  rw [HC.out]
  have hp : Part lo hi w w1 := (Part.of_below ((Below.refl _ _).alloc (Nat.le_refl _) _)).trans (Part.of_grown hg1 fun g hg => ⟨(HO.out.lt g hg).1, hy g hg⟩)
  exact ⟨rfl, ⟨ho1, Nat.le_trans hh hp.size, hy⟩, hp⟩

set_option maxRecDepth 100000 in
theorem held_plan (u : Value) (x : Pln) (lo hi : Nat) (k : Int) (w : World) (h : Held_plan w lo hi u x k) (h0 : 0 ≤ k) (h1 : k ≤ 10000000) (hn : cells_plan x ≤ 10000000) :
    Calls Try.prog 95 #[.agg #[.int .i64 x.prio, .int .i64 x.most, .int .i64 x.wait, .int .i64 x.tasks, u], .int .i64 k] w fun e w' => e = .returned (.int .i64 (k + ((cells_plan x : Nat) : Int))) ∧ Below w.heap.size w w' := by
  obtain ⟨x1, x2, x3, x4, es⟩ := x
  have HR := Lib.hid (OwnS.rd h)
  have hn' : es.length ≤ 10000000 := by unfold cells_plan at hn; simp only at hn; omega
  have HC := Lib.hid (show cells_plan ⟨x1, x2, x3, x4, es⟩ = es.length * 2 from rfl)
  clear h
  obtain ⟨q, hq⟩ : ∃ q, q = k + ((es.length * 2 : Nat) : Int) := ⟨_, rfl⟩
  have hq0 : 0 ≤ q := by omega
  have HQ := Lib.hid hq
  clear hq
  go_enter Try.func95, Try.ntmps95
  go_wp2_with fail
  refine (heldEdgeS_any u es.length k _ (HR.out.below ((Below.refl _ _).alloc (Nat.le_refl _) _)) h0 (by omega) hn').mono ?_
  rw [← HQ.out]
  rintro e w1 ⟨rfl, rfl⟩
  go_wp2_with fail
  go_ret
  rw [HC.out, ← HQ.out]
  exact ⟨rfl, by exact (by repeat' first | (with_reducible exact Below.refl _ _) | (with_reducible assumption) | (with_reducible refine Below.setCell ?_ ?_ _) | (with_reducible refine Below.alloc ?_ ?_ _) | (with_reducible refine Below.drew ?_) | (with_reducible refine below_drewN ?_ _) | (with_reducible refine Below.calm ?_ ?_) | exact Nat.le_refl _ | (simp; done) | (simp; omega) | omega)⟩

theorem Try.cellsPlan : Try.prog.cellsOf 42 = 5 := by kernel_rfl
section
variable {H : Type} {enc : TypeId × Value → H} {W : World} {base : Nat} {d : DataW H} {p : List MemPlace} {v : Value}
def ArgPlan (w : World) (v : Value) : Prop := ∃ u x, v = .agg #[.int .i64 (Pln.prio x), .int .i64 x.most, .int .i64 x.wait, .int .i64 x.tasks, u] ∧ Rd_plan w u x
theorem arg_plan (hv : Value.okWide Try.prog W .any base 42 v) (h : DataW.Trod enc Try.prog W 0 (fun _ => true) true 42 v d p) : ArgPlan W v := by
  obtain ⟨v0, v1, v2, v3, u, y0, y1, y2, y3, y4, n, rfl, _, _, t0, t1, t2, t3, t4⟩ := open_agg5 Try.underlying42 (by kernel_rfl) Try.cellsPlan hv h
  obtain ⟨n0, e0, _, _⟩ := DataW.trod_int Try.underlying3 t0
  obtain ⟨n1, e1, _, _⟩ := DataW.trod_int Try.underlying3 t1
  obtain ⟨n2, e2, _, _⟩ := DataW.trod_int Try.underlying3 t2
  obtain ⟨n3, e3, _, _⟩ := DataW.trod_int Try.underlying3 t3
  simp at e0 e1 e2 e3
  subst e0 e1 e2 e3
  obtain ⟨l, hl⟩ := edgs_read t4
  exact ⟨u, ⟨n0, n1, n2, n3, l⟩, rfl, hl⟩
end
end Go.Proofs.Ytbbjkldkjndfaaa

/- What is wrong with a plan, by plain functions. -/
namespace Go.Proofs.Ytbbjkldkjndfaaa
open Go.RowKit Go.ChangeShapes Go.Deep

def manyB (x : Pln) : Bool := !(inB x.tasks 1 12) || (decide (30 < x.edges.length) || (!(inB x.prio 0 9) || (!(inB x.most 1 5) || !(inB x.wait 1 20))))
def edgeOut (n : Int) (e : Edg) : Bool := !(inB e.src 0 (n - 1)) || !(inB e.dst 0 (n - 1))
def outB (n : Int) : List Edg → Bool
  | [] => false
  | e :: r => edgeOut n e || outB n r
theorem outB_drop {n : Int} {l : List Edg} {k : Nat} (h : k < l.length) : outB n (l.drop k) = (edgeOut n l[k] || outB n (l.drop (k + 1))) := by rw [List.drop_eq_getElem_cons h, outB]
def twiceTo (E : List Edg) : Nat → Bool
  | 0 => false
  | k + 1 => twiceTo E k || (E.take k).contains (E.getD k ⟨0, 0⟩)
theorem twiceTo_mono {E : List Edg} {k m : Nat} (hk : k ≤ m) (h : twiceTo E k = true) : twiceTo E m = true := by
  induction hk with
  | refl => exact h
  | step _ ih => rw [twiceTo, ih]; rfl
/-- Is y reached from x? -/
noncomputable def wayB (E : List Edg) (x y : Int) : Bool := @decide (Way E x y) (Classical.propDecidable _)
theorem wayB_true {E : List Edg} {x y : Int} : wayB E x y = true ↔ Way E x y := by simp [wayB]
theorem wayB_false {E : List Edg} {x y : Int} : wayB E x y = false ↔ ¬ Way E x y := by simp [wayB]
/-- The first k nodes: is one of them reached from itself? -/
noncomputable def cycTo (E : List Edg) : Nat → Bool
  | 0 => false
  | k + 1 => cycTo E k || wayB E k k
theorem cycTo_mono {E : List Edg} {k m : Nat} (hk : k ≤ m) (h : cycTo E k = true) : cycTo E m = true := by
  induction hk with
  | refl => exact h
  | step _ ih => rw [cycTo, ih]; rfl
theorem cycTo_false {E : List Edg} : ∀ {n : Nat}, cycTo E n = false → ∀ t : Nat, t < n → ¬ Way E t t
  | 0, _, t, ht => absurd ht (by omega)
  | n + 1, h, t, ht => by
    rw [cycTo, Bool.or_eq_false_iff] at h
    by_cases e : t = n
    · subst e; exact wayB_false.1 h.2
    · exact cycTo_false h.1 t (by omega)
noncomputable def planFaultR (x : Pln) : Int :=
  if manyB x = true then 1 else if outB x.tasks x.edges = true then 2 else if twiceTo x.edges x.edges.length = true then 3 else if cycTo x.edges x.tasks.toNat = true then 4 else 0
theorem many_false {x : Pln} (h : manyB x = false) : 1 ≤ x.tasks ∧ x.tasks ≤ 12 ∧ x.edges.length ≤ 30 ∧ (0 ≤ x.prio ∧ x.prio ≤ 9) ∧ (1 ≤ x.most ∧ x.most ≤ 5) ∧ (1 ≤ x.wait ∧ x.wait ≤ 20) := by
  simp [manyB, inB] at h
  omega
theorem outB_false {n : Int} : ∀ {E : List Edg}, outB n E = false → ∀ e ∈ E, 0 ≤ e.src ∧ e.src < n ∧ 0 ≤ e.dst ∧ e.dst < n
  | [], _, e, he => by cases he
  | f :: r, h, e, he => by
    rw [outB, Bool.or_eq_false_iff] at h
    rcases List.mem_cons.1 he with rfl | he
    · have := h.1
      simp [edgeOut, inB] at this
      omega
    · exact outB_false h.2 e he
theorem outB_inside {n : Nat} {E : List Edg} (h : outB (n : Int) E = false) : Inside E n := fun e he => outB_false h e he
/-- A right plan. -/
theorem fault_zero {x : Pln} (h : planFaultR x = 0) : manyB x = false ∧ outB x.tasks x.edges = false ∧ twiceTo x.edges x.edges.length = false ∧ cycTo x.edges x.tasks.toNat = false := by
  unfold planFaultR at h
  cases h1 : manyB x <;> cases h2 : outB x.tasks x.edges <;> cases h3 : twiceTo x.edges x.edges.length <;> cases h4 : cycTo x.edges x.tasks.toNat <;> simp [h1, h2, h3, h4] at h ⊢
theorem slice_at_eq {g g' n c : Nat} (h : g = g') : Value.slice (some ⟨g, 0, none⟩) n c = Value.slice (some ⟨g', 0, none⟩) n c := by rw [h]
/-- A row that is made with its elements. -/
theorem own_new {w : World} {g base size m : Nat} {e : TypeId} (news : Array Value) (hg : g = w.heap.size) (hb : base ≤ g) (hn : news.size = m * size) (hm : m ≤ maxLen) :
    (w.alloc (.cells news e)).ownsRow base e size (.slice (some ⟨g, 0, none⟩) m m) m news.toList := by
  subst hg
  exact ⟨by simp [hn], .inr ⟨_, m, news, rfl, hb, heap_alloc_new w _, Nat.le_refl _, hm, hn, by rw [List.take_of_length_le (by simp [hn])]⟩⟩
end Go.Proofs.Ytbbjkldkjndfaaa

/- Tasks: slices of them, the law's own functions on these. -/
namespace Go.Proofs.Ytbbjkldkjndfaaa
open Go.RowKit Go.ChangeShapes Go.WideShapes Go.ChangeAt Go.Deep

structure Tsk where
  state : Int
  need : Int
  try_ : Int
  until_ : Int
  deriving DecidableEq
def Tsk.cs (e : Tsk) : List Value := [.int .i64 e.state, .int .i64 e.need, .int .i64 e.try_, .int .i64 e.until_]
def tskV (l : List Tsk) : List Value := l.flatMap Tsk.cs
theorem tskV_length (l : List Tsk) : (tskV l).length = l.length * 4 := flat_length Tsk.cs 4 (fun _ => rfl) l
theorem tskV_at {l : List Tsk} {k : Nat} (h : k < l.length) (f : Nat) (hf : f < 4) : (tskV l)[k * 4 + f]? = (l[k].cs)[f]? := flat_at Tsk.cs 4 (fun _ => rfl) l k h f hf
theorem tskV_one (l : List Tsk) : ∀ u ∈ tskV l, u.oneCell' = true := by
  intro u hu
  obtain ⟨e, _, he⟩ := List.mem_flatMap.1 hu
  simp only [Tsk.cs, List.mem_cons, List.not_mem_nil, or_false] at he
  rcases he with rfl | rfl | rfl | rfl <;> rfl
theorem tskV_append (a b : List Tsk) : tskV (a ++ b) = tskV a ++ tskV b := by simp [tskV]
theorem Try.infoTsk : (Try.prog.info? 61).map (fun i => (i.zero, i.size, i.bytes)) = some (some (.agg #[.int .i64 0, .int .i64 0, .int .i64 0, .int .i64 0]), 4, 32) := by kernel_rfl
/-- The cells of an element, read. -/
theorem tsk_cells {w w0 : World} {b off : Nat} {l : List Tsk} (hb : Below w0.heap.size w0 w) (hbl : b < w0.heap.size) (hc : ∀ j u, (tskV l)[j]? = some u → w0.cell? ⟨b, off + j, none⟩ = some u) {k : Nat} (hk : k < l.length) (x : Tsk) (hx : x = l[k]) :
    w.cell? ⟨b, off + k * 4, none⟩ = some (.int .i64 x.state) ∧ w.cell? ⟨b, off + k * 4 + 1, none⟩ = some (.int .i64 x.need) ∧ w.cell? ⟨b, off + k * 4 + 2, none⟩ = some (.int .i64 x.try_) ∧ w.cell? ⟨b, off + k * 4 + 3, none⟩ = some (.int .i64 x.until_) := by
  have h := fun f hf => (hb.cell (p := ⟨b, off + (k * 4 + f), none⟩) hbl).trans (hc (k * 4 + f) _ ((tskV_at hk f hf).trans (List.getElem?_eq_getElem hf)))
  rw [← hx] at h
  exact ⟨h 0 (by decide), h 1 (by decide), h 2 (by decide), h 3 (by decide)⟩

set_option maxRecDepth 100000 in
theorem toTask_any (x : Tsk) (w : World) : Calls Try.prog 112 #[(.agg #[.int .i64 x.state, .int .i64 x.need, .int .i64 x.try_, .int .i64 x.until_])] w fun e w' => e = .returned (.agg #[.int .i64 x.state, .int .i64 x.need, .int .i64 x.try_, .int .i64 x.until_]) ∧ Below w.heap.size w w' := by
  go_enter Try.func112, Try.ntmps112
  go_wp2
  exact bodyPost_ret (v := (.agg #[.int .i64 x.state, .int .i64 x.need, .int .i64 x.try_, .int .i64 x.until_])) (by simp [results, Try.results112, go_sem]) rfl ⟨rfl, (by repeat first | exact Below.refl _ _ | assumption | refine Below.drew ?_ | refine below_drewN ?_ _ | refine Below.calm ?_ (by first | exact Nat.le_refl _ | (simp; done) | (simp; omega) | omega) | refine Below.alloc ?_ (by first | exact Nat.le_refl _ | (simp; done) | (simp; omega) | omega) _ | refine Below.setCell ?_ (by first | exact Nat.le_refl _ | (simp; done) | (simp; omega) | omega) _)⟩
set_option maxRecDepth 100000 in
theorem eqTask_any (x : Tsk) (w : World) : Calls Try.prog 113 #[(.agg #[.int .i64 x.state, .int .i64 x.need, .int .i64 x.try_, .int .i64 x.until_]), (.agg #[.int .i64 x.state, .int .i64 x.need, .int .i64 x.try_, .int .i64 x.until_])] w fun e w' => e = .returned (.bool true) ∧ Below w.heap.size w w' := by
  go_enter Try.func113, Try.ntmps113
  go_wp2
  go_ret
  exact ⟨rfl, (by repeat first | exact Below.refl _ _ | assumption | refine Below.drew ?_ | refine below_drewN ?_ _ | refine Below.calm ?_ (by first | exact Nat.le_refl _ | (simp; done) | (simp; omega) | omega) | refine Below.alloc ?_ (by first | exact Nat.le_refl _ | (simp; done) | (simp; omega) | omega) _ | refine Below.setCell ?_ (by first | exact Nat.le_refl _ | (simp; done) | (simp; omega) | omega) _)⟩

set_option maxRecDepth 100000 in
theorem szTaskS_any (v : Value) (l : List Tsk) (left : Int) (w : World) (h : Rd w 4 v l.length (tskV l)) (h0 : 0 ≤ left) (h1 : left ≤ 1048576) :
    Calls Try.prog 90 #[v, .int .i64 left] w fun e w' => e = .returned (.int .i64 (szv left l.length)) ∧ w = w' := by
  obtain ⟨A, c, rfl, hnc, hcm⟩ := h.shape
  unfold maxLen at hcm
  unfold szv
  by_cases hneg : left - l.length < 0
  · rw [if_pos hneg]
    go_enter Try.func90, Try.ntmps90
    go_wp2
    go_ret
    exact ⟨rfl, rfl⟩
  · rw [if_neg hneg]
    go_enter Try.func90, Try.ntmps90
    go_wp2
    go_ret
    exact ⟨rfl, rfl⟩

theorem fill_tsk {w : World} {g n : Nat} {t : TypeId} {z : Value} {l : List Tsk} {k : Nat} (hk : k < l.length) (x : Tsk) (hx : x = l[k]) (h : w.rowIs g t n (fun j => if j < k * 4 then (tskV l).getD j z else z)) :
    ((((w.setCell ⟨g, k * 4, none⟩ (.int .i64 x.state)).setCell ⟨g, k * 4 + 1, none⟩ (.int .i64 x.need)).setCell ⟨g, k * 4 + 2, none⟩ (.int .i64 x.try_)).setCell ⟨g, k * 4 + 3, none⟩ (.int .i64 x.until_)).rowIs g t n (fun j => if j < (k + 1) * 4 then (tskV l).getD j z else z) :=
  ((((h.set (k * 4) _).set (k * 4 + 1) _).set (k * 4 + 2) _).set (k * 4 + 3) _).congr (fun j _ => by
    have e := fun f hf => tskV_at hk f hf
    rw [← hx] at e
    by_cases h3 : j = k * 4 + 3
    · subst h3; rw [if_pos rfl, if_pos (by omega), List.getD_eq_getElem?_getD, e 3 (by decide)]; rfl
    rw [if_neg h3]
    by_cases h2 : j = k * 4 + 2
    · subst h2; rw [if_pos rfl, if_pos (by omega), List.getD_eq_getElem?_getD, e 2 (by decide)]; rfl
    rw [if_neg h2]
    by_cases h1 : j = k * 4 + 1
    · subst h1; rw [if_pos rfl, if_pos (by omega), List.getD_eq_getElem?_getD, e 1 (by decide)]; rfl
    rw [if_neg h1]
    by_cases h0 : j = k * 4
    · subst h0; rw [if_pos rfl, if_pos (by omega), List.getD_eq_getElem?_getD]; have := e 0 (by decide); rw [Nat.add_zero] at this; rw [this]; rfl
    rw [if_neg h0]
    by_cases hb : j < k * 4
    · rw [if_pos hb, if_pos (by omega)]
    · rw [if_neg hb, if_neg (by omega)])

set_option maxHeartbeats 1000000 in
set_option maxRecDepth 100000 in
theorem toTaskS_any (v : Value) (l : List Tsk) (w : World) (h : Rd w 4 v l.length (tskV l)) (hn : l.length ≤ 1048576) :
    Calls Try.prog 91 #[v] w (MadeRow w 61 4 l.length (tskV l)) := by
  obtain ⟨A, c, rfl, hnc, hcm⟩ := h.shape
  obtain ⟨i0, hi, hz0, hz1, hz2⟩ := info_parts Try.infoTsk
  unfold maxLen at hcm
  have hmk := fun W => run_make_rowN (P := Try.prog) 50 61 i0 _ Try.underlying50 hi hz0 .i64 .i64 l.length l.length (Nat.le_refl _) (by rw [hz2]; omega) (by omega) W
  rw [hz1] at hmk
  go_enter Try.func91, Try.ntmps91
  go_wp2
  clear hmk
  go_loopw [4] (fun u4 wr => ∃ k : Nat, k ≤ l.length ∧ u4 = .int .i64 k ∧ wr.rowIs w.heap.size 61 (l.length * 4) (fun j => if j < k * 4 then (tskV l).getD j (.int .i64 0) else .int .i64 0) ∧ Below w.heap.size w wr) (fun u4 _ => l.length - (intOf u4).toNat)
  case atStart => exact ⟨0, Nat.zero_le _, rfl, (rowIs_madeN _ _ _ _).congr (fun j _ => by
      rw [if_neg (by omega)]
      have : j % 4 = 0 ∨ j % 4 = 1 ∨ j % 4 = 2 ∨ j % 4 = 3 := by omega
      show #[Value.int .i64 0, Value.int .i64 0, Value.int .i64 0, Value.int .i64 0][j % 4]! = _
      rcases this with h | h | h | h <;> rw [h] <;> rfl), (Below.refl _ _).alloc (Nat.le_refl _) _⟩
  case round =>
    obtain ⟨k, hk, rfl, hrow, hb⟩ := hrel
    by_cases hlt : k < l.length
    · obtain ⟨b, off, c', hv, _, _, hbl, hc⟩ := h.form (by omega) (by omega)
      have hA : A = some ⟨b, off, none⟩ := by injection hv
      subst hA
      obtain ⟨x, hx⟩ : ∃ x, x = l[k] := ⟨_, rfl⟩
      obtain ⟨d0, d1, d2, d3⟩ := tsk_cells hb hbl hc hlt x hx
      have HF := Lib.hid (fun (W : World) (hr : W.rowIs w.heap.size 61 (l.length * 4) (fun j => if j < k * 4 then (tskV l).getD j (.int .i64 0) else .int .i64 0)) => fill_tsk hlt x hx hr)
      clear hv hc hx
      have CT := Lib.hid (fun w => toTask_any x w)
      have HROW := Lib.hid hrow
      clear hrow
      go_wp2_with (go_at_call 112; refine (CT.out _).mono ?_; rintro e w1 ⟨rfl, hb1⟩; have hrow1 := HROW.out.of_block (hb1.block _ HROW.out.lt); have s0 := hrow1.cell (i := k * 4) (by omega); have s1 := hrow1.cell (i := k * 4 + 1) (by omega); have s2 := hrow1.cell (i := k * 4 + 2) (by omega); have s3 := hrow1.cell (i := k * 4 + 3) (by omega); have z0 := hrow1.frozen (k * 4); have z1 := hrow1.frozen (k * 4 + 1); have z2 := hrow1.frozen (k * 4 + 2); have z3 := hrow1.frozen (k * 4 + 3); have HR1 := Lib.hid hrow1; clear hrow1)
      go_roundw
      case rel => exact ⟨k + 1, by omega, by go_num, HF.out _ HR1.out, (((((hb.trans (hb1.mono hb.size)).setCell (Nat.le_refl _) _).setCell (Nat.le_refl _) _).setCell (Nat.le_refl _) _).setCell (Nat.le_refl _) _)⟩
      case measure => simp [intOf]; omega
    · obtain rfl : k = l.length := by omega
      have HO := Lib.hid (own_of_rowIs (base := w.heap.size) (size := 4) (n := l.length) hrow (Nat.le_refl _) (by unfold maxLen; omega))
      have HX := Lib.hid (show (List.range (l.length * 4)).map (fun j => if j < l.length * 4 then (tskV l).getD j (.int .i64 0) else .int .i64 0) = tskV l by
        apply List.ext_getElem
        · rw [List.length_map, List.length_range, tskV_length]
        · intro i h1 h2
          have hi : i < l.length * 4 := by simpa using h1
          rw [List.getElem_map, List.getElem_range, if_pos hi, List.getD_eq_getElem?_getD, List.getElem?_eq_getElem h2]
          rfl)
      clear hrow
      go_wp2
      go_ret
      exact ⟨_, rfl, by rw [← HX.out]; exact HO.out, hb⟩

set_option maxHeartbeats 1000000 in
set_option maxRecDepth 100000 in
theorem eqTaskS_any (v u : Value) (l : List Tsk) (w : World) (h1 : Rd w 4 v l.length (tskV l)) (h2 : Rd w 4 u l.length (tskV l)) :
    Calls Try.prog 92 #[v, u] w fun e w' => e = .returned (.bool true) ∧ Below w.heap.size w w' := by
  obtain ⟨A1, c1, rfl, hnc1, hcm1⟩ := h1.shape
  obtain ⟨A2, c2, rfl, hnc2, hcm2⟩ := h2.shape
  unfold maxLen at hcm1 hcm2
  go_enter Try.func92, Try.ntmps92
  go_wp2
  go_loopw [5] (fun i wr => ∃ k : Nat, k ≤ l.length ∧ i = .int .i64 k ∧ Below w.heap.size w wr) (fun i _ => l.length - (intOf i).toNat)
  case atStart => exact ⟨0, Nat.zero_le _, rfl, Below.refl _ _⟩
  case round =>
    obtain ⟨k, hk, rfl, hb⟩ := hrel
    by_cases hlt : k < l.length
    · obtain ⟨b1, o1, _, hv1, _, _, hl1, hc1⟩ := h1.form (by omega) (by omega)
      obtain ⟨b2, o2, _, hv2, _, _, hl2, hc2⟩ := h2.form (by omega) (by omega)
      have hA1 : A1 = some ⟨b1, o1, none⟩ := by injection hv1
      have hA2 : A2 = some ⟨b2, o2, none⟩ := by injection hv2
      subst hA1 hA2
      obtain ⟨x, hx⟩ : ∃ x, x = l[k] := ⟨_, rfl⟩
      obtain ⟨d0, d1, d2, d3⟩ := tsk_cells hb hl1 hc1 hlt x hx
      obtain ⟨e0, e1, e2, e3⟩ := tsk_cells hb hl2 hc2 hlt x hx
      have hb1 : b1 < wr.heap.size := Nat.lt_of_lt_of_le hl1 hb.size
      have hb2 : b2 < wr.heap.size := Nat.lt_of_lt_of_le hl2 hb.size
      have hk0 : (0 : Int) ≤ (k : Int) := by omega
      have hk1 : (k : Int) < (l.length : Int) := by omega
      have CE := Lib.hid (fun w => eqTask_any x w)
      clear hx hv1 hv2 hc1 hc2
      go_wp2
      first | refine wp_region_calm_on (by kernel_rfl) (by kernel_rfl) ?_ | refine wp_region_calm_lit (by kernel_rfl) (by kernel_rfl) ?_
      repeat (go_big_quiet_step ((go_at_call 113; exact calm_of (CE.out _))))
      refine wpQuiet_nil ?_
      intro _ hw'
      obtain ⟨k1, hw''⟩ := hw'
      subst hw''
      go_wp2
      go_roundw
      case rel => exact ⟨k + 1, by omega, by go_num, Below.calm hb hb.size⟩
      case measure => simp [intOf]; omega
    · go_wp2
      go_ret
      exact ⟨rfl, hb⟩

set_option maxHeartbeats 1000000 in
set_option maxRecDepth 100000 in
theorem heldTaskS_any (v : Value) (n : Nat) (k0 : Int) (w : World) (h : Rd w 4 v n (marks mInt k0 (n * 4))) (h0 : 0 ≤ k0) (h1 : k0 ≤ 20000000) (hn : n ≤ 10000000) :
    Calls Try.prog 96 #[v, .int .i64 k0] w fun e w' => e = .returned (.int .i64 (k0 + ((n * 4 : Nat) : Int))) ∧ w = w' := by
  obtain ⟨A1, c1, rfl, hnc1, hcm1⟩ := h.shape
  unfold maxLen at hcm1
  go_enter Try.func96, Try.ntmps96
  go_wp2
  go_loop [5, 1] (fun u5 u1 => ∃ k : Nat, k ≤ n ∧ u5 = .int .i64 k ∧ u1 = .int .i64 (k0 + ((k * 4 : Nat) : Int))) (fun u5 _ => n - (intOf u5).toNat)
  case atStart => exact ⟨0, Nat.zero_le _, rfl, by go_num⟩
  case round =>
    obtain ⟨k, hk, rfl, rfl⟩ := hrel
    by_cases hlt : k < n
    · obtain ⟨b1, o1, _, hv1, _, _, hl1, hc1⟩ := h.form (by omega) (by omega)
      have hA1 : A1 = some ⟨b1, o1, none⟩ := by injection hv1
      subst hA1
      have hx := fun f (hf : f < 4) => hc1 (k * 4 + f) _ (marks_at mInt k0 (show k * 4 + f < n * 4 by omega))
      obtain ⟨q, hq⟩ : ∃ q, q = k0 + ((k * 4 : Nat) : Int) := ⟨_, rfl⟩
      have d0 : w.cell? ⟨b1, o1 + k * 4, none⟩ = some (.int .i64 q) := by rw [hq]; exact hx 0 (by decide)
      have d1 : w.cell? ⟨b1, o1 + k * 4 + 1, none⟩ = some (.int .i64 (q + 1)) := by rw [hq, show k0 + ((k * 4 : Nat) : Int) + 1 = k0 + ((k * 4 + 1 : Nat) : Int) by omega]; exact hx 1 (by decide)
      have d2 : w.cell? ⟨b1, o1 + k * 4 + 2, none⟩ = some (.int .i64 (q + 2)) := by rw [hq, show k0 + ((k * 4 : Nat) : Int) + 2 = k0 + ((k * 4 + 2 : Nat) : Int) by omega]; exact hx 2 (by decide)
      have d3 : w.cell? ⟨b1, o1 + k * 4 + 3, none⟩ = some (.int .i64 (q + 3)) := by rw [hq, show k0 + ((k * 4 : Nat) : Int) + 3 = k0 + ((k * 4 + 3 : Nat) : Int) by omega]; exact hx 3 (by decide)
      have hq0 : q ≤ 60000000 := by omega
      have hq1 : 0 ≤ q := by omega
      have HQ := Lib.hid hq
      rw [← hq]
      clear hv1 hc1 hx hq
      go_wp2
      go_round
      case rel => exact ⟨k + 1, by omega, by go_num, by rw [HQ.out]; congr 1; omega⟩
      case measure => simp [intOf]; omega
    · obtain rfl : k = n := by omega
      go_wp2
      go_ret
      exact ⟨rfl, rfl⟩

theorem mark_at_tsk {w : World} {g n : Nat} {t : TypeId} {k0 : Int} {f : Nat → Value} {k : Nat} (q : Int) (hq : q = k0 + ((k * 4 : Nat) : Int)) (h : w.rowIs g t n (fun j => if j < k * 4 then mInt (k0 + j) else f j)) :
    ((((w.setCell ⟨g, k * 4, none⟩ (.int .i64 (q))).setCell ⟨g, k * 4 + 1, none⟩ (.int .i64 (q + 1))).setCell ⟨g, k * 4 + 2, none⟩ (.int .i64 (q + 1 + 1))).setCell ⟨g, k * 4 + 3, none⟩ (.int .i64 (q + 1 + 1 + 1))).rowIs g t n (fun j => if j < (k + 1) * 4 then mInt (k0 + j) else f j) :=
  ((((h.set (k * 4) _).set (k * 4 + 1) _).set (k * 4 + 2) _).set (k * 4 + 3) _).congr (fun j _ => by
    subst hq
    by_cases h3 : j = k * 4 + 3
    · subst h3; rw [if_pos rfl, if_pos (by omega)]; show Value.int .i64 _ = .int .i64 _; (first | rfl | (congr 1; omega))
    rw [if_neg h3]
    by_cases h2 : j = k * 4 + 2
    · subst h2; rw [if_pos rfl, if_pos (by omega)]; show Value.int .i64 _ = .int .i64 _; (first | rfl | (congr 1; omega))
    rw [if_neg h2]
    by_cases h1 : j = k * 4 + 1
    · subst h1; rw [if_pos rfl, if_pos (by omega)]; show Value.int .i64 _ = .int .i64 _; (first | rfl | (congr 1; omega))
    rw [if_neg h1]
    by_cases h0 : j = k * 4
    · subst h0; rw [if_pos rfl, if_pos (by omega)]; show Value.int .i64 _ = .int .i64 _; (first | rfl | (congr 1; omega))
    rw [if_neg h0]
    by_cases hb : j < k * 4
    · rw [if_pos hb, if_pos (by omega)]
    · rw [if_neg hb, if_neg (by omega)])

set_option maxHeartbeats 1000000 in
set_option maxRecDepth 100000 in
theorem markTaskS_any (v : Value) (n base : Nat) (xs : List Value) (k0 : Int) (w : World) (h : w.ownsRow base 61 4 v n xs) (h0 : 0 ≤ k0) (h1 : k0 ≤ 20000000) (hn : n ≤ 10000000) :
    Calls Try.prog 93 #[v, .int .i64 k0] w (Marked w base 61 4 n v mInt k0) := by
  by_cases hz : n = 0
  · subst hz
    have hx : xs = [] := List.eq_nil_of_length_eq_zero (by simpa using h.1)
    subst hx
    obtain ⟨A1, c1, rfl, hnc1, hcm1⟩ := (Rd.of_own h).shape
    have H := Lib.hid h
    clear h
    go_enter Try.func93, Try.ntmps93
    go_wp2
    refine wp_loop_rounds 1 ?_
    rw [rounds_succ]
    go_wp2
    go_ret
    exact ⟨ret_int (by simp), by simpa [marks] using H.out, World.grownBy.refl _ _⟩
  · obtain ⟨g, cap, f, rfl, hg, hcap, hcm, hrow0, _⟩ := rowIs_of_own h (by omega)
    unfold maxLen at hcm
    go_enter Try.func93, Try.ntmps93
    go_wp2
    go_loopw [5, 1] (fun u5 u1 wr => ∃ k : Nat, k ≤ n ∧ u5 = .int .i64 k ∧ u1 = .int .i64 (k0 + ((k * 4 : Nat) : Int)) ∧ wr.rowIs g 61 (cap * 4) (fun j => if j < k * 4 then mInt (k0 + j) else f j) ∧ w.grownBy wr (some g)) (fun u5 _ _ => n - (intOf u5).toNat)
    case atStart => exact ⟨0, Nat.zero_le _, rfl, by go_num, hrow0.congr (fun i hi => by simp), World.grownBy.refl _ _⟩
    case round =>
      obtain ⟨k, hk, rfl, rfl, hrow, hgr⟩ := hrel
      by_cases hlt : k < n
      · obtain ⟨q, hq⟩ : ∃ q, q = k0 + ((k * 4 : Nat) : Int) := ⟨_, rfl⟩
        have HM := Lib.hid (mark_at_tsk q hq hrow)
        have s0 := hrow.cell (i := k * 4) (by omega)
        have s1 := hrow.cell (i := k * 4 + 1) (by omega)
        have s2 := hrow.cell (i := k * 4 + 2) (by omega)
        have s3 := hrow.cell (i := k * 4 + 3) (by omega)
        have z0 := hrow.frozen (k * 4)
        have z1 := hrow.frozen (k * 4 + 1)
        have z2 := hrow.frozen (k * 4 + 2)
        have z3 := hrow.frozen (k * 4 + 3)
        have hq0 : q ≤ 60000000 := by omega
        have hq1 : 0 ≤ q := by omega
        have HQ := Lib.hid hq
        rw [← hq]
        clear hq hrow hrow0
        go_wp2
        go_roundw
        case rel =>
          refine ⟨k + 1, by omega, by go_num, by rw [HQ.out]; congr 1; omega, ?_, (only_setCell (only_setCell (only_setCell (only_setCell hgr (.inl rfl) _) (.inl rfl) _) (.inl rfl) _) (.inl rfl) _)⟩
          exact HM.out
        case measure => simp [intOf]; omega
      · obtain rfl : k = n := by omega
        have HO := Lib.hid (own_of_rowIs_cap (base := base) (size := 4) (n := k) (cap := cap) hrow hg hcap (by unfold maxLen; omega))
        have HX := Lib.hid (show (List.range (k * 4)).map (fun j => if j < k * 4 then mInt (k0 + j) else f j) = marks mInt k0 (k * 4) by
          apply List.map_congr_left
          intro j hj
          rw [if_pos (by simpa using hj)])
        clear hrow hrow0
        go_wp2
        go_ret
        exact ⟨rfl, by rw [← HX.out]; exact HO.out, hgr⟩

def Rd_tsks (w : World) (v : Value) (l : List Tsk) : Prop := Rd w 4 v l.length (tskV l)
def Own_tsks (w : World) (lo hi : Nat) (v : Value) (l : List Tsk) : Prop := OwnS w lo hi 61 4 v l.length (tskV l)
def Held_tsks (w : World) (lo hi : Nat) (v : Value) (n : Nat) (k : Int) : Prop := OwnS w lo hi 61 4 v n (marks mInt k (n * 4))
/-- An argument's slice, read. -/
theorem Try.cellsTask : Try.prog.cellsOf 113 = 4 := by kernel_rfl
section
variable {H : Type} {enc : TypeId × Value → H} {W : World}
theorem tsks_read {fuel : Nat} {u : Value} {y : DataW H × List MemPlace} (hf : DataW.trod enc Try.prog W 0 (fun _ => true) true fuel 63 [u] = some y) : ∃ l, Rd_tsks W u l := by
  rcases open_slice_fields Try.underlying63 Try.underlying113 (by kernel_rfl) Try.cellsTask hf with ⟨hcs, _⟩ | ⟨a, len, c, m, D, Pl, hcs, _, hl, hm, hmm, hx, hi⟩
  · simp at hcs
    subst hcs
    exact ⟨[], ⟨none, 0, rfl, Nat.le_refl _, Nat.zero_le _, Reads.none_⟩⟩
  · simp at hcs
    subst hcs
    have hml : len ≤ m := by rw [hmm, if_pos rfl]; exact hl
    have key : ∀ i, ∃ x : Tsk, i < len → ∀ f u, x.cs[f]? = some u → W.cell? (a.add (i * 4 + f)) = some u := by
      intro i
      by_cases hil : i < len
      · obtain ⟨ys, n, _, _, _, hcell⟩ := hi i (by omega)
        obtain ⟨v0, y0, g0, _, t0⟩ := hcell 0 _ rfl
        obtain ⟨v1, y1, g1, _, t1⟩ := hcell 1 _ rfl
        obtain ⟨v2, y2, g2, _, t2⟩ := hcell 2 _ rfl
        obtain ⟨v3, y3, g3, _, t3⟩ := hcell 3 _ rfl
        obtain ⟨n0, e0, _, _⟩ := DataW.trod_int Try.underlying3 t0
        obtain ⟨n1, e1, _, _⟩ := DataW.trod_int Try.underlying3 t1
        obtain ⟨n2, e2, _, _⟩ := DataW.trod_int Try.underlying3 t2
        obtain ⟨n3, e3, _, _⟩ := DataW.trod_int Try.underlying3 t3
        simp at e0 e1 e2 e3
        subst e0 e1 e2 e3
        refine ⟨⟨n0, n1, n2, n3⟩, fun _ f u hu => ?_⟩
        have hf4 : f < 4 := (List.getElem?_eq_some_iff.1 hu).1
        have : f = 0 ∨ f = 1 ∨ f = 2 ∨ f = 3 := by omega
        rcases this with rfl | rfl | rfl | rfl <;> (simp only [Tsk.cs, List.getElem?_cons_zero, List.getElem?_cons_succ, Option.some.injEq] at hu; subst hu; assumption)
      · exact ⟨⟨0, 0, 0, 0⟩, fun h => absurd h hil⟩
    obtain ⟨E, hE⟩ := Classical.axiomOfChoice key
    have hlen : ((List.range len).map E).length = len := by simp
    refine ⟨(List.range len).map E, ?_⟩
    unfold Rd_tsks
    rw [hlen]
    refine ⟨some a, c, rfl, hl, hm, by rw [tskV_length, hlen], fun hn => ⟨a, rfl, ?_, fun j u hu => ?_⟩⟩
    · have h0 := hE 0 (by omega) 0 _ rfl
      have := World.block_lt_of_cell? W _ h0
      rwa [block_of_add] at this
    · have hj : j < len * 4 := by
        rcases Nat.lt_or_ge j (len * 4) with h | h
        · exact h
        · rw [List.getElem?_eq_none (by rw [tskV_length, hlen]; exact h)] at hu; cases hu
      have hq : j = j / 4 * 4 + j % 4 := by omega
      have hk : j / 4 < ((List.range len).map E).length := by rw [hlen]; omega
      rw [hq, tskV_at hk (j % 4) (by omega)] at hu
      rw [hq]
      exact hE (j / 4) (by omega) _ _ (by simpa using hu)
end
end Go.Proofs.Ytbbjkldkjndfaaa

/- Runs: copies, sizes, comparisons and marks of the laws. -/
namespace Go.Proofs.Ytbbjkldkjndfaaa
set_option linter.unusedSimpArgs false
set_option maxRecDepth 100000
open Go.RowKit Go.ChangeShapes Go.WideShapes Go.ChangeAt Go.Deep Go.Joins

structure Rn where
  id : Int
  plan : Pln
  state : Int
  tasks : List Tsk
def cost_run (x : Rn) : Nat := x.plan.edges.length + x.tasks.length
def cells_run (x : Rn) : Nat := x.plan.edges.length * 2 + x.tasks.length * 4
theorem cells_le_run (x : Rn) : cells_run x ≤ 4 * cost_run x := by unfold cells_run cost_run; omega
def Rd_run (w : World) (u v : Value) (x : Rn) : Prop := Rd_edgs w u x.plan.edges ∧ Rd_tsks w v x.tasks
def Own_run (w : World) (lo hi : Nat) (u v : Value) (x : Rn) : Prop := ∃ m, lo ≤ m ∧ m ≤ hi ∧ Own_edgs w lo m u x.plan.edges ∧ Own_tsks w m hi v x.tasks
def Held_run (w : World) (lo hi : Nat) (u v : Value) (x : Rn) (k : Int) : Prop := ∃ m, lo ≤ m ∧ m ≤ hi ∧ Held_edgs w lo m u x.plan.edges.length k ∧ Held_tsks w m hi v x.tasks.length (k + ((x.plan.edges.length * 2 : Nat) : Int))
section
variable {w w' : World} {lo hi lo' hi' : Nat} {u v : Value} {x : Rn} {k : Int}
theorem Rd_run.below (h : Rd_run w u v x) (hb : Below w.heap.size w w') : Rd_run w' u v x := ⟨Rd.below h.1 hb, Rd.below h.2 hb⟩
theorem Own_run.rd (h : Own_run w lo hi u v x) : Rd_run w u v x := by obtain ⟨m, _, _, h1, h2⟩ := h; exact ⟨OwnS.rd h1, OwnS.rd h2⟩
theorem Own_run.below (h : Own_run w lo hi u v x) (hb : Below w.heap.size w w') : Own_run w' lo hi u v x := by obtain ⟨m, a, b, h1, h2⟩ := h; exact ⟨m, a, b, OwnS.below h1 hb, OwnS.below h2 hb⟩
theorem Own_run.keep (h : Own_run w lo hi u v x) (hp : Part lo' hi' w w') (ha : hi ≤ lo' ∨ hi' ≤ lo) : Own_run w' lo hi u v x := by obtain ⟨m, a, b, h1, h2⟩ := h; exact ⟨m, a, b, OwnS.keep h1 hp (by omega), OwnS.keep h2 hp (by omega)⟩
theorem Held_run.below (h : Held_run w lo hi u v x k) (hb : Below w.heap.size w w') : Held_run w' lo hi u v x k := by obtain ⟨m, a, b, h1, h2⟩ := h; exact ⟨m, a, b, OwnS.below h1 hb, OwnS.below h2 hb⟩
theorem Held_run.keep (h : Held_run w lo hi u v x k) (hp : Part lo' hi' w w') (ha : hi ≤ lo' ∨ hi' ≤ lo) : Held_run w' lo hi u v x k := by obtain ⟨m, a, b, h1, h2⟩ := h; exact ⟨m, a, b, OwnS.keep h1 hp (by omega), OwnS.keep h2 hp (by omega)⟩
theorem Own_run.form (h : Own_run w lo hi u v x) : ∃ A c A' c', u = .slice A x.plan.edges.length c ∧ v = .slice A' x.tasks.length c' := by
  obtain ⟨h1, h2⟩ := h.rd
  obtain ⟨A, c, e1, -, -⟩ := Rd.shape h1
  obtain ⟨A', c', e2, -, -⟩ := Rd.shape h2
  exact ⟨A, c, A', c', e1, e2⟩
end
/-- What a call leaves that hands back a run of its own. -/
def GivesR (x : Rn) (w0 : World) (e : Ending) (w' : World) : Prop := ∃ u v, e = .returned (.agg #[.int .i64 x.id, .int .i64 x.plan.prio, .int .i64 x.plan.most, .int .i64 x.plan.wait, .int .i64 x.plan.tasks, u, .int .i64 x.state, v]) ∧ Own_run w' w0.heap.size w'.heap.size u v x ∧ Below w0.heap.size w0 w'
def GivesRB (x : Rn) (b : Bool) (w0 : World) (e : Ending) (w' : World) : Prop := ∃ u v, e = .returned (.tuple #[.agg #[.int .i64 x.id, .int .i64 x.plan.prio, .int .i64 x.plan.most, .int .i64 x.plan.wait, .int .i64 x.plan.tasks, u, .int .i64 x.state, v], .bool b]) ∧ Own_run w' w0.heap.size w'.heap.size u v x ∧ Below w0.heap.size w0 w'
def RV (x : Rn) (u v : Value) : Value := .agg #[.int .i64 x.id, .int .i64 x.plan.prio, .int .i64 x.plan.most, .int .i64 x.plan.wait, .int .i64 x.plan.tasks, u, .int .i64 x.state, v]

theorem szv_add {left : Int} {a b : Nat} (h : ¬ szv left a < 0) (_ : 0 ≤ left) : szv left a = left - a ∧ szv (left - a) b = szv left (a + b) := by
  unfold szv at *
  by_cases h1 : left - a < 0
  · rw [if_pos h1] at h; omega
  · rw [if_neg h1]
    refine ⟨rfl, ?_⟩
    by_cases h2 : left - a - b < 0
    · rw [if_pos h2, if_pos (by omega)]
    · rw [if_neg h2, if_neg (by omega)]; omega
theorem szv_neg {left : Int} {a b : Nat} (h : szv left a < 0) (_ : 0 ≤ left) : szv left (a + b) = -1 := by
  unfold szv at *
  by_cases h1 : left - a < 0
  · rw [if_pos (by omega)]
  · rw [if_neg h1] at h; omega
theorem szv_m1 {left : Int} {a : Nat} (h : szv left a < 0) : szv left a = -1 := by
  unfold szv at *
  by_cases h1 : left - a < 0
  · rw [if_pos h1]
  · rw [if_neg h1] at h; omega

set_option maxHeartbeats 1000000 in
theorem sz_run (u v : Value) (x : Rn) (left : Int) (w : World) (h : Rd_run w u v x) (h0 : 0 ≤ left) (h1 : left ≤ 1048576) :
    Calls Try.prog 48 #[.agg #[.int .i64 x.id, .int .i64 x.plan.prio, .int .i64 x.plan.most, .int .i64 x.plan.wait, .int .i64 x.plan.tasks, u, .int .i64 x.state, v], .int .i64 left] w fun e w' => e = .returned (.int .i64 (szv left (cost_run x))) ∧ Below w.heap.size w w' := by
  obtain ⟨xi, xp, xs, ts⟩ := x
  obtain ⟨h2, h3⟩ := h
  simp only at h2 h3
  obtain ⟨W0, hW0⟩ : ∃ W0, W0 = w.alloc (.cells #[.int .i64 xi, .int .i64 xp.prio, .int .i64 xp.most, .int .i64 xp.wait, .int .i64 xp.tasks, u, .int .i64 xs, v] 65) := ⟨_, rfl⟩
  have hb0 : Below w.heap.size w W0 := by rw [hW0]; exact (Below.refl _ _).alloc (Nat.le_refl _) _
  have k0 : Blk W0 w.heap.size 65 #[.int .i64 xi, .int .i64 xp.prio, .int .i64 xp.most, .int .i64 xp.wait, .int .i64 xp.tasks, u, .int .i64 xs, v] := by rw [hW0]; exact Blk.new _ _ _
  have HK := Lib.hid k0
  have C := Lib.hid (sz_plan u xp left W0 (Rd.below h2 hb0) h0 h1)
  have HW := Lib.hid hW0
  have HT := Lib.hid h3
  obtain ⟨q, hq⟩ : ∃ q, q = szv left (cost_plan xp) := ⟨_, rfl⟩
  rw [← hq] at C
  obtain ⟨r, hr⟩ : ∃ r, r = szv left (cost_run ⟨xi, xp, xs, ts⟩) := ⟨_, rfl⟩
  rw [← hr]
  by_cases hn : q < 0
  · have hq1 : q = -1 := by rw [hq] at hn ⊢; exact szv_m1 hn
    have hr1 : r = -1 := by rw [hr]; rw [hq] at hn; exact szv_neg hn h0
    subst hr1
    clear hq hr hn
    subst hq1
    clear h2 h3 k0 hW0
    go_enter Try.func48, Try.ntmps48
    go_wp2_with fail
    rw [← HW.out]
    refine C.out.mono ?_
    rintro e w1 ⟨rfl, hb1⟩
    go_wp2_with fail
    go_ret
    exact ⟨rfl, hb0.trans (hb1.mono hb0.size)⟩
  · obtain ⟨e1, e2⟩ := szv_add (b := ts.length) (show ¬ szv left (cost_plan xp) < 0 by rw [← hq]; exact hn) h0
    have hr1 : szv q ts.length = r := by rw [hr, hq, e1, e2]; rfl
    have hq0 : 0 ≤ q := by omega
    have hq1 : q ≤ left := by rw [hq, e1]; omega
    have CT := Lib.hid (fun (W : World) (hW : Below w.heap.size w W) => szTaskS_any v ts q W (Rd.below HT.out hW) hq0 (by omega))
    rw [hr1] at CT
    have hr2 : r < 0 → r = -1 := fun h => by rw [← hr1] at h ⊢; exact szv_m1 h
    clear h2 h3 k0 hW0 e1 e2 hr1 hr hq
    by_cases hrn : r < 0
    · have hh := hr2 hrn
      subst hh
      clear hr2
      go_enter Try.func48, Try.ntmps48
      go_wp2_with fail
      rw [← HW.out]
      refine C.out.mono ?_
      rintro e w1 ⟨rfl, hb1⟩
      have hw1 := hb0.trans (hb1.mono hb0.size)
      have kp := HK.out.belowV hb1
      have p7 := kp.cell 7
      simp only [List.getElem?_toArray, List.getElem?_cons_succ, List.getElem?_cons_zero] at p7
      have hpl := kp.lt
      clear kp
      go_wp2_with fail
      refine (CT.out _ hw1).mono ?_
      rintro e w2 ⟨rfl, rfl⟩
      go_wp2_with fail
      go_ret
      exact ⟨rfl, hw1⟩
    · clear hr2
      go_enter Try.func48, Try.ntmps48
      go_wp2_with fail
      rw [← HW.out]
      refine C.out.mono ?_
      rintro e w1 ⟨rfl, hb1⟩
      have hw1 := hb0.trans (hb1.mono hb0.size)
      have kp := HK.out.belowV hb1
      have p7 := kp.cell 7
      simp only [List.getElem?_toArray, List.getElem?_cons_succ, List.getElem?_cons_zero] at p7
      have hpl := kp.lt
      clear kp
      go_wp2_with fail
      refine (CT.out _ hw1).mono ?_
      rintro e w2 ⟨rfl, rfl⟩
      go_wp2_with fail
      go_ret
      exact ⟨rfl, hw1⟩

set_option maxHeartbeats 2000000 in
theorem to_run (u v : Value) (x : Rn) (w : World) (h : Rd_run w u v x) (hn : cost_run x ≤ 1048576) :
    Calls Try.prog 49 #[.agg #[.int .i64 x.id, .int .i64 x.plan.prio, .int .i64 x.plan.most, .int .i64 x.plan.wait, .int .i64 x.plan.tasks, u, .int .i64 x.state, v]] w (GivesR x w) := by
  obtain ⟨xi, xp, xs, ts⟩ := x
  obtain ⟨h2, h3⟩ := h
  unfold cost_run at hn
  simp only at h2 h3 hn
  have HP := Lib.hid h2
  have HT := Lib.hid h3
  obtain ⟨W0, hW0⟩ : ∃ W0, W0 = ((w.alloc (.cells #[.int .i64 xi, .int .i64 xp.prio, .int .i64 xp.most, .int .i64 xp.wait, .int .i64 xp.tasks, u, .int .i64 xs, v] 65)).alloc (.cells #[.int .i64 0, .int .i64 0, .int .i64 0, .int .i64 0, .int .i64 0, .slice none 0 0, .int .i64 0, .slice none 0 0] 52)).alloc (.cells #[.int .i64 xi, .int .i64 0, .int .i64 0, .int .i64 0, .int .i64 0, .slice none 0 0, .int .i64 0, .slice none 0 0] 52) := ⟨_, rfl⟩
  have hb0 : Below w.heap.size w W0 := by rw [hW0]; exact (by repeat' first | (with_reducible exact Below.refl _ _) | (with_reducible assumption) | (with_reducible refine Below.setCell ?_ ?_ _) | (with_reducible refine Below.alloc ?_ ?_ _) | (with_reducible refine Below.drew ?_) | (with_reducible refine below_drewN ?_ _) | (with_reducible refine Below.calm ?_ ?_) | exact Nat.le_refl _ | (simp; done) | (simp; omega) | omega)
  have hz0 : W0.heap.size = w.heap.size + 3 := by rw [hW0]; simp
  have ka : Blk W0 w.heap.size 65 #[.int .i64 xi, .int .i64 xp.prio, .int .i64 xp.most, .int .i64 xp.wait, .int .i64 xp.tasks, u, .int .i64 xs, v] := by rw [hW0]; exact ((Blk.new _ _ _).alloc _).alloc _
  have ko : Blk W0 (w.heap.size + 1 + 1) 52 #[.int .i64 xi, .int .i64 0, .int .i64 0, .int .i64 0, .int .i64 0, .slice none 0 0, .int .i64 0, .slice none 0 0] := by
    rw [hW0]
    have q := Blk.new ((w.alloc (.cells #[.int .i64 xi, .int .i64 xp.prio, .int .i64 xp.most, .int .i64 xp.wait, .int .i64 xp.tasks, u, .int .i64 xs, v] 65)).alloc (.cells #[.int .i64 0, .int .i64 0, .int .i64 0, .int .i64 0, .int .i64 0, .slice none 0 0, .int .i64 0, .slice none 0 0] 52)) 52 #[.int .i64 xi, .int .i64 0, .int .i64 0, .int .i64 0, .int .i64 0, .slice none 0 0, .int .i64 0, .slice none 0 0]
    rwa [show ((w.alloc (.cells #[.int .i64 xi, .int .i64 xp.prio, .int .i64 xp.most, .int .i64 xp.wait, .int .i64 xp.tasks, u, .int .i64 xs, v] 65)).alloc (.cells #[.int .i64 0, .int .i64 0, .int .i64 0, .int .i64 0, .int .i64 0, .slice none 0 0, .int .i64 0, .slice none 0 0] 52)).heap.size = w.heap.size + 1 + 1 by simp] at q
  have kr : Blk W0 (w.heap.size + 1) 52 #[.int .i64 0, .int .i64 0, .int .i64 0, .int .i64 0, .int .i64 0, .slice none 0 0, .int .i64 0, .slice none 0 0] := by
    rw [hW0]
    have q := Blk.new (w.alloc (.cells #[.int .i64 xi, .int .i64 xp.prio, .int .i64 xp.most, .int .i64 xp.wait, .int .i64 xp.tasks, u, .int .i64 xs, v] 65)) 52 #[.int .i64 0, .int .i64 0, .int .i64 0, .int .i64 0, .int .i64 0, .slice none 0 0, .int .i64 0, .slice none 0 0]
    rw [show (w.alloc (.cells #[.int .i64 xi, .int .i64 xp.prio, .int .i64 xp.most, .int .i64 xp.wait, .int .i64 xp.tasks, u, .int .i64 xs, v] 65)).heap.size = w.heap.size + 1 by simp] at q
    exact q.alloc _
  have HW0 := Lib.hid hW0
  have HKA := Lib.hid ka
  have HKO := Lib.hid ko
  have HKR := Lib.hid kr
  have HZ0 := Lib.hid hz0
  clear h2 h3 hW0 ka ko kr hz0
  go_enter Try.func49, Try.ntmps49
  go_wp2_with fail
  rw [← HW0.out]
  refine (to_plan u xp _ (Rd.below HP.out hb0) (by unfold cost_plan; omega)).mono ?_
  rintro e w1 ⟨u1, rfl, ho1, hb1⟩
  obtain ⟨A1, c1, rfl⟩ := ho1.form
  have hw1 := hb0.trans (hb1.mono hb0.size)
  have ka := HKA.out.belowV hb1
  have ko := HKO.out.belowV hb1
  have p6 := ka.cell 6
  have p7 := ka.cell 7
  have z1 := ko.frozen 1
  have z2 := ko.frozen 2
  have z3 := ko.frozen 3
  have z4 := ko.frozen 4
  have z5 := ko.frozen 5
  have z6 := ko.frozen 6
  have c1' := ko.cell 1
  have c2' := ko.cell 2
  have c3' := ko.cell 3
  have c4' := ko.cell 4
  have c5' := ko.cell 5
  have c6' := ko.cell 6
  simp only [List.getElem?_toArray, List.getElem?_cons_succ, List.getElem?_cons_zero] at p6 p7 c1' c2' c3' c4' c5' c6'
  have hal := ka.lt
  have hol := ko.lt
  have HO1 := Lib.hid ho1
  have HKA1 := Lib.hid ka
  have HKO1 := Lib.hid ko
  have HKR1 := Lib.hid (HKR.out.belowV hb1)
  clear ka ko ho1
  go_wp2_with fail
  obtain ⟨W2, hW2⟩ : ∃ W2, W2 = ((((((w1.setCell ⟨w.heap.size + 1 + 1, 1, none⟩ (.int .i64 xp.prio)).setCell ⟨w.heap.size + 1 + 1, 2, none⟩ (.int .i64 xp.most)).setCell ⟨w.heap.size + 1 + 1, 3, none⟩ (.int .i64 xp.wait)).setCell ⟨w.heap.size + 1 + 1, 4, none⟩ (.int .i64 xp.tasks)).setCell ⟨w.heap.size + 1 + 1, 5, none⟩ (.slice A1 xp.edges.length c1)).setCell ⟨w.heap.size + 1 + 1, 6, none⟩ (.int .i64 xs)) := ⟨_, rfl⟩
  rw [← hW2]
  have ko2 : Blk W2 (w.heap.size + 1 + 1) 52 #[.int .i64 xi, .int .i64 xp.prio, .int .i64 xp.most, .int .i64 xp.wait, .int .i64 xp.tasks, .slice A1 xp.edges.length c1, .int .i64 xs, .slice none 0 0] := by
    rw [hW2]
    have q := ((((((HKO1.out.set_ 1 (.int .i64 xp.prio)).set_ 2 (.int .i64 xp.most)).set_ 3 (.int .i64 xp.wait)).set_ 4 (.int .i64 xp.tasks)).set_ 5 (.slice A1 xp.edges.length c1)).set_ 6 (.int .i64 xs))
    simpa using q
  have kr2 : Blk W2 (w.heap.size + 1) 52 #[.int .i64 0, .int .i64 0, .int .i64 0, .int .i64 0, .int .i64 0, .slice none 0 0, .int .i64 0, .slice none 0 0] := by
    rw [hW2]; exact (Blk.far (Blk.far (Blk.far (Blk.far (Blk.far (Blk.far HKR1.out (p := ⟨w.heap.size + 1 + 1, 1, none⟩) (by simp) (.int .i64 xp.prio)) (p := ⟨w.heap.size + 1 + 1, 2, none⟩) (by simp) (.int .i64 xp.most)) (p := ⟨w.heap.size + 1 + 1, 3, none⟩) (by simp) (.int .i64 xp.wait)) (p := ⟨w.heap.size + 1 + 1, 4, none⟩) (by simp) (.int .i64 xp.tasks)) (p := ⟨w.heap.size + 1 + 1, 5, none⟩) (by simp) (.slice A1 xp.edges.length c1)) (p := ⟨w.heap.size + 1 + 1, 6, none⟩) (by simp) (.int .i64 xs))
  have hp2 : Part (w.heap.size + 1) (w.heap.size + 3) w1 W2 := by rw [hW2]; exact (Part.setCell ((Part.setCell ((Part.setCell ((Part.setCell ((Part.setCell ((Part.setCell (Part.refl (w.heap.size + 1) (w.heap.size + 3) w1) (p := ⟨w.heap.size + 1 + 1, 1, none⟩) ⟨by simp, by simp⟩ (.int .i64 xp.prio))) (p := ⟨w.heap.size + 1 + 1, 2, none⟩) ⟨by simp, by simp⟩ (.int .i64 xp.most))) (p := ⟨w.heap.size + 1 + 1, 3, none⟩) ⟨by simp, by simp⟩ (.int .i64 xp.wait))) (p := ⟨w.heap.size + 1 + 1, 4, none⟩) ⟨by simp, by simp⟩ (.int .i64 xp.tasks))) (p := ⟨w.heap.size + 1 + 1, 5, none⟩) ⟨by simp, by simp⟩ (.slice A1 xp.edges.length c1))) (p := ⟨w.heap.size + 1 + 1, 6, none⟩) ⟨by simp, by simp⟩ (.int .i64 xs))
  have hw2 : Below w.heap.size w W2 := by rw [hW2]; exact (Below.setCell (Below.setCell (Below.setCell (Below.setCell (Below.setCell (Below.setCell hw1 (p := ⟨w.heap.size + 1 + 1, 1, none⟩) (by simp; omega) (.int .i64 xp.prio)) (p := ⟨w.heap.size + 1 + 1, 2, none⟩) (by simp; omega) (.int .i64 xp.most)) (p := ⟨w.heap.size + 1 + 1, 3, none⟩) (by simp; omega) (.int .i64 xp.wait)) (p := ⟨w.heap.size + 1 + 1, 4, none⟩) (by simp; omega) (.int .i64 xp.tasks)) (p := ⟨w.heap.size + 1 + 1, 5, none⟩) (by simp; omega) (.slice A1 xp.edges.length c1)) (p := ⟨w.heap.size + 1 + 1, 6, none⟩) (by simp; omega) (.int .i64 xs))
  have HO2 := Lib.hid (Own_plan.keep HO1.out hp2 (.inr (by rw [HZ0.out]; exact Nat.le_refl _)))
  have HKO2 := Lib.hid ko2
  have HKR2 := Lib.hid kr2
  clear hW2 ko2 kr2 hp2 p6 p7 z1 z2 z3 z4 z5 z6 c1' c2' c3' c4' c5' c6' hal hol
  refine (toTaskS_any v ts W2 (Rd.below HT.out hw2) (by omega)).mono ?_
  rintro e w3 ⟨v2, rfl, ho3, hb3⟩
  obtain ⟨A2, c2, rfl, -, -⟩ := (Rd.of_own ho3).shape
  have hw3 := hw2.trans (hb3.mono hw2.size)
  have HKO3 := Lib.hid (HKO2.out.belowV hb3)
  have HKR3 := Lib.hid (HKR2.out.belowV hb3)
  have HO3 := Lib.hid (Own_plan.below HO2.out hb3)
  have HOT := Lib.hid ho3
  have k0 := HKO3.out.cell 0
  have k1 := HKO3.out.cell 1
  have k2 := HKO3.out.cell 2
  have k3 := HKO3.out.cell 3
  have k4 := HKO3.out.cell 4
  have k5 := HKO3.out.cell 5
  have k6 := HKO3.out.cell 6
  have k7 := HKO3.out.cell 7
  have z7 := HKO3.out.frozen 7
  have r0 := HKR3.out.cell 0
  have r1 := HKR3.out.cell 1
  have r2 := HKR3.out.cell 2
  have r3 := HKR3.out.cell 3
  have r4 := HKR3.out.cell 4
  have r5 := HKR3.out.cell 5
  have r6 := HKR3.out.cell 6
  have r7 := HKR3.out.cell 7
  have f0 := HKR3.out.frozen 0
  have f1 := HKR3.out.frozen 1
  have f2 := HKR3.out.frozen 2
  have f3 := HKR3.out.frozen 3
  have f4 := HKR3.out.frozen 4
  have f5 := HKR3.out.frozen 5
  have f6 := HKR3.out.frozen 6
  have f7 := HKR3.out.frozen 7
  simp only [List.getElem?_toArray, List.getElem?_cons_succ, List.getElem?_cons_zero] at k0 k1 k2 k3 k4 k5 k6 k7 r0 r1 r2 r3 r4 r5 r6 r7
  have hol := HKO3.out.lt
  have hrl := HKR3.out.lt
  clear ho3
  go_wp2_with fail
  clear k0 k1 k2 k3 k4 k5 k6 k7 r0 r1 r2 r3 r4 r5 r6 r7 f0 f1 f2 f3 f4 f5 f6 f7 z7
  obtain ⟨W4, hW4⟩ : ∃ W4, W4 = (((((((((w3.setCell ⟨w.heap.size + 1 + 1, 7, none⟩ (.slice A2 ts.length c2)).setCell ⟨w.heap.size + 1, 0, none⟩ (.int .i64 xi)).setCell ⟨w.heap.size + 1, 1, none⟩ (.int .i64 xp.prio)).setCell ⟨w.heap.size + 1, 2, none⟩ (.int .i64 xp.most)).setCell ⟨w.heap.size + 1, 3, none⟩ (.int .i64 xp.wait)).setCell ⟨w.heap.size + 1, 4, none⟩ (.int .i64 xp.tasks)).setCell ⟨w.heap.size + 1, 5, none⟩ (.slice A1 xp.edges.length c1)).setCell ⟨w.heap.size + 1, 6, none⟩ (.int .i64 xs)).setCell ⟨w.heap.size + 1, 7, none⟩ (.slice A2 ts.length c2)) := ⟨_, rfl⟩
  rw [← hW4]
  have kr4 : Blk W4 (w.heap.size + 1) 52 #[.int .i64 xi, .int .i64 xp.prio, .int .i64 xp.most, .int .i64 xp.wait, .int .i64 xp.tasks, .slice A1 xp.edges.length c1, .int .i64 xs, .slice A2 ts.length c2] := by
    rw [hW4]
    have q := (Blk.set_ (Blk.set_ (Blk.set_ (Blk.set_ (Blk.set_ (Blk.set_ (Blk.set_ (Blk.set_ (Blk.far HKR3.out (p := ⟨w.heap.size + 1 + 1, 7, none⟩) (by simp) (.slice A2 ts.length c2)) 0 (.int .i64 xi)) 1 (.int .i64 xp.prio)) 2 (.int .i64 xp.most)) 3 (.int .i64 xp.wait)) 4 (.int .i64 xp.tasks)) 5 (.slice A1 xp.edges.length c1)) 6 (.int .i64 xs)) 7 (.slice A2 ts.length c2))
    simpa using q
  have hp4 : Part (w.heap.size + 1) (w.heap.size + 3) w3 W4 := by rw [hW4]; exact (Part.setCell (Part.setCell (Part.setCell (Part.setCell (Part.setCell (Part.setCell (Part.setCell (Part.setCell (Part.setCell (Part.refl (w.heap.size + 1) (w.heap.size + 3) w3) (p := ⟨w.heap.size + 1 + 1, 7, none⟩) ⟨by simp, by simp⟩ (.slice A2 ts.length c2)) (p := ⟨w.heap.size + 1, 0, none⟩) ⟨by simp, by simp⟩ (.int .i64 xi)) (p := ⟨w.heap.size + 1, 1, none⟩) ⟨by simp, by simp⟩ (.int .i64 xp.prio)) (p := ⟨w.heap.size + 1, 2, none⟩) ⟨by simp, by simp⟩ (.int .i64 xp.most)) (p := ⟨w.heap.size + 1, 3, none⟩) ⟨by simp, by simp⟩ (.int .i64 xp.wait)) (p := ⟨w.heap.size + 1, 4, none⟩) ⟨by simp, by simp⟩ (.int .i64 xp.tasks)) (p := ⟨w.heap.size + 1, 5, none⟩) ⟨by simp, by simp⟩ (.slice A1 xp.edges.length c1)) (p := ⟨w.heap.size + 1, 6, none⟩) ⟨by simp, by simp⟩ (.int .i64 xs)) (p := ⟨w.heap.size + 1, 7, none⟩) ⟨by simp, by simp⟩ (.slice A2 ts.length c2))
  have hw4 : Below w.heap.size w W4 := by rw [hW4]; exact (Below.setCell (Below.setCell (Below.setCell (Below.setCell (Below.setCell (Below.setCell (Below.setCell (Below.setCell (Below.setCell hw3 (p := ⟨w.heap.size + 1 + 1, 7, none⟩) (by simp; omega) (.slice A2 ts.length c2)) (p := ⟨w.heap.size + 1, 0, none⟩) (by simp; try omega) (.int .i64 xi)) (p := ⟨w.heap.size + 1, 1, none⟩) (by simp; try omega) (.int .i64 xp.prio)) (p := ⟨w.heap.size + 1, 2, none⟩) (by simp; try omega) (.int .i64 xp.most)) (p := ⟨w.heap.size + 1, 3, none⟩) (by simp; try omega) (.int .i64 xp.wait)) (p := ⟨w.heap.size + 1, 4, none⟩) (by simp; try omega) (.int .i64 xp.tasks)) (p := ⟨w.heap.size + 1, 5, none⟩) (by simp; try omega) (.slice A1 xp.edges.length c1)) (p := ⟨w.heap.size + 1, 6, none⟩) (by simp; try omega) (.int .i64 xs)) (p := ⟨w.heap.size + 1, 7, none⟩) (by simp; try omega) (.slice A2 ts.length c2))
  have r0 := kr4.cell 0
  have r1 := kr4.cell 1
  have r2 := kr4.cell 2
  have r3 := kr4.cell 3
  have r4 := kr4.cell 4
  have r5 := kr4.cell 5
  have r6 := kr4.cell 6
  have r7 := kr4.cell 7
  simp only [List.getElem?_toArray, List.getElem?_cons_succ, List.getElem?_cons_zero] at r0 r1 r2 r3 r4 r5 r6 r7
  refine bodyPost_ret (v := .agg #[.int .i64 xi, .int .i64 xp.prio, .int .i64 xp.most, .int .i64 xp.wait, .int .i64 xp.tasks, .slice A1 xp.edges.length c1, .int .i64 xs, .slice A2 ts.length c2]) (by simp [results, Try.results49, go_sem, r0, r1, r2, r3, r4, r5, r6, r7]) rfl ⟨_, _, rfl, ?_, hw4⟩
  have he := Own_plan.keep HO3.out hp4 (.inr (by rw [HZ0.out]; exact Nat.le_refl _))
  have hl := he.2.1
  have hT := OwnS.keep (OwnS.of_own HOT.out) hp4 (.inr (by have h1 := HO2.out.2.1; have h2 := HZ0.out; have h3 := hb1.size; have h4 : w1.heap.size ≤ W2.heap.size := h1; omega))
  have hs1 : w1.heap.size ≤ W2.heap.size := HO2.out.2.1
  have hs2 := hb3.size
  have hs3 := hp4.size
  have hs0 := hb1.size
  have hz := HZ0.out
  refine ⟨W2.heap.size, by omega, by omega, ?_, ?_⟩
  · exact OwnS.mono he (by omega) hs1 (by omega)
  · exact OwnS.mono hT (Nat.le_refl _) (by omega) (Nat.le_refl _)

set_option maxHeartbeats 2000000 in
theorem eq_run (u v u' v' : Value) (x : Rn) (w : World) (h1 : Rd_run w u v x) (h2 : Rd_run w u' v' x) :
    Calls Try.prog 51 #[.agg #[.int .i64 x.id, .int .i64 x.plan.prio, .int .i64 x.plan.most, .int .i64 x.plan.wait, .int .i64 x.plan.tasks, u, .int .i64 x.state, v], .agg #[.int .i64 x.id, .int .i64 x.plan.prio, .int .i64 x.plan.most, .int .i64 x.plan.wait, .int .i64 x.plan.tasks, u', .int .i64 x.state, v']] w fun e w' => e = .returned (.bool true) ∧ Below w.heap.size w w' := by
  obtain ⟨xi, xp, xs, ts⟩ := x
  have H1 := Lib.hid h1.1
  have H2 := Lib.hid h2.1
  have H3 := Lib.hid h1.2
  have H4 := Lib.hid h2.2
  obtain ⟨W0, hW0⟩ : ∃ W0, W0 = (w.alloc (.cells #[.int .i64 xi, .int .i64 xp.prio, .int .i64 xp.most, .int .i64 xp.wait, .int .i64 xp.tasks, u, .int .i64 xs, v] 52)).alloc (.cells #[.int .i64 xi, .int .i64 xp.prio, .int .i64 xp.most, .int .i64 xp.wait, .int .i64 xp.tasks, u', .int .i64 xs, v'] 52) := ⟨_, rfl⟩
  have hb0 : Below w.heap.size w W0 := by rw [hW0]; exact (by repeat' first | (with_reducible exact Below.refl _ _) | (with_reducible assumption) | (with_reducible refine Below.setCell ?_ ?_ _) | (with_reducible refine Below.alloc ?_ ?_ _) | (with_reducible refine Below.drew ?_) | (with_reducible refine below_drewN ?_ _) | (with_reducible refine Below.calm ?_ ?_) | exact Nat.le_refl _ | (simp; done) | (simp; omega) | omega)
  have ka : Blk W0 w.heap.size 52 #[.int .i64 xi, .int .i64 xp.prio, .int .i64 xp.most, .int .i64 xp.wait, .int .i64 xp.tasks, u, .int .i64 xs, v] := by rw [hW0]; exact (Blk.new _ _ _).alloc _
  have kb : Blk W0 (w.heap.size + 1) 52 #[.int .i64 xi, .int .i64 xp.prio, .int .i64 xp.most, .int .i64 xp.wait, .int .i64 xp.tasks, u', .int .i64 xs, v'] := by
    rw [hW0]
    have q := Blk.new (w.alloc (.cells #[.int .i64 xi, .int .i64 xp.prio, .int .i64 xp.most, .int .i64 xp.wait, .int .i64 xp.tasks, u, .int .i64 xs, v] 52)) 52 #[.int .i64 xi, .int .i64 xp.prio, .int .i64 xp.most, .int .i64 xp.wait, .int .i64 xp.tasks, u', .int .i64 xs, v']
    rwa [show (w.alloc (.cells #[.int .i64 xi, .int .i64 xp.prio, .int .i64 xp.most, .int .i64 xp.wait, .int .i64 xp.tasks, u, .int .i64 xs, v] 52)).heap.size = w.heap.size + 1 by simp] at q
  have HW0 := Lib.hid hW0
  have HKA := Lib.hid ka
  have HKB := Lib.hid kb
  clear h1 h2 hW0 ka kb
  go_enter Try.func51, Try.ntmps51
  go_wp2_with fail
  rw [← HW0.out]
  refine (eq_plan u u' xp _ (Rd.below H1.out hb0) (Rd.below H2.out hb0)).mono ?_
  rintro e w1 ⟨rfl, hb1⟩
  have hw1 := hb0.trans (hb1.mono hb0.size)
  have ka := HKA.out.belowV hb1
  have kb := HKB.out.belowV hb1
  have p6 := ka.cell 6
  have p7 := ka.cell 7
  have q6 := kb.cell 6
  have q7 := kb.cell 7
  simp only [List.getElem?_toArray, List.getElem?_cons_succ, List.getElem?_cons_zero] at p6 p7 q6 q7
  have hal := ka.lt
  have hbl := kb.lt
  clear ka kb
  go_wp2_with fail
  refine (eqTaskS_any v v' ts _ (Rd.below H3.out hw1) (Rd.below H4.out hw1)).mono ?_
  rintro e w2 ⟨rfl, hb2⟩
  go_wp2_with fail
  go_ret
  exact ⟨rfl, hw1.trans (hb2.mono hw1.size)⟩

set_option maxHeartbeats 2000000 in
theorem mark_run (u v : Value) (x : Rn) (lo hi : Nat) (k : Int) (w : World) (h : Own_run w lo hi u v x) (h0 : 0 ≤ k) (h1 : k ≤ 10000000) (hn : cells_run x ≤ 10000000) :
    Calls Try.prog 52 #[.agg #[.int .i64 x.id, .int .i64 x.plan.prio, .int .i64 x.plan.most, .int .i64 x.plan.wait, .int .i64 x.plan.tasks, u, .int .i64 x.state, v], .int .i64 k] w fun e w' => e = .returned (.int .i64 (k + ((cells_run x : Nat) : Int))) ∧ Held_run w' lo hi u v x k ∧ Part lo hi w w' := by
  obtain ⟨xi, xp, xs, ts⟩ := x
  obtain ⟨m, hlm, hmh, he, ht⟩ := h
  simp only at he ht
  have hcl : xp.edges.length * 2 + ts.length * 4 ≤ 10000000 := hn
  obtain ⟨W0, hW0⟩ : ∃ W0, W0 = w.alloc (.cells #[.int .i64 xi, .int .i64 xp.prio, .int .i64 xp.most, .int .i64 xp.wait, .int .i64 xp.tasks, u, .int .i64 xs, v] 52) := ⟨_, rfl⟩
  have hb0 : Below w.heap.size w W0 := by rw [hW0]; exact (by repeat' first | (with_reducible exact Below.refl _ _) | (with_reducible assumption) | (with_reducible refine Below.setCell ?_ ?_ _) | (with_reducible refine Below.alloc ?_ ?_ _) | (with_reducible refine Below.drew ?_) | (with_reducible refine below_drewN ?_ _) | (with_reducible refine Below.calm ?_ ?_) | exact Nat.le_refl _ | (simp; done) | (simp; omega) | omega)
  have ka : Blk W0 w.heap.size 52 #[.int .i64 xi, .int .i64 xp.prio, .int .i64 xp.most, .int .i64 xp.wait, .int .i64 xp.tasks, u, .int .i64 xs, v] := by rw [hW0]; exact Blk.new _ _ _
  have hmw : m ≤ w.heap.size := he.2.1
  have hhw : hi ≤ w.heap.size := ht.2.1
  have C := Lib.hid (mark_plan u xp lo m k W0 (OwnS.below he hb0) h0 h1 (by unfold cells_plan; omega))
  have HW0 := Lib.hid hW0
  have HKA := Lib.hid ka
  have HT := Lib.hid (OwnS.below ht hb0)
  have HB0 := Lib.hid hb0
  have HC := Lib.hid (show cells_run ⟨xi, xp, xs, ts⟩ = xp.edges.length * 2 + ts.length * 4 from rfl)
  have HCP := Lib.hid (show cells_plan xp = xp.edges.length * 2 from rfl)
  clear he ht hW0 ka hb0 hn
  go_enter Try.func52, Try.ntmps52
  go_wp2_with fail
  rw [← HW0.out]
  refine C.out.mono ?_
  rw [HCP.out]
  rintro e w1 ⟨rfl, hh1, hp1⟩
  have ka := HKA.out.keepV hp1 (.inr hmw)
  have p7 := ka.cell 7
  simp only [List.getElem?_toArray, List.getElem?_cons_succ, List.getElem?_cons_zero] at p7
  have hal := ka.lt
  have HH := Lib.hid hh1
  have HP := Lib.hid hp1
  have hT1 := OwnS.keep HT.out hp1 (.inr (Nat.le_refl _))
  have HT1 := Lib.hid hT1
  obtain ⟨q, hq⟩ : ∃ q, q = k + ((xp.edges.length * 2 : Nat) : Int) := ⟨_, rfl⟩
  have HQ := Lib.hid hq
  have hq0 : 0 ≤ q := by omega
  have hq1 : q ≤ 20000000 := by omega
  rw [← hq]
  clear ka hh1 hp1 hT1 hq
  go_wp2_with fail
  refine (markTaskS_any v ts.length m _ q _ HT1.out.1 hq0 hq1 (by omega)).mono ?_
  rintro e w2 hm2
  obtain ⟨rfl, hh2, hp2⟩ := MarkedS.of HT1.out hm2
  have HH2 := Lib.hid hh2
  have HP2 := Lib.hid hp2
  clear hm2 hh2 hp2
  go_wp2_with fail
  go_ret
  refine ⟨ret_int (by rw [HC.out, HQ.out]; omega), ⟨m, hlm, hmh, ?_, ?_⟩, ?_⟩
  · exact OwnS.keep HH.out HP2.out (.inl (Nat.le_refl _))
  · have h := HH2.out; rw [HQ.out] at h; exact h
  · exact ((Part.of_below HB0.out).trans (HP.out.mono (Nat.le_refl _) hmh)).trans (HP2.out.mono hlm (Nat.le_refl _))

set_option maxHeartbeats 2000000 in
theorem held_run (u v : Value) (x : Rn) (lo hi : Nat) (k : Int) (w : World) (h : Held_run w lo hi u v x k) (h0 : 0 ≤ k) (h1 : k ≤ 10000000) (hn : cells_run x ≤ 10000000) :
    Calls Try.prog 56 #[.agg #[.int .i64 x.id, .int .i64 x.plan.prio, .int .i64 x.plan.most, .int .i64 x.plan.wait, .int .i64 x.plan.tasks, u, .int .i64 x.state, v], .int .i64 k] w fun e w' => e = .returned (.int .i64 (k + ((cells_run x : Nat) : Int))) ∧ Below w.heap.size w w' := by
  obtain ⟨xi, xp, xs, ts⟩ := x
  obtain ⟨m, hlm, hmh, he, ht⟩ := h
  simp only at he ht
  have hcl : xp.edges.length * 2 + ts.length * 4 ≤ 10000000 := hn
  obtain ⟨W0, hW0⟩ : ∃ W0, W0 = w.alloc (.cells #[.int .i64 xi, .int .i64 xp.prio, .int .i64 xp.most, .int .i64 xp.wait, .int .i64 xp.tasks, u, .int .i64 xs, v] 52) := ⟨_, rfl⟩
  have hb0 : Below w.heap.size w W0 := by rw [hW0]; exact (by repeat' first | (with_reducible exact Below.refl _ _) | (with_reducible assumption) | (with_reducible refine Below.setCell ?_ ?_ _) | (with_reducible refine Below.alloc ?_ ?_ _) | (with_reducible refine Below.drew ?_) | (with_reducible refine below_drewN ?_ _) | (with_reducible refine Below.calm ?_ ?_) | exact Nat.le_refl _ | (simp; done) | (simp; omega) | omega)
  have ka : Blk W0 w.heap.size 52 #[.int .i64 xi, .int .i64 xp.prio, .int .i64 xp.most, .int .i64 xp.wait, .int .i64 xp.tasks, u, .int .i64 xs, v] := by rw [hW0]; exact Blk.new _ _ _
  have C := Lib.hid (held_plan u xp lo m k W0 (OwnS.below he hb0) h0 h1 (by unfold cells_plan; omega))
  obtain ⟨q, hq⟩ : ∃ q, q = k + ((xp.edges.length * 2 : Nat) : Int) := ⟨_, rfl⟩
  have HQ := Lib.hid hq
  have hq0 : 0 ≤ q := by omega
  have hq1 : q ≤ 20000000 := by omega
  have HCP := Lib.hid (show k + ((cells_plan xp : Nat) : Int) = q from hq.symm)
  rw [HCP.out] at C
  rw [← hq] at ht
  have CT := Lib.hid (fun (W : World) (hW : Below w.heap.size w W) => heldTaskS_any v ts.length q W (OwnS.rd (OwnS.below ht hW)) hq0 hq1 (by omega))
  obtain ⟨r, hr⟩ : ∃ r, r = q + ((ts.length * 4 : Nat) : Int) := ⟨_, rfl⟩
  have hr0 : 0 ≤ r := by omega
  have HR := Lib.hid (show k + ((cells_run ⟨xi, xp, xs, ts⟩ : Nat) : Int) = r by rw [hr, hq]; unfold cells_run; simp only; omega)
  rw [← hr] at CT
  rw [HR.out]
  have HW0 := Lib.hid hW0
  have HKA := Lib.hid ka
  clear he ht hW0 ka hn hq hr
  go_enter Try.func56, Try.ntmps56
  go_wp2_with fail
  rw [← HW0.out]
  refine C.out.mono ?_
  rintro e w1 ⟨rfl, hb1⟩
  have hw1 := hb0.trans (hb1.mono hb0.size)
  have ka := HKA.out.belowV hb1
  have p7 := ka.cell 7
  simp only [List.getElem?_toArray, List.getElem?_cons_succ, List.getElem?_cons_zero] at p7
  have hal := ka.lt
  clear ka
  go_wp2_with fail
  refine (CT.out _ hw1).mono ?_
  rintro e w2 ⟨rfl, rfl⟩
  go_wp2_with fail
  go_ret
  exact ⟨rfl, hw1⟩

theorem Try.cellsRun : Try.prog.cellsOf 65 = 8 := by kernel_rfl
section
variable {H : Type} {enc : TypeId × Value → H} {W : World} {base : Nat} {d : DataW H} {p : List MemPlace} {v : Value}
def ArgRun (w : World) (v : Value) : Prop := ∃ u t x, v = .agg #[.int .i64 (Rn.id x), .int .i64 x.plan.prio, .int .i64 x.plan.most, .int .i64 x.plan.wait, .int .i64 x.plan.tasks, u, .int .i64 x.state, t] ∧ Rd_run w u t x
theorem Try.cellsI1 : Try.prog.cellsOf 3 = 1 := by kernel_rfl
theorem Try.cellsTs : Try.prog.cellsOf 63 = 1 := by kernel_rfl
theorem Try.cellsEs : Try.prog.cellsOf 40 = 1 := by kernel_rfl
theorem plan_read {fuel : Nat} {cs : List Value} {y : DataW H × List MemPlace} (hl : cs.length = 5) (hf : DataW.trod enc Try.prog W 0 (fun _ => true) true fuel 42 cs = some y) : ∃ u x, cs = [.int .i64 (Pln.prio x), .int .i64 x.most, .int .i64 x.wait, .int .i64 x.tasks, u] ∧ Rd_edgs W u x.edges := by
  match cs, hl with
  | [c0, c1, c2, c3, c4], _ =>
    obtain ⟨xs, n, _, hx, _, hlen, hg⟩ := DataW.trod_struct Try.underlying42 hf
    match xs, hlen with
    | [y0, y1, y2, y3, y4], _ =>
      have t0 := hg 0 _ rfl
      have t1 := hg 1 _ rfl
      have t2 := hg 2 _ rfl
      have t3 := hg 3 _ rfl
      have t4 := hg 4 _ rfl
      simp [Try.cellsI1, Try.cellsEs] at t0 t1 t2 t3 t4
      obtain ⟨n0, e0, _, _⟩ := DataW.trod_int Try.underlying3 t0
      obtain ⟨n1, e1, _, _⟩ := DataW.trod_int Try.underlying3 t1
      obtain ⟨n2, e2, _, _⟩ := DataW.trod_int Try.underlying3 t2
      obtain ⟨n3, e3, _, _⟩ := DataW.trod_int Try.underlying3 t3
      simp at e0 e1 e2 e3
      subst e0 e1 e2 e3
      obtain ⟨l, hl⟩ := edgs_read t4
      exact ⟨c4, ⟨n0, n1, n2, n3, l⟩, rfl, hl⟩
theorem arg_run (hv : Value.okWide Try.prog W .any base 65 v) (h : DataW.Trod enc Try.prog W 0 (fun _ => true) true 65 v d p) : ArgRun W v := by
  obtain ⟨cs, rfl, hsz⟩ := okWide_struct Try.underlying65 hv
  obtain ⟨l⟩ := cs
  match l, hsz.trans Try.cellsRun with
  | [c0, c1, c2, c3, c4, c5, c6, c7], _ =>
    obtain ⟨fuel, hf⟩ := h
    obtain ⟨xs, n, _, hx, _, hlen, hg⟩ := DataW.trod_struct Try.underlying65 hf
    match xs, hlen with
    | [y0, y1, y2, y3], _ =>
      have t0 := hg 0 _ rfl
      have t1 := hg 1 _ rfl
      have t2 := hg 2 _ rfl
      have t3 := hg 3 _ rfl
      simp [Value.cells, Try.cellsI1, Try.cellsTs, Try.cellsPlan] at t0 t1 t2 t3
      obtain ⟨n0, e0, _, _⟩ := DataW.trod_int Try.underlying3 t0
      obtain ⟨n2, e2, _, _⟩ := DataW.trod_int Try.underlying3 t2
      simp at e0 e2
      subst e0 e2
      obtain ⟨u, xp, ep, hp⟩ := plan_read rfl t1
      simp at ep
      obtain ⟨rfl, rfl, rfl, rfl, rfl⟩ := ep
      obtain ⟨l, hl⟩ := tsks_read t3
      exact ⟨c5, c7, ⟨n0, xp, n2, l⟩, rfl, hp, hl⟩
end
end Go.Proofs.Ytbbjkldkjndfaaa

/- A row of tasks that is written cell by cell. -/
namespace Go.Proofs.Ytbbjkldkjndfaaa
set_option linter.unusedSimpArgs false
open Go.RowKit Go.ChangeShapes Go.Deep

/-- Block g holds the tasks l, and room for some. -/
def RowTsk (w : World) (g cap : Nat) (l : List Tsk) : Prop := ∃ f, w.rowIs g 61 (cap * 4) f ∧ l.length ≤ cap ∧ ∀ j, j < l.length * 4 → (tskV l)[j]? = some (f j)
theorem tskV_set {d : List Tsk} {k : Nat} (y : Tsk) {j : Nat} (hj : j < d.length * 4) : (tskV (d.set k y))[j]? = if j / 4 = k then y.cs[j % 4]? else (tskV d)[j]? := by
  have hq : j = j / 4 * 4 + j % 4 := by omega
  have hi : j / 4 < (d.set k y).length := by rw [List.length_set]; omega
  have hi' : j / 4 < d.length := by omega
  by_cases e : j / 4 = k
  · rw [if_pos e]
    conv => lhs; rw [hq]
    rw [tskV_at hi (j % 4) (by omega)]
    have : (d.set k y)[j / 4] = y := by simp [e]
    rw [this]
  · rw [if_neg e]
    conv => lhs; rw [hq]
    conv => rhs; rw [hq]
    rw [tskV_at hi (j % 4) (by omega), tskV_at hi' (j % 4) (by omega)]
    have : (d.set k y)[j / 4] = d[j / 4] := by simp [Ne.symm e]
    rw [this]
theorem RowTsk.put {w : World} {g cap : Nat} {l : List Tsk} (h : RowTsk w g cap l) {k : Nat} (hk : k < l.length) (f : Nat) (hf : f < 4) (y : Tsk) (u : Value) (hy : y.cs[f]? = some u) (ho : ∀ i, i < 4 → i ≠ f → y.cs[i]? = (l[k].cs)[i]?) :
    RowTsk (w.setCell ⟨g, k * 4 + f, none⟩ u) g cap (l.set k y) := by
  obtain ⟨F, h1, h2, h3⟩ := h
  refine ⟨_, h1.set (k * 4 + f) u, by rw [List.length_set]; exact h2, fun j hj => ?_⟩
  rw [List.length_set] at hj
  rw [tskV_set y hj]
  by_cases e : j = k * 4 + f
  · rw [if_pos e, if_pos (by omega), show j % 4 = f by omega, hy]
  · rw [if_neg e]
    by_cases e2 : j / 4 = k
    · rw [if_pos e2, ho _ (by omega) (by omega), ← h3 j hj, ← tskV_at hk (j % 4) (by omega)]
      congr 1
      omega
    · rw [if_neg e2]; exact h3 j hj
theorem RowTsk.cell {w : World} {g cap : Nat} {l : List Tsk} (h : RowTsk w g cap l) {k : Nat} (hk : k < l.length) (x : Tsk) (hx : x = l[k]) :
    w.cell? ⟨g, k * 4, none⟩ = some (.int .i64 x.state) ∧ w.cell? ⟨g, k * 4 + 1, none⟩ = some (.int .i64 x.need) ∧ w.cell? ⟨g, k * 4 + 2, none⟩ = some (.int .i64 x.try_) ∧ w.cell? ⟨g, k * 4 + 3, none⟩ = some (.int .i64 x.until_) := by
  obtain ⟨F, h1, h2, h3⟩ := h
  have key : ∀ f, f < 4 → ∀ u, (l[k].cs)[f]? = some u → w.cell? ⟨g, k * 4 + f, none⟩ = some u := fun f hf u hu => by
    have e := h3 (k * 4 + f) (by omega)
    rw [tskV_at hk f hf, hu] at e
    rw [h1.cell (by omega), ← Option.some.inj e]
  subst hx
  exact ⟨key 0 (by omega) _ rfl, key 1 (by omega) _ rfl, key 2 (by omega) _ rfl, key 3 (by omega) _ rfl⟩
theorem RowTsk.frozen {w : World} {g cap : Nat} {l : List Tsk} (h : RowTsk w g cap l) (i : Nat) : w.frozen? ⟨g, i, none⟩ = false := by obtain ⟨F, h1, _⟩ := h; exact h1.frozen i
theorem RowTsk.lt {w : World} {g cap : Nat} {l : List Tsk} (h : RowTsk w g cap l) : g < w.heap.size := by obtain ⟨F, h1, _⟩ := h; exact h1.lt
theorem RowTsk.of_block {w w' : World} {g cap : Nat} {l : List Tsk} (h : RowTsk w g cap l) (e : w'.heap[g]? = w.heap[g]?) : RowTsk w' g cap l := by obtain ⟨F, h1, h2⟩ := h; exact ⟨F, h1.of_block e, h2⟩
theorem RowTsk.far {w : World} {g cap : Nat} {l : List Tsk} (h : RowTsk w g cap l) {p : Addr} (hp : g ≠ p.block) (u : Value) : RowTsk (w.setCell p u) g cap l := by obtain ⟨F, h1, h2⟩ := h; exact ⟨F, h1.setOther hp u, h2⟩
theorem RowTsk.belowV {w w' : World} {g cap : Nat} {l : List Tsk} (h : RowTsk w g cap l) (hb : Below w.heap.size w w') : RowTsk w' g cap l := h.of_block (hb.block g h.lt)
theorem RowTsk.keepV {w w' : World} {g cap lo hi : Nat} {l : List Tsk} (h : RowTsk w g cap l) (k : Part lo hi w w') (ha : g < lo ∨ hi ≤ g) : RowTsk w' g cap l := h.of_block (k.block g h.lt ha)
theorem RowTsk.own {w : World} {g cap : Nat} {l : List Tsk} (h : RowTsk w g cap l) {base : Nat} (hb : base ≤ g) (hm : cap ≤ maxLen) : w.ownsRow base 61 4 (.slice (some ⟨g, 0, none⟩) l.length cap) l.length (tskV l) := by
  obtain ⟨F, h1, h2, h3⟩ := h
  refine own_of_fun h1 hb h2 hm (tskV_length l) fun j u hu => ?_
  have hj : j < l.length * 4 := by
    have := (List.getElem?_eq_some_iff.1 hu).1
    rwa [tskV_length] at this
  rw [h3 j hj] at hu
  exact Option.some.inj hu
theorem RowTsk.of_own {w : World} {base : Nat} {v : Value} {l : List Tsk} (h : w.ownsRow base 61 4 v l.length (tskV l)) (hl : 0 < l.length) : ∃ g cap, v = .slice (some ⟨g, 0, none⟩) l.length cap ∧ base ≤ g ∧ cap ≤ maxLen ∧ l.length ≤ cap ∧ RowTsk w g cap l := by
  obtain ⟨g, cap, f, he, hlg, hcap, hcm, hrow, hf⟩ := rowIs_of_own h hl
  exact ⟨g, cap, he, hlg, hcm, hcap, f, hrow, hcap, hf⟩
end Go.Proofs.Ytbbjkldkjndfaaa

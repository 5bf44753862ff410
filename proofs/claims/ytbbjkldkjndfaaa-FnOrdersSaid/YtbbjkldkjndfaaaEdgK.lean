/- Edges: slices of them, the law's own functions on these. -/
import Derived.Test.YtbbjkldkjndfaaaKind
import Derived.Test.YtbbjkldkjndfaaaRows
import Derived.Test.YtbbjkldkjndfaaaArgs
import Derived.WalkKit
import Derived.Test.YtbbjkldkjndfaaaReach
namespace Go.Proofs.Ytbbjkldkjndfaaa
open Go.RowKit Go.ChangeShapes Go.WideShapes Go.ChangeAt Go.Deep

def Edg.cs (e : Edg) : List Value := [.int .i64 e.src, .int .i64 e.dst]
def edgV (l : List Edg) : List Value := l.flatMap Edg.cs
theorem edgV_length (l : List Edg) : (edgV l).length = l.length * 2 := flat_length Edg.cs 2 (fun _ => rfl) l
theorem edgV_at {l : List Edg} {k : Nat} (h : k < l.length) (f : Nat) (hf : f < 2) : (edgV l)[k * 2 + f]? = (l[k].cs)[f]? := flat_at Edg.cs 2 (fun _ => rfl) l k h f hf
theorem edgV_one (l : List Edg) : ∀ u ∈ edgV l, u.oneCell' = true := by
  intro u hu
  obtain ⟨e, _, he⟩ := List.mem_flatMap.1 hu
  simp only [Edg.cs, List.mem_cons, List.not_mem_nil, or_false] at he
  rcases he with rfl | rfl <;> rfl
theorem edgV_append (a b : List Edg) : edgV (a ++ b) = edgV a ++ edgV b := by simp [edgV]
theorem Try.infoEdg : (Try.prog.info? 39).map (fun i => (i.zero, i.size, i.bytes)) = some (some (.agg #[.int .i64 0, .int .i64 0]), 2, 16) := by kernel_rfl
/-- The cells of an element, read. -/
theorem edg_cells {w w0 : World} {b off : Nat} {l : List Edg} (hb : Below w0.heap.size w0 w) (hbl : b < w0.heap.size) (hc : ∀ j u, (edgV l)[j]? = some u → w0.cell? ⟨b, off + j, none⟩ = some u) {k : Nat} (hk : k < l.length) (x : Edg) (hx : x = l[k]) :
    w.cell? ⟨b, off + k * 2, none⟩ = some (.int .i64 x.src) ∧ w.cell? ⟨b, off + k * 2 + 1, none⟩ = some (.int .i64 x.dst) := by
  have h := fun f hf => (hb.cell (p := ⟨b, off + (k * 2 + f), none⟩) hbl).trans (hc (k * 2 + f) _ ((edgV_at hk f hf).trans (List.getElem?_eq_getElem hf)))
  rw [← hx] at h
  exact ⟨h 0 (by decide), h 1 (by decide)⟩

set_option maxRecDepth 100000 in
theorem toEdge_any (x : Edg) (w : World) : Calls Try.prog 107 #[(.agg #[.int .i64 x.src, .int .i64 x.dst])] w fun e w' => e = .returned (.agg #[.int .i64 x.src, .int .i64 x.dst]) ∧ Below w.heap.size w w' := by
  go_enter Try.func107, Try.ntmps107
  go_wp2
  exact bodyPost_ret (v := (.agg #[.int .i64 x.src, .int .i64 x.dst])) (by simp [results, Try.results107, go_sem]) rfl ⟨rfl, (by repeat first | exact Below.refl _ _ | assumption | refine Below.drew ?_ | refine below_drewN ?_ _ | refine Below.calm ?_ (by first | exact Nat.le_refl _ | (simp; done) | (simp; omega) | omega) | refine Below.alloc ?_ (by first | exact Nat.le_refl _ | (simp; done) | (simp; omega) | omega) _ | refine Below.setCell ?_ (by first | exact Nat.le_refl _ | (simp; done) | (simp; omega) | omega) _)⟩
set_option maxRecDepth 100000 in
theorem eqEdge_any (x : Edg) (w : World) : Calls Try.prog 108 #[(.agg #[.int .i64 x.src, .int .i64 x.dst]), (.agg #[.int .i64 x.src, .int .i64 x.dst])] w fun e w' => e = .returned (.bool true) ∧ Below w.heap.size w w' := by
  go_enter Try.func108, Try.ntmps108
  go_wp2
  go_ret
  exact ⟨rfl, (by repeat first | exact Below.refl _ _ | assumption | refine Below.drew ?_ | refine below_drewN ?_ _ | refine Below.calm ?_ (by first | exact Nat.le_refl _ | (simp; done) | (simp; omega) | omega) | refine Below.alloc ?_ (by first | exact Nat.le_refl _ | (simp; done) | (simp; omega) | omega) _ | refine Below.setCell ?_ (by first | exact Nat.le_refl _ | (simp; done) | (simp; omega) | omega) _)⟩

set_option maxRecDepth 100000 in
theorem szEdgeS_any (v : Value) (l : List Edg) (left : Int) (w : World) (h : Rd w 2 v l.length (edgV l)) (h0 : 0 ≤ left) (h1 : left ≤ 1048576) :
    Calls Try.prog 71 #[v, .int .i64 left] w fun e w' => e = .returned (.int .i64 (szv left l.length)) ∧ w = w' := by
  obtain ⟨A, c, rfl, hnc, hcm⟩ := h.shape
  unfold maxLen at hcm
  unfold szv
  by_cases hneg : left - l.length < 0
  · rw [if_pos hneg]
    go_enter Try.func71, Try.ntmps71
    go_wp2
    go_ret
    exact ⟨rfl, rfl⟩
  · rw [if_neg hneg]
    go_enter Try.func71, Try.ntmps71
    go_wp2
    go_ret
    exact ⟨rfl, rfl⟩

theorem fill_edg {w : World} {g n : Nat} {t : TypeId} {z : Value} {l : List Edg} {k : Nat} (hk : k < l.length) (x : Edg) (hx : x = l[k]) (h : w.rowIs g t n (fun j => if j < k * 2 then (edgV l).getD j z else z)) :
    ((w.setCell ⟨g, k * 2, none⟩ (.int .i64 x.src)).setCell ⟨g, k * 2 + 1, none⟩ (.int .i64 x.dst)).rowIs g t n (fun j => if j < (k + 1) * 2 then (edgV l).getD j z else z) :=
  ((h.set (k * 2) _).set (k * 2 + 1) _).congr (fun j _ => by
    have e := fun f hf => edgV_at hk f hf
    rw [← hx] at e
    by_cases h1 : j = k * 2 + 1
    · subst h1; rw [if_pos rfl, if_pos (by omega), List.getD_eq_getElem?_getD, e 1 (by decide)]; rfl
    rw [if_neg h1]
    by_cases h0 : j = k * 2
    · subst h0; rw [if_pos rfl, if_pos (by omega), List.getD_eq_getElem?_getD]; have := e 0 (by decide); rw [Nat.add_zero] at this; rw [this]; rfl
    rw [if_neg h0]
    by_cases hb : j < k * 2
    · rw [if_pos hb, if_pos (by omega)]
    · rw [if_neg hb, if_neg (by omega)])

set_option maxHeartbeats 1000000 in
set_option maxRecDepth 100000 in
theorem toEdgeS_any (v : Value) (l : List Edg) (w : World) (h : Rd w 2 v l.length (edgV l)) (hn : l.length ≤ 1048576) :
    Calls Try.prog 72 #[v] w (MadeRow w 39 2 l.length (edgV l)) := by
  obtain ⟨A, c, rfl, hnc, hcm⟩ := h.shape
  obtain ⟨i0, hi, hz0, hz1, hz2⟩ := info_parts Try.infoEdg
  unfold maxLen at hcm
  have hmk := fun W => run_make_rowN (P := Try.prog) 24 39 i0 _ Try.underlying24 hi hz0 .i64 .i64 l.length l.length (Nat.le_refl _) (by rw [hz2]; omega) (by omega) W
  rw [hz1] at hmk
  go_enter Try.func72, Try.ntmps72
  go_wp2
  clear hmk
  go_loopw [4] (fun u4 wr => ∃ k : Nat, k ≤ l.length ∧ u4 = .int .i64 k ∧ wr.rowIs w.heap.size 39 (l.length * 2) (fun j => if j < k * 2 then (edgV l).getD j (.int .i64 0) else .int .i64 0) ∧ Below w.heap.size w wr) (fun u4 _ => l.length - (intOf u4).toNat)
  case atStart => exact ⟨0, Nat.zero_le _, rfl, (rowIs_madeN _ _ _ _).congr (fun j _ => by
      rw [if_neg (by omega)]
      have : j % 2 = 0 ∨ j % 2 = 1 := by omega
      show #[Value.int .i64 0, Value.int .i64 0][j % 2]! = _
      rcases this with h | h <;> rw [h] <;> rfl), (Below.refl _ _).alloc (Nat.le_refl _) _⟩
  case round =>
    obtain ⟨k, hk, rfl, hrow, hb⟩ := hrel
    by_cases hlt : k < l.length
    · obtain ⟨b, off, c', hv, _, _, hbl, hc⟩ := h.form (by omega) (by omega)
      have hA : A = some ⟨b, off, none⟩ := by injection hv
      subst hA
      obtain ⟨x, hx⟩ : ∃ x, x = l[k] := ⟨_, rfl⟩
      obtain ⟨d0, d1⟩ := edg_cells hb hbl hc hlt x hx
      have HF := Lib.hid (fun (W : World) (hr : W.rowIs w.heap.size 39 (l.length * 2) (fun j => if j < k * 2 then (edgV l).getD j (.int .i64 0) else .int .i64 0)) => fill_edg hlt x hx hr)
      clear hv hc hx
      have CT := Lib.hid (fun w => toEdge_any x w)
      have HROW := Lib.hid hrow
      clear hrow
      go_wp2_with (go_at_call 107; refine (CT.out _).mono ?_; rintro e w1 ⟨rfl, hb1⟩; have hrow1 := HROW.out.of_block (hb1.block _ HROW.out.lt); have s0 := hrow1.cell (i := k * 2) (by omega); have s1 := hrow1.cell (i := k * 2 + 1) (by omega); have z0 := hrow1.frozen (k * 2); have z1 := hrow1.frozen (k * 2 + 1); have HR1 := Lib.hid hrow1; clear hrow1)
      go_roundw
      case rel => exact ⟨k + 1, by omega, by go_num, HF.out _ HR1.out, (((hb.trans (hb1.mono hb.size)).setCell (Nat.le_refl _) _).setCell (Nat.le_refl _) _)⟩
      case measure => simp [intOf]; omega
    · obtain rfl : k = l.length := by omega
      have HO := Lib.hid (own_of_rowIs (base := w.heap.size) (size := 2) (n := l.length) hrow (Nat.le_refl _) (by unfold maxLen; omega))
      have HX := Lib.hid (show (List.range (l.length * 2)).map (fun j => if j < l.length * 2 then (edgV l).getD j (.int .i64 0) else .int .i64 0) = edgV l by
        apply List.ext_getElem
        · rw [List.length_map, List.length_range, edgV_length]
        · intro i h1 h2
          have hi : i < l.length * 2 := by simpa using h1
          rw [List.getElem_map, List.getElem_range, if_pos hi, List.getD_eq_getElem?_getD, List.getElem?_eq_getElem h2]
          rfl)
      clear hrow
      go_wp2
      go_ret
      exact ⟨_, rfl, by rw [← HX.out]; exact HO.out, hb⟩

set_option maxHeartbeats 1000000 in
set_option maxRecDepth 100000 in
theorem eqEdgeS_any (v u : Value) (l : List Edg) (w : World) (h1 : Rd w 2 v l.length (edgV l)) (h2 : Rd w 2 u l.length (edgV l)) :
    Calls Try.prog 73 #[v, u] w fun e w' => e = .returned (.bool true) ∧ Below w.heap.size w w' := by
  obtain ⟨A1, c1, rfl, hnc1, hcm1⟩ := h1.shape
  obtain ⟨A2, c2, rfl, hnc2, hcm2⟩ := h2.shape
  unfold maxLen at hcm1 hcm2
  go_enter Try.func73, Try.ntmps73
  go_wp2
  go_loopw [5] (fun i wr => ∃ k : Nat, k ≤ l.length ∧ i = .int .i64 k ∧ Below w.heap.size w wr) (fun i _ => l.length - (intOf i).toNat)
  case atStart => exact ⟨0, Nat.zero_le _, rfl, Below.refl _ _⟩
  case round =>
    obtain ⟨k, hk, rfl, hb⟩ := hrel
    by_cases hlt : k < l.length
    · obtain ⟨b1, o1, _, hv1, _, _, hl1, hc1⟩ := h1.form (by omega) (by omega)
      obtain ⟨b2, o2, _, hv2, _, _, hl2, hc2⟩ := h2.form (by omega) (by omega)
      have hA1 : A1 = some ⟨b1, o1, none⟩ := by injection hv1
      have hA2 : A2 = some ⟨b2, o2, none⟩ := by injection hv2
      subst hA1 hA2
      obtain ⟨x, hx⟩ : ∃ x, x = l[k] := ⟨_, rfl⟩
      obtain ⟨d0, d1⟩ := edg_cells hb hl1 hc1 hlt x hx
      obtain ⟨e0, e1⟩ := edg_cells hb hl2 hc2 hlt x hx
      have hb1 : b1 < wr.heap.size := Nat.lt_of_lt_of_le hl1 hb.size
      have hb2 : b2 < wr.heap.size := Nat.lt_of_lt_of_le hl2 hb.size
      have hk0 : (0 : Int) ≤ (k : Int) := by omega
      have hk1 : (k : Int) < (l.length : Int) := by omega
      have CE := Lib.hid (fun w => eqEdge_any x w)
      clear hx hv1 hv2 hc1 hc2
      go_wp2
      first | refine wp_region_calm_on (by kernel_rfl) (by kernel_rfl) ?_ | refine wp_region_calm_lit (by kernel_rfl) (by kernel_rfl) ?_
      repeat (go_big_quiet_step ((go_at_call 108; exact calm_of (CE.out _))))
      refine wpQuiet_nil ?_
      intro _ hw'
      obtain ⟨k1, hw''⟩ := hw'
      subst hw''
      go_wp2
      go_roundw
      case rel => exact ⟨k + 1, by omega, by go_num, Below.calm hb hb.size⟩
      case measure => simp [intOf]; omega
    · go_wp2
      go_ret
      exact ⟨rfl, hb⟩

set_option maxHeartbeats 1000000 in
set_option maxRecDepth 100000 in
theorem heldEdgeS_any (v : Value) (n : Nat) (k0 : Int) (w : World) (h : Rd w 2 v n (marks mInt k0 (n * 2))) (h0 : 0 ≤ k0) (h1 : k0 ≤ 20000000) (hn : n ≤ 10000000) :
    Calls Try.prog 114 #[v, .int .i64 k0] w fun e w' => e = .returned (.int .i64 (k0 + ((n * 2 : Nat) : Int))) ∧ w = w' := by
  obtain ⟨A1, c1, rfl, hnc1, hcm1⟩ := h.shape
  unfold maxLen at hcm1
  go_enter Try.func114, Try.ntmps114
  go_wp2
  go_loop [5, 1] (fun u5 u1 => ∃ k : Nat, k ≤ n ∧ u5 = .int .i64 k ∧ u1 = .int .i64 (k0 + ((k * 2 : Nat) : Int))) (fun u5 _ => n - (intOf u5).toNat)
  case atStart => exact ⟨0, Nat.zero_le _, rfl, by go_num⟩
  case round =>
    obtain ⟨k, hk, rfl, rfl⟩ := hrel
    by_cases hlt : k < n
    · obtain ⟨b1, o1, _, hv1, _, _, hl1, hc1⟩ := h.form (by omega) (by omega)
      have hA1 : A1 = some ⟨b1, o1, none⟩ := by injection hv1
      subst hA1
      have hx := fun f (hf : f < 2) => hc1 (k * 2 + f) _ (marks_at mInt k0 (show k * 2 + f < n * 2 by omega))
      obtain ⟨q, hq⟩ : ∃ q, q = k0 + ((k * 2 : Nat) : Int) := ⟨_, rfl⟩
      have d0 : w.cell? ⟨b1, o1 + k * 2, none⟩ = some (.int .i64 q) := by rw [hq]; exact hx 0 (by decide)
      have d1 : w.cell? ⟨b1, o1 + k * 2 + 1, none⟩ = some (.int .i64 (q + 1)) := by rw [hq, show k0 + ((k * 2 : Nat) : Int) + 1 = k0 + ((k * 2 + 1 : Nat) : Int) by omega]; exact hx 1 (by decide)
      have hq0 : q ≤ 60000000 := by omega
      have hq1 : 0 ≤ q := by omega
      have HQ := Lib.hid hq
      rw [← hq]
      clear hv1 hc1 hx hq
      go_wp2
      go_round
      case rel => exact ⟨k + 1, by omega, by go_num, by rw [HQ.out]; congr 1; omega⟩
      case measure => simp [intOf]; omega
    · obtain rfl : k = n := by omega
      go_wp2
      go_ret
      exact ⟨rfl, rfl⟩

theorem mark_at_edg {w : World} {g n : Nat} {t : TypeId} {k0 : Int} {f : Nat → Value} {k : Nat} (q : Int) (hq : q = k0 + ((k * 2 : Nat) : Int)) (h : w.rowIs g t n (fun j => if j < k * 2 then mInt (k0 + j) else f j)) :
    ((w.setCell ⟨g, k * 2, none⟩ (.int .i64 (q))).setCell ⟨g, k * 2 + 1, none⟩ (.int .i64 (q + 1))).rowIs g t n (fun j => if j < (k + 1) * 2 then mInt (k0 + j) else f j) :=
  ((h.set (k * 2) _).set (k * 2 + 1) _).congr (fun j _ => by
    subst hq
    by_cases h1 : j = k * 2 + 1
    · subst h1; rw [if_pos rfl, if_pos (by omega)]; show Value.int .i64 _ = .int .i64 _; (first | rfl | (congr 1; omega))
    rw [if_neg h1]
    by_cases h0 : j = k * 2
    · subst h0; rw [if_pos rfl, if_pos (by omega)]; show Value.int .i64 _ = .int .i64 _; (first | rfl | (congr 1; omega))
    rw [if_neg h0]
    by_cases hb : j < k * 2
    · rw [if_pos hb, if_pos (by omega)]
    · rw [if_neg hb, if_neg (by omega)])

set_option maxHeartbeats 1000000 in
set_option maxRecDepth 100000 in
theorem markEdgeS_any (v : Value) (n base : Nat) (xs : List Value) (k0 : Int) (w : World) (h : w.ownsRow base 39 2 v n xs) (h0 : 0 ≤ k0) (h1 : k0 ≤ 20000000) (hn : n ≤ 10000000) :
    Calls Try.prog 74 #[v, .int .i64 k0] w (Marked w base 39 2 n v mInt k0) := by
  by_cases hz : n = 0
  · subst hz
    have hx : xs = [] := List.eq_nil_of_length_eq_zero (by simpa using h.1)
    subst hx
    obtain ⟨A1, c1, rfl, hnc1, hcm1⟩ := (Rd.of_own h).shape
    have H := Lib.hid h
    clear h
    go_enter Try.func74, Try.ntmps74
    go_wp2
    refine wp_loop_rounds 1 ?_
    rw [rounds_succ]
    go_wp2
    go_ret
    exact ⟨ret_int (by simp), by simpa [marks] using H.out, World.grownBy.refl _ _⟩
  · obtain ⟨g, cap, f, rfl, hg, hcap, hcm, hrow0, _⟩ := rowIs_of_own h (by omega)
    unfold maxLen at hcm
    go_enter Try.func74, Try.ntmps74
    go_wp2
    go_loopw [5, 1] (fun u5 u1 wr => ∃ k : Nat, k ≤ n ∧ u5 = .int .i64 k ∧ u1 = .int .i64 (k0 + ((k * 2 : Nat) : Int)) ∧ wr.rowIs g 39 (cap * 2) (fun j => if j < k * 2 then mInt (k0 + j) else f j) ∧ w.grownBy wr (some g)) (fun u5 _ _ => n - (intOf u5).toNat)
    case atStart => exact ⟨0, Nat.zero_le _, rfl, by go_num, hrow0.congr (fun i hi => by simp), World.grownBy.refl _ _⟩
    case round =>
      obtain ⟨k, hk, rfl, rfl, hrow, hgr⟩ := hrel
      by_cases hlt : k < n
      · obtain ⟨q, hq⟩ : ∃ q, q = k0 + ((k * 2 : Nat) : Int) := ⟨_, rfl⟩
        have HM := Lib.hid (mark_at_edg q hq hrow)
        have s0 := hrow.cell (i := k * 2) (by omega)
        have s1 := hrow.cell (i := k * 2 + 1) (by omega)
        have z0 := hrow.frozen (k * 2)
        have z1 := hrow.frozen (k * 2 + 1)
        have hq0 : q ≤ 60000000 := by omega
        have hq1 : 0 ≤ q := by omega
        have HQ := Lib.hid hq
        rw [← hq]
        clear hq hrow hrow0
        go_wp2
        go_roundw
        case rel =>
          refine ⟨k + 1, by omega, by go_num, by rw [HQ.out]; congr 1; omega, ?_, (only_setCell (only_setCell hgr (.inl rfl) _) (.inl rfl) _)⟩
          exact HM.out
        case measure => simp [intOf]; omega
      · obtain rfl : k = n := by omega
        have HO := Lib.hid (own_of_rowIs_cap (base := base) (size := 2) (n := k) (cap := cap) hrow hg hcap (by unfold maxLen; omega))
        have HX := Lib.hid (show (List.range (k * 2)).map (fun j => if j < k * 2 then mInt (k0 + j) else f j) = marks mInt k0 (k * 2) by
          apply List.map_congr_left
          intro j hj
          rw [if_pos (by simpa using hj)])
        clear hrow hrow0
        go_wp2
        go_ret
        exact ⟨rfl, by rw [← HX.out]; exact HO.out, hgr⟩

def Rd_edgs (w : World) (v : Value) (l : List Edg) : Prop := Rd w 2 v l.length (edgV l)
def Own_edgs (w : World) (lo hi : Nat) (v : Value) (l : List Edg) : Prop := OwnS w lo hi 39 2 v l.length (edgV l)
def Held_edgs (w : World) (lo hi : Nat) (v : Value) (n : Nat) (k : Int) : Prop := OwnS w lo hi 39 2 v n (marks mInt k (n * 2))
/-- An argument's slice, read. -/
theorem Try.cellsEdge : Try.prog.cellsOf 108 = 2 := by kernel_rfl
section
variable {H : Type} {enc : TypeId × Value → H} {W : World}
theorem edgs_read {fuel : Nat} {u : Value} {y : DataW H × List MemPlace} (hf : DataW.trod enc Try.prog W 0 (fun _ => true) true fuel 40 [u] = some y) : ∃ l, Rd_edgs W u l := by
  rcases open_slice_fields Try.underlying40 Try.underlying108 (by kernel_rfl) Try.cellsEdge hf with ⟨hcs, _⟩ | ⟨a, len, c, m, D, Pl, hcs, _, hl, hm, hmm, hx, hi⟩
  · simp at hcs
    subst hcs
    exact ⟨[], ⟨none, 0, rfl, Nat.le_refl _, Nat.zero_le _, Reads.none_⟩⟩
  · simp at hcs
    subst hcs
    have hml : len ≤ m := by rw [hmm, if_pos rfl]; exact hl
    have key : ∀ i, ∃ x : Edg, i < len → ∀ f u, x.cs[f]? = some u → W.cell? (a.add (i * 2 + f)) = some u := by
      intro i
      by_cases hil : i < len
      · obtain ⟨ys, n, _, _, _, hcell⟩ := hi i (by omega)
        obtain ⟨v0, y0, g0, _, t0⟩ := hcell 0 _ rfl
        obtain ⟨v1, y1, g1, _, t1⟩ := hcell 1 _ rfl
        obtain ⟨n0, e0, _, _⟩ := DataW.trod_int Try.underlying3 t0
        obtain ⟨n1, e1, _, _⟩ := DataW.trod_int Try.underlying3 t1
        simp at e0 e1
        subst e0 e1
        refine ⟨⟨n0, n1⟩, fun _ f u hu => ?_⟩
        have hf4 : f < 2 := (List.getElem?_eq_some_iff.1 hu).1
        have : f = 0 ∨ f = 1 := by omega
        rcases this with rfl | rfl <;> (simp only [Edg.cs, List.getElem?_cons_zero, List.getElem?_cons_succ, Option.some.injEq] at hu; subst hu; assumption)
      · exact ⟨⟨0, 0⟩, fun h => absurd h hil⟩
    obtain ⟨E, hE⟩ := Classical.axiomOfChoice key
    have hlen : ((List.range len).map E).length = len := by simp
    refine ⟨(List.range len).map E, ?_⟩
    unfold Rd_edgs
    rw [hlen]
    refine ⟨some a, c, rfl, hl, hm, by rw [edgV_length, hlen], fun hn => ⟨a, rfl, ?_, fun j u hu => ?_⟩⟩
    · have h0 := hE 0 (by omega) 0 _ rfl
      have := World.block_lt_of_cell? W _ h0
      rwa [block_of_add] at this
    · have hj : j < len * 2 := by
        rcases Nat.lt_or_ge j (len * 2) with h | h
        · exact h
        · rw [List.getElem?_eq_none (by rw [edgV_length, hlen]; exact h)] at hu; cases hu
      have hq : j = j / 2 * 2 + j % 2 := by omega
      have hk : j / 2 < ((List.range len).map E).length := by rw [hlen]; omega
      rw [hq, edgV_at hk (j % 2) (by omega)] at hu
      rw [hq]
      exact hE (j / 2) (by omega) _ _ (by simpa using hu)
end
end Go.Proofs.Ytbbjkldkjndfaaa

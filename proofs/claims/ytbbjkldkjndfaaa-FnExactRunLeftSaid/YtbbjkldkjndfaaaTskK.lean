/- Tasks: slices of them, the law's own functions on these. -/
import Derived.Test.YtbbjkldkjndfaaaKind
import Derived.Test.YtbbjkldkjndfaaaRows
import Derived.Test.YtbbjkldkjndfaaaArgs
import Derived.WalkKit
namespace Go.Proofs.Ytbbjkldkjndfaaa
open Go.RowKit Go.ChangeShapes Go.WideShapes Go.ChangeAt Go.Deep

structure Tsk where
  state : Int
  need : Int
  try_ : Int
  until_ : Int
  deriving DecidableEq
def Tsk.cs (e : Tsk) : List Value := [.int .i64 e.state, .int .i64 e.need, .int .i64 e.try_, .int .i64 e.until_]
def tskV (l : List Tsk) : List Value := l.flatMap Tsk.cs
theorem tskV_length (l : List Tsk) : (tskV l).length = l.length * 4 := flat_length Tsk.cs 4 (fun _ => rfl) l
theorem tskV_at {l : List Tsk} {k : Nat} (h : k < l.length) (f : Nat) (hf : f < 4) : (tskV l)[k * 4 + f]? = (l[k].cs)[f]? := flat_at Tsk.cs 4 (fun _ => rfl) l k h f hf
theorem tskV_one (l : List Tsk) : ∀ u ∈ tskV l, u.oneCell' = true := by
  intro u hu
  obtain ⟨e, _, he⟩ := List.mem_flatMap.1 hu
  simp only [Tsk.cs, List.mem_cons, List.not_mem_nil, or_false] at he
  rcases he with rfl | rfl | rfl | rfl <;> rfl
theorem tskV_append (a b : List Tsk) : tskV (a ++ b) = tskV a ++ tskV b := by simp [tskV]
theorem Try.infoTsk : (Try.prog.info? 61).map (fun i => (i.zero, i.size, i.bytes)) = some (some (.agg #[.int .i64 0, .int .i64 0, .int .i64 0, .int .i64 0]), 4, 32) := by kernel_rfl
/-- The cells of an element, read. -/
theorem tsk_cells {w w0 : World} {b off : Nat} {l : List Tsk} (hb : Below w0.heap.size w0 w) (hbl : b < w0.heap.size) (hc : ∀ j u, (tskV l)[j]? = some u → w0.cell? ⟨b, off + j, none⟩ = some u) {k : Nat} (hk : k < l.length) (x : Tsk) (hx : x = l[k]) :
    w.cell? ⟨b, off + k * 4, none⟩ = some (.int .i64 x.state) ∧ w.cell? ⟨b, off + k * 4 + 1, none⟩ = some (.int .i64 x.need) ∧ w.cell? ⟨b, off + k * 4 + 2, none⟩ = some (.int .i64 x.try_) ∧ w.cell? ⟨b, off + k * 4 + 3, none⟩ = some (.int .i64 x.until_) := by
  have h := fun f hf => (hb.cell (p := ⟨b, off + (k * 4 + f), none⟩) hbl).trans (hc (k * 4 + f) _ ((tskV_at hk f hf).trans (List.getElem?_eq_getElem hf)))
  rw [← hx] at h
  exact ⟨h 0 (by decide), h 1 (by decide), h 2 (by decide), h 3 (by decide)⟩

set_option maxRecDepth 100000 in
theorem toTask_any (x : Tsk) (w : World) : Calls Try.prog 112 #[(.agg #[.int .i64 x.state, .int .i64 x.need, .int .i64 x.try_, .int .i64 x.until_])] w fun e w' => e = .returned (.agg #[.int .i64 x.state, .int .i64 x.need, .int .i64 x.try_, .int .i64 x.until_]) ∧ Below w.heap.size w w' := by
  go_enter Try.func112, Try.ntmps112
  go_wp2
  exact bodyPost_ret (v := (.agg #[.int .i64 x.state, .int .i64 x.need, .int .i64 x.try_, .int .i64 x.until_])) (by simp [results, Try.results112, go_sem]) rfl ⟨rfl, (by repeat first | exact Below.refl _ _ | assumption | refine Below.drew ?_ | refine below_drewN ?_ _ | refine Below.calm ?_ (by first | exact Nat.le_refl _ | (simp; done) | (simp; omega) | omega) | refine Below.alloc ?_ (by first | exact Nat.le_refl _ | (simp; done) | (simp; omega) | omega) _ | refine Below.setCell ?_ (by first | exact Nat.le_refl _ | (simp; done) | (simp; omega) | omega) _)⟩
set_option maxRecDepth 100000 in
theorem eqTask_any (x : Tsk) (w : World) : Calls Try.prog 113 #[(.agg #[.int .i64 x.state, .int .i64 x.need, .int .i64 x.try_, .int .i64 x.until_]), (.agg #[.int .i64 x.state, .int .i64 x.need, .int .i64 x.try_, .int .i64 x.until_])] w fun e w' => e = .returned (.bool true) ∧ Below w.heap.size w w' := by
  go_enter Try.func113, Try.ntmps113
  go_wp2
  go_ret
  exact ⟨rfl, (by repeat first | exact Below.refl _ _ | assumption | refine Below.drew ?_ | refine below_drewN ?_ _ | refine Below.calm ?_ (by first | exact Nat.le_refl _ | (simp; done) | (simp; omega) | omega) | refine Below.alloc ?_ (by first | exact Nat.le_refl _ | (simp; done) | (simp; omega) | omega) _ | refine Below.setCell ?_ (by first | exact Nat.le_refl _ | (simp; done) | (simp; omega) | omega) _)⟩

set_option maxRecDepth 100000 in
theorem szTaskS_any (v : Value) (l : List Tsk) (left : Int) (w : World) (h : Rd w 4 v l.length (tskV l)) (h0 : 0 ≤ left) (h1 : left ≤ 1048576) :
    Calls Try.prog 90 #[v, .int .i64 left] w fun e w' => e = .returned (.int .i64 (szv left l.length)) ∧ w = w' := by
  obtain ⟨A, c, rfl, hnc, hcm⟩ := h.shape
  unfold maxLen at hcm
  unfold szv
  by_cases hneg : left - l.length < 0
  · rw [if_pos hneg]
    go_enter Try.func90, Try.ntmps90
    go_wp2
    go_ret
    exact ⟨rfl, rfl⟩
  · rw [if_neg hneg]
    go_enter Try.func90, Try.ntmps90
    go_wp2
    go_ret
    exact ⟨rfl, rfl⟩

theorem fill_tsk {w : World} {g n : Nat} {t : TypeId} {z : Value} {l : List Tsk} {k : Nat} (hk : k < l.length) (x : Tsk) (hx : x = l[k]) (h : w.rowIs g t n (fun j => if j < k * 4 then (tskV l).getD j z else z)) :
    ((((w.setCell ⟨g, k * 4, none⟩ (.int .i64 x.state)).setCell ⟨g, k * 4 + 1, none⟩ (.int .i64 x.need)).setCell ⟨g, k * 4 + 2, none⟩ (.int .i64 x.try_)).setCell ⟨g, k * 4 + 3, none⟩ (.int .i64 x.until_)).rowIs g t n (fun j => if j < (k + 1) * 4 then (tskV l).getD j z else z) :=
  ((((h.set (k * 4) _).set (k * 4 + 1) _).set (k * 4 + 2) _).set (k * 4 + 3) _).congr (fun j _ => by
    have e := fun f hf => tskV_at hk f hf
    rw [← hx] at e
    by_cases h3 : j = k * 4 + 3
    · subst h3; rw [if_pos rfl, if_pos (by omega), List.getD_eq_getElem?_getD, e 3 (by decide)]; rfl
    rw [if_neg h3]
    by_cases h2 : j = k * 4 + 2
    · subst h2; rw [if_pos rfl, if_pos (by omega), List.getD_eq_getElem?_getD, e 2 (by decide)]; rfl
    rw [if_neg h2]
    by_cases h1 : j = k * 4 + 1
    · subst h1; rw [if_pos rfl, if_pos (by omega), List.getD_eq_getElem?_getD, e 1 (by decide)]; rfl
    rw [if_neg h1]
    by_cases h0 : j = k * 4
    · subst h0; rw [if_pos rfl, if_pos (by omega), List.getD_eq_getElem?_getD]; have := e 0 (by decide); rw [Nat.add_zero] at this; rw [this]; rfl
    rw [if_neg h0]
    by_cases hb : j < k * 4
    · rw [if_pos hb, if_pos (by omega)]
    · rw [if_neg hb, if_neg (by omega)])

set_option maxHeartbeats 1000000 in
set_option maxRecDepth 100000 in
theorem toTaskS_any (v : Value) (l : List Tsk) (w : World) (h : Rd w 4 v l.length (tskV l)) (hn : l.length ≤ 1048576) :
    Calls Try.prog 91 #[v] w (MadeRow w 61 4 l.length (tskV l)) := by
  obtain ⟨A, c, rfl, hnc, hcm⟩ := h.shape
  obtain ⟨i0, hi, hz0, hz1, hz2⟩ := info_parts Try.infoTsk
  unfold maxLen at hcm
  have hmk := fun W => run_make_rowN (P := Try.prog) 50 61 i0 _ Try.underlying50 hi hz0 .i64 .i64 l.length l.length (Nat.le_refl _) (by rw [hz2]; omega) (by omega) W
  rw [hz1] at hmk
  go_enter Try.func91, Try.ntmps91
  go_wp2
  clear hmk
  go_loopw [4] (fun u4 wr => ∃ k : Nat, k ≤ l.length ∧ u4 = .int .i64 k ∧ wr.rowIs w.heap.size 61 (l.length * 4) (fun j => if j < k * 4 then (tskV l).getD j (.int .i64 0) else .int .i64 0) ∧ Below w.heap.size w wr) (fun u4 _ => l.length - (intOf u4).toNat)
  case atStart => exact ⟨0, Nat.zero_le _, rfl, (rowIs_madeN _ _ _ _).congr (fun j _ => by
      rw [if_neg (by omega)]
      have : j % 4 = 0 ∨ j % 4 = 1 ∨ j % 4 = 2 ∨ j % 4 = 3 := by omega
      show #[Value.int .i64 0, Value.int .i64 0, Value.int .i64 0, Value.int .i64 0][j % 4]! = _
      rcases this with h | h | h | h <;> rw [h] <;> rfl), (Below.refl _ _).alloc (Nat.le_refl _) _⟩
  case round =>
    obtain ⟨k, hk, rfl, hrow, hb⟩ := hrel
    by_cases hlt : k < l.length
    · obtain ⟨b, off, c', hv, _, _, hbl, hc⟩ := h.form (by omega) (by omega)
      have hA : A = some ⟨b, off, none⟩ := by injection hv
      subst hA
      obtain ⟨x, hx⟩ : ∃ x, x = l[k] := ⟨_, rfl⟩
      obtain ⟨d0, d1, d2, d3⟩ := tsk_cells hb hbl hc hlt x hx
      have HF := Lib.hid (fun (W : World) (hr : W.rowIs w.heap.size 61 (l.length * 4) (fun j => if j < k * 4 then (tskV l).getD j (.int .i64 0) else .int .i64 0)) => fill_tsk hlt x hx hr)
      clear hv hc hx
      have CT := Lib.hid (fun w => toTask_any x w)
      have HROW := Lib.hid hrow
      clear hrow
      go_wp2_with (go_at_call 112; refine (CT.out _).mono ?_; rintro e w1 ⟨rfl, hb1⟩; have hrow1 := HROW.out.of_block (hb1.block _ HROW.out.lt); have s0 := hrow1.cell (i := k * 4) (by omega); have s1 := hrow1.cell (i := k * 4 + 1) (by omega); have s2 := hrow1.cell (i := k * 4 + 2) (by omega); have s3 := hrow1.cell (i := k * 4 + 3) (by omega); have z0 := hrow1.frozen (k * 4); have z1 := hrow1.frozen (k * 4 + 1); have z2 := hrow1.frozen (k * 4 + 2); have z3 := hrow1.frozen (k * 4 + 3); have HR1 := Lib.hid hrow1; clear hrow1)
      go_roundw
      case rel => exact ⟨k + 1, by omega, by go_num, HF.out _ HR1.out, (((((hb.trans (hb1.mono hb.size)).setCell (Nat.le_refl _) _).setCell (Nat.le_refl _) _).setCell (Nat.le_refl _) _).setCell (Nat.le_refl _) _)⟩
      case measure => simp [intOf]; omega
    · obtain rfl : k = l.length := by omega
      have HO := Lib.hid (own_of_rowIs (base := w.heap.size) (size := 4) (n := l.length) hrow (Nat.le_refl _) (by unfold maxLen; omega))
      have HX := Lib.hid (show (List.range (l.length * 4)).map (fun j => if j < l.length * 4 then (tskV l).getD j (.int .i64 0) else .int .i64 0) = tskV l by
        apply List.ext_getElem
        · rw [List.length_map, List.length_range, tskV_length]
        · intro i h1 h2
          have hi : i < l.length * 4 := by simpa using h1
          rw [List.getElem_map, List.getElem_range, if_pos hi, List.getD_eq_getElem?_getD, List.getElem?_eq_getElem h2]
          rfl)
      clear hrow
      go_wp2
      go_ret
      exact ⟨_, rfl, by rw [← HX.out]; exact HO.out, hb⟩

set_option maxHeartbeats 1000000 in
set_option maxRecDepth 100000 in
theorem eqTaskS_any (v u : Value) (l : List Tsk) (w : World) (h1 : Rd w 4 v l.length (tskV l)) (h2 : Rd w 4 u l.length (tskV l)) :
    Calls Try.prog 92 #[v, u] w fun e w' => e = .returned (.bool true) ∧ Below w.heap.size w w' := by
  obtain ⟨A1, c1, rfl, hnc1, hcm1⟩ := h1.shape
  obtain ⟨A2, c2, rfl, hnc2, hcm2⟩ := h2.shape
  unfold maxLen at hcm1 hcm2
  go_enter Try.func92, Try.ntmps92
  go_wp2
  go_loopw [5] (fun i wr => ∃ k : Nat, k ≤ l.length ∧ i = .int .i64 k ∧ Below w.heap.size w wr) (fun i _ => l.length - (intOf i).toNat)
  case atStart => exact ⟨0, Nat.zero_le _, rfl, Below.refl _ _⟩
  case round =>
    obtain ⟨k, hk, rfl, hb⟩ := hrel
    by_cases hlt : k < l.length
    · obtain ⟨b1, o1, _, hv1, _, _, hl1, hc1⟩ := h1.form (by omega) (by omega)
      obtain ⟨b2, o2, _, hv2, _, _, hl2, hc2⟩ := h2.form (by omega) (by omega)
      have hA1 : A1 = some ⟨b1, o1, none⟩ := by injection hv1
      have hA2 : A2 = some ⟨b2, o2, none⟩ := by injection hv2
      subst hA1 hA2
      obtain ⟨x, hx⟩ : ∃ x, x = l[k] := ⟨_, rfl⟩
      obtain ⟨d0, d1, d2, d3⟩ := tsk_cells hb hl1 hc1 hlt x hx
      obtain ⟨e0, e1, e2, e3⟩ := tsk_cells hb hl2 hc2 hlt x hx
      have hb1 : b1 < wr.heap.size := Nat.lt_of_lt_of_le hl1 hb.size
      have hb2 : b2 < wr.heap.size := Nat.lt_of_lt_of_le hl2 hb.size
      have hk0 : (0 : Int) ≤ (k : Int) := by omega
      have hk1 : (k : Int) < (l.length : Int) := by omega
      have CE := Lib.hid (fun w => eqTask_any x w)
      clear hx hv1 hv2 hc1 hc2
      go_wp2
      first | refine wp_region_calm_on (by kernel_rfl) (by kernel_rfl) ?_ | refine wp_region_calm_lit (by kernel_rfl) (by kernel_rfl) ?_
      repeat (go_big_quiet_step ((go_at_call 113; exact calm_of (CE.out _))))
      refine wpQuiet_nil ?_
      intro _ hw'
      obtain ⟨k1, hw''⟩ := hw'
      subst hw''
      go_wp2
      go_roundw
      case rel => exact ⟨k + 1, by omega, by go_num, Below.calm hb hb.size⟩
      case measure => simp [intOf]; omega
    · go_wp2
      go_ret
      exact ⟨rfl, hb⟩

set_option maxHeartbeats 1000000 in
set_option maxRecDepth 100000 in
theorem heldTaskS_any (v : Value) (n : Nat) (k0 : Int) (w : World) (h : Rd w 4 v n (marks mInt k0 (n * 4))) (h0 : 0 ≤ k0) (h1 : k0 ≤ 20000000) (hn : n ≤ 10000000) :
    Calls Try.prog 96 #[v, .int .i64 k0] w fun e w' => e = .returned (.int .i64 (k0 + ((n * 4 : Nat) : Int))) ∧ w = w' := by
  obtain ⟨A1, c1, rfl, hnc1, hcm1⟩ := h.shape
  unfold maxLen at hcm1
  go_enter Try.func96, Try.ntmps96
  go_wp2
  go_loop [5, 1] (fun u5 u1 => ∃ k : Nat, k ≤ n ∧ u5 = .int .i64 k ∧ u1 = .int .i64 (k0 + ((k * 4 : Nat) : Int))) (fun u5 _ => n - (intOf u5).toNat)
  case atStart => exact ⟨0, Nat.zero_le _, rfl, by go_num⟩
  case round =>
    obtain ⟨k, hk, rfl, rfl⟩ := hrel
    by_cases hlt : k < n
    · obtain ⟨b1, o1, _, hv1, _, _, hl1, hc1⟩ := h.form (by omega) (by omega)
      have hA1 : A1 = some ⟨b1, o1, none⟩ := by injection hv1
      subst hA1
      have hx := fun f (hf : f < 4) => hc1 (k * 4 + f) _ (marks_at mInt k0 (show k * 4 + f < n * 4 by omega))
      obtain ⟨q, hq⟩ : ∃ q, q = k0 + ((k * 4 : Nat) : Int) := ⟨_, rfl⟩
      have d0 : w.cell? ⟨b1, o1 + k * 4, none⟩ = some (.int .i64 q) := by rw [hq]; exact hx 0 (by decide)
      have d1 : w.cell? ⟨b1, o1 + k * 4 + 1, none⟩ = some (.int .i64 (q + 1)) := by rw [hq, show k0 + ((k * 4 : Nat) : Int) + 1 = k0 + ((k * 4 + 1 : Nat) : Int) by omega]; exact hx 1 (by decide)
      have d2 : w.cell? ⟨b1, o1 + k * 4 + 2, none⟩ = some (.int .i64 (q + 2)) := by rw [hq, show k0 + ((k * 4 : Nat) : Int) + 2 = k0 + ((k * 4 + 2 : Nat) : Int) by omega]; exact hx 2 (by decide)
      have d3 : w.cell? ⟨b1, o1 + k * 4 + 3, none⟩ = some (.int .i64 (q + 3)) := by rw [hq, show k0 + ((k * 4 : Nat) : Int) + 3 = k0 + ((k * 4 + 3 : Nat) : Int) by omega]; exact hx 3 (by decide)
      have hq0 : q ≤ 60000000 := by omega
      have hq1 : 0 ≤ q := by omega
      have HQ := Lib.hid hq
      rw [← hq]
      clear hv1 hc1 hx hq
      go_wp2
      go_round
      case rel => exact ⟨k + 1, by omega, by go_num, by rw [HQ.out]; congr 1; omega⟩
      case measure => simp [intOf]; omega
    · obtain rfl : k = n := by omega
      go_wp2
      go_ret
      exact ⟨rfl, rfl⟩

theorem mark_at_tsk {w : World} {g n : Nat} {t : TypeId} {k0 : Int} {f : Nat → Value} {k : Nat} (q : Int) (hq : q = k0 + ((k * 4 : Nat) : Int)) (h : w.rowIs g t n (fun j => if j < k * 4 then mInt (k0 + j) else f j)) :
    ((((w.setCell ⟨g, k * 4, none⟩ (.int .i64 (q))).setCell ⟨g, k * 4 + 1, none⟩ (.int .i64 (q + 1))).setCell ⟨g, k * 4 + 2, none⟩ (.int .i64 (q + 1 + 1))).setCell ⟨g, k * 4 + 3, none⟩ (.int .i64 (q + 1 + 1 + 1))).rowIs g t n (fun j => if j < (k + 1) * 4 then mInt (k0 + j) else f j) :=
  ((((h.set (k * 4) _).set (k * 4 + 1) _).set (k * 4 + 2) _).set (k * 4 + 3) _).congr (fun j _ => by
    subst hq
    by_cases h3 : j = k * 4 + 3
    · subst h3; rw [if_pos rfl, if_pos (by omega)]; show Value.int .i64 _ = .int .i64 _; (first | rfl | (congr 1; omega))
    rw [if_neg h3]
    by_cases h2 : j = k * 4 + 2
    · subst h2; rw [if_pos rfl, if_pos (by omega)]; show Value.int .i64 _ = .int .i64 _; (first | rfl | (congr 1; omega))
    rw [if_neg h2]
    by_cases h1 : j = k * 4 + 1
    · subst h1; rw [if_pos rfl, if_pos (by omega)]; show Value.int .i64 _ = .int .i64 _; (first | rfl | (congr 1; omega))
    rw [if_neg h1]
    by_cases h0 : j = k * 4
    · subst h0; rw [if_pos rfl, if_pos (by omega)]; show Value.int .i64 _ = .int .i64 _; (first | rfl | (congr 1; omega))
    rw [if_neg h0]
    by_cases hb : j < k * 4
    · rw [if_pos hb, if_pos (by omega)]
    · rw [if_neg hb, if_neg (by omega)])

set_option maxHeartbeats 1000000 in
set_option maxRecDepth 100000 in
theorem markTaskS_any (v : Value) (n base : Nat) (xs : List Value) (k0 : Int) (w : World) (h : w.ownsRow base 61 4 v n xs) (h0 : 0 ≤ k0) (h1 : k0 ≤ 20000000) (hn : n ≤ 10000000) :
    Calls Try.prog 93 #[v, .int .i64 k0] w (Marked w base 61 4 n v mInt k0) := by
  by_cases hz : n = 0
  · subst hz
    have hx : xs = [] := List.eq_nil_of_length_eq_zero (by simpa using h.1)
    subst hx
    obtain ⟨A1, c1, rfl, hnc1, hcm1⟩ := (Rd.of_own h).shape
    have H := Lib.hid h
    clear h
    go_enter Try.func93, Try.ntmps93
    go_wp2
    refine wp_loop_rounds 1 ?_
    rw [rounds_succ]
    go_wp2
    go_ret
    exact ⟨ret_int (by simp), by simpa [marks] using H.out, World.grownBy.refl _ _⟩
  · obtain ⟨g, cap, f, rfl, hg, hcap, hcm, hrow0, _⟩ := rowIs_of_own h (by omega)
    unfold maxLen at hcm
    go_enter Try.func93, Try.ntmps93
    go_wp2
    go_loopw [5, 1] (fun u5 u1 wr => ∃ k : Nat, k ≤ n ∧ u5 = .int .i64 k ∧ u1 = .int .i64 (k0 + ((k * 4 : Nat) : Int)) ∧ wr.rowIs g 61 (cap * 4) (fun j => if j < k * 4 then mInt (k0 + j) else f j) ∧ w.grownBy wr (some g)) (fun u5 _ _ => n - (intOf u5).toNat)
    case atStart => exact ⟨0, Nat.zero_le _, rfl, by go_num, hrow0.congr (fun i hi => by simp), World.grownBy.refl _ _⟩
    case round =>
      obtain ⟨k, hk, rfl, rfl, hrow, hgr⟩ := hrel
      by_cases hlt : k < n
      · obtain ⟨q, hq⟩ : ∃ q, q = k0 + ((k * 4 : Nat) : Int) := ⟨_, rfl⟩
        have HM := Lib.hid (mark_at_tsk q hq hrow)
        have s0 := hrow.cell (i := k * 4) (by omega)
        have s1 := hrow.cell (i := k * 4 + 1) (by omega)
        have s2 := hrow.cell (i := k * 4 + 2) (by omega)
        have s3 := hrow.cell (i := k * 4 + 3) (by omega)
        have z0 := hrow.frozen (k * 4)
        have z1 := hrow.frozen (k * 4 + 1)
        have z2 := hrow.frozen (k * 4 + 2)
        have z3 := hrow.frozen (k * 4 + 3)
        have hq0 : q ≤ 60000000 := by omega
        have hq1 : 0 ≤ q := by omega
        have HQ := Lib.hid hq
        rw [← hq]
        clear hq hrow hrow0
        go_wp2
        go_roundw
        case rel =>
          refine ⟨k + 1, by omega, by go_num, by rw [HQ.out]; congr 1; omega, ?_, (only_setCell (only_setCell (only_setCell (only_setCell hgr (.inl rfl) _) (.inl rfl) _) (.inl rfl) _) (.inl rfl) _)⟩
          exact HM.out
        case measure => simp [intOf]; omega
      · obtain rfl : k = n := by omega
        have HO := Lib.hid (own_of_rowIs_cap (base := base) (size := 4) (n := k) (cap := cap) hrow hg hcap (by unfold maxLen; omega))
        have HX := Lib.hid (show (List.range (k * 4)).map (fun j => if j < k * 4 then mInt (k0 + j) else f j) = marks mInt k0 (k * 4) by
          apply List.map_congr_left
          intro j hj
          rw [if_pos (by simpa using hj)])
        clear hrow hrow0
        go_wp2
        go_ret
        exact ⟨rfl, by rw [← HX.out]; exact HO.out, hgr⟩

def Rd_tsks (w : World) (v : Value) (l : List Tsk) : Prop := Rd w 4 v l.length (tskV l)
def Own_tsks (w : World) (lo hi : Nat) (v : Value) (l : List Tsk) : Prop := OwnS w lo hi 61 4 v l.length (tskV l)
def Held_tsks (w : World) (lo hi : Nat) (v : Value) (n : Nat) (k : Int) : Prop := OwnS w lo hi 61 4 v n (marks mInt k (n * 4))
/-- An argument's slice, read. -/
theorem Try.cellsTask : Try.prog.cellsOf 113 = 4 := by kernel_rfl
section
variable {H : Type} {enc : TypeId × Value → H} {W : World}
theorem tsks_read {fuel : Nat} {u : Value} {y : DataW H × List MemPlace} (hf : DataW.trod enc Try.prog W 0 (fun _ => true) true fuel 63 [u] = some y) : ∃ l, Rd_tsks W u l := by
  rcases open_slice_fields Try.underlying63 Try.underlying113 (by kernel_rfl) Try.cellsTask hf with ⟨hcs, _⟩ | ⟨a, len, c, m, D, Pl, hcs, _, hl, hm, hmm, hx, hi⟩
  · simp at hcs
    subst hcs
    exact ⟨[], ⟨none, 0, rfl, Nat.le_refl _, Nat.zero_le _, Reads.none_⟩⟩
  · simp at hcs
    subst hcs
    have hml : len ≤ m := by rw [hmm, if_pos rfl]; exact hl
    have key : ∀ i, ∃ x : Tsk, i < len → ∀ f u, x.cs[f]? = some u → W.cell? (a.add (i * 4 + f)) = some u := by
      intro i
      by_cases hil : i < len
      · obtain ⟨ys, n, _, _, _, hcell⟩ := hi i (by omega)
        obtain ⟨v0, y0, g0, _, t0⟩ := hcell 0 _ rfl
        obtain ⟨v1, y1, g1, _, t1⟩ := hcell 1 _ rfl
        obtain ⟨v2, y2, g2, _, t2⟩ := hcell 2 _ rfl
        obtain ⟨v3, y3, g3, _, t3⟩ := hcell 3 _ rfl
        obtain ⟨n0, e0, _, _⟩ := DataW.trod_int Try.underlying3 t0
        obtain ⟨n1, e1, _, _⟩ := DataW.trod_int Try.underlying3 t1
        obtain ⟨n2, e2, _, _⟩ := DataW.trod_int Try.underlying3 t2
        obtain ⟨n3, e3, _, _⟩ := DataW.trod_int Try.underlying3 t3
        simp at e0 e1 e2 e3
        subst e0 e1 e2 e3
        refine ⟨⟨n0, n1, n2, n3⟩, fun _ f u hu => ?_⟩
        have hf4 : f < 4 := (List.getElem?_eq_some_iff.1 hu).1
        have : f = 0 ∨ f = 1 ∨ f = 2 ∨ f = 3 := by omega
        rcases this with rfl | rfl | rfl | rfl <;> (simp only [Tsk.cs, List.getElem?_cons_zero, List.getElem?_cons_succ, Option.some.injEq] at hu; subst hu; assumption)
      · exact ⟨⟨0, 0, 0, 0⟩, fun h => absurd h hil⟩
    obtain ⟨E, hE⟩ := Classical.axiomOfChoice key
    have hlen : ((List.range len).map E).length = len := by simp
    refine ⟨(List.range len).map E, ?_⟩
    unfold Rd_tsks
    rw [hlen]
    refine ⟨some a, c, rfl, hl, hm, by rw [tskV_length, hlen], fun hn => ⟨a, rfl, ?_, fun j u hu => ?_⟩⟩
    · have h0 := hE 0 (by omega) 0 _ rfl
      have := World.block_lt_of_cell? W _ h0
      rwa [block_of_add] at this
    · have hj : j < len * 4 := by
        rcases Nat.lt_or_ge j (len * 4) with h | h
        · exact h
        · rw [List.getElem?_eq_none (by rw [tskV_length, hlen]; exact h)] at hu; cases hu
      have hq : j = j / 4 * 4 + j % 4 := by omega
      have hk : j / 4 < ((List.range len).map E).length := by rw [hlen]; omega
      rw [hq, tskV_at hk (j % 4) (by omega)] at hu
      rw [hq]
      exact hE (j / 4) (by omega) _ _ (by simpa using hu)
end
end Go.Proofs.Ytbbjkldkjndfaaa

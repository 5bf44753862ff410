/- Entries: eq, marks and what is held. -/
import Derived.Test.YtngoagjnaphmhaaEnt
namespace Go.Proofs.Ytngoagjnaphmhaa
open Go.RowKit Go.ChangeShapes Go.Deep

set_option maxHeartbeats 1000000 in
set_option maxRecDepth 100000 in
theorem eqEntryS_any (v u : Value) (l : List Ent) (w : World) (h1 : Rd w 4 v l.length (entV l)) (h2 : Rd w 4 u l.length (entV l)) :
    Calls Try.prog 13 #[v, u] w fun e w' => e = .returned (.bool true) ∧ Below w.heap.size w w' := by
  obtain ⟨A1, c1, rfl, hnc1, hcm1⟩ := h1.shape
  obtain ⟨A2, c2, rfl, hnc2, hcm2⟩ := h2.shape
  unfold maxLen at hcm1 hcm2
  go_enter Try.func13, Try.ntmps13
  go_wp2
  go_loopw [5] (fun i wr => ∃ k : Nat, k ≤ l.length ∧ i = .int .i64 k ∧ Below w.heap.size w wr) (fun i _ => l.length - (intOf i).toNat)
  case atStart => exact ⟨0, Nat.zero_le _, rfl, Below.refl _ _⟩
  case round =>
    obtain ⟨k, hk, rfl, hb⟩ := hrel
    by_cases hlt : k < l.length
    · obtain ⟨b1, o1, _, hv1, _, _, hl1, hc1⟩ := h1.form (by omega) (by omega)
      obtain ⟨b2, o2, _, hv2, _, _, hl2, hc2⟩ := h2.form (by omega) (by omega)
      have hx1 := fun f hf => (hb.cell (p := ⟨b1, o1 + (k * 4 + f), none⟩) hl1).trans (hc1 (k * 4 + f) _ ((entV_at hlt f hf).trans (List.getElem?_eq_getElem hf)))
      have hx2 := fun f hf => (hb.cell (p := ⟨b2, o2 + (k * 4 + f), none⟩) hl2).trans (hc2 (k * 4 + f) _ ((entV_at hlt f hf).trans (List.getElem?_eq_getElem hf)))
      have hA1 : A1 = some ⟨b1, o1, none⟩ := by injection hv1
      have hA2 : A2 = some ⟨b2, o2, none⟩ := by injection hv2
      subst hA1 hA2
      have hb1 : b1 < wr.heap.size := Nat.lt_of_lt_of_le hl1 hb.size
      have hb2 : b2 < wr.heap.size := Nat.lt_of_lt_of_le hl2 hb.size
      have hk0 : (0 : Int) ≤ (k : Int) := by omega
      have hk1 : (k : Int) < (l.length : Int) := by omega
      obtain ⟨x, hx⟩ : ∃ x, x = l[k] := ⟨_, rfl⟩
      obtain ⟨xp, xs, xr, xt⟩ := x
      rw [← hx] at hx1 hx2
      have d0 : wr.cell? ⟨b1, o1 + k * 4, none⟩ = some (.int .i64 xp) := hx1 0 (by decide)
      have d1 : wr.cell? ⟨b1, o1 + k * 4 + 1, none⟩ = some (.int .i64 xs) := hx1 1 (by decide)
      have d2 : wr.cell? ⟨b1, o1 + k * 4 + 2, none⟩ = some (.int .i64 xr) := hx1 2 (by decide)
      have d3 : wr.cell? ⟨b1, o1 + k * 4 + 3, none⟩ = some (.int .i64 xt) := hx1 3 (by decide)
      have e0 : wr.cell? ⟨b2, o2 + k * 4, none⟩ = some (.int .i64 xp) := hx2 0 (by decide)
      have e1 : wr.cell? ⟨b2, o2 + k * 4 + 1, none⟩ = some (.int .i64 xs) := hx2 1 (by decide)
      have e2 : wr.cell? ⟨b2, o2 + k * 4 + 2, none⟩ = some (.int .i64 xr) := hx2 2 (by decide)
      have e3 : wr.cell? ⟨b2, o2 + k * 4 + 3, none⟩ = some (.int .i64 xt) := hx2 3 (by decide)
      have CE := Lib.hid (fun w => eqEntry_any ⟨xp, xs, xr, xt⟩ w)
      unfold Ent.v at CE
      clear hx hv1 hv2 hc1 hc2 hx1 hx2
      go_wp2
      first | refine wp_region_calm_on (by kernel_rfl) (by kernel_rfl) ?_ | refine wp_region_calm_lit (by kernel_rfl) (by kernel_rfl) ?_
      repeat (go_big_quiet_step ((go_at_call 20; exact calm_of (CE.out _))))
      refine wpQuiet_nil ?_
      intro _ hw'
      obtain ⟨k1, hw''⟩ := hw'
      subst hw''
      go_wp2
      go_roundw
      case rel => exact ⟨k + 1, by omega, by go_num, Below.calm hb hb.size⟩
      case measure => simp [intOf]; omega
    · go_wp2
      go_ret
      exact ⟨rfl, hb⟩

/-- The marks of entries: numbers. -/
def mInt (k : Int) : Value := .int .i64 k
set_option maxHeartbeats 1000000 in
set_option maxRecDepth 100000 in
theorem heldEntryS_any (v : Value) (n : Nat) (k0 : Int) (w : World) (h : Rd w 4 v n (marks mInt k0 (n * 4))) (h0 : 0 ≤ k0) (h1 : k0 ≤ 10000000) (hn : n ≤ 10000000) :
    Calls Try.prog 17 #[v, .int .i64 k0] w fun e w' => e = .returned (.int .i64 (k0 + ((n * 4 : Nat) : Int))) ∧ w = w' := by
  obtain ⟨A1, c1, rfl, hnc1, hcm1⟩ := h.shape
  unfold maxLen at hcm1
  go_enter Try.func17, Try.ntmps17
  go_wp2
  go_loop [5, 1] (fun u5 u1 => ∃ k : Nat, k ≤ n ∧ u5 = .int .i64 k ∧ u1 = .int .i64 (k0 + ((k * 4 : Nat) : Int))) (fun u5 _ => n - (intOf u5).toNat)
  case atStart => exact ⟨0, Nat.zero_le _, rfl, by go_num⟩
  case round =>
    obtain ⟨k, hk, rfl, rfl⟩ := hrel
    by_cases hlt : k < n
    · obtain ⟨b1, o1, _, hv1, _, _, hl1, hc1⟩ := h.form (by omega) (by omega)
      have hA1 : A1 = some ⟨b1, o1, none⟩ := by injection hv1
      subst hA1
      have hx := fun f (hf : f < 4) => hc1 (k * 4 + f) _ (marks_at mInt k0 (show k * 4 + f < n * 4 by omega))
      obtain ⟨q, hq⟩ : ∃ q, q = k0 + ((k * 4 : Nat) : Int) := ⟨_, rfl⟩
      have d0 : w.cell? ⟨b1, o1 + k * 4, none⟩ = some (.int .i64 q) := by rw [hq]; exact hx 0 (by decide)
      have d1 : w.cell? ⟨b1, o1 + k * 4 + 1, none⟩ = some (.int .i64 (q + 1)) := by rw [hq, show k0 + ((k * 4 : Nat) : Int) + 1 = k0 + ((k * 4 + 1 : Nat) : Int) by omega]; exact hx 1 (by decide)
      have d2 : w.cell? ⟨b1, o1 + k * 4 + 2, none⟩ = some (.int .i64 (q + 2)) := by rw [hq, show k0 + ((k * 4 : Nat) : Int) + 2 = k0 + ((k * 4 + 2 : Nat) : Int) by omega]; exact hx 2 (by decide)
      have d3 : w.cell? ⟨b1, o1 + k * 4 + 3, none⟩ = some (.int .i64 (q + 3)) := by rw [hq, show k0 + ((k * 4 : Nat) : Int) + 3 = k0 + ((k * 4 + 3 : Nat) : Int) by omega]; exact hx 3 (by decide)
      have hq0 : q ≤ 60000000 := by omega
      have hq1 : 0 ≤ q := by omega
      have HQ := Lib.hid hq
      rw [← hq]
      clear hv1 hc1 hx hq
      go_wp2
      go_round
      case rel => exact ⟨k + 1, by omega, by go_num, by rw [HQ.out]; congr 1; omega⟩
      case measure => simp [intOf]; omega
    · obtain rfl : k = n := by omega
      go_wp2
      go_ret
      exact ⟨rfl, rfl⟩

theorem mark4 {w : World} {g n : Nat} {t : TypeId} {k0 : Int} {f : Nat → Value} {k : Nat} (q : Int) (hq : q = k0 + ((k * 4 : Nat) : Int)) (h : w.rowIs g t n (fun j => if j < k * 4 then mInt (k0 + j) else f j)) :
    ((((w.setCell ⟨g, k * 4, none⟩ (.int .i64 q)).setCell ⟨g, k * 4 + 1, none⟩ (.int .i64 (q + 1))).setCell ⟨g, k * 4 + 2, none⟩ (.int .i64 (q + 1 + 1))).setCell ⟨g, k * 4 + 3, none⟩ (.int .i64 (q + 1 + 1 + 1))).rowIs g t n (fun j => if j < (k + 1) * 4 then mInt (k0 + j) else f j) :=
  ((((h.set (k * 4) _).set (k * 4 + 1) _).set (k * 4 + 2) _).set (k * 4 + 3) _).congr (fun j _ => by
    subst hq
    by_cases h3 : j = k * 4 + 3
    · subst h3; rw [if_pos rfl, if_pos (by omega)]; show Value.int .i64 _ = .int .i64 _; congr 1; omega
    rw [if_neg h3]
    by_cases h2 : j = k * 4 + 2
    · subst h2; rw [if_pos rfl, if_pos (by omega)]; show Value.int .i64 _ = .int .i64 _; congr 1; omega
    rw [if_neg h2]
    by_cases h1 : j = k * 4 + 1
    · subst h1; rw [if_pos rfl, if_pos (by omega)]; show Value.int .i64 _ = .int .i64 _; congr 1; omega
    rw [if_neg h1]
    by_cases h0 : j = k * 4
    · subst h0; rw [if_pos rfl, if_pos (by omega)]; rfl
    rw [if_neg h0]
    by_cases hb : j < k * 4
    · rw [if_pos hb, if_pos (by omega)]
    · rw [if_neg hb, if_neg (by omega)])

set_option maxHeartbeats 1000000 in
set_option maxRecDepth 100000 in
theorem markEntryS_any (v : Value) (n base : Nat) (xs : List Value) (k0 : Int) (w : World) (h : w.ownsRow base 33 4 v n xs) (h0 : 0 ≤ k0) (h1 : k0 ≤ 10000000) (hn : n ≤ 10000000) :
    Calls Try.prog 16 #[v, .int .i64 k0] w (Marked w base 33 4 n v mInt k0) := by
  by_cases hz : n = 0
  · subst hz
    have hx : xs = [] := List.eq_nil_of_length_eq_zero (by simpa using h.1)
    subst hx
    obtain ⟨A1, c1, rfl, hnc1, hcm1⟩ := (Rd.of_own h).shape
    have H := Lib.hid h
    clear h
    go_enter Try.func16, Try.ntmps16
    go_wp2
    refine wp_loop_rounds 1 ?_
    rw [rounds_succ]
    go_wp2
    go_ret
    exact ⟨ret_int (by simp), by simpa [marks] using H.out, World.grownBy.refl _ _⟩
  · obtain ⟨g, cap, f, rfl, hg, hcap, hcm, hrow0, _⟩ := rowIs_of_own h (by omega)
    unfold maxLen at hcm
    go_enter Try.func16, Try.ntmps16
    go_wp2
    go_loopw [5, 1] (fun u5 u1 wr => ∃ k : Nat, k ≤ n ∧ u5 = .int .i64 k ∧ u1 = .int .i64 (k0 + ((k * 4 : Nat) : Int)) ∧ wr.rowIs g 33 (cap * 4) (fun j => if j < k * 4 then mInt (k0 + j) else f j) ∧ w.grownBy wr (some g)) (fun u5 _ _ => n - (intOf u5).toNat)
    case atStart => exact ⟨0, Nat.zero_le _, rfl, by go_num, hrow0.congr (fun i hi => by simp), World.grownBy.refl _ _⟩
    case round =>
      obtain ⟨k, hk, rfl, rfl, hrow, hgr⟩ := hrel
      by_cases hlt : k < n
      · obtain ⟨q, hq⟩ : ∃ q, q = k0 + ((k * 4 : Nat) : Int) := ⟨_, rfl⟩
        have HM := Lib.hid (mark4 q hq hrow)
        have s0 := hrow.cell (i := k * 4) (by omega)
        have s1 := hrow.cell (i := k * 4 + 1) (by omega)
        have s2 := hrow.cell (i := k * 4 + 2) (by omega)
        have s3 := hrow.cell (i := k * 4 + 3) (by omega)
        have z0 := hrow.frozen (k * 4)
        have z1 := hrow.frozen (k * 4 + 1)
        have z2 := hrow.frozen (k * 4 + 2)
        have z3 := hrow.frozen (k * 4 + 3)
        have hq0 : q ≤ 60000000 := by omega
        have hq1 : 0 ≤ q := by omega
        have HQ := Lib.hid hq
        rw [← hq]
        clear hq hrow hrow0
        go_wp2
        go_roundw
        case rel =>
          refine ⟨k + 1, by omega, by go_num, by rw [HQ.out]; congr 1; omega, ?_, only_setCell (only_setCell (only_setCell (only_setCell hgr (.inl rfl) _) (.inl rfl) _) (.inl rfl) _) (.inl rfl) _⟩
          exact HM.out
        case measure => simp [intOf]; omega
      · obtain rfl : k = n := by omega
        have HO := Lib.hid (own_of_rowIs_cap (base := base) (size := 4) (n := k) (cap := cap) hrow hg hcap (by unfold maxLen; omega))
        have HX := Lib.hid (show (List.range (k * 4)).map (fun j => if j < k * 4 then mInt (k0 + j) else f j) = marks mInt k0 (k * 4) by
          apply List.map_congr_left
          intro j hj
          rw [if_pos (by simpa using hj)])
        clear hrow hrow0
        go_wp2
        go_ret
        exact ⟨rfl, by rw [← HX.out]; exact HO.out, hgr⟩
end Go.Proofs.Ytngoagjnaphmhaa

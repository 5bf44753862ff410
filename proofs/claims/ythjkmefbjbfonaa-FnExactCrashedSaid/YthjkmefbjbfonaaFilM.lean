/- Files: marks and what is held. -/
import Derived.Test.YthjkmefbjbfonaaDiskK
import Derived.Test.YthjkmefbjbfonaaMarkText
namespace Go.Proofs.Ythjkmefbjbfonaa
open Go.RowKit Go.ChangeShapes Go.Deep

/-- Cell j of marked files. -/
def mFil (k : Int) (j : Nat) : Value := if j % 3 = 2 then .int .i64 (k + j) else .string (mtext (k + j))
def marksF (k : Int) (n : Nat) : List Value := (List.range (n * 3)).map (mFil k)
theorem marksF_at (k : Int) {n j : Nat} (h : j < n * 3) : (marksF k n)[j]? = some (mFil k j) := by rw [marksF, List.getElem?_map, List.getElem?_range h]; rfl
def Held_disk (w : World) (lo hi : Nat) (v : Value) (d : List Fil) (k : Int) : Prop := OwnS w lo hi 44 3 v d.length (marksF k d.length)
section
variable {w w' : World} {lo hi lo' hi' : Nat} {v : Value} {d : List Fil} {k : Int}
theorem Held_disk.below (h : Held_disk w lo hi v d k) (hb : Below w.heap.size w w') : Held_disk w' lo hi v d k := OwnS.below h hb
theorem Held_disk.keep (h : Held_disk w lo hi v d k) (hp : Part lo' hi' w w') (ha : hi ≤ lo' ∨ hi' ≤ lo) : Held_disk w' lo hi v d k := OwnS.keep h hp ha
end

set_option maxHeartbeats 2000000 in
set_option maxRecDepth 100000 in
theorem markFileS_any (v : Value) (n base : Nat) (xs : List Value) (k0 : Int) (w : World) (h : w.ownsRow base 44 3 v n xs) (h0 : 0 ≤ k0) (h1 : k0 ≤ 10000000) (hn : n ≤ 10000000) :
    Calls Try.prog 75 #[v, .int .i64 k0] w fun e w' => e = .returned (.int .i64 (k0 + ((n * 3 : Nat) : Int))) ∧ w'.ownsRow base 44 3 v n (marksF k0 n) ∧ w.grownBy w' v.ownBlock := by
  by_cases hz : n = 0
  · subst hz
    have hx : xs = [] := List.eq_nil_of_length_eq_zero (by simpa using h.1)
    subst hx
    obtain ⟨A1, c1, rfl, hnc1, hcm1⟩ := (Rd.of_own h).shape
    have H := Lib.hid h
    clear h
    go_enter Try.func75, Try.ntmps75
    go_wp2
    refine wp_loop_rounds 1 ?_
    rw [rounds_succ]
    go_wp2
    go_ret
    exact ⟨ret_int (by simp), by simpa [marksF] using H.out, World.grownBy.refl _ _⟩
  · obtain ⟨g, cap, f, rfl, hg, hcap, hcm, hrow0, _⟩ := rowIs_of_own h (by omega)
    unfold maxLen at hcm
    go_enter Try.func75, Try.ntmps75
    go_wp2
    go_loopw [5, 1] (fun u5 u1 wr => ∃ (k : Nat) (q : Int), k ≤ n ∧ u5 = .int .i64 k ∧ u1 = .int .i64 q ∧ Hid (q = k0 + ((k * 3 : Nat) : Int)) ∧ 0 ≤ q ∧ q ≤ 60000000 ∧ wr.rowIs g 44 (cap * 3) (fun j => if j < k * 3 then mFil k0 j else f j) ∧ w.grownBy wr (some g)) (fun u5 _ _ => n - (intOf u5).toNat)
    case atStart => exact ⟨0, k0, Nat.zero_le _, rfl, rfl, Lib.hid (by simp), by omega, by omega, hrow0.congr (fun i hi => by simp), World.grownBy.refl _ _⟩
    case round =>
      obtain ⟨k, q, hk, rfl, rfl, HQ, hq0, hq1, hrow, hgr⟩ := hrel
      by_cases hlt : k < n
      · have hq2 : q + 3 ≤ 60000000 := by have := HQ.out; omega
        have HROW := Lib.hid hrow
        clear hrow hrow0
        have i0 : (0 : Int) ≤ (k : Int) := by omega
        have i1 : (k : Int) < (n : Int) := by omega
        go_wp2_with fail
        refine (markText_any q _ (by omega)).mono ?_
        rintro e w1 ⟨rfl, hb1⟩
        have r1 := HROW.out.of_block (hb1.block _ HROW.out.lt)
        have s0 := r1.cell (i := k * 3) (by omega)
        have z0 := r1.frozen (k * 3)
        have HR1 := Lib.hid r1
        have hgr1 := only_below hgr hb1
        clear r1 hgr
        go_wp2_with fail
        clear s0 z0
        refine (markText_any (q + 1) _ (by omega)).mono ?_
        rintro e w2 ⟨rfl, hb2⟩
        have hset := HR1.out.set (k * 3) (.string (mtext q))
        have r2 := hset.of_block (hb2.block _ hset.lt)
        have s1 := r2.cell (i := k * 3 + 1) (by omega)
        have z1 := r2.frozen (k * 3 + 1)
        have s2 := r2.cell (i := k * 3 + 2) (by omega)
        have z2 := r2.frozen (k * 3 + 2)
        have hgr2 := only_below (only_setCell hgr1 (p := ⟨g, k * 3, none⟩) (.inl rfl) (.string (mtext q))) hb2
        have HR2 := Lib.hid r2
        generalize (if k * 3 + 1 = k * 3 then Value.string (mtext q) else if k * 3 + 1 < k * 3 then mFil k0 (k * 3 + 1) else f (k * 3 + 1)) = y1 at s1
        generalize (if k * 3 + 2 = k * 3 then Value.string (mtext q) else if k * 3 + 2 < k * 3 then mFil k0 (k * 3 + 2) else f (k * 3 + 2)) = y2 at s2
        clear r2 hset hgr1
        go_wp2_with fail
        go_roundw
        case rel =>
          refine ⟨k + 1, q + 1 + 1 + 1, by omega, by go_num, rfl, Lib.hid (by have := HQ.out; omega), by omega, by omega, ?_, only_setCell (only_setCell hgr2 (.inl rfl) _) (.inl rfl) _⟩
          have hq := HQ.out
          refine ((HR2.out.set (k * 3 + 1) _).set (k * 3 + 2) _).congr (fun j _ => ?_)
          have m0 : mFil k0 (k * 3) = .string (mtext q) := by rw [mFil, if_neg (by omega), hq]
          have m1 : mFil k0 (k * 3 + 1) = .string (mtext (q + 1)) := by rw [mFil, if_neg (by omega), hq]; congr 2; omega
          have m2 : mFil k0 (k * 3 + 2) = .int .i64 (q + 1 + 1) := by rw [mFil, if_pos (by omega), hq]; congr 1; omega
          by_cases e2 : j = k * 3 + 2
          · subst e2; rw [if_pos rfl, if_pos (by omega), m2]
          rw [if_neg e2]
          by_cases e1 : j = k * 3 + 1
          · subst e1; rw [if_pos rfl, if_pos (by omega), m1]
          rw [if_neg e1]
          by_cases e0 : j = k * 3
          · subst e0; rw [if_pos rfl, if_pos (by omega), m0]
          rw [if_neg e0]
          by_cases hb : j < k * 3
          · rw [if_pos hb, if_pos (by omega)]
          · rw [if_neg hb, if_neg (by omega)]
        case measure => simp [intOf]; omega
      · obtain rfl : k = n := by omega
        have HO := Lib.hid (own_of_rowIs_cap (base := base) (size := 3) (n := k) (cap := cap) hrow hg hcap (by unfold maxLen; omega))
        have HX := Lib.hid (show (List.range (k * 3)).map (fun j => if j < k * 3 then mFil k0 j else f j) = marksF k0 k by
          apply List.map_congr_left
          intro j hj
          rw [if_pos (by simpa using hj)])
        clear hrow hrow0
        go_wp2
        go_ret
        exact ⟨ret_int HQ.out, by rw [← HX.out]; exact HO.out, hgr⟩

set_option maxHeartbeats 2000000 in
set_option maxRecDepth 100000 in
theorem heldFileS_any (v : Value) (n : Nat) (k0 : Int) (w : World) (h : Rd w 3 v n (marksF k0 n)) (h0 : 0 ≤ k0) (h1 : k0 ≤ 10000000) (hn : n ≤ 10000000) :
    Calls Try.prog 76 #[v, .int .i64 k0] w fun e w' => e = .returned (.int .i64 (k0 + ((n * 3 : Nat) : Int))) ∧ Below w.heap.size w w' := by
  obtain ⟨A1, c1, rfl, hnc1, hcm1⟩ := h.shape
  unfold maxLen at hcm1
  go_enter Try.func76, Try.ntmps76
  go_wp2
  go_loopw [5, 1] (fun u5 u1 wr => ∃ (k : Nat) (q : Int), k ≤ n ∧ u5 = .int .i64 k ∧ u1 = .int .i64 q ∧ Hid (q = k0 + ((k * 3 : Nat) : Int)) ∧ 0 ≤ q ∧ q ≤ 60000000 ∧ Below w.heap.size w wr) (fun u5 _ _ => n - (intOf u5).toNat)
  case atStart => exact ⟨0, k0, Nat.zero_le _, rfl, rfl, Lib.hid (by simp), by omega, by omega, Below.refl _ _⟩
  case round =>
    obtain ⟨k, q, hk, rfl, rfl, HQ, hq0, hq1, hb⟩ := hrel
    by_cases hlt : k < n
    · obtain ⟨b1, o1, _, hv1, _, _, hl1, hc1⟩ := h.form (by omega) (by omega)
      have hA1 : A1 = some ⟨b1, o1, none⟩ := by injection hv1
      subst hA1
      have hq := HQ.out
      have hq2 : q + 3 ≤ 60000000 := by omega
      have m0 : mFil k0 (k * 3) = .string (mtext q) := by rw [mFil, if_neg (by omega), hq]
      have m1 : mFil k0 (k * 3 + 1) = .string (mtext (q + 1)) := by rw [mFil, if_neg (by omega), hq]; congr 2; omega
      have m2 : mFil k0 (k * 3 + 2) = .int .i64 (q + 1 + 1) := by rw [mFil, if_pos (by omega), hq]; congr 1; omega
      have d0 := (hb.cell (p := ⟨b1, o1 + (k * 3), none⟩) hl1).trans (hc1 (k * 3) _ (marksF_at k0 (by omega)))
      have d1 := (hb.cell (p := ⟨b1, o1 + (k * 3 + 1), none⟩) hl1).trans (hc1 (k * 3 + 1) _ (marksF_at k0 (by omega)))
      have d2 := (hb.cell (p := ⟨b1, o1 + (k * 3 + 2), none⟩) hl1).trans (hc1 (k * 3 + 2) _ (marksF_at k0 (by omega)))
      rw [m0] at d0
      rw [m1, ← Nat.add_assoc] at d1
      rw [m2, ← Nat.add_assoc] at d2
      have hb1 : b1 < wr.heap.size := Nat.lt_of_lt_of_le hl1 hb.size
      have hk0 : (0 : Int) ≤ (k : Int) := by omega
      have hk1 : (k : Int) < (n : Int) := by omega
      have CM := Lib.hid (fun w => markText_any q w (by omega))
      have CN := Lib.hid (fun w => markText_any (q + 1) w (by omega))
      obtain ⟨t, ht⟩ : ∃ t, t = mtext q := ⟨_, rfl⟩
      obtain ⟨u, hu⟩ : ∃ u, u = mtext (q + 1) := ⟨_, rfl⟩
      rw [← ht] at d0 CM
      rw [← hu] at d1 CN
      clear hq m0 m1 m2 hv1 hc1 ht hu
      go_wp2
      first | refine wp_region_calm_on (by kernel_rfl) (by kernel_rfl) ?_ | refine wp_region_calm_lit (by kernel_rfl) (by kernel_rfl) ?_
      repeat (go_big_quiet_step ((go_at_call 96; exact calm_of (CM.out _))))
      refine wpQuiet_nil ?_
      intro _ hw'
      obtain ⟨k1, hw''⟩ := hw'
      subst hw''
      go_wp2
      first | refine wp_region_calm_on (by kernel_rfl) (by kernel_rfl) ?_ | refine wp_region_calm_lit (by kernel_rfl) (by kernel_rfl) ?_
      repeat (go_big_quiet_step ((go_at_call 96; exact calm_of (CN.out _))))
      refine wpQuiet_nil ?_
      intro _ hw'
      obtain ⟨k2, hw''⟩ := hw'
      subst hw''
      go_wp2
      go_roundw
      case rel => exact ⟨k + 1, q + 1 + 1 + 1, by omega, by go_num, rfl, Lib.hid (by have := HQ.out; omega), by omega, by omega, Below.calm hb hb.size⟩
      case measure => simp [intOf]; omega
    · obtain rfl : k = n := by omega
      go_wp2
      go_ret
      exact ⟨ret_int HQ.out, hb⟩

set_option maxRecDepth 100000 in
theorem mark_disk (v : Value) (d : List Fil) (lo hi : Nat) (k : Int) (w : World) (h : Own_disk w lo hi v d) (h0 : 0 ≤ k) (h1 : k ≤ 10000000) (hn : cells_disk d ≤ 10000000) :
    Calls Try.prog 29 #[.agg #[v], .int .i64 k] w fun e w' => e = .returned (.int .i64 (k + ((cells_disk d : Nat) : Int))) ∧ Held_disk w' lo hi v d k ∧ Part lo hi w w' := by
  obtain ⟨⟨ho, hh, hy⟩, _⟩ := h
  have HO := Lib.hid ho
  have hn' : d.length ≤ 10000000 := by unfold cells_disk at hn; omega
  have HC := Lib.hid (show cells_disk d = d.length * 3 from rfl)
  clear ho
  go_enter Try.func29, Try.ntmps29
  go_wp2_with fail
  refine (markFileS_any v d.length lo _ k _ (HO.out.alloc _) h0 h1 hn').mono ?_
  rintro e w1 ⟨rfl, ho1, hg1⟩
  go_wp2_with fail
  go_ret
  rw [HC.out]
  have hp : Part lo hi w w1 := (Part.of_below ((Below.refl _ _).alloc (Nat.le_refl _) _)).trans (Part.of_grown hg1 fun g hg => ⟨(HO.out.lt g hg).1, hy g hg⟩)
  exact ⟨rfl, ⟨ho1, Nat.le_trans hh hp.size, hy⟩, hp⟩
set_option maxRecDepth 100000 in
theorem held_disk (v : Value) (d : List Fil) (lo hi : Nat) (k : Int) (w : World) (h : Held_disk w lo hi v d k) (h0 : 0 ≤ k) (h1 : k ≤ 10000000) (hn : cells_disk d ≤ 10000000) :
    Calls Try.prog 30 #[.agg #[v], .int .i64 k] w fun e w' => e = .returned (.int .i64 (k + ((cells_disk d : Nat) : Int))) ∧ Below w.heap.size w w' := by
  have HR := Lib.hid (OwnS.rd h)
  have hn' : d.length ≤ 10000000 := by unfold cells_disk at hn; omega
  have HC := Lib.hid (show cells_disk d = d.length * 3 from rfl)
  clear h
  obtain ⟨q, hq⟩ : ∃ q, q = k + ((d.length * 3 : Nat) : Int) := ⟨_, rfl⟩
  have hq0 : 0 ≤ q := by omega
  have HQ := Lib.hid hq
  clear hq
  go_enter Try.func30, Try.ntmps30
  go_wp2_with fail
  refine (heldFileS_any v d.length k _ (HR.out.below ((Below.refl _ _).alloc (Nat.le_refl _) _)) h0 h1 hn').mono ?_
  rw [← HQ.out]
  rintro e w1 ⟨rfl, hb1⟩
  go_wp2_with fail
  go_ret
  rw [HC.out, ← HQ.out]
  exact ⟨rfl, Below.trans (by exact (by repeat first | exact Below.refl _ _ | assumption | refine Below.drew ?_ | refine below_drewN ?_ _ | refine Below.calm ?_ (by first | exact Nat.le_refl _ | (simp; done) | (simp; omega) | omega) | refine Below.alloc ?_ (by first | exact Nat.le_refl _ | (simp; done) | (simp; omega) | omega) _ | refine Below.setCell ?_ (by first | exact Nat.le_refl _ | (simp; done) | (simp; omega) | omega) _)) (hb1.mono (by simp))⟩
end Go.Proofs.Ythjkmefbjbfonaa

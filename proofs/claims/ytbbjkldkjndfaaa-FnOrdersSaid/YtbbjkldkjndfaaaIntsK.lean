/- Slices of int: the law's own functions on these. -/
import Derived.Test.YtbbjkldkjndfaaaKind
import Derived.Test.YtbbjkldkjndfaaaRows
import Derived.Test.YtbbjkldkjndfaaaArgs
import Derived.Test.YtbbjkldkjndfaaaInts
import Derived.WalkKit
namespace Go.Proofs.Ytbbjkldkjndfaaa
open Go.RowKit Go.ChangeShapes Go.WideShapes Go.ChangeAt Go.Deep

theorem intsV_one (l : List Int) : ∀ u ∈ intsV l, u.oneCell' = true := by
  intro u hu
  obtain ⟨e, _, rfl⟩ := List.mem_map.1 hu
  rfl
/-- A cell, read. -/
theorem int_cell {w w0 : World} {b off : Nat} {l : List Int} (hb : Below w0.heap.size w0 w) (hbl : b < w0.heap.size) (hc : ∀ j u, (intsV l)[j]? = some u → w0.cell? ⟨b, off + j, none⟩ = some u) {k : Nat} (hk : k < l.length) (x : Int) (hx : x = l[k]) :
    w.cell? ⟨b, off + k, none⟩ = some (.int .i64 x) := by
  rw [hx]
  exact (hb.cell (p := ⟨b, off + k, none⟩) hbl).trans (hc k _ (intsV_at hk))


set_option maxRecDepth 100000 in
theorem eqIntS_any (v u : Value) (l : List Int) (w : World) (h1 : Rd w 1 v l.length (intsV l)) (h2 : Rd w 1 u l.length (intsV l)) :
    Calls Try.prog 50 #[v, u] w fun e w' => e = .returned (.bool true) ∧ Below w.heap.size w w' := by
  obtain ⟨A1, c1, rfl, hnc1, hcm1⟩ := h1.shape
  obtain ⟨A2, c2, rfl, hnc2, hcm2⟩ := h2.shape
  unfold maxLen at hcm1 hcm2
  go_enter Try.func50, Try.ntmps50
  go_wp2
  go_loopw [5] (fun i wr => ∃ k : Nat, k ≤ l.length ∧ i = .int .i64 k ∧ Below w.heap.size w wr) (fun i _ => l.length - (intOf i).toNat)
  case atStart => exact ⟨0, Nat.zero_le _, rfl, Below.refl _ _⟩
  case round =>
    obtain ⟨k, hk, rfl, hb⟩ := hrel
    by_cases hlt : k < l.length
    · obtain ⟨b1, o1, _, hv1, _, _, hl1, hc1⟩ := h1.form (by omega) (by omega)
      obtain ⟨b2, o2, _, hv2, _, _, hl2, hc2⟩ := h2.form (by omega) (by omega)
      have hA1 : A1 = some ⟨b1, o1, none⟩ := by injection hv1
      have hA2 : A2 = some ⟨b2, o2, none⟩ := by injection hv2
      subst hA1 hA2
      obtain ⟨x, hx⟩ : ∃ x, x = l[k] := ⟨_, rfl⟩
      have hcell1 := int_cell hb hl1 hc1 hlt x hx
      have hcell2 := int_cell hb hl2 hc2 hlt x hx
      have hb1 : b1 < wr.heap.size := Nat.lt_of_lt_of_le hl1 hb.size
      have hb2 : b2 < wr.heap.size := Nat.lt_of_lt_of_le hl2 hb.size
      have hk0 : (0 : Int) ≤ (k : Int) := by omega
      have hk1 : (k : Int) < (l.length : Int) := by omega
      clear hx hv1 hv2 hc1 hc2
      go_wp2
      first | refine wp_region_calm_on (by kernel_rfl) (by kernel_rfl) ?_ | refine wp_region_calm_lit (by kernel_rfl) (by kernel_rfl) ?_
      repeat (go_big_quiet_step (fail))
      refine wpQuiet_nil ?_
      intro _ hw'
      obtain ⟨k1, hw''⟩ := hw'
      subst hw''
      go_wp2
      go_roundw
      case rel => exact ⟨k + 1, by omega, by go_num, Below.calm hb hb.size⟩
      case measure => simp [intOf]; omega
    · go_wp2
      go_ret
      exact ⟨rfl, hb⟩

set_option maxRecDepth 100000 in
theorem heldIntS_any (v : Value) (n : Nat) (k0 : Int) (w : World) (h : Rd w 1 v n (marks mInt k0 n)) (h0 : 0 ≤ k0) (h1 : k0 ≤ 10000000) (hn : n ≤ 10000000) :
    Calls Try.prog 54 #[v, .int .i64 k0] w fun e w' => e = .returned (.int .i64 (k0 + n)) ∧ Below w.heap.size w w' := by
  obtain ⟨A1, c1, rfl, hnc1, hcm1⟩ := h.shape
  unfold maxLen at hcm1
  go_enter Try.func54, Try.ntmps54
  go_wp2
  go_loopw [5, 1] (fun i q wr => ∃ k : Nat, k ≤ n ∧ i = .int .i64 k ∧ q = .int .i64 (k0 + k) ∧ Below w.heap.size w wr) (fun i _ _ => n - (intOf i).toNat)
  case atStart => exact ⟨0, Nat.zero_le _, rfl, by go_num, Below.refl _ _⟩
  case round =>
    obtain ⟨k, hk, rfl, rfl, hb⟩ := hrel
    by_cases hlt : k < n
    · obtain ⟨b1, o1, _, hv1, _, _, hl1, hc1⟩ := h.form (by omega) (by omega)
      have hcell1 := (hb.cell (p := ⟨b1, o1 + k, none⟩) hl1).trans (hc1 k _ (marks_at mInt k0 hlt))
      unfold mInt at hcell1
      have hA1 : A1 = some ⟨b1, o1, none⟩ := by injection hv1
      subst hA1
      have hb1 : b1 < wr.heap.size := Nat.lt_of_lt_of_le hl1 hb.size
      have hk0 : (0 : Int) ≤ (k : Int) := by omega
      have hk1 : (k : Int) < (n : Int) := by omega
      clear hv1 hc1
      go_wp2
      go_roundw
      case rel => exact ⟨k + 1, by omega, by go_num, by go_num, hb⟩
      case measure => simp [intOf]; omega
    · obtain rfl : k = n := by omega
      go_wp2
      go_ret
      exact ⟨rfl, hb⟩

set_option maxRecDepth 100000 in
theorem markIntS_any (v : Value) (n base : Nat) (xs : List Value) (k0 : Int) (w : World) (h : w.ownsRow base 3 1 v n xs) (h0 : 0 ≤ k0) (h1 : k0 ≤ 10000000) (hn : n ≤ 10000000) :
    Calls Try.prog 53 #[v, .int .i64 k0] w (Marked w base 3 1 n v mInt k0) := by
  by_cases hz : n = 0
  · subst hz
    have hx : xs = [] := List.eq_nil_of_length_eq_zero (by simpa using h.1)
    subst hx
    obtain ⟨A1, c1, rfl, hnc1, hcm1⟩ := (Rd.of_own h).shape
    have H := Lib.hid h
    clear h
    go_enter Try.func53, Try.ntmps53
    go_wp2
    refine wp_loop_rounds 1 ?_
    rw [rounds_succ]
    go_wp2
    go_ret
    exact ⟨ret_int (by simp), by simpa [marks] using H.out, World.grownBy.refl _ _⟩
  · obtain ⟨g, cap, f, rfl, hg, hcap, hcm, hrow0, _⟩ := rowIs_of_own h (by omega)
    rw [Nat.mul_one] at hrow0
    unfold maxLen at hcm
    go_enter Try.func53, Try.ntmps53
    go_wp2
    go_loopw [5, 1] (fun i q wr => ∃ k : Nat, k ≤ n ∧ i = .int .i64 k ∧ q = .int .i64 (k0 + k) ∧ wr.rowIs g 3 cap (fun j => if j < k then mInt (k0 + j) else f j) ∧ w.grownBy wr (some g)) (fun i _ _ => n - (intOf i).toNat)
    case atStart => exact ⟨0, Nat.zero_le _, rfl, by go_num, hrow0.congr (fun i hi => by simp), World.grownBy.refl _ _⟩
    case round =>
      obtain ⟨k, hk, rfl, rfl, hrow, hgr⟩ := hrel
      by_cases hlt : k < n
      · have HM := Lib.hid (show mInt (k0 + k) = .int .i64 (k0 + k) from rfl)
        have hst := hrow.cell (i := k) (by omega)
        have hfz := hrow.frozen k
        generalize (if k < k then mInt (k0 + k) else f k) = y at hst
        have HROW := Lib.hid hrow
        have hk1 : (k : Int) < (cap : Int) := by omega
        clear hrow hrow0
        go_wp2
        go_roundw
        case rel =>
          refine ⟨k + 1, by omega, by go_num, by go_num, (HROW.out.set k _).congr (fun j hj => ?_), only_setCell hgr (.inl rfl) _⟩
          by_cases e : j = k
          · subst e
            rw [if_pos rfl, if_pos (by omega), HM.out]
          · rw [if_neg e]
            by_cases e2 : j < k
            · rw [if_pos e2, if_pos (by omega)]
            · rw [if_neg e2, if_neg (by omega)]
        case measure => simp [intOf]; omega
      · obtain rfl : k = n := by omega
        have HO := Lib.hid (own_of_rowIs_cap (base := base) (size := 1) (n := k) (cap := cap) (by rw [Nat.mul_one]; exact hrow) hg hcap (by unfold maxLen; omega))
        have HX := Lib.hid (show (List.range (k * 1)).map (fun j => if j < k then mInt (k0 + j) else f j) = marks mInt k0 (k * 1) by
          apply List.map_congr_left
          intro j hj
          rw [if_pos (by simpa using hj)])
        clear hrow hrow0
        go_wp2
        go_ret
        exact ⟨ret_int (by simp), by rw [← HX.out]; exact HO.out, hgr⟩

/-! ### In the words of the laws' walks -/
def cost_ints (l : List Int) : Nat := l.length
def cells_ints (l : List Int) : Nat := l.length
theorem cells_le_ints (l : List Int) : cells_ints l ≤ 4 * cost_ints l := by unfold cells_ints cost_ints; omega
def Rd_ints (w : World) (v : Value) (l : List Int) : Prop := Rd w 1 v l.length (intsV l)
def Own_ints (w : World) (lo hi : Nat) (v : Value) (l : List Int) : Prop := OwnS w lo hi 3 1 v l.length (intsV l)
def Held_ints (w : World) (lo hi : Nat) (v : Value) (l : List Int) (k : Int) : Prop := OwnS w lo hi 3 1 v l.length (marks mInt k l.length)
section
variable {w w' : World} {lo hi lo' hi' : Nat} {v : Value} {l : List Int} {k : Int}
theorem Rd_ints.shape (h : Rd_ints w v l) : ∃ A c, v = .slice A (cost_ints l) c ∧ cost_ints l ≤ c ∧ c ≤ maxLen := Rd.shape h
theorem Rd_ints.below (h : Rd_ints w v l) (hb : Below w.heap.size w w') : Rd_ints w' v l := Rd.below h hb
theorem Own_ints.rd (h : Own_ints w lo hi v l) : Rd_ints w v l := OwnS.rd h
theorem Own_ints.below (h : Own_ints w lo hi v l) (hb : Below w.heap.size w w') : Own_ints w' lo hi v l := OwnS.below h hb
theorem Own_ints.keep (h : Own_ints w lo hi v l) (hp : Part lo' hi' w w') (ha : hi ≤ lo' ∨ hi' ≤ lo) : Own_ints w' lo hi v l := OwnS.keep h hp ha
theorem Held_ints.below (h : Held_ints w lo hi v l k) (hb : Below w.heap.size w w') : Held_ints w' lo hi v l k := OwnS.below h hb
theorem Held_ints.keep (h : Held_ints w lo hi v l k) (hp : Part lo' hi' w w') (ha : hi ≤ lo' ∨ hi' ≤ lo) : Held_ints w' lo hi v l k := OwnS.keep h hp ha
end
theorem eq_ints (v u : Value) (l : List Int) (w : World) (h1 : Rd_ints w v l) (h2 : Rd_ints w u l) :
    Calls Try.prog 50 #[v, u] w fun e w' => e = .returned (.bool true) ∧ Below w.heap.size w w' := eqIntS_any v u l w h1 h2
theorem mark_ints (v : Value) (l : List Int) (lo hi : Nat) (k : Int) (w : World) (h : Own_ints w lo hi v l) (h0 : 0 ≤ k) (h1 : k ≤ 10000000) (hn : cells_ints l ≤ 10000000) :
    Calls Try.prog 53 #[v, .int .i64 k] w fun e w' => e = .returned (.int .i64 (k + ((cells_ints l : Nat) : Int))) ∧ Held_ints w' lo hi v l k ∧ Part lo hi w w' :=
  (markIntS_any v l.length lo _ k w h.1 h0 h1 hn).mono fun _ _ hm => by have := MarkedS.of h hm; rw [MarkedS, Nat.mul_one] at this; exact this
theorem held_ints (v : Value) (l : List Int) (lo hi : Nat) (k : Int) (w : World) (h : Held_ints w lo hi v l k) (h0 : 0 ≤ k) (h1 : k ≤ 10000000) (hn : cells_ints l ≤ 10000000) :
    Calls Try.prog 54 #[v, .int .i64 k] w fun e w' => e = .returned (.int .i64 (k + ((cells_ints l : Nat) : Int))) ∧ Below w.heap.size w w' :=
  heldIntS_any v l.length k w (OwnS.rd h) h0 h1 hn
open Go.RowKit
section
variable {H : Type} {enc : TypeId × Value → H} {W : World} {base : Nat} {d : DataW H} {p : List MemPlace} {v : Value}
def ArgInts (w : World) (v : Value) : Prop := ∃ l : List Int, Rd_ints w v l
set_option maxRecDepth 100000 in
theorem arg_ints (hv : Value.okWide Try.prog W .any base 28 v) (h : DataW.Trod enc Try.prog W 0 (fun _ => true) true 28 v d p) : ArgInts W v := by
  obtain ⟨a0, len, cap, rfl⟩ := okWide_slice Try.underlying28 hv
  obtain ⟨fuel, hf⟩ := h
  rcases open_ints Try.underlying28 Try.underlying3 (by kernel_rfl) hf with ⟨hcs, _⟩ | ⟨a, l, c, ss, hcs, _, hl, hm, hz, hx, hcell, hws⟩
  · simp [Value.cells] at hcs
    obtain ⟨rfl, rfl, rfl⟩ := hcs
    exact ⟨[], none, 0, rfl, Nat.le_refl _, Nat.zero_le _, Reads.none_⟩
  · simp [Value.cells] at hcs
    obtain ⟨rfl, rfl, rfl⟩ := hcs
    have hz' : ss.length = cap := by simpa using hz
    have hlen : (ss.take len).length = len := by simp; omega
    refine ⟨ss.take len, ?_⟩
    unfold Rd_ints
    rw [hlen]
    refine ⟨some a, cap, rfl, hl, hm, by rw [intsV_length, hlen, Nat.mul_one], fun hn => ⟨a, rfl, ?_, fun j u hu => ?_⟩⟩
    · have h0 := hcell 0 (by omega)
      have := World.block_lt_of_cell? W _ h0
      rwa [block_of_add] at this
    · have hj : j < len := by
        rcases Nat.lt_or_ge j len with h | h
        · exact h
        · rw [List.getElem?_eq_none (by rw [intsV_length, hlen]; exact h)] at hu; cases hu
      rw [hcell j (by omega)]
      simp only [intsV, List.getElem?_map, List.getElem?_take_of_lt hj] at hu
      rw [List.getElem?_eq_getElem (show j < ss.length by omega)] at hu
      simp at hu
      rw [← hu]
      simp [List.getD, List.getElem?_eq_getElem (show j < ss.length by omega)]
end
end Go.Proofs.Ytbbjkldkjndfaaa

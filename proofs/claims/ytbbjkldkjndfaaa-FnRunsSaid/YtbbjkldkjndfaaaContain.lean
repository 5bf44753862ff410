/- slices.Contains, slices.Index at ints and at edges. -/
import Derived.Test.YtbbjkldkjndfaaaGC
import Derived.Test.YtbbjkldkjndfaaaGB
namespace Go.Proofs.Ytbbjkldkjndfaaa
set_option linter.unusedSimpArgs false
open Go.RowKit Go.ChangeShapes Go.Deep

/-- Is x in the list? -/
def hasB {α : Type} [BEq α] (l : List α) (x : α) : Bool := l.contains x
theorem hasB_cons {α : Type} [BEq α] (a : α) (l : List α) (x : α) : hasB (a :: l) x = (x == a || hasB l x) := List.contains_cons
theorem hasB_nil {α : Type} [BEq α] (x : α) : hasB ([] : List α) x = false := rfl
theorem hasB_true {α : Type} [DecidableEq α] {l : List α} {x : α} : hasB l x = true ↔ x ∈ l := by simp [hasB]
theorem hasB_false {α : Type} [DecidableEq α] {l : List α} {x : α} : hasB l x = false ↔ x ∉ l := by simp [hasB]
/-- An index, or something below 0. -/
def SomeIdx (b : Bool) (w : World) (e : Ending) (w' : World) : Prop := ∃ r : Int, e = .returned (.int .i64 r) ∧ decide (0 ≤ r) = b ∧ Below w.heap.size w w'

set_option maxRecDepth 100000 in
theorem indexInt_any (v : Value) (l : List Int) (y : Int) (w : World) (h : Rd w 1 v l.length (intsV l)) :
    Calls Try.prog 100 #[v, .int .i64 y] w (SomeIdx (hasB l y) w) := by
  obtain ⟨A1, c1, rfl, hnc1, hcm1⟩ := h.shape
  unfold maxLen at hcm1
  go_enter Try.func100, Try.ntmps100
  go_wp2
  go_loop [8] (fun u8 => ∃ k : Nat, k ≤ l.length ∧ u8 = .int .i64 k ∧ Hid (hasB l y = hasB (l.drop k) y)) (fun u8 => l.length - (intOf u8).toNat)
  case atStart => exact ⟨0, Nat.zero_le _, rfl, Lib.hid (by simp)⟩
  case round =>
    obtain ⟨k, hk, rfl, hgo⟩ := hrel
    by_cases hlt : k < l.length
    · obtain ⟨b1, o1, _, hv1, _, _, hl1, hc1⟩ := h.form (by omega) (by omega)
      have hA1 : A1 = some ⟨b1, o1, none⟩ := by injection hv1
      subst hA1
      obtain ⟨x, hx⟩ : ∃ x, x = l[k] := ⟨_, rfl⟩
      have d0 := int_cell (Below.refl _ _) hl1 hc1 hlt x hx
      have hk0 : (0 : Int) ≤ (k : Int) := by omega
      have hk1 : (k : Int) < (l.length : Int) := by omega
      have HD := Lib.hid (show hasB l y = (y == x || hasB (l.drop (k + 1)) y) by rw [hgo.out, List.drop_eq_getElem_cons hlt, hasB_cons, ← hx])
      clear hgo hx hv1 hc1
      by_cases hs : y = x
      · have HG := Lib.hid (show hasB l y = true by rw [HD.out, hs]; simp)
        have t0 : (y == x) = true := by simp [hs]
        clear HD hs
        go_wp2
        go_ret
        exact ⟨k, rfl, by rw [HG.out]; simp, Below.refl _ _⟩
      · have HG := Lib.hid (show hasB l y = hasB (l.drop (k + 1)) y by rw [HD.out]; simp [hs])
        have t0 : (y == x) = false := by simp [hs]
        clear HD hs
        go_wp2
        go_round
        case rel => exact ⟨k + 1, by omega, by go_num, HG⟩
        case measure => simp [intOf]; omega
    · have HG := Lib.hid (show hasB l y = false by rw [hgo.out, List.drop_of_length_le (by omega)]; rfl)
      clear hgo
      go_wp2
      go_ret
      exact ⟨-1, rfl, by rw [HG.out]; rfl, Below.refl _ _⟩

set_option maxRecDepth 100000 in
theorem contInt_any (v : Value) (l : List Int) (y : Int) (w : World) (h : Rd w 1 v l.length (intsV l)) :
    Calls Try.prog 60 #[v, .int .i64 y] w fun e w' => e = .returned (.bool (hasB l y)) ∧ Below w.heap.size w w' := by
  have C := Lib.hid (indexInt_any v l y w h)
  obtain ⟨b, hb⟩ : ∃ b, b = hasB l y := ⟨_, rfl⟩
  rw [← hb] at C ⊢
  clear hb h
  go_enter Try.func60, Try.ntmps60
  go_wp2_with fail
  refine C.out.mono ?_
  rintro e w1 ⟨r, rfl, hr, hb1⟩
  have HR := Lib.hid hr
  clear hr
  go_wp2_with fail
  go_ret
  exact ⟨ret_bool HR.out, hb1⟩

set_option maxHeartbeats 1000000 in
set_option maxRecDepth 100000 in
theorem indexEdge_any (v : Value) (l : List Edg) (y : Edg) (w : World) (h : Rd w 2 v l.length (edgV l)) :
    Calls Try.prog 104 #[v, .agg #[.int .i64 y.src, .int .i64 y.dst]] w (SomeIdx (hasB l y) w) := by
  obtain ⟨A1, c1, rfl, hnc1, hcm1⟩ := h.shape
  unfold maxLen at hcm1
  obtain ⟨W0, hW0⟩ : ∃ W0, W0 = w.alloc (.cells #[.int .i64 y.src, .int .i64 y.dst] 39) := ⟨_, rfl⟩
  have hb0 : Below w.heap.size w W0 := by rw [hW0]; exact (Below.refl _ _).alloc (Nat.le_refl _) _
  have k0 : Blk W0 w.heap.size 39 #[.int .i64 y.src, .int .i64 y.dst] := by rw [hW0]; exact Blk.new _ _ _
  have hl0 := k0.lt
  have p0 := k0.cell 0
  have p1 := k0.cell 1
  simp only [List.getElem?_toArray, List.getElem?_cons_succ, List.getElem?_cons_zero] at p0 p1
  have HW := Lib.hid hW0
  clear k0 hW0
  go_enter Try.func104, Try.ntmps104
  go_wp2
  rw [← HW.out]
  go_loopw [8] (fun u8 wr => ∃ k : Nat, k ≤ l.length ∧ u8 = .int .i64 k ∧ Hid (hasB l y = hasB (l.drop k) y) ∧ Below W0.heap.size W0 wr) (fun u8 _ => l.length - (intOf u8).toNat)
  case atStart => exact ⟨0, Nat.zero_le _, rfl, Lib.hid (by simp), Below.refl _ _⟩
  case round =>
    obtain ⟨k, hk, rfl, hgo, hb⟩ := hrel
    have hw := hb0.trans (hb.mono hb0.size)
    have q0 := (hb.cell (p := ⟨w.heap.size, 0, none⟩) hl0).trans p0
    have q1 := (hb.cell (p := ⟨w.heap.size, 1, none⟩) hl0).trans p1
    have hlr := Nat.lt_of_lt_of_le hl0 hb.size
    by_cases hlt : k < l.length
    · obtain ⟨b1, o1, _, hv1, _, _, hl1, hc1⟩ := h.form (by omega) (by omega)
      have hA1 : A1 = some ⟨b1, o1, none⟩ := by injection hv1
      subst hA1
      obtain ⟨x, hx⟩ : ∃ x, x = l[k] := ⟨_, rfl⟩
      obtain ⟨d0, d1⟩ := edg_cells hw hl1 hc1 hlt x hx
      have hb1 : b1 < wr.heap.size := Nat.lt_of_lt_of_le hl1 hw.size
      have hk0 : (0 : Int) ≤ (k : Int) := by omega
      have hk1 : (k : Int) < (l.length : Int) := by omega
      have HD := Lib.hid (show hasB l y = (y == x || hasB (l.drop (k + 1)) y) by rw [hgo.out, List.drop_eq_getElem_cons hlt, hasB_cons, ← hx])
      have HW2 := Lib.hid hw
      have HB := Lib.hid hb
      clear hgo hx hv1 hc1 hw hb
      obtain ⟨ys, yd⟩ := y
      obtain ⟨xs, xd⟩ := x
      simp only at d0 d1 q0 q1
      by_cases hs : ys = xs
      · by_cases hd : yd = xd
        · have HG := Lib.hid (show hasB l ⟨ys, yd⟩ = true by rw [HD.out, hs, hd]; simp)
          have t0 : (ys == xs) = true := by simp [hs]
          have t1 : (yd == xd) = true := by simp [hd]
          clear HD hs hd
          go_wp2
          first | refine wp_region_calm_on (by kernel_rfl) (by kernel_rfl) ?_ | refine wp_region_calm_lit (by kernel_rfl) (by kernel_rfl) ?_
          repeat (go_big_quiet_step (fail))
          refine wpQuiet_nil ?_
          intro _ hw'
          obtain ⟨k1, hw''⟩ := hw'
          subst hw''
          go_wp2
          go_ret
          exact ⟨k, rfl, by rw [HG.out]; simp, Below.calm HW2.out HW2.out.size⟩
        · have HG := Lib.hid (show hasB l ⟨ys, yd⟩ = hasB (l.drop (k + 1)) ⟨ys, yd⟩ by rw [HD.out]; simp [hd])
          have t1 : (yd == xd) = false := by simp [hd]
          clear HD hs hd
          go_wp2
          first | refine wp_region_calm_on (by kernel_rfl) (by kernel_rfl) ?_ | refine wp_region_calm_lit (by kernel_rfl) (by kernel_rfl) ?_
          repeat (go_big_quiet_step (fail))
          refine wpQuiet_nil ?_
          intro _ hw'
          obtain ⟨k1, hw''⟩ := hw'
          subst hw''
          go_wp2
          go_roundw
          case rel => exact ⟨k + 1, by omega, by go_num, HG, Below.calm HB.out HB.out.size⟩
          case measure => simp [intOf]; omega
      · have HG := Lib.hid (show hasB l ⟨ys, yd⟩ = hasB (l.drop (k + 1)) ⟨ys, yd⟩ by rw [HD.out]; simp [hs])
        have t0 : (ys == xs) = false := by simp [hs]
        clear HD hs
        go_wp2
        first | refine wp_region_calm_on (by kernel_rfl) (by kernel_rfl) ?_ | refine wp_region_calm_lit (by kernel_rfl) (by kernel_rfl) ?_
        repeat (go_big_quiet_step (fail))
        refine wpQuiet_nil ?_
        intro _ hw'
        obtain ⟨k1, hw''⟩ := hw'
        subst hw''
        go_wp2
        go_roundw
        case rel => exact ⟨k + 1, by omega, by go_num, HG, Below.calm HB.out HB.out.size⟩
        case measure => simp [intOf]; omega
    · have HG := Lib.hid (show hasB l y = false by rw [hgo.out, List.drop_of_length_le (by omega)]; rfl)
      clear hgo
      go_wp2
      go_ret
      exact ⟨-1, rfl, by rw [HG.out]; rfl, hw⟩

set_option maxRecDepth 100000 in
theorem contEdge_any (v : Value) (l : List Edg) (y : Edg) (w : World) (h : Rd w 2 v l.length (edgV l)) :
    Calls Try.prog 66 #[v, .agg #[.int .i64 y.src, .int .i64 y.dst]] w fun e w' => e = .returned (.bool (hasB l y)) ∧ Below w.heap.size w w' := by
  obtain ⟨W0, hW0⟩ : ∃ W0, W0 = w.alloc (.cells #[.int .i64 y.src, .int .i64 y.dst] 39) := ⟨_, rfl⟩
  have hb0 : Below w.heap.size w W0 := by rw [hW0]; exact (Below.refl _ _).alloc (Nat.le_refl _) _
  have C := Lib.hid (indexEdge_any v l y W0 (h.below hb0))
  have HW := Lib.hid hW0
  obtain ⟨b, hb⟩ : ∃ b, b = hasB l y := ⟨_, rfl⟩
  rw [← hb] at C ⊢
  clear hb h hW0
  go_enter Try.func66, Try.ntmps66
  go_wp2_with fail
  rw [← HW.out]
  refine C.out.mono ?_
  rintro e w1 ⟨r, rfl, hr, hb1⟩
  have HR := Lib.hid hr
  clear hr
  go_wp2_with fail
  go_ret
  exact ⟨ret_bool HR.out, hb0.trans (hb1.mono hb0.size)⟩
end Go.Proofs.Ytbbjkldkjndfaaa

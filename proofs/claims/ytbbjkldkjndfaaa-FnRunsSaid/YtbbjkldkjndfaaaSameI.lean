/- The laws' own words on ints: are two lists equal; is an int in a list. -/
import Derived.Test.YtbbjkldkjndfaaaContain
namespace Go.Proofs.Ytbbjkldkjndfaaa
set_option linter.unusedSimpArgs false
open Go.RowKit Go.ChangeShapes Go.Deep

set_option maxHeartbeats 2000000 in
set_option maxRecDepth 100000 in
theorem sameInts_same (v u : Value) (l : List Int) (w : World) (h1 : Rd w 1 v l.length (intsV l)) (h2 : Rd w 1 u l.length (intsV l)) :
    Calls Try.prog 16 #[v, u] w fun e w' => e = .returned (.bool true) ∧ Below w.heap.size w w' := by
  obtain ⟨A1, c1, rfl, hnc1, hcm1⟩ := h1.shape
  obtain ⟨A2, c2, rfl, hnc2, hcm2⟩ := h2.shape
  unfold maxLen at hcm1 hcm2
  go_enter Try.func16, Try.ntmps16
  go_wp2
  go_loopw [5] (fun i wr => ∃ k : Nat, k ≤ l.length ∧ i = .int .i64 k ∧ Below w.heap.size w wr) (fun i _ => l.length - (intOf i).toNat)
  case atStart => exact ⟨0, Nat.zero_le _, rfl, Below.refl _ _⟩
  case round =>
    obtain ⟨k, hk, rfl, hb⟩ := hrel
    by_cases hlt : k < l.length
    · obtain ⟨b1, o1, _, hv1, _, _, hl1, hc1⟩ := h1.form (by omega) (by omega)
      obtain ⟨b2, o2, _, hv2, _, _, hl2, hc2⟩ := h2.form (by omega) (by omega)
      have hA1 : A1 = some ⟨b1, o1, none⟩ := by injection hv1
      have hA2 : A2 = some ⟨b2, o2, none⟩ := by injection hv2
      subst hA1 hA2
      obtain ⟨x, hx⟩ : ∃ x, x = l[k] := ⟨_, rfl⟩
      have hcell1 := int_cell hb hl1 hc1 hlt x hx
      have hcell2 := int_cell hb hl2 hc2 hlt x hx
      have hb1 : b1 < wr.heap.size := Nat.lt_of_lt_of_le hl1 hb.size
      have hb2 : b2 < wr.heap.size := Nat.lt_of_lt_of_le hl2 hb.size
      have hk0 : (0 : Int) ≤ (k : Int) := by omega
      have hk1 : (k : Int) < (l.length : Int) := by omega
      clear hx hv1 hv2 hc1 hc2
      go_wp2
      first | refine wp_region_calm_on (by kernel_rfl) (by kernel_rfl) ?_ | refine wp_region_calm_lit (by kernel_rfl) (by kernel_rfl) ?_
      repeat (go_big_quiet_step (fail))
      refine wpQuiet_nil ?_
      intro _ hw'
      obtain ⟨k1, hw''⟩ := hw'
      subst hw''
      go_wp2
      go_roundw
      case rel => exact ⟨k + 1, by omega, by go_num, Below.calm hb hb.size⟩
      case measure => simp [intOf]; omega
    · go_wp2
      go_ret
      exact ⟨rfl, hb⟩

set_option maxHeartbeats 2000000 in
set_option maxRecDepth 100000 in
theorem hasInt_any (v : Value) (l : List Int) (y : Int) (w : World) (h : Rd w 1 v l.length (intsV l)) :
    Calls Try.prog 20 #[v, .int .i64 y] w fun e w' => e = .returned (.bool (hasB l y)) ∧ Below w.heap.size w w' := by
  obtain ⟨A1, c1, rfl, hnc1, hcm1⟩ := h.shape
  unfold maxLen at hcm1
  go_enter Try.func20, Try.ntmps20
  go_wp2
  go_loop [5] (fun u8 => ∃ k : Nat, k ≤ l.length ∧ u8 = .int .i64 k ∧ Hid (hasB l y = hasB (l.drop k) y)) (fun u8 => l.length - (intOf u8).toNat)
  case atStart => exact ⟨0, Nat.zero_le _, rfl, Lib.hid (by simp)⟩
  case round =>
    obtain ⟨k, hk, rfl, hgo⟩ := hrel
    by_cases hlt : k < l.length
    · obtain ⟨b1, o1, _, hv1, _, _, hl1, hc1⟩ := h.form (by omega) (by omega)
      have hA1 : A1 = some ⟨b1, o1, none⟩ := by injection hv1
      subst hA1
      obtain ⟨x, hx⟩ : ∃ x, x = l[k] := ⟨_, rfl⟩
      have d0 := int_cell (Below.refl _ _) hl1 hc1 hlt x hx
      have hk0 : (0 : Int) ≤ (k : Int) := by omega
      have hk1 : (k : Int) < (l.length : Int) := by omega
      have HD := Lib.hid (show hasB l y = (y == x || hasB (l.drop (k + 1)) y) by rw [hgo.out, List.drop_eq_getElem_cons hlt, hasB_cons, ← hx])
      clear hgo hx hv1 hc1
      by_cases hs : x = y
      · have HG := Lib.hid (show hasB l y = true by rw [HD.out, hs]; simp)
        have t0 : (x == y) = true := by simp [hs]
        clear HD hs
        go_wp2
        go_ret
        exact ⟨by rw [HG.out]; rfl, Below.refl _ _⟩
      · have HG := Lib.hid (show hasB l y = hasB (l.drop (k + 1)) y by rw [HD.out, show (y == x) = false from beq_eq_false_iff_ne.2 (fun e => hs e.symm), Bool.false_or])
        have t0 : (x == y) = false := by simp [hs]
        clear HD hs
        go_wp2
        go_round
        case rel => exact ⟨k + 1, by omega, by go_num, HG⟩
        case measure => simp [intOf]; omega
    · have HG := Lib.hid (show hasB l y = false by rw [hgo.out, List.drop_of_length_le (by omega)]; rfl)
      clear hgo
      go_wp2
      go_ret
      exact ⟨by rw [HG.out]; rfl, Below.refl _ _⟩
theorem ints_rd {w : World} {lo hi : Nat} {u : Value} {l : List Int} (h : Own_ints w lo hi u l) : Rd w 1 u l.length (intsV l) := OwnS.rd h
end Go.Proofs.Ytbbjkldkjndfaaa

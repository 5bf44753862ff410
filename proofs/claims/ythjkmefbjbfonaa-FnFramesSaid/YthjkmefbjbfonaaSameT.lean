/- The laws' comparison of texts: at equal lists. -/
import Derived.Test.YthjkmefbjbfonaaStrS
namespace Go.Proofs.Ythjkmefbjbfonaa
open Go.RowKit Go.ChangeShapes Go.Deep

set_option maxHeartbeats 2000000 in
set_option maxRecDepth 100000 in
theorem sameTexts_same (v u : Value) (l : List ByteArray) (w : World) (h1 : Rd w 1 v l.length (strV l)) (h2 : Rd w 1 u l.length (strV l)) :
    Calls Try.prog 15 #[v, u] w fun e w' => e = .returned (.bool true) ∧ Below w.heap.size w w' := by
  obtain ⟨A1, c1, rfl, hnc1, hcm1⟩ := h1.shape
  obtain ⟨A2, c2, rfl, hnc2, hcm2⟩ := h2.shape
  unfold maxLen at hcm1 hcm2
  go_enter Try.func15, Try.ntmps15
  go_wp2
  go_loopw [5] (fun i wr => ∃ k : Nat, k ≤ l.length ∧ i = .int .i64 k ∧ Below w.heap.size w wr) (fun i _ => l.length - (intOf i).toNat)
  case atStart => exact ⟨0, Nat.zero_le _, rfl, Below.refl _ _⟩
  case round =>
    obtain ⟨k, hk, rfl, hb⟩ := hrel
    by_cases hlt : k < l.length
    · obtain ⟨b1, o1, _, hv1, _, _, hl1, hc1⟩ := h1.form (by omega) (by omega)
      obtain ⟨b2, o2, _, hv2, _, _, hl2, hc2⟩ := h2.form (by omega) (by omega)
      have hcell1 := (hb.cell (p := ⟨b1, o1 + k, none⟩) hl1).trans (hc1 k _ (strV_at hlt))
      have hcell2 := (hb.cell (p := ⟨b2, o2 + k, none⟩) hl2).trans (hc2 k _ (strV_at hlt))
      have hA1 : A1 = some ⟨b1, o1, none⟩ := by injection hv1
      have hA2 : A2 = some ⟨b2, o2, none⟩ := by injection hv2
      subst hA1 hA2
      have hb1 : b1 < wr.heap.size := Nat.lt_of_lt_of_le hl1 hb.size
      have hb2 : b2 < wr.heap.size := Nat.lt_of_lt_of_le hl2 hb.size
      have hk0 : (0 : Int) ≤ (k : Int) := by omega
      have hk1 : (k : Int) < (l.length : Int) := by omega
      obtain ⟨x, hx⟩ : ∃ x, x = l[k] := ⟨_, rfl⟩
      rw [← hx] at hcell1 hcell2
      clear hx hv1 hv2 hc1 hc2
      go_wp2
      first | refine wp_region_calm_on (by kernel_rfl) (by kernel_rfl) ?_ | refine wp_region_calm_lit (by kernel_rfl) (by kernel_rfl) ?_
      repeat (go_big_quiet_step (fail))
      refine wpQuiet_nil ?_
      intro _ hw'
      obtain ⟨k1, hw''⟩ := hw'
      subst hw''
      go_wp2
      go_roundw
      case rel => exact ⟨k + 1, by omega, by go_num, Below.calm hb hb.size⟩
      case measure => simp [intOf]; omega
    · go_wp2
      go_ret
      exact ⟨rfl, hb⟩
end Go.Proofs.Ythjkmefbjbfonaa

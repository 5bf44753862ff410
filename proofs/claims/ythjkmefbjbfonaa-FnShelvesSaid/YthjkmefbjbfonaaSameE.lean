/- The laws' comparison of entries: at equal lists. -/
import Derived.Test.YthjkmefbjbfonaaEntS
namespace Go.Proofs.Ythjkmefbjbfonaa
open Go.RowKit Go.ChangeShapes Go.Deep

set_option maxHeartbeats 2000000 in
set_option maxRecDepth 100000 in
theorem sameEntries_same (v u : Value) (l : List Ent) (w : World) (h1 : Rd w 4 v l.length (entV l)) (h2 : Rd w 4 u l.length (entV l)) :
    Calls Try.prog 45 #[v, u] w fun e w' => e = .returned (.bool true) ∧ Below w.heap.size w w' := by
  obtain ⟨A1, c1, rfl, hnc1, hcm1⟩ := h1.shape
  obtain ⟨A2, c2, rfl, hnc2, hcm2⟩ := h2.shape
  unfold maxLen at hcm1 hcm2
  go_enter Try.func45, Try.ntmps45
  go_wp2
  go_loopw [5] (fun i wr => ∃ k : Nat, k ≤ l.length ∧ i = .int .i64 k ∧ Below w.heap.size w wr) (fun i _ => l.length - (intOf i).toNat)
  case atStart => exact ⟨0, Nat.zero_le _, rfl, Below.refl _ _⟩
  case round =>
    obtain ⟨k, hk, rfl, hb⟩ := hrel
    by_cases hlt : k < l.length
    · obtain ⟨b1, o1, _, hv1, _, _, hl1, hc1⟩ := h1.form (by omega) (by omega)
      obtain ⟨b2, o2, _, hv2, _, _, hl2, hc2⟩ := h2.form (by omega) (by omega)
      have hx1 := fun f hf => (hb.cell (p := ⟨b1, o1 + (k * 4 + f), none⟩) hl1).trans (hc1 (k * 4 + f) _ ((entV_at hlt f hf).trans (List.getElem?_eq_getElem hf)))
      have hx2 := fun f hf => (hb.cell (p := ⟨b2, o2 + (k * 4 + f), none⟩) hl2).trans (hc2 (k * 4 + f) _ ((entV_at hlt f hf).trans (List.getElem?_eq_getElem hf)))
      have hA1 : A1 = some ⟨b1, o1, none⟩ := by injection hv1
      have hA2 : A2 = some ⟨b2, o2, none⟩ := by injection hv2
      subst hA1 hA2
      have hb1 : b1 < wr.heap.size := Nat.lt_of_lt_of_le hl1 hb.size
      have hb2 : b2 < wr.heap.size := Nat.lt_of_lt_of_le hl2 hb.size
      have hk0 : (0 : Int) ≤ (k : Int) := by omega
      have hk1 : (k : Int) < (l.length : Int) := by omega
      obtain ⟨x, hx⟩ : ∃ x, x = l[k] := ⟨_, rfl⟩
      obtain ⟨xp, xs, xr, xt⟩ := x
      rw [← hx] at hx1 hx2
      have d0 : wr.cell? ⟨b1, o1 + k * 4, none⟩ = some (.int .i64 xp) := hx1 0 (by decide)
      have d1 : wr.cell? ⟨b1, o1 + k * 4 + 1, none⟩ = some (.int .i64 xs) := hx1 1 (by decide)
      have d2 : wr.cell? ⟨b1, o1 + k * 4 + 2, none⟩ = some (.int .i64 xr) := hx1 2 (by decide)
      have d3 : wr.cell? ⟨b1, o1 + k * 4 + 3, none⟩ = some (.int .i64 xt) := hx1 3 (by decide)
      have e0 : wr.cell? ⟨b2, o2 + k * 4, none⟩ = some (.int .i64 xp) := hx2 0 (by decide)
      have e1 : wr.cell? ⟨b2, o2 + k * 4 + 1, none⟩ = some (.int .i64 xs) := hx2 1 (by decide)
      have e2 : wr.cell? ⟨b2, o2 + k * 4 + 2, none⟩ = some (.int .i64 xr) := hx2 2 (by decide)
      have e3 : wr.cell? ⟨b2, o2 + k * 4 + 3, none⟩ = some (.int .i64 xt) := hx2 3 (by decide)
      clear hx hv1 hv2 hc1 hc2 hx1 hx2
      go_wp2
      first | refine wp_region_calm_on (by kernel_rfl) (by kernel_rfl) ?_ | refine wp_region_calm_lit (by kernel_rfl) (by kernel_rfl) ?_
      repeat (go_big_quiet_step (fail))
      refine wpQuiet_nil ?_
      intro _ hw'
      obtain ⟨k1, hw''⟩ := hw'
      subst hw''
      go_wp2
      go_roundw
      case rel => exact ⟨k + 1, by omega, by go_num, Below.calm hb hb.size⟩
      case measure => simp [intOf]; omega
    · go_wp2
      go_ret
      exact ⟨rfl, hb⟩
end Go.Proofs.Ythjkmefbjbfonaa

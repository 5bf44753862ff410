/- ShelfOk, the program's and the reference's. -/
import Derived.Test.YthjkmefbjbfonaaEntS
import Derived.IntWalk
namespace Go.Proofs.Ythjkmefbjbfonaa
open Go.RowKit Go.ChangeShapes Go.Deep

def Ent.ahead (a b : Ent) : Bool := aheadB a.prio a.seq b.prio b.seq
def inLine : List Ent → Bool
  | a :: b :: r => a.ahead b && inLine (b :: r)
  | _ => true
def shelfOk (l : List Ent) : Bool := decide (l.length ≤ 80) && inLine l
theorem inLine_drop {l : List Ent} {k : Nat} (h : k + 1 < l.length) : inLine (l.drop k) = (l[k].ahead l[k + 1] && inLine (l.drop (k + 1))) := by
  rw [List.drop_eq_getElem_cons (show k < l.length by omega), List.drop_eq_getElem_cons h]
  rfl
theorem inLine_last {l : List Ent} {k : Nat} (h : l.length ≤ k + 1) : inLine (l.drop k) = true := by
  rcases Nat.lt_or_ge k l.length with hk | hk
  · rw [List.drop_eq_getElem_cons hk, List.drop_of_length_le (by omega)]
    rfl
  · rw [List.drop_of_length_le hk]
    rfl
/-- The four cells of an element, read. -/
theorem ent_cells {w w0 : World} {b off : Nat} {l : List Ent} (hb : Below w0.heap.size w0 w) (hbl : b < w0.heap.size) (hc : ∀ j u, (entV l)[j]? = some u → w0.cell? ⟨b, off + j, none⟩ = some u) {k : Nat} (hk : k < l.length) (x : Ent) (hx : x = l[k]) :
    w.cell? ⟨b, off + k * 4, none⟩ = some (.int .i64 x.prio) ∧ w.cell? ⟨b, off + k * 4 + 1, none⟩ = some (.int .i64 x.seq) ∧ w.cell? ⟨b, off + k * 4 + 2, none⟩ = some (.int .i64 x.run) ∧ w.cell? ⟨b, off + k * 4 + 3, none⟩ = some (.int .i64 x.task) := by
  have h := fun f hf => (hb.cell (p := ⟨b, off + (k * 4 + f), none⟩) hbl).trans (hc (k * 4 + f) _ ((entV_at hk f hf).trans (List.getElem?_eq_getElem hf)))
  rw [← hx] at h
  exact ⟨h 0 (by decide), h 1 (by decide), h 2 (by decide), h 3 (by decide)⟩

set_option maxHeartbeats 1000000 in
set_option maxRecDepth 100000 in
theorem shelfOk_impl (v : Value) (l : List Ent) (w : World) (h : Rd w 4 v l.length (entV l)) (hn : l.length ≤ 1048576) :
    Calls Try.prog 44 #[v] w fun e w' => e = .returned (.bool (shelfOk l)) ∧ Below w.heap.size w w' := by
  obtain ⟨A1, c1, rfl, hnc1, hcm1⟩ := h.shape
  unfold maxLen at hcm1
  go_enter Try.func44, Try.ntmps44
  go_wp2
  go_loopw [3] (fun u3 wr => ∃ k j : Nat, j = k + 1 ∧ u3 = .int .i64 j ∧ k ≤ l.length ∧ Hid (inLine l = inLine (l.drop k)) ∧ Below w.heap.size w wr) (fun u3 _ => l.length - (intOf u3).toNat)
  case atStart => exact ⟨0, 1, rfl, rfl, Nat.zero_le _, Lib.hid rfl, Below.refl _ _⟩
  case round =>
    obtain ⟨k, j, hj, rfl, hkl, hgo, hb⟩ := hrel
    by_cases hlt : j < l.length
    · obtain ⟨b1, o1, _, hv1, _, _, hl1, hc1⟩ := h.form (by omega) (by omega)
      have hA1 : A1 = some ⟨b1, o1, none⟩ := by injection hv1
      subst hA1
      have hk : k < l.length := by omega
      obtain ⟨x, hx⟩ : ∃ x, x = l[k] := ⟨_, rfl⟩
      obtain ⟨y, hy⟩ : ∃ y, y = l[j] := ⟨_, rfl⟩
      obtain ⟨d0, d1, d2, d3⟩ := ent_cells hb hl1 hc1 hk x hx
      obtain ⟨e0, e1, e2, e3⟩ := ent_cells hb hl1 hc1 hlt y hy
      have HD := Lib.hid (show inLine l = (x.ahead y && inLine (l.drop j)) by subst hj; rw [hgo.out, inLine_drop hlt, ← hx, ← hy])
      have hb1 : b1 < wr.heap.size := Nat.lt_of_lt_of_le hl1 hb.size
      have hj0 : (0 : Int) ≤ (j : Int) := by omega
      have hj1 : (j : Int) < (l.length : Int) := by omega
      have hk0 : (0 : Int) ≤ (k : Int) := by omega
      have hk1 : (k : Int) < (l.length : Int) := by omega
      have y0 : IntKind.i64.wrap ((j : Int) - 1) = (k : Int) := by rw [IntWalk.i64_in _ (by omega)]; omega
      have CE := Lib.hid (fun w => ahead_impl x.prio x.seq x.run x.task y.prio y.seq y.run y.task w)
      have HA := Lib.hid (show x.ahead y = aheadB x.prio x.seq y.prio y.seq from rfl)
      obtain ⟨xp, xs, xr, xt⟩ := x
      obtain ⟨yp, ys, yr, yt⟩ := y
      simp only at d0 d1 d2 d3 e0 e1 e2 e3 CE HA
      have HJ := Lib.hid hj
      clear hx hy hv1 hc1 hgo hj
      cases ht : aheadB xp xs yp ys with
      | true =>
        rw [ht] at CE
        have HG := Lib.hid (show inLine l = inLine (l.drop j) by rw [HD.out, HA.out, ht, Bool.true_and])
        clear HD HA ht
        go_wp2
        first | refine wp_region_calm_on (by kernel_rfl) (by kernel_rfl) ?_ | refine wp_region_calm_lit (by kernel_rfl) (by kernel_rfl) ?_
        repeat (go_big_quiet_step ((go_at_call 42; exact calm_of (CE.out _))))
        refine wpQuiet_nil ?_
        intro _ hw'
        obtain ⟨k1, hw''⟩ := hw'
        subst hw''
        go_wp2
        go_roundw
        case rel => exact ⟨j, j + 1, rfl, by go_num, by omega, HG, Below.calm hb hb.size⟩
        case measure => have := HJ.out; simp [intOf]; omega
      | false =>
        rw [ht] at CE
        have HG := Lib.hid (show shelfOk l = false by rw [shelfOk, HD.out, HA.out, ht, Bool.false_and, Bool.and_false])
        clear HD HA ht
        go_wp2
        first | refine wp_region_calm_on (by kernel_rfl) (by kernel_rfl) ?_ | refine wp_region_calm_lit (by kernel_rfl) (by kernel_rfl) ?_
        repeat (go_big_quiet_step ((go_at_call 42; exact calm_of (CE.out _))))
        refine wpQuiet_nil ?_
        intro _ hw'
        obtain ⟨k1, hw''⟩ := hw'
        subst hw''
        go_wp2
        go_ret
        exact ⟨by rw [HG.out]; rfl, Below.calm hb hb.size⟩
    · have HG := Lib.hid (show inLine l = true by rw [hgo.out]; exact inLine_last (by omega))
      clear hgo hj
      by_cases h8 : l.length ≤ 80
      · have HR := Lib.hid (show shelfOk l = true by rw [shelfOk, HG.out, decide_eq_true h8]; rfl)
        have t0 : decide ((l.length : Int) ≤ 80) = true := by simp; omega
        go_wp2
        go_ret
        exact ⟨by rw [HR.out]; rfl, hb⟩
      · have HR := Lib.hid (show shelfOk l = false by rw [shelfOk, decide_eq_false h8]; rfl)
        have t0 : decide ((l.length : Int) ≤ 80) = false := by simp; omega
        go_wp2
        go_ret
        exact ⟨by rw [HR.out]; rfl, hb⟩

end Go.Proofs.Ythjkmefbjbfonaa

/- Slices of strings: the law's own functions on them. -/
import Derived.Test.YtfcgijhiedlfgaaDoorMarkText
namespace Go.Proofs.YtfcgijhiedlfgaaDoor
open Go.RowKit Go.ChangeShapes Go.Deep

def strV (l : List ByteArray) : List Value := l.map Value.string
theorem strV_at {l : List ByteArray} {k : Nat} (h : k < l.length) : (strV l)[k]? = some (.string l[k]) := by simp [strV, h]
theorem strV_length (l : List ByteArray) : (strV l).length = l.length := by simp [strV]
theorem Tryd.infoStr : (Tryd.prog.info? 9).map (fun i => (i.zero, i.size, i.bytes)) = some (some (.string ⟨#[]⟩), 1, 16) := by kernel_rfl

def szStrGo : Int → List ByteArray → Int
  | left, [] => left
  | left, b :: r => if left - b.size < 0 then -1 else szStrGo (left - b.size) r
def szStr (left : Int) (l : List ByteArray) : Int := if left - l.length < 0 then -1 else szStrGo (left - l.length) l
def sizes : List ByteArray → Nat
  | [] => 0
  | b :: r => b.size + sizes r
theorem szStrGo_ok : ∀ (l : List ByteArray) (left : Int), 0 ≤ szStrGo left l → szStrGo left l = left - sizes l ∧ 0 ≤ left - (sizes l : Int)
  | [], left, h => by simp only [szStrGo, sizes] at *; omega
  | b :: r, left, h => by
    rw [szStrGo] at *
    by_cases hb : left - b.size < 0
    · rw [if_pos hb] at h; omega
    · rw [if_neg hb] at h ⊢
      have := szStrGo_ok r _ h
      simp only [sizes]
      omega
theorem szStr_ok {left : Int} {l : List ByteArray} (h : 0 ≤ szStr left l) : szStr left l = left - l.length - sizes l ∧ 0 ≤ left - l.length - (sizes l : Int) := by
  unfold szStr at *
  by_cases hb : left - l.length < 0
  · rw [if_pos hb] at h; omega
  · rw [if_neg hb] at h ⊢; exact szStrGo_ok l _ h

set_option maxRecDepth 100000 in
theorem eqStringS_any (v u : Value) (l : List ByteArray) (w : World) (h1 : Rd w 1 v l.length (strV l)) (h2 : Rd w 1 u l.length (strV l)) :
    Calls Tryd.prog 11 #[v, u] w fun e w' => e = .returned (.bool true) ∧ Below w.heap.size w w' := by
  obtain ⟨A1, c1, rfl, hnc1, hcm1⟩ := h1.shape
  obtain ⟨A2, c2, rfl, hnc2, hcm2⟩ := h2.shape
  unfold maxLen at hcm1 hcm2
  go_enter Tryd.func11, Tryd.ntmps11
  go_wp2
  go_loopw [5] (fun i wr => ∃ k : Nat, k ≤ l.length ∧ i = .int .i64 k ∧ Below w.heap.size w wr) (fun i _ => l.length - (intOf i).toNat)
  case atStart => exact ⟨0, Nat.zero_le _, rfl, Below.refl _ _⟩
  case round =>
    obtain ⟨k, hk, rfl, hb⟩ := hrel
    by_cases hlt : k < l.length
    · obtain ⟨b1, o1, _, hv1, _, _, hl1, hc1⟩ := h1.form (by omega) (by omega)
      obtain ⟨b2, o2, _, hv2, _, _, hl2, hc2⟩ := h2.form (by omega) (by omega)
      have hcell1 := (hb.cell (p := ⟨b1, o1 + k, none⟩) hl1).trans (hc1 k _ (strV_at hlt))
      have hcell2 := (hb.cell (p := ⟨b2, o2 + k, none⟩) hl2).trans (hc2 k _ (strV_at hlt))
      have hA1 : A1 = some ⟨b1, o1, none⟩ := by injection hv1
      have hA2 : A2 = some ⟨b2, o2, none⟩ := by injection hv2
      subst hA1 hA2
      have hb1 : b1 < wr.heap.size := Nat.lt_of_lt_of_le hl1 hb.size
      have hb2 : b2 < wr.heap.size := Nat.lt_of_lt_of_le hl2 hb.size
      have hk0 : (0 : Int) ≤ (k : Int) := by omega
      have hk1 : (k : Int) < (l.length : Int) := by omega
      obtain ⟨x, hx⟩ : ∃ x, x = l[k] := ⟨_, rfl⟩
      rw [← hx] at hcell1 hcell2
      clear hx hv1 hv2 hc1 hc2
      go_wp2
      first | refine wp_region_calm_on (by kernel_rfl) (by kernel_rfl) ?_ | refine wp_region_calm_lit (by kernel_rfl) (by kernel_rfl) ?_
      repeat (go_big_quiet_step (fail))
      refine wpQuiet_nil ?_
      intro _ hw'
      obtain ⟨k1, hw''⟩ := hw'
      subst hw''
      go_wp2
      go_roundw
      case rel => exact ⟨k + 1, by omega, by go_num, Below.calm hb hb.size⟩
      case measure => simp [intOf]; omega
    · go_wp2
      go_ret
      exact ⟨rfl, hb⟩

/-- The marks of strings. -/
def mStr (k : Int) : Value := .string (mtext k)
set_option maxRecDepth 100000 in
theorem heldStringS_any (v : Value) (n : Nat) (k0 : Int) (w : World) (h : Rd w 1 v n (marks mStr k0 n)) (h0 : 0 ≤ k0) (h1 : k0 ≤ 10000000) (hn : n ≤ 10000000) :
    Calls Tryd.prog 13 #[v, .int .i64 k0] w fun e w' => e = .returned (.int .i64 (k0 + n)) ∧ Below w.heap.size w w' := by
  obtain ⟨A1, c1, rfl, hnc1, hcm1⟩ := h.shape
  unfold maxLen at hcm1
  go_enter Tryd.func13, Tryd.ntmps13
  go_wp2
  go_loopw [5, 1] (fun i q wr => ∃ k : Nat, k ≤ n ∧ i = .int .i64 k ∧ q = .int .i64 (k0 + k) ∧ Below w.heap.size w wr) (fun i _ _ => n - (intOf i).toNat)
  case atStart => exact ⟨0, Nat.zero_le _, rfl, by go_num, Below.refl _ _⟩
  case round =>
    obtain ⟨k, hk, rfl, rfl, hb⟩ := hrel
    by_cases hlt : k < n
    · obtain ⟨b1, o1, _, hv1, _, _, hl1, hc1⟩ := h.form (by omega) (by omega)
      have hcell1 := (hb.cell (p := ⟨b1, o1 + k, none⟩) hl1).trans (hc1 k _ (marks_at mStr k0 hlt))
      unfold mStr at hcell1
      have hA1 : A1 = some ⟨b1, o1, none⟩ := by injection hv1
      subst hA1
      have hb1 : b1 < wr.heap.size := Nat.lt_of_lt_of_le hl1 hb.size
      have hk0 : (0 : Int) ≤ (k : Int) := by omega
      have hk1 : (k : Int) < (n : Int) := by omega
      have CM := Lib.hid (fun w => markText_any (k0 + k) w (by omega))
      obtain ⟨x, hx⟩ : ∃ x, x = mtext (k0 + k) := ⟨_, rfl⟩
      rw [← hx] at hcell1 CM
      clear hx hv1 hc1
      go_wp2
      first | refine wp_region_calm_on (by kernel_rfl) (by kernel_rfl) ?_ | refine wp_region_calm_lit (by kernel_rfl) (by kernel_rfl) ?_
      repeat (go_big_quiet_step ((go_at_call 25; exact calm_of (CM.out _))))
      refine wpQuiet_nil ?_
      intro _ hw'
      obtain ⟨k1, hw''⟩ := hw'
      subst hw''
      go_wp2
      go_roundw
      case rel => exact ⟨k + 1, by omega, by go_num, by go_num, Below.calm hb hb.size⟩
      case measure => simp [intOf]; omega
    · obtain rfl : k = n := by omega
      go_wp2
      go_ret
      exact ⟨rfl, hb⟩

set_option maxRecDepth 100000 in
theorem markStringS_any (v : Value) (n base : Nat) (xs : List Value) (k0 : Int) (w : World) (h : w.ownsRow base 9 1 v n xs) (h0 : 0 ≤ k0) (h1 : k0 ≤ 10000000) (hn : n ≤ 10000000) :
    Calls Tryd.prog 12 #[v, .int .i64 k0] w (Marked w base 9 1 n v mStr k0) := by
  by_cases hz : n = 0
  · subst hz
    have hx : xs = [] := List.eq_nil_of_length_eq_zero (by simpa using h.1)
    subst hx
    obtain ⟨A1, c1, rfl, hnc1, hcm1⟩ := (Rd.of_own h).shape
    have H := Lib.hid h
    clear h
    go_enter Tryd.func12, Tryd.ntmps12
    go_wp2
    refine wp_loop_rounds 1 ?_
    rw [rounds_succ]
    go_wp2
    go_ret
    exact ⟨ret_int (by simp), by simpa [marks] using H.out, World.grownBy.refl _ _⟩
  · obtain ⟨g, cap, f, rfl, hg, hcap, hcm, hrow0, _⟩ := rowIs_of_own h (by omega)
    rw [Nat.mul_one] at hrow0
    unfold maxLen at hcm
    go_enter Tryd.func12, Tryd.ntmps12
    go_wp2
    go_loopw [5, 1] (fun i q wr => ∃ k : Nat, k ≤ n ∧ i = .int .i64 k ∧ q = .int .i64 (k0 + k) ∧ wr.rowIs g 9 cap (fun j => if j < k then mStr (k0 + j) else f j) ∧ w.grownBy wr (some g)) (fun i _ _ => n - (intOf i).toNat)
    case atStart => exact ⟨0, Nat.zero_le _, rfl, by go_num, hrow0.congr (fun i hi => by simp), World.grownBy.refl _ _⟩
    case round =>
      obtain ⟨k, hk, rfl, rfl, hrow, hgr⟩ := hrel
      by_cases hlt : k < n
      · have CM := Lib.hid (fun w => markText_any (k0 + k) w (by omega))
        have HM := Lib.hid (show mStr (k0 + k) = .string (mtext (k0 + k)) from rfl)
        obtain ⟨x, hx⟩ : ∃ x, x = mtext (k0 + k) := ⟨_, rfl⟩
        rw [← hx] at HM CM
        clear hx hrow0
        have HROW := Lib.hid hrow
        clear hrow
        have hk1 : (k : Int) < (cap : Int) := by omega
        go_wp2_with (go_at_call 25; refine (CM.out _).mono ?_; rintro e w1 ⟨rfl, hb1⟩; have hrow1 := HROW.out.of_block (hb1.block _ HROW.out.lt); have hst := hrow1.cell (i := k) (by omega); have hfz := hrow1.frozen k; have HR1 := Lib.hid hrow1; clear hrow1; generalize (if k < k then mStr (k0 + k) else f k) = y at hst)
        go_roundw
        case rel =>
          refine ⟨k + 1, by omega, by go_num, by go_num, (HR1.out.set k _).congr (fun j hj => ?_), only_setCell (only_below hgr hb1) (.inl rfl) _⟩
          by_cases e : j = k
          · subst e
            rw [if_pos rfl, if_pos (by omega), HM.out]
          · rw [if_neg e]
            by_cases e2 : j < k
            · rw [if_pos e2, if_pos (by omega)]
            · rw [if_neg e2, if_neg (by omega)]
        case measure => simp [intOf]; omega
      · obtain rfl : k = n := by omega
        have HO := Lib.hid (own_of_rowIs_cap (base := base) (size := 1) (n := k) (cap := cap) (by rw [Nat.mul_one]; exact hrow) hg hcap (by unfold maxLen; omega))
        have HX := Lib.hid (show (List.range (k * 1)).map (fun j => if j < k then mStr (k0 + j) else f j) = marks mStr k0 (k * 1) by
          apply List.map_congr_left
          intro j hj
          rw [if_pos (by simpa using hj)])
        clear hrow hrow0
        go_wp2
        go_ret
        exact ⟨ret_int (by simp), by rw [← HX.out]; exact HO.out, hgr⟩
end Go.Proofs.YtfcgijhiedlfgaaDoor

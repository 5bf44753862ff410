/- Slices of strings: the law's own functions on them. -/
import Derived.Test.YtcdkccbmehdceaaMarkText
namespace Go.Proofs.Ytcdkccbmehdceaa
open Go.RowKit Go.ChangeShapes Go.Deep

def strV (l : List ByteArray) : List Value := l.map Value.string
theorem strV_at {l : List ByteArray} {k : Nat} (h : k < l.length) : (strV l)[k]? = some (.string l[k]) := by simp [strV, h]
theorem strV_length (l : List ByteArray) : (strV l).length = l.length := by simp [strV]
theorem Try.infoStr : (Try.prog.info? 9).map (fun i => (i.zero, i.size, i.bytes)) = some (some (.string ⟨#[]⟩), 1, 16) := by kernel_rfl

def szStrGo : Int → List ByteArray → Int
  | left, [] => left
  | left, b :: r => if left - b.size < 0 then -1 else szStrGo (left - b.size) r
def szStr (left : Int) (l : List ByteArray) : Int := if left - l.length < 0 then -1 else szStrGo (left - l.length) l
def sizes : List ByteArray → Nat
  | [] => 0
  | b :: r => b.size + sizes r
theorem szStrGo_ok : ∀ (l : List ByteArray) (left : Int), 0 ≤ szStrGo left l → szStrGo left l = left - sizes l ∧ 0 ≤ left - (sizes l : Int)
  | [], left, h => by simp only [szStrGo, sizes] at *; omega
  | b :: r, left, h => by
    rw [szStrGo] at *
    by_cases hb : left - b.size < 0
    · rw [if_pos hb] at h; omega
    · rw [if_neg hb] at h ⊢
      have := szStrGo_ok r _ h
      simp only [sizes]
      omega
theorem szStr_ok {left : Int} {l : List ByteArray} (h : 0 ≤ szStr left l) : szStr left l = left - l.length - sizes l ∧ 0 ≤ left - l.length - (sizes l : Int) := by
  unfold szStr at *
  by_cases hb : left - l.length < 0
  · rw [if_pos hb] at h; omega
  · rw [if_neg hb] at h ⊢; exact szStrGo_ok l _ h

set_option maxRecDepth 100000 in
theorem szStringS_any (v : Value) (l : List ByteArray) (left : Int) (w : World) (h : Rd w 1 v l.length (strV l)) (h0 : 0 ≤ left) (h1 : left ≤ 1048576) (hmax : ∀ b ∈ l, b.size ≤ 9223372036854775807) :
    Calls Try.prog 28 #[v, .int .i64 left] w fun e w' => e = .returned (.int .i64 (szStr left l)) ∧ w = w' := by
  obtain ⟨A, c, rfl, hnc, hcm⟩ := h.shape
  unfold maxLen at hcm
  by_cases hneg : left - l.length < 0
  · have HR := Lib.hid (show szStr left l = -1 by rw [szStr, if_pos hneg])
    go_enter Try.func28, Try.ntmps28
    go_wp2
    go_ret
    exact ⟨ret_int HR.out.symm, rfl⟩
  · have HR := Lib.hid (show szStr left l = szStrGo (left - l.length) l by rw [szStr, if_neg hneg])
    go_enter Try.func28, Try.ntmps28
    go_wp2
    go_loop [1, 5] (fun u i => ∃ (k : Nat) (q : Int), k ≤ l.length ∧ i = .int .i64 k ∧ u = .int .i64 q ∧ 0 ≤ q ∧ q ≤ 1048576 ∧ Hid (szStrGo (left - l.length) l = szStrGo q (l.drop k))) (fun _ i => l.length - (intOf i).toNat)
    case atStart => exact ⟨0, left - l.length, Nat.zero_le _, rfl, rfl, by omega, by omega, Lib.hid rfl⟩
    case round =>
      obtain ⟨k, q, hk, rfl, rfl, hq0, hq1, hgo⟩ := hrel
      by_cases hlt : k < l.length
      · obtain ⟨b, off, c', hv, _, _, hbl, hc⟩ := h.form (by omega) (by omega)
        have hcell := hc k _ (strV_at hlt)
        have hA : A = some ⟨b, off, none⟩ := by injection hv
        subst hA
        have HD := Lib.hid (show l.drop k = l[k] :: l.drop (k + 1) from List.drop_eq_getElem_cons hlt)
        have hmx := hmax l[k] (List.getElem_mem hlt)
        obtain ⟨x, hx⟩ : ∃ x, x = l[k] := ⟨_, rfl⟩
        rw [← hx] at hcell HD hmx
        clear hx hv hc
        by_cases hq : q - x.size < 0
        · have HE := Lib.hid (show szStr left l = -1 by rw [HR.out, hgo.out, HD.out, szStrGo, if_pos hq])
          clear HR hgo
          go_wp2
          go_ret
          exact ⟨ret_int HE.out.symm, rfl⟩
        · have HG := Lib.hid (show szStrGo (left - l.length) l = szStrGo (q - x.size) (l.drop (k + 1)) by rw [hgo.out, HD.out, szStrGo, if_neg hq])
          clear hgo
          go_wp2
          go_round
          case rel => exact ⟨k + 1, q - x.size, by omega, by go_num, rfl, by omega, by omega, HG⟩
          case measure => simp [intOf]; omega
      · have HE := Lib.hid (show szStr left l = q by rw [HR.out, hgo.out, List.drop_of_length_le (by omega)]; rfl)
        clear HR hgo
        go_wp2
        go_ret
        exact ⟨ret_int HE.out.symm, rfl⟩

set_option maxRecDepth 100000 in
theorem toStringS_any (v : Value) (l : List ByteArray) (w : World) (h : Rd w 1 v l.length (strV l)) (hn : l.length ≤ 1048576) :
    Calls Try.prog 30 #[v] w (MadeRow w 9 1 l.length (strV l)) := by
  obtain ⟨A, c, rfl, hnc, hcm⟩ := h.shape
  unfold maxLen at hcm
  have hmk := fun W => run_make_row' (P := Try.prog) 37 9 (.string ⟨#[]⟩) 16 Try.underlying37 Try.infoStr rfl .i64 .i64 l.length (by omega) (by omega) W
  go_enter Try.func30, Try.ntmps30
  go_wp2
  clear hmk
  go_loopw [4] (fun i wr => ∃ k : Nat, k ≤ l.length ∧ i = .int .i64 k ∧ wr.rowIs w.heap.size 9 l.length (fun j => if j < k then .string (l.getD j ⟨#[]⟩) else .string ⟨#[]⟩) ∧ Below w.heap.size w wr) (fun i _ => l.length - (intOf i).toNat)
  case atStart => exact ⟨0, Nat.zero_le _, rfl, (World.rowIs_made _ _ _ _).congr (fun i hi => by simp), (Below.refl _ _).alloc (Nat.le_refl _) _⟩
  case round =>
    obtain ⟨k, hk, rfl, hrow, hb⟩ := hrel
    by_cases hlt : k < l.length
    · obtain ⟨b, off, c', hv, _, _, hbl, hc⟩ := h.form (by omega) (by omega)
      have hcell := (hb.cell (p := ⟨b, off + k, none⟩) hbl).trans (hc k _ (strV_at hlt))
      have hA : A = some ⟨b, off, none⟩ := by injection hv
      subst hA
      have hst := hrow.cell hlt
      have hfz := hrow.frozen k
      have HS := Lib.hid (show ∀ u : Value, u = .string l[k] → (wr.setCell ⟨w.heap.size, k, none⟩ u).rowIs w.heap.size 9 l.length (fun j => if j < k + 1 then .string (l.getD j ⟨#[]⟩) else .string ⟨#[]⟩) from fun u hu =>
        (hrow.set k u).congr (fun j hj => by
          by_cases e : j = k
          · subst e
            rw [if_pos rfl, if_pos (by omega), hu]
            simp [List.getD, hlt]
          · rw [if_neg e]
            by_cases e2 : j < k
            · rw [if_pos e2, if_pos (by omega)]
            · rw [if_neg e2, if_neg (by omega)]))
      obtain ⟨y, hy⟩ : ∃ y, y = (if k < k then Value.string (l.getD k ⟨#[]⟩) else .string ⟨#[]⟩) := ⟨_, rfl⟩
      rw [← hy] at hst
      obtain ⟨x, hx⟩ : ∃ x, x = l[k] := ⟨_, rfl⟩
      rw [← hx] at hcell HS
      clear hx hv hc hy hrow
      go_wp2
      go_roundw
      case rel => exact ⟨k + 1, by omega, by go_num, HS.out _ rfl, hb.setCell (Nat.le_refl _) _⟩
      case measure => simp [intOf]; omega
    · obtain rfl : k = l.length := by omega
      have HO := Lib.hid (own_of_rowIs (base := w.heap.size) (size := 1) (n := l.length) (by rw [Nat.mul_one]; exact hrow) (Nat.le_refl _) (by unfold maxLen; omega))
      have HX := Lib.hid (show (List.range (l.length * 1)).map (fun j => if j < l.length then Value.string (l.getD j ⟨#[]⟩) else .string ⟨#[]⟩) = strV l by
        rw [Nat.mul_one]
        apply List.ext_getElem
        · simp [strV]
        · intro i h1 h2
          have hi : i < l.length := by simpa using h1
          simp [strV, hi])
      clear hrow
      go_wp2
      go_ret
      exact ⟨_, rfl, by rw [← HX.out]; exact HO.out, hb⟩

set_option maxRecDepth 100000 in
theorem eqStringS_any (v u : Value) (l : List ByteArray) (w : World) (h1 : Rd w 1 v l.length (strV l)) (h2 : Rd w 1 u l.length (strV l)) :
    Calls Try.prog 32 #[v, u] w fun e w' => e = .returned (.bool true) ∧ Below w.heap.size w w' := by
  obtain ⟨A1, c1, rfl, hnc1, hcm1⟩ := h1.shape
  obtain ⟨A2, c2, rfl, hnc2, hcm2⟩ := h2.shape
  unfold maxLen at hcm1 hcm2
  go_enter Try.func32, Try.ntmps32
  go_wp2
  go_loopw [5] (fun i wr => ∃ k : Nat, k ≤ l.length ∧ i = .int .i64 k ∧ Below w.heap.size w wr) (fun i _ => l.length - (intOf i).toNat)
  case atStart => exact ⟨0, Nat.zero_le _, rfl, Below.refl _ _⟩
  case round =>
    obtain ⟨k, hk, rfl, hb⟩ := hrel
    by_cases hlt : k < l.length
    · obtain ⟨b1, o1, _, hv1, _, _, hl1, hc1⟩ := h1.form (by omega) (by omega)
      obtain ⟨b2, o2, _, hv2, _, _, hl2, hc2⟩ := h2.form (by omega) (by omega)
      have hcell1 := (hb.cell (p := ⟨b1, o1 + k, none⟩) hl1).trans (hc1 k _ (strV_at hlt))
      have hcell2 := (hb.cell (p := ⟨b2, o2 + k, none⟩) hl2).trans (hc2 k _ (strV_at hlt))
      have hA1 : A1 = some ⟨b1, o1, none⟩ := by injection hv1
      have hA2 : A2 = some ⟨b2, o2, none⟩ := by injection hv2
      subst hA1 hA2
      have hb1 : b1 < wr.heap.size := Nat.lt_of_lt_of_le hl1 hb.size
      have hb2 : b2 < wr.heap.size := Nat.lt_of_lt_of_le hl2 hb.size
      have hk0 : (0 : Int) ≤ (k : Int) := by omega
      have hk1 : (k : Int) < (l.length : Int) := by omega
      obtain ⟨x, hx⟩ : ∃ x, x = l[k] := ⟨_, rfl⟩
      rw [← hx] at hcell1 hcell2
      clear hx hv1 hv2 hc1 hc2
      go_wp2
      first | refine wp_region_calm_on (by kernel_rfl) (by kernel_rfl) ?_ | refine wp_region_calm_lit (by kernel_rfl) (by kernel_rfl) ?_
      repeat (go_big_quiet_step (fail))
      refine wpQuiet_nil ?_
      intro _ hw'
      obtain ⟨k1, hw''⟩ := hw'
      subst hw''
      go_wp2
      go_roundw
      case rel => exact ⟨k + 1, by omega, by go_num, Below.calm hb hb.size⟩
      case measure => simp [intOf]; omega
    · go_wp2
      go_ret
      exact ⟨rfl, hb⟩

/-- The marks of strings. -/
def mStr (k : Int) : Value := .string (mtext k)
set_option maxRecDepth 100000 in
theorem heldStringS_any (v : Value) (n : Nat) (k0 : Int) (w : World) (h : Rd w 1 v n (marks mStr k0 n)) (h0 : 0 ≤ k0) (h1 : k0 ≤ 10000000) (hn : n ≤ 10000000) :
    Calls Try.prog 40 #[v, .int .i64 k0] w fun e w' => e = .returned (.int .i64 (k0 + n)) ∧ Below w.heap.size w w' := by
  obtain ⟨A1, c1, rfl, hnc1, hcm1⟩ := h.shape
  unfold maxLen at hcm1
  go_enter Try.func40, Try.ntmps40
  go_wp2
  go_loopw [5, 1] (fun i q wr => ∃ k : Nat, k ≤ n ∧ i = .int .i64 k ∧ q = .int .i64 (k0 + k) ∧ Below w.heap.size w wr) (fun i _ _ => n - (intOf i).toNat)
  case atStart => exact ⟨0, Nat.zero_le _, rfl, by go_num, Below.refl _ _⟩
  case round =>
    obtain ⟨k, hk, rfl, rfl, hb⟩ := hrel
    by_cases hlt : k < n
    · obtain ⟨b1, o1, _, hv1, _, _, hl1, hc1⟩ := h.form (by omega) (by omega)
      have hcell1 := (hb.cell (p := ⟨b1, o1 + k, none⟩) hl1).trans (hc1 k _ (marks_at mStr k0 hlt))
      unfold mStr at hcell1
      have hA1 : A1 = some ⟨b1, o1, none⟩ := by injection hv1
      subst hA1
      have hb1 : b1 < wr.heap.size := Nat.lt_of_lt_of_le hl1 hb.size
      have hk0 : (0 : Int) ≤ (k : Int) := by omega
      have hk1 : (k : Int) < (n : Int) := by omega
      have CM := Lib.hid (fun w => markText_any (k0 + k) w (by omega))
      obtain ⟨x, hx⟩ : ∃ x, x = mtext (k0 + k) := ⟨_, rfl⟩
      rw [← hx] at hcell1 CM
      clear hx hv1 hc1
      go_wp2
      first | refine wp_region_calm_on (by kernel_rfl) (by kernel_rfl) ?_ | refine wp_region_calm_lit (by kernel_rfl) (by kernel_rfl) ?_
      repeat (go_big_quiet_step ((go_at_call 52; exact calm_of (CM.out _))))
      refine wpQuiet_nil ?_
      intro _ hw'
      obtain ⟨k1, hw''⟩ := hw'
      subst hw''
      go_wp2
      go_roundw
      case rel => exact ⟨k + 1, by omega, by go_num, by go_num, Below.calm hb hb.size⟩
      case measure => simp [intOf]; omega
    · obtain rfl : k = n := by omega
      go_wp2
      go_ret
      exact ⟨rfl, hb⟩

set_option maxRecDepth 100000 in
theorem markStringS_any (v : Value) (n base : Nat) (xs : List Value) (k0 : Int) (w : World) (h : w.ownsRow base 9 1 v n xs) (h0 : 0 ≤ k0) (h1 : k0 ≤ 10000000) (hn : n ≤ 10000000) :
    Calls Try.prog 39 #[v, .int .i64 k0] w (Marked w base 9 1 n v mStr k0) := by
  by_cases hz : n = 0
  · subst hz
    have hx : xs = [] := List.eq_nil_of_length_eq_zero (by simpa using h.1)
    subst hx
    obtain ⟨A1, c1, rfl, hnc1, hcm1⟩ := (Rd.of_own h).shape
    have H := Lib.hid h
    clear h
    go_enter Try.func39, Try.ntmps39
    go_wp2
    refine wp_loop_rounds 1 ?_
    rw [rounds_succ]
    go_wp2
    go_ret
    exact ⟨ret_int (by simp), by simpa [marks] using H.out, World.grownBy.refl _ _⟩
  · obtain ⟨g, cap, f, rfl, hg, hcap, hcm, hrow0, _⟩ := rowIs_of_own h (by omega)
    rw [Nat.mul_one] at hrow0
    unfold maxLen at hcm
    go_enter Try.func39, Try.ntmps39
    go_wp2
    go_loopw [5, 1] (fun i q wr => ∃ k : Nat, k ≤ n ∧ i = .int .i64 k ∧ q = .int .i64 (k0 + k) ∧ wr.rowIs g 9 cap (fun j => if j < k then mStr (k0 + j) else f j) ∧ w.grownBy wr (some g)) (fun i _ _ => n - (intOf i).toNat)
    case atStart => exact ⟨0, Nat.zero_le _, rfl, by go_num, hrow0.congr (fun i hi => by simp), World.grownBy.refl _ _⟩
    case round =>
      obtain ⟨k, hk, rfl, rfl, hrow, hgr⟩ := hrel
      by_cases hlt : k < n
      · have CM := Lib.hid (fun w => markText_any (k0 + k) w (by omega))
        have HM := Lib.hid (show mStr (k0 + k) = .string (mtext (k0 + k)) from rfl)
        obtain ⟨x, hx⟩ : ∃ x, x = mtext (k0 + k) := ⟨_, rfl⟩
        rw [← hx] at HM CM
        clear hx hrow0
        have HROW := Lib.hid hrow
        clear hrow
        have hk1 : (k : Int) < (cap : Int) := by omega
        go_wp2_with (go_at_call 52; refine (CM.out _).mono ?_; rintro e w1 ⟨rfl, hb1⟩; have hrow1 := HROW.out.of_block (hb1.block _ HROW.out.lt); have hst := hrow1.cell (i := k) (by omega); have hfz := hrow1.frozen k; have HR1 := Lib.hid hrow1; clear hrow1; generalize (if k < k then mStr (k0 + k) else f k) = y at hst)
        go_roundw
        case rel =>
          refine ⟨k + 1, by omega, by go_num, by go_num, (HR1.out.set k _).congr (fun j hj => ?_), only_setCell (only_below hgr hb1) (.inl rfl) _⟩
          by_cases e : j = k
          · subst e
            rw [if_pos rfl, if_pos (by omega), HM.out]
          · rw [if_neg e]
            by_cases e2 : j < k
            · rw [if_pos e2, if_pos (by omega)]
            · rw [if_neg e2, if_neg (by omega)]
        case measure => simp [intOf]; omega
      · obtain rfl : k = n := by omega
        have HO := Lib.hid (own_of_rowIs_cap (base := base) (size := 1) (n := k) (cap := cap) (by rw [Nat.mul_one]; exact hrow) hg hcap (by unfold maxLen; omega))
        have HX := Lib.hid (show (List.range (k * 1)).map (fun j => if j < k then mStr (k0 + j) else f j) = marks mStr k0 (k * 1) by
          apply List.map_congr_left
          intro j hj
          rw [if_pos (by simpa using hj)])
        clear hrow hrow0
        go_wp2
        go_ret
        exact ⟨ret_int (by simp), by rw [← HX.out]; exact HO.out, hgr⟩
end Go.Proofs.Ytcdkccbmehdceaa

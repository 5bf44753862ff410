/- allIn, the program's. -/
import Derived.Test.YtbbjkldkjndfaaaOrderP
namespace Go.Proofs.Ytbbjkldkjndfaaa
set_option linter.unusedSimpArgs false
open Go.RowKit Go.ChangeShapes Go.Deep

set_option maxHeartbeats 1000000 in
set_option maxRecDepth 100000 in
theorem allFunc_any (y : Int) (v : Value) (l : List Int) (ge : Nat) (w : World) (h : Rd w 1 v l.length (intsV l)) (he : Blk w ge 28 #[v]) :
    Calls Try.prog 102 #[.int .i64 y, .pointer (some ⟨ge, 0, none⟩)] w fun r w' => r = .returned (.bool (!hasB l y)) ∧ Below w.heap.size w w' := by
  have c0 := he.cell 0
  simp only [List.getElem?_toArray, List.getElem?_cons_zero] at c0
  have hl := he.lt
  have C := Lib.hid (contInt_any v l y w h)
  obtain ⟨A, c, rfl, -, -⟩ := h.shape
  obtain ⟨b, hb⟩ : ∃ b, b = hasB l y := ⟨_, rfl⟩
  rw [← hb] at C ⊢
  clear he hb h
  go_enter Try.func102, Try.ntmps102
  go_wp2_with fail
  refine C.out.mono ?_
  rintro e w1 ⟨rfl, hb1⟩
  go_wp2_with fail
  go_ret
  exact ⟨rfl, hb1⟩

theorem allB_drop {l out : List Int} {k : Nat} (h : k < l.length) : allB (l.drop k) out = (hasB out l[k] && allB (l.drop (k + 1)) out) := by rw [List.drop_eq_getElem_cons h, allB_cons]

set_option maxHeartbeats 1000000 in
set_option maxRecDepth 100000 in
theorem indexAll_any (u v : Value) (l out : List Int) (ge : Nat) (w : World) (h : Rd w 1 u l.length (intsV l)) (h2 : Rd w 1 v out.length (intsV out)) (he : Blk w ge 28 #[v]) :
    Calls Try.prog 116 #[u, .func (Fn.func 102) #[] #[.pointer (some ⟨ge, 0, none⟩)]] w (SomeIdx (!allB l out) w) := by
  obtain ⟨A1, c1, rfl, hnc1, hcm1⟩ := h.shape
  unfold maxLen at hcm1
  have HE := Lib.hid he
  have H2 := Lib.hid h2
  have hge := he.lt
  clear he h2
  go_enter Try.func116, Try.ntmps116
  go_wp2
  go_loopw [8] (fun u8 wr => ∃ k : Nat, k ≤ l.length ∧ u8 = .int .i64 k ∧ Hid (allB l out = allB (l.drop k) out) ∧ Below w.heap.size w wr) (fun u8 _ => l.length - (intOf u8).toNat)
  case atStart => exact ⟨0, Nat.zero_le _, rfl, Lib.hid (by simp), Below.refl _ _⟩
  case round =>
    obtain ⟨k, hk, rfl, hgo, hb⟩ := hrel
    by_cases hlt : k < l.length
    · obtain ⟨b1, o1, _, hv1, _, _, hl1, hc1⟩ := h.form (by omega) (by omega)
      have hA1 : A1 = some ⟨b1, o1, none⟩ := by injection hv1
      subst hA1
      obtain ⟨x, hx⟩ : ∃ x, x = l[k] := ⟨_, rfl⟩
      have d0 := int_cell hb hl1 hc1 hlt x hx
      have HD := Lib.hid (show allB l out = (hasB out x && allB (l.drop (k + 1)) out) by rw [hgo.out, allB_drop hlt, ← hx])
      have CP := Lib.hid (allFunc_any x v out ge wr (H2.out.below hb) (HE.out.below hb hge))
      have hk0 : (0 : Int) ≤ (k : Int) := by omega
      have hk1 : (k : Int) < (l.length : Int) := by omega
      clear hgo hx hv1 hc1
      cases hs : hasB out x with
      | false =>
        have HG := Lib.hid (show allB l out = false by rw [HD.out, hs]; rfl)
        rw [hs] at CP
        clear HD hs
        go_wp2_with fail
        refine CP.out.mono ?_
        rintro e1 w1 ⟨rfl, hb1⟩
        go_wp2_with fail
        go_ret
        exact ⟨k, rfl, by rw [HG.out]; simp, hb.trans (hb1.mono hb.size)⟩
      | true =>
        have HG := Lib.hid (show allB l out = allB (l.drop (k + 1)) out by rw [HD.out, hs]; rfl)
        rw [hs] at CP
        clear HD hs
        go_wp2_with fail
        refine CP.out.mono ?_
        rintro e1 w1 ⟨rfl, hb1⟩
        go_wp2_with fail
        go_roundw
        case rel => exact ⟨k + 1, by omega, by go_num, HG, hb.trans (hb1.mono hb.size)⟩
        case measure => simp [intOf]; omega
    · have HG := Lib.hid (show allB l out = true by rw [hgo.out, List.drop_of_length_le (by omega)]; rfl)
      clear hgo
      go_wp2_with fail
      go_ret
      exact ⟨-1, rfl, by rw [HG.out]; rfl, hb⟩

set_option maxRecDepth 100000 in
theorem contAll_any (u v : Value) (l out : List Int) (ge : Nat) (w : World) (h : Rd w 1 u l.length (intsV l)) (h2 : Rd w 1 v out.length (intsV out)) (he : Blk w ge 28 #[v]) :
    Calls Try.prog 101 #[u, .func (Fn.func 102) #[] #[.pointer (some ⟨ge, 0, none⟩)]] w fun e w' => e = .returned (.bool (!allB l out)) ∧ Below w.heap.size w w' := by
  have C := Lib.hid (indexAll_any u v l out ge w h h2 he)
  obtain ⟨b, hb⟩ : ∃ b, b = !allB l out := ⟨_, rfl⟩
  rw [← hb] at C ⊢
  clear hb h h2 he
  go_enter Try.func101, Try.ntmps101
  go_wp2_with fail
  refine C.out.mono ?_
  rintro e w1 ⟨r, rfl, hr, hb1⟩
  have HR := Lib.hid hr
  clear hr
  go_wp2_with fail
  go_ret
  exact ⟨ret_bool HR.out, hb1⟩

set_option maxRecDepth 100000 in
theorem allIn_any (u v : Value) (l out : List Int) (w : World) (h : Rd w 1 u l.length (intsV l)) (h2 : Rd w 1 v out.length (intsV out)) :
    Calls Try.prog 61 #[u, v] w fun e w' => e = .returned (.bool (allB l out)) ∧ Below w.heap.size w w' := by
  obtain ⟨A, c, rfl, -, -⟩ := h2.shape
  obtain ⟨W0, hW0⟩ : ∃ W0, W0 = w.alloc (.cells #[.slice A out.length c] 28) := ⟨_, rfl⟩
  have hb0 : Below w.heap.size w W0 := by rw [hW0]; exact (Below.refl _ _).alloc (Nat.le_refl _) _
  have k0 : Blk W0 w.heap.size 28 #[.slice A out.length c] := by rw [hW0]; exact Blk.new _ _ _
  have C := Lib.hid (contAll_any u _ l out w.heap.size W0 (h.below hb0) (h2.below hb0) k0)
  have HW := Lib.hid hW0
  obtain ⟨b, hb⟩ : ∃ b, b = allB l out := ⟨_, rfl⟩
  rw [← hb] at C ⊢
  clear hb h h2 k0 hW0
  cases b
  all_goals
    go_enter Try.func61, Try.ntmps61
    go_wp2_with fail
    rw [← HW.out]
    refine C.out.mono ?_
    rintro e w1 ⟨rfl, hb1⟩
    go_wp2_with fail
    go_ret
    exact ⟨rfl, hb0.trans (hb1.mono hb0.size)⟩
end Go.Proofs.Ytbbjkldkjndfaaa

/- The laws' comparison of files and of disks. -/
import Derived.Test.YthjkmefbjbfonaaAt
namespace Go.Proofs.Ythjkmefbjbfonaa
open Go.RowKit Go.ChangeShapes Go.Deep

instance : DecidableEq Fil := fun a b => by
  cases a; cases b
  simp only [Fil.mk.injEq]
  exact inferInstance
theorem take_next {A : Type} {l m : List A} {k : Nat} (h : l.take k = m.take k) (h1 : k < l.length) (h2 : k < m.length) (e : l[k] = m[k]) : l.take (k + 1) = m.take (k + 1) := by
  rw [List.take_succ_eq_append_getElem h1, List.take_succ_eq_append_getElem h2, h, e]
set_option maxHeartbeats 4000000 in
set_option maxRecDepth 100000 in
theorem sameFiles_any (v u : Value) (l m : List Fil) (w : World) (h1 : Rd w 3 v l.length (filV l)) (h2 : Rd w 3 u m.length (filV m)) :
    Calls Try.prog 64 #[v, u] w fun e w' => e = .returned (.bool (decide (l = m))) ∧ Below w.heap.size w w' := by
  obtain ⟨A1, c1, rfl, hnc1, hcm1⟩ := h1.shape
  obtain ⟨A2, c2, rfl, hnc2, hcm2⟩ := h2.shape
  unfold maxLen at hcm1 hcm2
  by_cases hlen : l.length = m.length
  rotate_left
  · have HR := Lib.hid (show decide (l = m) = false from decide_eq_false fun e => hlen (by rw [e]))
    have tl : ((l.length : Int) != (m.length : Int)) = true := by simp; omega
    clear hlen
    rw [HR.out]
    go_enter Try.func64, Try.ntmps64
    go_wp2
    go_ret
    exact ⟨rfl, Below.refl _ _⟩
  · have tl : ((l.length : Int) != (m.length : Int)) = false := by simp; omega
    have HLEN := Lib.hid hlen
    have hle : l.length ≤ m.length := by omega
    obtain ⟨r, hr⟩ : ∃ r, r = decide (l = m) := ⟨_, rfl⟩
    have HR := Lib.hid hr
    rw [← hr]
    clear hlen hr
    go_enter Try.func64, Try.ntmps64
    go_wp2
    go_loopw [5] (fun i wr => ∃ k : Nat, k ≤ l.length ∧ i = .int .i64 k ∧ Hid (l.take k = m.take k) ∧ Below w.heap.size w wr) (fun i _ => l.length - (intOf i).toNat)
    case atStart => exact ⟨0, Nat.zero_le _, rfl, Lib.hid (by simp), Below.refl _ _⟩
    case round =>
      obtain ⟨k, hk, rfl, HT, hb⟩ := hrel
      by_cases hlt : k < l.length
      · have hlm : k < m.length := by omega
        obtain ⟨b1, o1, _, hv1, _, _, hl1, hc1⟩ := h1.form (by omega) (by omega)
        obtain ⟨b2, o2, _, hv2, _, _, hl2, hc2⟩ := h2.form (by omega) (by omega)
        have hA1 : A1 = some ⟨b1, o1, none⟩ := by injection hv1
        have hA2 : A2 = some ⟨b2, o2, none⟩ := by injection hv2
        subst hA1 hA2
        obtain ⟨x, hx⟩ : ∃ x, x = l[k] := ⟨_, rfl⟩
        obtain ⟨y, hy⟩ : ∃ y, y = m[k] := ⟨_, rfl⟩
        obtain ⟨d0, d1, d2⟩ := fil_cells hb hl1 hc1 hlt x hx
        obtain ⟨e0, e1, e2⟩ := fil_cells hb hl2 hc2 hlm y hy
        have hb1 : b1 < wr.heap.size := Nat.lt_of_lt_of_le hl1 hb.size
        have hb2 : b2 < wr.heap.size := Nat.lt_of_lt_of_le hl2 hb.size
        have hk0 : (0 : Int) ≤ (k : Int) := by omega
        have hk1 : (k : Int) < (l.length : Int) := by omega
        have hk2 : (k : Int) < (m.length : Int) := by omega
        by_cases he : x = y
        · have HN := Lib.hid (take_next HT.out hlt hlm (by rw [← hx, ← hy]; exact he))
          subst he
          clear hx hy hv1 hv2 hc1 hc2
          go_wp2
          first | refine wp_region_calm_on (by kernel_rfl) (by kernel_rfl) ?_ | refine wp_region_calm_lit (by kernel_rfl) (by kernel_rfl) ?_
          repeat (go_big_quiet_step (fail))
          refine wpQuiet_nil ?_
          intro _ hw'
          obtain ⟨k1, hw''⟩ := hw'
          subst hw''
          go_wp2
          go_roundw
          case rel => exact ⟨k + 1, by omega, by go_num, HN, Below.calm hb hb.size⟩
          case measure => simp [intOf]; omega
        · have HF := Lib.hid (show r = false by
            rw [HR.out]
            exact decide_eq_false fun e => he (by rw [hx, hy]; subst e; rfl))
          have key : (¬ x.name.toList = y.name.toList) ∨ (x.name.toList = y.name.toList ∧ ¬ x.data.toList = y.data.toList) ∨ (x.name.toList = y.name.toList ∧ x.data.toList = y.data.toList ∧ ¬ x.safe = y.safe) := by
            by_cases a : x.name.toList = y.name.toList
            · by_cases b : x.data.toList = y.data.toList
              · refine .inr (.inr ⟨a, b, fun c => he ?_⟩)
                cases x; cases y
                simp only at a b c
                rw [bytes_ext a, bytes_ext b, c]
              · exact .inr (.inl ⟨a, b⟩)
            · exact .inl a
          clear hx hy hv1 hv2 hc1 hc2 he
          rcases key with t1 | ⟨t1, t2⟩ | ⟨t1, t2, t3⟩
          all_goals
            go_wp2
            first | refine wp_region_calm_on (by kernel_rfl) (by kernel_rfl) ?_ | refine wp_region_calm_lit (by kernel_rfl) (by kernel_rfl) ?_
            repeat (go_big_quiet_step (fail))
            refine wpQuiet_nil ?_
            intro _ hw'
            obtain ⟨k1, hw''⟩ := hw'
            subst hw''
            go_wp2
            go_ret
            exact ⟨by rw [HF.out]; try rfl, Below.calm hb hb.size⟩
      · have HF := Lib.hid (show r = true by
          rw [HR.out]
          have e := HT.out
          rw [List.take_of_length_le (by omega), List.take_of_length_le (by have := HLEN.out; omega)] at e
          exact decide_eq_true e)
        go_wp2
        go_ret
        exact ⟨by rw [HF.out]; rfl, hb⟩
set_option maxHeartbeats 1000000 in
set_option maxRecDepth 100000 in
theorem sameDisk_any (v u : Value) (l m : List Fil) (w : World) (h1 : Rd_disk w v l) (h2 : Rd_disk w u m) :
    Calls Try.prog 20 #[.agg #[v], .agg #[u]] w fun e w' => e = .returned (.bool (decide (l = m))) ∧ Below w.heap.size w w' := by
  have CS := Lib.hid (fun W (hW : Below w.heap.size w W) => sameFiles_any v u l m W (h1.1.below hW) (h2.1.below hW))
  obtain ⟨r, hr⟩ : ∃ r, r = decide (l = m) := ⟨_, rfl⟩
  rw [← hr] at CS ⊢
  obtain ⟨A1, c1, rfl, -, -⟩ := h1.1.shape
  obtain ⟨A2, c2, rfl, -, -⟩ := h2.1.shape
  clear hr h1 h2
  go_enter Try.func20, Try.ntmps20
  go_wp2_with fail
  refine (CS.out _ (by exact (by repeat first | exact Below.refl _ _ | assumption | refine Below.drew ?_ | refine below_drewN ?_ _ | refine Below.calm ?_ (by first | exact Nat.le_refl _ | (simp; done) | (simp; omega) | omega) | refine Below.alloc ?_ (by first | exact Nat.le_refl _ | (simp; done) | (simp; omega) | omega) _ | refine Below.setCell ?_ (by first | exact Nat.le_refl _ | (simp; done) | (simp; omega) | omega) _))).mono ?_
  rintro e w1 ⟨rfl, hb1⟩
  go_wp2_with fail
  go_ret
  exact ⟨rfl, Below.trans (by exact (by repeat first | exact Below.refl _ _ | assumption | refine Below.drew ?_ | refine below_drewN ?_ _ | refine Below.calm ?_ (by first | exact Nat.le_refl _ | (simp; done) | (simp; omega) | omega) | refine Below.alloc ?_ (by first | exact Nat.le_refl _ | (simp; done) | (simp; omega) | omega) _ | refine Below.setCell ?_ (by first | exact Nat.le_refl _ | (simp; done) | (simp; omega) | omega) _)) (hb1.mono (by simp; omega))⟩
end Go.Proofs.Ythjkmefbjbfonaa

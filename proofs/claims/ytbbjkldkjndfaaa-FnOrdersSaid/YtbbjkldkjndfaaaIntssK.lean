/- Slices of slices of int: the law's own functions on these. -/
import Derived.Test.YtbbjkldkjndfaaaIntsK
namespace Go.Proofs.Ytbbjkldkjndfaaa
set_option linter.unusedSimpArgs false
open Go.RowKit Go.ChangeShapes Go.WideShapes Go.ChangeAt Go.Deep

def lensTo (ls : List (List Int)) (i : Nat) : Nat := ((ls.take i).map (·.length)).sum
theorem lensTo_succ {ls : List (List Int)} {i : Nat} (h : i < ls.length) : lensTo ls (i + 1) = lensTo ls i + ls[i].length := by
  unfold lensTo
  rw [List.take_succ_eq_append_getElem h, List.map_append, List.sum_append]
  simp
theorem lensTo_le {ls : List (List Int)} : ∀ {i j : Nat}, i ≤ j → lensTo ls i ≤ lensTo ls j
  | i, 0, h => by obtain rfl : i = 0 := by omega
                  exact Nat.le_refl _
  | i, j + 1, h => by
    by_cases e : i = j + 1
    · subst e; exact Nat.le_refl _
    · have h1 := lensTo_le (ls := ls) (i := i) (j := j) (by omega)
      by_cases hj : j < ls.length
      · rw [lensTo_succ hj]; omega
      · have : lensTo ls (j + 1) = lensTo ls j := by unfold lensTo; rw [List.take_of_length_le (by omega), List.take_of_length_le (by omega)]
        omega
def cells_intss (ls : List (List Int)) : Nat := lensTo ls ls.length
def Rd_intss (w : World) (u : Value) (ls : List (List Int)) : Prop := ∃ vs : List Value, Rd w 1 u ls.length vs ∧ ∀ i (h : i < ls.length), ∃ v, vs[i]? = some v ∧ Rd_ints w v ls[i]
/-- No two of the values lie in one block. -/
def Sundry (vs : List Value) : Prop := ∀ (i j : Nat) (v v' : Value), i < j → vs[i]? = some v → vs[j]? = some v' → v.ownBlock = none ∨ v.ownBlock ≠ v'.ownBlock
def RowsAt (w : World) (lo hi : Nat) (vs : List Value) (n : Nat) (L : Nat → Nat) (X : Nat → List Value) : Prop := ∀ i, i < n → ∃ v, vs[i]? = some v ∧ OwnS w lo hi 3 1 v (L i) (X i)
def Own_intss (w : World) (lo hi : Nat) (u : Value) (ls : List (List Int)) : Prop :=
  ∃ vs : List Value, OwnS w lo hi 28 1 u ls.length vs ∧ Sundry vs ∧ RowsAt w lo hi vs ls.length (fun i => (ls.getD i []).length) (fun i => intsV (ls.getD i []))
def Held_intss (w : World) (lo hi : Nat) (u : Value) (ls : List (List Int)) (k : Int) : Prop :=
  ∃ vs : List Value, OwnS w lo hi 28 1 u ls.length vs ∧ Sundry vs ∧ RowsAt w lo hi vs ls.length (fun i => (ls.getD i []).length) (fun i => marks mInt (k + lensTo ls i) (ls.getD i []).length)
section
variable {w w' : World} {lo hi lo' hi' n : Nat} {u v : Value} {ls : List (List Int)} {k : Int} {vs : List Value} {L : Nat → Nat} {X : Nat → List Value}
theorem RowsAt.below (h : RowsAt w lo hi vs n L X) (hb : Below w.heap.size w w') : RowsAt w' lo hi vs n L X := fun i hi => by
  obtain ⟨v, h1, h2⟩ := h i hi
  exact ⟨v, h1, h2.below hb⟩
theorem RowsAt.keep (h : RowsAt w lo hi vs n L X) (hp : Part lo' hi' w w') (ha : hi ≤ lo' ∨ hi' ≤ lo) : RowsAt w' lo hi vs n L X := fun i hi => by
  obtain ⟨v, h1, h2⟩ := h i hi
  exact ⟨v, h1, h2.keep hp ha⟩
theorem getD_row {i : Nat} (h : i < ls.length) : ls.getD i [] = ls[i] := by rw [List.getD_eq_getElem?_getD, List.getElem?_eq_getElem h]; rfl
theorem Rd_intss.below (h : Rd_intss w u ls) (hb : Below w.heap.size w w') : Rd_intss w' u ls := by
  obtain ⟨vs, h1, h2⟩ := h
  refine ⟨vs, h1.below hb, fun i hi => ?_⟩
  obtain ⟨v, h3, h4⟩ := h2 i hi
  exact ⟨v, h3, Rd_ints.below h4 hb⟩
theorem Own_intss.rd (h : Own_intss w lo hi u ls) : Rd_intss w u ls := by
  obtain ⟨vs, h1, _, h2⟩ := h
  refine ⟨vs, h1.rd, fun i hi => ?_⟩
  obtain ⟨v, h3, h4⟩ := h2 i hi
  refine ⟨v, h3, ?_⟩
  have h5 : Rd w 1 v (ls.getD i []).length (intsV (ls.getD i [])) := h4.rd
  rw [getD_row hi] at h5
  exact h5
theorem Own_intss.below (h : Own_intss w lo hi u ls) (hb : Below w.heap.size w w') : Own_intss w' lo hi u ls := by
  obtain ⟨vs, h1, hs, h2⟩ := h
  exact ⟨vs, h1.below hb, hs, h2.below hb⟩
theorem Own_intss.keep (h : Own_intss w lo hi u ls) (hp : Part lo' hi' w w') (ha : hi ≤ lo' ∨ hi' ≤ lo) : Own_intss w' lo hi u ls := by
  obtain ⟨vs, h1, hs, h2⟩ := h
  exact ⟨vs, h1.keep hp ha, hs, h2.keep hp ha⟩
theorem Held_intss.below (h : Held_intss w lo hi u ls k) (hb : Below w.heap.size w w') : Held_intss w' lo hi u ls k := by
  obtain ⟨vs, h1, hs, h2⟩ := h
  exact ⟨vs, h1.below hb, hs, h2.below hb⟩
theorem Held_intss.keep (h : Held_intss w lo hi u ls k) (hp : Part lo' hi' w w') (ha : hi ≤ lo' ∨ hi' ≤ lo) : Held_intss w' lo hi u ls k := by
  obtain ⟨vs, h1, hs, h2⟩ := h
  exact ⟨vs, h1.keep hp ha, hs, h2.keep hp ha⟩
/-- A row that is written leaves the others. -/
theorem OwnS.grown {e : TypeId} {size : Nat} {xs : List Value} {row : Option Nat} (h : OwnS w lo hi e size v n xs) (hg : w.grownBy w' row) (hne : v.ownBlock = none ∨ v.ownBlock ≠ row) : OwnS w' lo hi e size v n xs :=
  ⟨own_grown h.1 hg hne, Nat.le_trans h.2.1 hg.size, h.2.2⟩
/-- Rows of elements of two types lie in two blocks. -/
theorem own_types_ne {lo lo' size size' n n' : Nat} {e e' : TypeId} {v v' : Value} {xs xs' : List Value} (h : w.ownsRow lo e size v n xs) (h' : w.ownsRow lo' e' size' v' n' xs') (hne : e ≠ e') : v.ownBlock = none ∨ v.ownBlock ≠ v'.ownBlock := by
  rcases h'.2 with ⟨rfl, _⟩ | ⟨g, cap, cur, rfl, _, hg, _⟩
  · rcases hv : v.ownBlock with _ | b
    · exact .inl rfl
    · exact .inr (by simp [Value.ownBlock])
  · exact .inr (own_blk_ne h (show Blk w g e' cur from hg) hne)
end

set_option maxHeartbeats 1000000 in
set_option maxRecDepth 100000 in
theorem eq_intss (v u : Value) (ls : List (List Int)) (w : World) (h1 : Rd_intss w v ls) (h2 : Rd_intss w u ls) :
    Calls Try.prog 31 #[v, u] w fun e w' => e = .returned (.bool true) ∧ Below w.heap.size w w' := by
  obtain ⟨vs, hv, hvr⟩ := h1
  obtain ⟨us, hu, hur⟩ := h2
  obtain ⟨A1, c1, rfl, hnc1, hcm1⟩ := hv.shape
  obtain ⟨A2, c2, rfl, hnc2, hcm2⟩ := hu.shape
  unfold maxLen at hcm1 hcm2
  go_enter Try.func31, Try.ntmps31
  go_wp2
  go_loopw [5] (fun i wr => ∃ k : Nat, k ≤ ls.length ∧ i = .int .i64 k ∧ Below w.heap.size w wr) (fun i _ => ls.length - (intOf i).toNat)
  case atStart => exact ⟨0, Nat.zero_le _, rfl, Below.refl _ _⟩
  case round =>
    obtain ⟨k, hk, rfl, hb⟩ := hrel
    by_cases hlt : k < ls.length
    · obtain ⟨b1, o1, _, hv1, _, _, hl1, hc1⟩ := hv.form (by omega) (by omega)
      obtain ⟨b2, o2, _, hv2, _, _, hl2, hc2⟩ := hu.form (by omega) (by omega)
      have hA1 : A1 = some ⟨b1, o1, none⟩ := by injection hv1
      have hA2 : A2 = some ⟨b2, o2, none⟩ := by injection hv2
      subst hA1 hA2
      obtain ⟨x, hx, hxr⟩ := hvr k hlt
      obtain ⟨y, hy, hyr⟩ := hur k hlt
      obtain ⟨l, hl⟩ : ∃ l, l = ls[k] := ⟨_, rfl⟩
      rw [← hl] at hxr hyr
      have hcell1 := (hb.cell (p := ⟨b1, o1 + k, none⟩) hl1).trans (hc1 k _ hx)
      have hcell2 := (hb.cell (p := ⟨b2, o2 + k, none⟩) hl2).trans (hc2 k _ hy)
      obtain ⟨Ax, cx, rfl, -, -⟩ := Rd.shape hxr
      obtain ⟨Ay, cy, rfl, -, -⟩ := Rd.shape hyr
      have CE := Lib.hid (fun (W : Calm wr) => eqIntS_any _ _ l W.w (Rd.below hxr (hb.trans (W.below.mono hb.size))) (Rd.below hyr (hb.trans (W.below.mono hb.size))))
      have hb1 : b1 < wr.heap.size := Nat.lt_of_lt_of_le hl1 hb.size
      have hb2 : b2 < wr.heap.size := Nat.lt_of_lt_of_le hl2 hb.size
      have hk0 : (0 : Int) ≤ (k : Int) := by omega
      have hk1 : (k : Int) < (ls.length : Int) := by omega
      clear hx hy hxr hyr hl hv1 hv2 hc1 hc2
      go_wp2
      first | refine wp_region_calm_on (by kernel_rfl) (by kernel_rfl) ?_ | refine wp_region_calm_lit (by kernel_rfl) (by kernel_rfl) ?_
      repeat (go_big_quiet_step ((go_at_call 50; exact calm_of (CE.out _))))
      refine wpQuiet_nil ?_
      intro _ hw'
      obtain ⟨k1, hw''⟩ := hw'
      subst hw''
      go_wp2
      go_roundw
      case rel => exact ⟨k + 1, by omega, by go_num, Below.calm hb hb.size⟩
      case measure => simp [intOf]; omega
    · go_wp2
      go_ret
      exact ⟨rfl, hb⟩

set_option maxHeartbeats 1000000 in
set_option maxRecDepth 100000 in
theorem held_intss (v : Value) (ls : List (List Int)) (lo hi : Nat) (k : Int) (w : World) (h : Held_intss w lo hi v ls k) (h0 : 0 ≤ k) (h1 : k ≤ 5000000) (hn : cells_intss ls ≤ 5000000) :
    Calls Try.prog 35 #[v, .int .i64 k] w fun e w' => e = .returned (.int .i64 (k + ((cells_intss ls : Nat) : Int))) ∧ Below w.heap.size w w' := by
  obtain ⟨vs, hv, hs, hvr⟩ := h
  obtain ⟨A1, c1, rfl, hnc1, hcm1⟩ := hv.rd.shape
  unfold maxLen at hcm1
  have HRD := Lib.hid hv.rd
  have HVR := Lib.hid hvr
  have HC := Lib.hid (show cells_intss ls = lensTo ls ls.length from rfl)
  rw [HC.out] at hn ⊢
  have HLE := Lib.hid (fun i (hi : i ≤ ls.length) => Nat.le_trans (lensTo_le (ls := ls) hi) hn)
  clear hv hvr hs
  go_enter Try.func35, Try.ntmps35
  go_wp2
  go_loopw [5, 1] (fun i q wr => ∃ j : Nat, j ≤ ls.length ∧ i = .int .i64 j ∧ q = .int .i64 (k + ((lensTo ls j : Nat) : Int)) ∧ Below w.heap.size w wr) (fun i _ _ => ls.length - (intOf i).toNat)
  case atStart => exact ⟨0, Nat.zero_le _, rfl, by simp [lensTo], Below.refl _ _⟩
  case round =>
    obtain ⟨j, hj, rfl, rfl, hb⟩ := hrel
    by_cases hlt : j < ls.length
    · obtain ⟨b1, o1, _, hv1, _, _, hl1, hc1⟩ := HRD.out.form (by omega) (by omega)
      have hA1 : A1 = some ⟨b1, o1, none⟩ := by injection hv1
      subst hA1
      obtain ⟨x, hx, hxr⟩ := HVR.out j hlt
      have hle := HLE.out (j + 1) hlt
      have HS := Lib.hid (lensTo_succ hlt)
      rw [HS.out] at hle
      obtain ⟨n, hn'⟩ : ∃ n, n = ls[j].length := ⟨_, rfl⟩
      simp only [getD_row hlt, ← hn'] at hxr
      rw [← hn'] at HS hle
      obtain ⟨q, hq⟩ : ∃ q : Int, q = k + ((lensTo ls j : Nat) : Int) := ⟨_, rfl⟩
      have hq0 : 0 ≤ q := by omega
      have hq1 : q ≤ 10000000 := by omega
      have hq2 : q + n ≤ 10000000 := by omega
      rw [← hq] at hxr
      have HQ := Lib.hid hq
      have hcell1 := (hb.cell (p := ⟨b1, o1 + j, none⟩) hl1).trans (hc1 j _ hx)
      obtain ⟨Ax, cx, rfl, -, -⟩ := hxr.rd.shape
      have CE := Lib.hid (heldIntS_any _ n q wr (Rd.below hxr.rd hb) hq0 hq1 (by omega))
      have hb1 : b1 < wr.heap.size := Nat.lt_of_lt_of_le hl1 hb.size
      have hk0 : (0 : Int) ≤ (j : Int) := by omega
      have hk1 : (j : Int) < (ls.length : Int) := by omega
      rw [← hq]
      clear hx hxr hn' hv1 hc1 hq
      go_wp2_with fail
      refine CE.out.mono ?_
      rintro e w1 ⟨rfl, hb1'⟩
      obtain ⟨q', hq'⟩ : ∃ q' : Int, q' = q + n := ⟨_, rfl⟩
      have HQ' := Lib.hid hq'
      have hq3 : 0 ≤ q' := by omega
      rw [← hq']
      clear hq' hle
      go_wp2_with fail
      go_roundw
      case rel => exact ⟨j + 1, by omega, by go_num, by rw [HQ'.out, HQ.out, HS.out]; congr 1; omega, hb.trans (hb1'.mono hb.size)⟩
      case measure => simp [intOf]; omega
    · obtain rfl : j = ls.length := by omega
      go_wp2
      go_ret
      exact ⟨rfl, hb⟩

/-- Up to row j marks, behind it what was. -/
def mrk (ls : List (List Int)) (k : Int) (j i : Nat) : List Value := if i < j then marks mInt (k + lensTo ls i) (ls.getD i []).length else intsV (ls.getD i [])
set_option maxHeartbeats 1000000 in
set_option maxRecDepth 100000 in
theorem mark_intss (v : Value) (ls : List (List Int)) (lo hi : Nat) (k : Int) (w : World) (h : Own_intss w lo hi v ls) (h0 : 0 ≤ k) (h1 : k ≤ 5000000) (hn : cells_intss ls ≤ 5000000) :
    Calls Try.prog 34 #[v, .int .i64 k] w fun e w' => e = .returned (.int .i64 (k + ((cells_intss ls : Nat) : Int))) ∧ Held_intss w' lo hi v ls k ∧ Part lo hi w w' := by
  obtain ⟨vs, hv, hs, hvr⟩ := h
  obtain ⟨A1, c1, rfl, hnc1, hcm1⟩ := hv.rd.shape
  unfold maxLen at hcm1
  have HV := Lib.hid hv
  have HSU := Lib.hid hs
  have HVR := Lib.hid (show RowsAt w lo hi vs ls.length (fun i => (ls.getD i []).length) (mrk ls k 0) from hvr)
  have HC := Lib.hid (show cells_intss ls = lensTo ls ls.length from rfl)
  rw [HC.out] at hn ⊢
  have HLE := Lib.hid (fun i (hi : i ≤ ls.length) => Nat.le_trans (lensTo_le (ls := ls) hi) hn)
  clear hv hvr hs
  go_enter Try.func34, Try.ntmps34
  go_wp2
  go_loopw [5, 1] (fun i q wr => ∃ j : Nat, j ≤ ls.length ∧ i = .int .i64 j ∧ q = .int .i64 (k + ((lensTo ls j : Nat) : Int)) ∧ Hid (OwnS wr lo hi 28 1 (.slice A1 ls.length c1) ls.length vs) ∧ Hid (RowsAt wr lo hi vs ls.length (fun i => (ls.getD i []).length) (mrk ls k j)) ∧ Hid (Part lo hi w wr)) (fun i _ _ => ls.length - (intOf i).toNat)
  case atStart => exact ⟨0, Nat.zero_le _, rfl, by simp [lensTo], HV, HVR, Lib.hid (Part.refl _ _ _)⟩
  case round =>
    clear HV HVR
    obtain ⟨j, hj, rfl, rfl, HV, HVR, HP⟩ := hrel
    by_cases hlt : j < ls.length
    · obtain ⟨b1, o1, _, hv1, _, _, hl1, hc1⟩ := HV.out.rd.form (by omega) (by omega)
      have hA1 : A1 = some ⟨b1, o1, none⟩ := by injection hv1
      subst hA1
      obtain ⟨x, hx, hxr⟩ := HVR.out j hlt
      have hle := HLE.out (j + 1) hlt
      have HS := Lib.hid (lensTo_succ hlt)
      rw [HS.out] at hle
      obtain ⟨n, hn'⟩ : ∃ n, n = ls[j].length := ⟨_, rfl⟩
      simp only [getD_row hlt, ← hn'] at hxr
      have HN := Lib.hid hn'
      rw [← hn'] at HS hle
      obtain ⟨q, hq⟩ : ∃ q : Int, q = k + ((lensTo ls j : Nat) : Int) := ⟨_, rfl⟩
      have hq0 : 0 ≤ q := by omega
      have hq1 : q ≤ 10000000 := by omega
      have hq2 : q + n ≤ 10000000 := by omega
      have HQ := Lib.hid hq
      have hcell1 := hc1 j _ hx
      have HX := Lib.hid hx
      obtain ⟨Ax, cx, rfl, -, -⟩ := hxr.rd.shape
      have HXR := Lib.hid hxr
      have CE := Lib.hid (markIntS_any _ n lo _ q wr hxr.1 hq0 hq1 (by omega))
      have hk0 : (0 : Int) ≤ (j : Int) := by omega
      have hk1 : (j : Int) < (ls.length : Int) := by omega
      rw [← hq]
      clear hx hxr hn' hv1 hc1 hq
      go_wp2_with fail
      refine CE.out.mono ?_
      rintro e w1 ⟨rfl, ho1, hg1⟩
      have HO1 := Lib.hid ho1
      have HG1 := Lib.hid hg1
      obtain ⟨q', hq'⟩ : ∃ q' : Int, q' = q + ((n * 1 : Nat) : Int) := ⟨_, rfl⟩
      have HQ' := Lib.hid hq'
      rw [← hq']
      clear hq' hle ho1 hg1
      go_wp2_with fail
      go_roundw
      case rel =>
        refine ⟨j + 1, by omega, by go_num, by rw [HQ'.out, HQ.out, HS.out]; congr 1; omega, Lib.hid (HV.out.grown HG1.out (own_types_ne HV.out.1 HXR.out.1 (by decide))), Lib.hid ?_, Lib.hid (HP.out.trans (Part.of_grown HG1.out fun g hg => ⟨(HXR.out.1.lt g hg).1, HXR.out.2.2 g hg⟩))⟩
        intro i hi
        by_cases e : i = j
        · subst e
          refine ⟨_, HX.out, ⟨?_, Nat.le_trans HXR.out.2.1 HG1.out.size, HXR.out.2.2⟩⟩
          have h := HO1.out
          simp only [mrk, getD_row hlt, ← HN.out]
          rw [if_pos (by omega), ← HQ.out]
          rwa [Nat.mul_one] at h
        · obtain ⟨x, hx, hxr⟩ := HVR.out i hi
          refine ⟨x, hx, ?_⟩
          have hm : mrk ls k (j + 1) i = mrk ls k j i := by
            unfold mrk
            by_cases e2 : i < j
            · rw [if_pos e2, if_pos (by omega)]
            · rw [if_neg e2, if_neg (by omega)]
          rw [hm]
          refine hxr.grown HG1.out ?_
          rcases Nat.lt_or_ge i j with h3 | h3
          · exact HSU.out i j _ _ h3 hx HX.out
          · rcases HSU.out j i _ _ (by omega) HX.out hx with h4 | h4
            · rcases hb : x.ownBlock with _ | b
              · exact .inl rfl
              · exact .inr (by rw [h4]; simp)
            · exact .inr (Ne.symm h4)
      case measure => simp [intOf]; omega
    · obtain rfl : j = ls.length := by omega
      go_wp2
      go_ret
      refine ⟨rfl, ⟨vs, HV.out, HSU.out, fun i hi => ?_⟩, HP.out⟩
      obtain ⟨x, hx, hxr⟩ := HVR.out i hi
      refine ⟨x, hx, ?_⟩
      have h := hxr
      unfold mrk at h
      rwa [if_pos hi] at h
end Go.Proofs.Ytbbjkldkjndfaaa

/- CloseOf, the program's and the reference's. -/
import Derived.Test.YtbbjkldkjndfaaaReaches
namespace Go.Proofs.Ytbbjkldkjndfaaa
set_option linter.unusedSimpArgs false
open Go.RowKit Go.ChangeShapes Go.Deep

/-- What a call leaves that hands back ints of its own. -/
def GivesI (l : List Int) (w0 : World) (e : Ending) (w' : World) : Prop := ∃ u, e = .returned u ∧ Own_ints w' w0.heap.size w'.heap.size u l ∧ Below w0.heap.size w0 w'
theorem givesI {w W0 w' : World} {u : Value} {n : Nat} {l : List Int} (hb0 : Below w.heap.size w W0) (hB : Below W0.heap.size W0 w') (ho : w'.ownsRow W0.heap.size 3 1 u n (intsV l)) : GivesI l w (.returned u) w' := by
  have hn : n = l.length := by have := ho.1; simpa [intsV] using this.symm
  subst hn
  exact ⟨u, rfl, OwnS.of_own (own_more ho hb0.size), hb0.trans (hB.mono hb0.size)⟩
theorem givesI_nil {w w' : World} (hb : Below w.heap.size w w') : GivesI [] w (.returned (.slice none 0 0)) w' := ⟨_, rfl, OwnS.nil (Nat.le_refl _), hb⟩
theorem own_nil {w : World} {base size : Nat} {e : TypeId} : w.ownsRow base e size (.slice none 0 0) 0 [] := ⟨by simp, .inl ⟨rfl, rfl⟩⟩
theorem own_push {w : World} {base n : Nat} {u : Value} {l : List Int} {x : Int} (h : w.ownsRow base 3 1 u (n + 1) (intsV l ++ [.int .i64 x])) : w.ownsRow base 3 1 u (n + 1) (intsV (l ++ [x])) := by
  rw [intsV_append]
  exact h

/-- The row of u lies in no block of lo .. hi - 1. -/
def Far (lo hi : Nat) (u : Value) : Prop := ∀ g, u.ownBlock = some g → g < lo ∨ hi ≤ g
theorem Far.ne {lo hi b : Nat} {u : Value} (h : Far lo hi u) (h1 : lo ≤ b) (h2 : b < hi) : some b ≠ u.ownBlock := fun e => by
  have := h b e.symm
  omega
theorem Far.step {lo hi n : Nat} {u v : Value} (h : Far lo hi u) (ha : v.ownBlock = u.ownBlock ∨ v.ownBlock = some n) (hn : hi ≤ n) : Far lo hi v := fun g hg => by
  rcases ha with e | e
  · exact h g (e.symm.trans hg)
  · rw [hg] at e
    injection e with e
    right; omega
theorem Far.nil {lo hi : Nat} : Far lo hi (.slice none 0 0) := fun g hg => by simp [Value.ownBlock] at hg
/-- A block behind 'append'. -/
theorem block_push {w W w1 : World} {b : Nat} {row : Option Nat} {o : Obj} (h : W.heap[b]? = w.heap[b]?) (hb : b < W.heap.size) (hg : (W.alloc o).grownBy w1 row) (hne : some b ≠ row) : w1.heap[b]? = w.heap[b]? :=
  ((hg.block b (by simp; omega) hne).trans (Below.heap_alloc W o b hb)).trans h

noncomputable def closeTo (E : List Edg) (t : Int) : Nat → List Int
  | 0 => []
  | k + 1 => if (k : Int) = t ∨ wayB E t k = true then closeTo E t k ++ [(k : Int)] else closeTo E t k
theorem closeTo_le (E : List Edg) (t : Int) : ∀ k, (closeTo E t k).length ≤ k
  | 0 => Nat.le_refl _
  | k + 1 => by
    have := closeTo_le E t k
    rw [closeTo]
    split
    · simp; omega
    · omega
noncomputable def closeOfR (x : Pln) (t : Int) : List Int := if isTaskR x t = true then closeTo x.edges t x.tasks.toNat else []
theorem closeOf_cells (x : Pln) (t : Int) : cells_ints (closeOfR x t) ≤ 5000000 := by
  unfold cells_ints closeOfR
  split
  · rename_i h
    have := closeTo_le x.edges t x.tasks.toNat
    have := many_false (isTask_right h).2.1
    omega
  · simp
theorem reaches_of {x : Pln} {t : Int} {k : Nat} (h : isTaskR x t = true) (hk : (k : Int) < x.tasks) : reachesR x t k = wayB x.edges t k := by
  have h2 : isTaskR x k = true := by
    rw [isTaskR, (isTask_right h).1]
    simp [inB]
    omega
  rw [reachesR, h, h2]
  rfl

set_option maxHeartbeats 4000000 in
set_option maxRecDepth 100000 in
theorem closeOf_impl (u : Value) (x : Pln) (t : Int) (w : World) (h : Rd_plan w u x) (hn : cost_plan x ≤ 1048576) :
    Calls Try.prog 19 #[.agg #[.int .i64 x.prio, .int .i64 x.most, .int .i64 x.wait, .int .i64 x.tasks, u], .int .i64 t] w (GivesI (closeOfR x t) w) := by
  have HPL := Lib.hid h
  have hA : ∃ q, q = isTaskR x t := ⟨_, rfl⟩
  obtain ⟨q, hq⟩ := hA
  have HR := Lib.hid (show closeOfR x t = if q = true then closeTo x.edges t x.tasks.toNat else [] by rw [hq]; rfl)
  have HA := Lib.hid (fun h : q = true => isTask_right (hq.symm.trans h))
  have HRE := Lib.hid (fun (h : q = true) (k : Nat) (hk : (k : Int) < x.tasks) => reaches_of (hq.symm.trans h) hk)
  obtain ⟨i0, hii, hz0, hz1, hz2⟩ := info_parts Try.infoI64
  obtain ⟨x1, x2, x3, x4, E⟩ := x
  obtain ⟨A, c, rfl, hnc, hcm⟩ := h.form
  simp only at hnc
  unfold maxLen at hcm
  obtain ⟨W0, hW0⟩ : ∃ W0, W0 = w.alloc (.cells #[.int .i64 x1, .int .i64 x2, .int .i64 x3, .int .i64 x4, .slice A E.length c] 26) := ⟨_, rfl⟩
  have hb0 : Below w.heap.size w W0 := by rw [hW0]; exact (Below.refl _ _).alloc (Nat.le_refl _) _
  have k0 : Blk W0 w.heap.size 26 #[.int .i64 x1, .int .i64 x2, .int .i64 x3, .int .i64 x4, .slice A E.length c] := by rw [hW0]; exact Blk.new _ _ _
  have HK := Lib.hid k0
  have HW := Lib.hid hW0
  have CA := Lib.hid (isTask_any _ ⟨x1, x2, x3, x4, E⟩ t W0 (HPL.out.below hb0) hn)
  have CB := Lib.hid (fun (k : Int) W (hW : Below w.heap.size w W) => reaches_impl _ ⟨x1, x2, x3, x4, E⟩ t k W (HPL.out.below hW) hn)
  rw [← hq] at CA
  clear k0 hW0 h hq
  cases q with
  | false =>
    go_enter Try.func19, Try.ntmps19
    go_wp2_with fail
    rw [← HW.out]
    refine CA.out.mono ?_
    rintro e w1 ⟨rfl, hb1⟩
    go_wp2_with fail
    go_ret
    rw [HR.out]
    exact givesI_nil (hb0.trans (hb1.mono hb0.size))
  | true =>
    obtain ⟨-, hm, ho, ha0, ha1⟩ := HA.out rfl
    have hmm := many_false hm
    obtain ⟨hx0, hx1, -⟩ := hmm
    simp only at hx0 hx1 ho ha1
    obtain ⟨n, rfl⟩ : ∃ n : Nat, x4 = n := ⟨x4.toNat, by omega⟩
    have HRR := Lib.hid (show closeOfR ⟨x1, x2, x3, n, E⟩ t = closeTo E t n from HR.out)
    have HW2 := Lib.hid (fun (k : Nat) (hk : (k : Int) < n) => HRE.out rfl k hk)
    clear hm ho HR HA HRE
    go_enter Try.func19, Try.ntmps19
    go_wp2_with fail
    rw [← HW.out]
    refine CA.out.mono ?_
    rintro e w1 ⟨rfl, hb1⟩
    go_wp2_with fail
    go_loopw [5, 6] (fun u5 u6 wr => ∃ k m : Nat, k ≤ n ∧ m ≤ k ∧ u6 = .int .i64 k ∧ Hid (wr.ownsRow W0.heap.size 3 1 u5 m (intsV (closeTo E t k))) ∧ Hid (Below W0.heap.size W0 wr)) (fun _ u6 _ => n - (intOf u6).toNat)
    case atStart => exact ⟨0, 0, Nat.zero_le _, Nat.le_refl _, rfl, Lib.hid own_nil, Lib.hid hb1⟩
    case round =>
      clear hb1
      obtain ⟨k, m, hk, hmk, rfl, HOWN, HB⟩ := hrel
      have hw : Below w.heap.size w wr := hb0.trans (HB.out.mono hb0.size)
      have kp := HK.out.belowV HB.out
      have p0 := kp.cell 0
      have p1 := kp.cell 1
      have p2 := kp.cell 2
      have p3 := kp.cell 3
      have p4 := kp.cell 4
      simp only [List.getElem?_toArray, List.getElem?_cons_succ, List.getElem?_cons_zero] at p0 p1 p2 p3 p4
      have hpl := kp.lt
      clear kp
      by_cases hlt : k < n
      · have HWK := Lib.hid (HW2.out k (by omega))
        have CK := Lib.hid (CB.out k wr hw)
        rw [HWK.out] at CK
        have HB2 := Lib.hid (fun W (hW : Below wr.heap.size wr W) => HB.out.trans (hW.mono HB.out.size))
        by_cases e : (k : Int) = t
        · have HS := Lib.hid (show closeTo E t (k + 1) = closeTo E t k ++ [(k : Int)] by rw [closeTo, if_pos (.inl e)])
          have t0 : ((k : Int) == t) = true := by simp [e]
          clear e CK HWK hw
          go_wp2_with ((at_builtin; refine wpList_append_new rfl _ _ _ rfl _ _ i0 _ 1 8 Try.underlying28 hii hz0 hz1 hz2 rfl (by decide) u5  m _ rfl ( HOWN.out) ( HB.out) (Below.size ( HB.out)) _ 1 1 (by first | rfl | (refine slice_at_eq ?_; simp [World.setCell]; done)) rfl (by intro u hu; simp at hu; subst hu; rfl) ⟨by omega, by omega⟩ ?_; intro v1 w1 hown1 hb1 hg1 hat1; have HO1 := Lib.hid hown1; have HB1 := Lib.hid hb1; clear hown1 hb1 hg1 hat1))
          go_roundw
          case rel => exact ⟨k + 1, m + 1, by omega, by omega, by go_num, by rw [HS.out]; exact Lib.hid (own_push HO1.out), HB1⟩
          case measure => simp [intOf]; omega
        · have t0 : ((k : Int) == t) = false := by simp [e]
          obtain ⟨bw, hbw⟩ : ∃ bw, bw = wayB E t k := ⟨_, rfl⟩
          rw [← hbw] at CK
          have HS := Lib.hid (show closeTo E t (k + 1) = if bw = true then closeTo E t k ++ [(k : Int)] else closeTo E t k by rw [closeTo, hbw]; simp [e])
          clear e hbw HWK hw
          cases bw with
          | true =>
            go_wp2_with fail
            refine CK.out.mono ?_
            rintro e w2 ⟨rfl, hb2⟩
            have hown2 := own_below HOWN.out hb2
            have hbw2 := HB2.out _ hb2
            go_wp2_with ((at_builtin; refine wpList_append_new rfl _ _ _ rfl _ _ i0 _ 1 8 Try.underlying28 hii hz0 hz1 hz2 rfl (by decide) u5  m _ rfl ( hown2) ( hbw2) (Below.size ( hbw2)) _ 1 1 (by first | rfl | (refine slice_at_eq ?_; simp [World.setCell]; done)) rfl (by intro u hu; simp at hu; subst hu; rfl) ⟨by omega, by omega⟩ ?_; intro v1 w1 hown1 hb1 hg1 hat1; have HO1 := Lib.hid hown1; have HB1 := Lib.hid hb1; clear hown1 hb1 hg1 hat1))
            go_roundw
            case rel => exact ⟨k + 1, m + 1, by omega, by omega, by go_num, by rw [HS.out]; exact Lib.hid (own_push HO1.out), HB1⟩
            case measure => simp [intOf]; omega
          | false =>
            go_wp2_with fail
            refine CK.out.mono ?_
            rintro e w2 ⟨rfl, hb2⟩
            go_wp2_with fail
            go_roundw
            case rel => exact ⟨k + 1, m, by omega, by omega, by go_num, by rw [HS.out]; exact Lib.hid (own_below HOWN.out hb2), Lib.hid (HB2.out _ hb2)⟩
            case measure => simp [intOf]; omega
      · obtain rfl : k = n := by omega
        go_wp2
        go_ret
        rw [HRR.out]
        exact givesI hb0 HB.out HOWN.out

end Go.Proofs.Ytbbjkldkjndfaaa

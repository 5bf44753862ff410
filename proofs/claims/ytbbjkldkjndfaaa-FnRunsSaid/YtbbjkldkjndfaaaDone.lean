/- A task of a run of one's own is made done: done, the program's. -/
import Derived.Test.YtbbjkldkjndfaaaLeave
import Derived.Test.YtbbjkldkjndfaaaRunsW
import Derived.Test.YtbbjkldkjndfaaaBefore
namespace Go.Proofs.Ytbbjkldkjndfaaa
set_option linter.unusedSimpArgs false
set_option linter.unusedSimpArgs false
set_option linter.unusedVariables false
open Go.RowKit Go.ChangeShapes Go.Deep

theorem row_done {w : World} {g cap k : Nat} {l : List Tsk} {x : Tsk} (h : RowTsk w g cap l) (hk : k < l.length) (hx : x = l[k]) :
    RowTsk ((w.setCell ⟨g, k * 4, none⟩ (.int .i64 4)).setCell ⟨g, k * 4 + 3, none⟩ (.int .i64 0)) g cap (l.set k (doneT x)) := by
  have h1 := RowTsk.put h hk 0 (by omega) ⟨4, x.need, x.try_, x.until_⟩ (.int .i64 4) rfl (fun i hi hn => by
    subst hx
    rcases (show i = 1 ∨ i = 2 ∨ i = 3 by omega) with rfl | rfl | rfl <;> rfl)
  have h2 := RowTsk.put h1 (k := k) (by rw [List.length_set]; exact hk) 3 (by omega) (doneT x) (.int .i64 0) rfl (fun i hi hn => by
    rw [List.getElem_set_self]
    rcases (show i = 0 ∨ i = 1 ∨ i = 2 by omega) with rfl | rfl | rfl <;> rfl)
  rw [List.set_set] at h2
  exact h2
theorem row_need {w : World} {g cap k : Nat} {l : List Tsk} {x : Tsk} (h : RowTsk w g cap l) (hk : k < l.length) (hx : x = l[k]) (n : Int) :
    RowTsk (w.setCell ⟨g, k * 4 + 1, none⟩ (.int .i64 n)) g cap (l.set k ⟨x.state, n, x.try_, x.until_⟩) :=
  RowTsk.put h hk 1 (by omega) ⟨x.state, n, x.try_, x.until_⟩ (.int .i64 n) rfl (fun i hi hn => by
    subst hx
    rcases (show i = 0 ∨ i = 2 ∨ i = 3 by omega) with rfl | rfl | rfl <;> rfl)
theorem row_ready {w : World} {g cap k : Nat} {l : List Tsk} {x : Tsk} (h : RowTsk w g cap l) (hk : k < l.length) (hx : x = l[k]) (n : Int) :
    RowTsk ((w.setCell ⟨g, k * 4 + 1, none⟩ (.int .i64 n)).setCell ⟨g, k * 4, none⟩ (.int .i64 2)) g cap (l.set k ⟨2, n, x.try_, x.until_⟩) := by
  have h2 := RowTsk.put (row_need h hk hx n) (k := k) (by rw [List.length_set]; exact hk) 0 (by omega) ⟨2, n, x.try_, x.until_⟩ (.int .i64 2) rfl (fun i hi hn => by
    rw [List.getElem_set_self]
    rcases (show i = 1 ∨ i = 2 ∨ i = 3 by omega) with rfl | rfl | rfl <;> rfl)
  rw [List.set_set] at h2
  exact h2
/-- What done leaves. -/
def DoneP (w0 : World) (g0 g cap lo hi : Nat) (cs : Array Value) (l : List Tsk) (e : Ending) (w' : World) : Prop := e = .returned (.tuple #[]) ∧ RowTsk w' g cap l ∧ Blk w' g0 52 cs ∧ Part lo hi w0 w'

set_option maxHeartbeats 8000000 in
set_option maxRecDepth 100000 in
theorem done_any (g0 g cap lo hi a : Nat) (xi x1 x2 x3 x4 : Int) (E : List Edg) (u : Value) (l : List Tsk) (t : Nat) (w : World)
    (hb0 : Blk w g0 52 #[.int .i64 xi, .int .i64 x1, .int .i64 x2, .int .i64 x3, .int .i64 x4, u, .int .i64 1, .slice (some ⟨g, 0, none⟩) l.length cap]) (hr : RowTsk w g cap l) (hne : g ≠ g0) (hcap : cap ≤ maxLen)
    (hhi : hi ≤ w.heap.size) (hg : lo ≤ g ∧ g < hi) (hg0 : lo ≤ g0 ∧ g0 < hi) (hu : OwnS w a lo 39 2 u E.length (edgV E)) (hE : E.length ≤ 1000) (hl : l.length ≤ 1000) (ht : t < l.length)
    (hz : planFaultR ⟨x1, x2, x3, x4, E⟩ = 0) (hbs : ∀ b ∈ behindTo E t x4.toNat, 0 ≤ b ∧ b < l.length ∧ b ≠ t ∧ 1 ≤ (l.getD b.toNat zeroT).need ∧ (l.getD b.toNat zeroT).need ≤ 1000) (hnd : (behindTo E t x4.toNat).Nodup) (hbl : (behindTo E t x4.toNat).length ≤ 1000)
    (S : Int) (hS : S = if cntS (doneL l t (behindTo E t x4.toNat)) 4 = l.length then 2 else 1) :
    Calls Try.prog 80 #[.pointer (some ⟨g0, 0, none⟩), .int .i64 (t : Int)] w (DoneP w g0 g cap lo hi #[.int .i64 xi, .int .i64 x1, .int .i64 x2, .int .i64 x3, .int .i64 x4, u, .int .i64 S, .slice (some ⟨g, 0, none⟩) l.length cap] (doneL l t (behindTo E t x4.toNat))) := by
  obtain ⟨x, hx⟩ : ∃ x, x = l[t] := ⟨_, rfl⟩
  have hxd : l.getD t zeroT = x := getD_tsk ht x hx
  obtain ⟨s0, s1, s2, s3⟩ := hr.cell ht x hx
  have z0 := hr.frozen (t * 4)
  have z3 := hr.frozen (t * 4 + 3)
  have hgl := hr.lt
  have p7 := hb0.cell 7
  have p1 := hb0.cell 1
  have p2 := hb0.cell 2
  have p3 := hb0.cell 3
  have p4 := hb0.cell 4
  have p5 := hb0.cell 5
  simp only [List.getElem?_toArray, List.getElem?_cons_succ, List.getElem?_cons_zero] at p1 p2 p3 p4 p5 p7
  have pl := hb0.lt
  have ht0 : (0 : Int) ≤ (t : Int) := by omega
  have ht1 : (t : Int) < (l.length : Int) := by omega
  have g1 : ¬ g = g0 := hne
  have g2 : ¬ g0 = g := fun e => hne e.symm
  have hRow := row_done hr ht hx
  have hp : Part lo hi w ((w.setCell ⟨g, t * 4, none⟩ (.int .i64 4)).setCell ⟨g, t * 4 + 3, none⟩ (.int .i64 0)) := ((Part.refl lo hi w).setCell (p := ⟨g, t * 4, none⟩) hg _).setCell (p := ⟨g, t * 4 + 3, none⟩) hg _
  have hB1 : Blk ((w.setCell ⟨g, t * 4, none⟩ (.int .i64 4)).setCell ⟨g, t * 4 + 3, none⟩ (.int .i64 0)) g0 52 #[.int .i64 xi, .int .i64 x1, .int .i64 x2, .int .i64 x3, .int .i64 x4, u, .int .i64 1, .slice (some ⟨g, 0, none⟩) l.length cap] := hb0.keepV (((Part.refl g (g + 1) w).setCell (p := ⟨g, t * 4, none⟩) ⟨Nat.le_refl _, Nat.lt_succ_self _⟩ _).setCell (p := ⟨g, t * 4 + 3, none⟩) ⟨Nat.le_refl _, Nat.lt_succ_self _⟩ _) (by omega)
  obtain ⟨L, hL⟩ : ∃ L, L = l.set t (doneT x) := ⟨_, rfl⟩
  rw [← hL] at hRow
  have HRow := Lib.hid hRow
  have HP := Lib.hid hp
  have HB1 := Lib.hid hB1
  obtain ⟨W1, hW1⟩ : ∃ W, W = (w.setCell ⟨g, t * 4, none⟩ (.int .i64 4)).setCell ⟨g, t * 4 + 3, none⟩ (.int .i64 0) := ⟨_, rfl⟩
  rw [← hW1] at HRow HP HB1
  have hu1 := OwnS.keep hu HP.out (.inl (Nat.le_refl _))
  have CBH := Lib.hid (behindOf_impl u ⟨x1, x2, x3, x4, E⟩ t W1 (OwnS.rd hu1) (by show E.length ≤ _; omega))
  have HW1 := Lib.hid hW1
  clear hRow hp hB1 hW1 hx hb0 hr
  go_enter Try.func80, Try.ntmps80
  have HBH := Lib.hid (show behindOfR ⟨x1, x2, x3, x4, E⟩ t = behindTo E t x4.toNat by unfold behindOfR; rw [if_pos hz])
  obtain ⟨bs, hbsd⟩ : ∃ bs, bs = behindTo E t x4.toNat := ⟨_, rfl⟩
  rw [← hbsd] at hbs hnd hbl hS HBH ⊢
  rw [HBH.out] at CBH
  have HDL := Lib.hid (show doneL l t bs = bs.foldl behStep L by unfold doneL; rw [hxd, hL])
  have HAT := Lib.hid (show ∀ (j k : Nat), (k : Int) ∉ bs.take j → k ≠ t → ((bs.take j).foldl behStep L).getD k zeroT = l.getD k zeroT from fun j k hm hk => by
    rw [fold_beh (hnd.sublist (List.take_sublist _ _)) (fun b hb => by rw [hL, List.length_set]; have := hbs b (List.mem_of_mem_take hb); omega), if_neg hm, hL, getD_setT ht, if_neg hk])
  have HLL := Lib.hid (show ∀ j, ((bs.take j).foldl behStep L).length = l.length from fun j => by rw [fold_beh_length, hL, List.length_set])
  have HBS := Lib.hid hbs
  have HND := Lib.hid hnd
  have HS := Lib.hid hS
  clear hbsd hbs hnd hS hz hu hL hxd
  go_wp2_with fail
  rw [← HW1.out]
  refine CBH.out.mono ?_
  rintro e w2 ⟨u2, rfl, ho2, hb2⟩
  have hr2 : Rd w2 1 u2 bs.length (intsV bs) := OwnS.rd ho2
  obtain ⟨A2, c2, rfl, hnc2, hcm2⟩ := hr2.shape
  unfold maxLen at hcm2
  have HO2 := Lib.hid ho2
  have HRow2 := Lib.hid (HRow.out.belowV hb2)
  have HB2 := Lib.hid (HB1.out.belowV hb2)
  have HP2 := Lib.hid (HP.out.trans (Part.of_below hb2))
  have hW1s : W1.heap.size = w.heap.size := by rw [HW1.out]; simp [World.setCell]
  have hhi2 : hi ≤ W1.heap.size := by omega
  have h12 := hb2.size
  have hb2k := Lib.hid hb2
  clear s0 s1 s2 s3 z0 z3 p1 p2 p3 p4 p5 p7 pl ho2 hr2 hb2 hW1s
  go_wp2_with fail
  go_loopw [28] (fun u28 wr => ∃ j : Nat, j ≤ bs.length ∧ u28 = .int .i64 j ∧ Hid (RowTsk wr g cap ((bs.take j).foldl behStep L)) ∧ Hid (Blk wr g0 52 #[.int .i64 xi, .int .i64 x1, .int .i64 x2, .int .i64 x3, .int .i64 x4, u, .int .i64 1, .slice (some ⟨g, 0, none⟩) l.length cap]) ∧ Hid (Part lo hi w2 wr)) (fun u28 _ => bs.length - (intOf u28).toNat)
  case atStart => exact ⟨0, Nat.zero_le _, rfl, HRow2, HB2, Lib.hid (Part.refl _ _ _)⟩
  case round =>
    obtain ⟨j, hj, rfl, HRj, HBj, HPj⟩ := hrel
    have hsz := HPj.out.size
    have p7 := HBj.out.cell 7
    simp only [List.getElem?_toArray, List.getElem?_cons_succ, List.getElem?_cons_zero] at p7
    have pl := HBj.out.lt
    have hgl := HRj.out.lt
    by_cases hlt : j < bs.length
    · obtain ⟨b1, o1, _, hv1, _, _, hl1, hc1⟩ := (OwnS.rd (OwnS.keep HO2.out HPj.out (.inr hhi2))).form (by omega) (by omega)
      have hA1 : A2 = some ⟨b1, o1, none⟩ := by injection hv1
      subst hA1
      obtain ⟨b, hb⟩ : ∃ b, b = bs[j] := ⟨_, rfl⟩
      have d0 := int_cell (Below.refl _ _) hl1 hc1 hlt b hb
      obtain ⟨hb0, hb1, hbt, hn1, hn2⟩ := HBS.out b (by rw [hb]; exact List.getElem_mem hlt)
      obtain ⟨k, rfl⟩ : ∃ k : Nat, b = k := ⟨b.toNat, by omega⟩
      have hkl : k < l.length := by omega
      have hkt : k ≠ t := by omega
      have hnm : (k : Int) ∉ bs.take j := fun hm => by
        obtain ⟨i, hi', he⟩ := List.mem_take_iff_getElem.1 hm
        exact (List.pairwise_iff_getElem.1 HND.out) i j (by omega) hlt (by omega) (he.trans hb)
      have hyd := HAT.out j k hnm hkt
      have hkL : k < ((bs.take j).foldl behStep L).length := by rw [HLL.out]; exact hkl
      obtain ⟨y, hy⟩ : ∃ y, y = ((bs.take j).foldl behStep L)[k] := ⟨_, rfl⟩
      have hyg := getD_tsk hkL y hy
      have hny : 1 ≤ y.need ∧ y.need ≤ 1000 := by rw [← hyg, hyd]; exact ⟨by simpa using hn1, by simpa using hn2⟩
      obtain ⟨s0, s1, s2, s3⟩ := HRj.out.cell hkL y hy
      have z0 := HRj.out.frozen (k * 4)
      have z1 := HRj.out.frozen (k * 4 + 1)
      have HSt := Lib.hid (show (bs.take (j + 1)).foldl behStep L = ((bs.take j).foldl behStep L).set k (turnT y) by rw [List.take_succ_eq_append_getElem hlt, List.foldl_append, ← hb]; show behStep ((bs.take j).foldl behStep L) (k : Int) = _; rw [behStep, Int.toNat_natCast, hyg])
      obtain ⟨n, hn⟩ : ∃ n : Int, n = y.need - 1 := ⟨_, rfl⟩
      have HR2 := Lib.hid (row_ready HRj.out hkL hy n)
      have HR1 := Lib.hid (row_need HRj.out hkL hy n)
      have HT := Lib.hid (show turnT y = ⟨if n = 0 then 2 else y.state, n, y.try_, y.until_⟩ by unfold turnT; rw [hn])
      obtain ⟨m, hm⟩ : ∃ m : Int, m = y.need := ⟨_, rfl⟩
      rw [← hm] at s1 hn hny
      have k1 : m - 1 = n := hn.symm
      have k2 : IntKind.i64.wrap (m - 1) = n := by rw [hn]; exact IntWalk.i64_in _ (by omega)
      have k3 : wrap64 n = n := IntWalk.wrap64_in _ (by omega)
      have hj0 : (0 : Int) ≤ (j : Int) := by omega
      have hj1 : (j : Int) < (bs.length : Int) := by omega
      have hk0 : (0 : Int) ≤ (k : Int) := by omega
      have hk1 : (k : Int) < (l.length : Int) := by omega
      have hp1 : Part g (g + 1) wr (wr.setCell ⟨g, k * 4 + 1, none⟩ (.int .i64 n)) := (Part.refl g (g + 1) wr).setCell (p := ⟨g, k * 4 + 1, none⟩) ⟨Nat.le_refl _, Nat.lt_succ_self _⟩ _
      have hp2 : Part g (g + 1) wr ((wr.setCell ⟨g, k * 4 + 1, none⟩ (.int .i64 n)).setCell ⟨g, k * 4, none⟩ (.int .i64 2)) := hp1.setCell (p := ⟨g, k * 4, none⟩) ⟨Nat.le_refl _, Nat.lt_succ_self _⟩ _
      have HK1 := Lib.hid (HBj.out.keepV hp1 (by omega))
      have HK2 := Lib.hid (HBj.out.keepV hp2 (by omega))
      have HQ1 := Lib.hid (HPj.out.trans (hp1.mono hg.1 hg.2))
      have HQ2 := Lib.hid (HPj.out.trans (hp2.mono hg.1 hg.2))
      have g1 : ¬ g = g0 := hne
      have g2 : ¬ g0 = g := fun e => hne e.symm
      clear hn hm hy hyg hyd hnm hb hv1 hc1 hn1 hn2 hb0 hb1 hbt hp1 hp2 hny
      by_cases h0 : n = 0
      · have t0 : (n == 0) = true := by simp [h0]
        have HE := Lib.hid (show turnT y = ⟨2, n, y.try_, y.until_⟩ by rw [HT.out, if_pos h0])
        clear h0
        go_wp2_with fail
        go_roundw
        case rel => exact ⟨j + 1, by omega, by go_num, Lib.hid (by rw [HSt.out, HE.out]; exact HR2.out), HK2, HQ2⟩
        case measure => simp [intOf]; omega
      · have t0 : (n == 0) = false := by simp [h0]
        have HE := Lib.hid (show turnT y = ⟨y.state, n, y.try_, y.until_⟩ by rw [HT.out, if_neg h0])
        clear h0
        go_wp2_with fail
        go_roundw
        case rel => exact ⟨j + 1, by omega, by go_num, Lib.hid (by rw [HSt.out, HE.out]; exact HR1.out), HK1, HQ1⟩
        case measure => simp [intOf]; omega
    · obtain rfl : j = bs.length := by omega
      rw [List.take_length] at HRj
      obtain ⟨Lf, hLf⟩ : ∃ Lf, Lf = bs.foldl behStep L := ⟨_, rfl⟩
      have hlf : Lf.length = l.length := by rw [hLf, fold_beh_length]; have := HLL.out 0; simpa using this
      rw [← hLf] at HRj HDL
      have hown := HRj.out.own (base := lo) hg.1 hcap
      rw [hlf] at hown
      have hrd : Rd_run wr u (.slice (some ⟨g, 0, none⟩) l.length cap) ⟨xi, ⟨x1, x2, x3, x4, E⟩, 1, Lf⟩ := ⟨OwnS.rd (OwnS.keep (OwnS.below hu1 (Below.trans (Below.refl _ _) hb2k.out)) HPj.out (.inl (Nat.le_refl _))), by show Rd wr 4 _ Lf.length (tskV Lf); rw [hlf]; exact Rd.of_own hown⟩
      have CT := Lib.hid (fun W (hW : Below wr.heap.size wr W) => tasksIn_impl u _ ⟨xi, ⟨x1, x2, x3, x4, E⟩, 1, Lf⟩ 4 W (Rd_run.below hrd hW) (by show E.length + Lf.length ≤ _; omega))
      obtain ⟨TL, hTL⟩ : ∃ TL, TL = tasksInR ⟨xi, ⟨x1, x2, x3, x4, E⟩, 1, Lf⟩ 4 := ⟨_, rfl⟩
      rw [← hTL] at CT
      have HTL := Lib.hid (show TL.length = cntS (doneL l t bs) 4 by rw [hTL, HDL.out]; rfl)
      have p0 := HBj.out.cell 0
      have p1 := HBj.out.cell 1
      have p2 := HBj.out.cell 2
      have p3 := HBj.out.cell 3
      have p4 := HBj.out.cell 4
      have p5 := HBj.out.cell 5
      have p6 := HBj.out.cell 6
      have pf6 := HBj.out.frozen 6
      simp only [List.getElem?_toArray, List.getElem?_cons_succ, List.getElem?_cons_zero] at p0 p1 p2 p3 p4 p5 p6
      have HBD := Lib.hid (show Below wr.heap.size wr wr.drew from (Below.refl _ _).drew)
      clear hTL hrd hown hLf hlf
      by_cases hc : TL.length = l.length
      · have t0 : ((TL.length : Int) == (l.length : Int)) = true := beq_iff_eq.2 (by omega)
        have HS2 := Lib.hid (show S = 2 by rw [HS.out, ← HTL.out, if_pos hc])
        clear hc
        go_wp2_with fail
        refine wp_region_sched [(0, true), (1, true), (2, true), (5, true), (6, true), (7, true), (8, true), (9, true), (3, false), (4, true), (10, true)] [(true, _), (true, _), (true, _), (true, _), (true, _), (true, _), (true, _), (true, _), (false, _), (true, _), (true, _)] rfl (by kernel_rfl) (by kernel_rfl) (KeptS _ none) (KeptS.refl _ _).drew ?_
        try simp only [List.getElem_toArray, List.getElem_cons_succ, List.getElem_cons_zero]
        (refine wpS_held (by rfl) ?_ (fun W hW => ?_) ?_; rotate_left; (· (obtain ⟨kq, rfl⟩ := hW; go_simp; try with_reducible rfl)); try simp only [Act.put, List.setIfInBounds_toArray, List.set_cons_succ, List.set_cons_zero])
        (refine wpS_held (by rfl) ?_ (fun W hW => ?_) ?_; rotate_left; (· (obtain ⟨kq, rfl⟩ := hW; go_simp; try with_reducible rfl)); try simp only [Act.put, List.setIfInBounds_toArray, List.set_cons_succ, List.set_cons_zero])
        (refine wpS_held (by rfl) ?_ (fun W hW => ?_) ?_; rotate_left; (· (obtain ⟨kq, rfl⟩ := hW; go_simp; try with_reducible rfl)); try simp only [Act.put, List.setIfInBounds_toArray, List.set_cons_succ, List.set_cons_zero])
        (refine wpS_held (by rfl) ?_ (fun W hW => ?_) ?_; rotate_left; (· (obtain ⟨kq, rfl⟩ := hW; go_simp; try with_reducible rfl)); try simp only [Act.put, List.setIfInBounds_toArray, List.set_cons_succ, List.set_cons_zero])
        (refine wpS_held (by rfl) ?_ (fun W hW => ?_) ?_; rotate_left; (· (obtain ⟨kq, rfl⟩ := hW; go_simp; try with_reducible rfl)); try simp only [Act.put, List.setIfInBounds_toArray, List.set_cons_succ, List.set_cons_zero])
        (refine wpS_held (by rfl) ?_ (fun W hW => ?_) ?_; rotate_left; (· (obtain ⟨kq, rfl⟩ := hW; go_simp; try with_reducible rfl)); try simp only [Act.put, List.setIfInBounds_toArray, List.set_cons_succ, List.set_cons_zero])
        (refine wpS_held (by rfl) ?_ (fun W hW => ?_) ?_; rotate_left; (· (obtain ⟨kq, rfl⟩ := hW; go_simp; try with_reducible rfl)); try simp only [Act.put, List.setIfInBounds_toArray, List.set_cons_succ, List.set_cons_zero])
        (refine wpS_held (by rfl) ?_ (fun W hW => ?_) ?_; rotate_left; (· (obtain ⟨kq, rfl⟩ := hW; go_simp; try with_reducible rfl)); try simp only [Act.put, List.setIfInBounds_toArray, List.set_cons_succ, List.set_cons_zero])
        (refine wpS_call 39 (by rfl) (by rfl) Try.func39 (by kernel_rfl) (by rfl) (by rfl) ?_; (conv => arg 3; simp [Act.eval]); ((with_reducible refine (CT.out _ HBD.out).mono ?_); rintro e w3 ⟨u3, rfl, ho3, hb3⟩; have hq3 := HBD.out.trans (hb3.mono HBD.out.size); obtain ⟨A3, c3, rfl, -, -⟩ := (Rd.shape (OwnS.rd ho3))); refine ⟨_, rfl, ?_, ?_⟩; (· (repeat first | exact KeptS.refl _ _ | exact KeptS.of (only_of_below (by assumption) _) | assumption | refine KeptS.drew ?_ | refine KeptS.alloc ?_ _ | refine KeptS.grown ?_ (by assumption) | refine KeptS.below ?_ (by assumption) | refine KeptS.belowAt ?_ (by assumption) | refine KeptS.setRow ?_ (by simp; done) _ | refine KeptS.setNew ?_ (by simp) _)); try simp only [Act.put, List.setIfInBounds_toArray, List.set_cons_succ, List.set_cons_zero])
        (refine wpS_held (by rfl) ?_ (fun W hW => ?_) ?_; rotate_left; (· (obtain ⟨kq, rfl⟩ := hW; go_simp; try with_reducible rfl)); try simp only [Act.put, List.setIfInBounds_toArray, List.set_cons_succ, List.set_cons_zero])
        (refine wpS_held (by rfl) ?_ (fun W hW => ?_) ?_; rotate_left; (· (obtain ⟨kq, rfl⟩ := hW; go_simp; try with_reducible rfl)); try simp only [Act.put, List.setIfInBounds_toArray, List.set_cons_succ, List.set_cons_zero])
        refine wpS_nil ?_
        try simp only [List.getElem_toArray, List.getElem_cons_succ, List.getElem_cons_zero]
        have kb3 := HBj.out.belowV hq3
        have r6 := kb3.cell 6
        have rf6 := kb3.frozen 6
        have rl := kb3.lt
        simp only [List.getElem?_toArray, List.getElem?_cons_succ, List.getElem?_cons_zero] at r6
        have HK3 := Lib.hid kb3
        have HQ3 := Lib.hid hq3
        clear p0 p1 p2 p3 p4 p5 p6 pf6 p7 pl kb3 hq3 ho3 hb3
        go_wp2_with fail
        refine bodyPost_end (results_none rfl _ _ _) rfl ?_
        rw [HDL.out, HS2.out]
        have hp6 : Part g0 (g0 + 1) w3 (w3.setCell ⟨g0, 6, none⟩ (.int .i64 2)) := (Part.refl g0 (g0 + 1) w3).setCell (p := ⟨g0, 6, none⟩) ⟨Nat.le_refl _, Nat.lt_succ_self _⟩ _
        exact ⟨rfl, (HRj.out.belowV HQ3.out).keepV hp6 (by omega), by have q := Blk.set_ HK3.out 6 (.int .i64 2); simpa using q, HP2.out.trans (HPj.out.trans ((Part.of_below HQ3.out).trans (hp6.mono hg0.1 hg0.2)))⟩
      · have t0 : ((TL.length : Int) == (l.length : Int)) = false := beq_eq_false_iff_ne.2 (by omega)
        have HS2 := Lib.hid (show S = 1 by rw [HS.out, ← HTL.out, if_neg hc])
        clear hc
        go_wp2_with fail
        refine wp_region_sched [(0, true), (1, true), (2, true), (5, true), (6, true), (7, true), (8, true), (9, true), (3, false), (4, true), (10, true)] [(true, _), (true, _), (true, _), (true, _), (true, _), (true, _), (true, _), (true, _), (false, _), (true, _), (true, _)] rfl (by kernel_rfl) (by kernel_rfl) (KeptS _ none) (KeptS.refl _ _).drew ?_
        try simp only [List.getElem_toArray, List.getElem_cons_succ, List.getElem_cons_zero]
        (refine wpS_held (by rfl) ?_ (fun W hW => ?_) ?_; rotate_left; (· (obtain ⟨kq, rfl⟩ := hW; go_simp; try with_reducible rfl)); try simp only [Act.put, List.setIfInBounds_toArray, List.set_cons_succ, List.set_cons_zero])
        (refine wpS_held (by rfl) ?_ (fun W hW => ?_) ?_; rotate_left; (· (obtain ⟨kq, rfl⟩ := hW; go_simp; try with_reducible rfl)); try simp only [Act.put, List.setIfInBounds_toArray, List.set_cons_succ, List.set_cons_zero])
        (refine wpS_held (by rfl) ?_ (fun W hW => ?_) ?_; rotate_left; (· (obtain ⟨kq, rfl⟩ := hW; go_simp; try with_reducible rfl)); try simp only [Act.put, List.setIfInBounds_toArray, List.set_cons_succ, List.set_cons_zero])
        (refine wpS_held (by rfl) ?_ (fun W hW => ?_) ?_; rotate_left; (· (obtain ⟨kq, rfl⟩ := hW; go_simp; try with_reducible rfl)); try simp only [Act.put, List.setIfInBounds_toArray, List.set_cons_succ, List.set_cons_zero])
        (refine wpS_held (by rfl) ?_ (fun W hW => ?_) ?_; rotate_left; (· (obtain ⟨kq, rfl⟩ := hW; go_simp; try with_reducible rfl)); try simp only [Act.put, List.setIfInBounds_toArray, List.set_cons_succ, List.set_cons_zero])
        (refine wpS_held (by rfl) ?_ (fun W hW => ?_) ?_; rotate_left; (· (obtain ⟨kq, rfl⟩ := hW; go_simp; try with_reducible rfl)); try simp only [Act.put, List.setIfInBounds_toArray, List.set_cons_succ, List.set_cons_zero])
        (refine wpS_held (by rfl) ?_ (fun W hW => ?_) ?_; rotate_left; (· (obtain ⟨kq, rfl⟩ := hW; go_simp; try with_reducible rfl)); try simp only [Act.put, List.setIfInBounds_toArray, List.set_cons_succ, List.set_cons_zero])
        (refine wpS_held (by rfl) ?_ (fun W hW => ?_) ?_; rotate_left; (· (obtain ⟨kq, rfl⟩ := hW; go_simp; try with_reducible rfl)); try simp only [Act.put, List.setIfInBounds_toArray, List.set_cons_succ, List.set_cons_zero])
        (refine wpS_call 39 (by rfl) (by rfl) Try.func39 (by kernel_rfl) (by rfl) (by rfl) ?_; (conv => arg 3; simp [Act.eval]); ((with_reducible refine (CT.out _ HBD.out).mono ?_); rintro e w3 ⟨u3, rfl, ho3, hb3⟩; have hq3 := HBD.out.trans (hb3.mono HBD.out.size); obtain ⟨A3, c3, rfl, -, -⟩ := (Rd.shape (OwnS.rd ho3))); refine ⟨_, rfl, ?_, ?_⟩; (· (repeat first | exact KeptS.refl _ _ | exact KeptS.of (only_of_below (by assumption) _) | assumption | refine KeptS.drew ?_ | refine KeptS.alloc ?_ _ | refine KeptS.grown ?_ (by assumption) | refine KeptS.below ?_ (by assumption) | refine KeptS.belowAt ?_ (by assumption) | refine KeptS.setRow ?_ (by simp; done) _ | refine KeptS.setNew ?_ (by simp) _)); try simp only [Act.put, List.setIfInBounds_toArray, List.set_cons_succ, List.set_cons_zero])
        (refine wpS_held (by rfl) ?_ (fun W hW => ?_) ?_; rotate_left; (· (obtain ⟨kq, rfl⟩ := hW; go_simp; try with_reducible rfl)); try simp only [Act.put, List.setIfInBounds_toArray, List.set_cons_succ, List.set_cons_zero])
        (refine wpS_held (by rfl) ?_ (fun W hW => ?_) ?_; rotate_left; (· (obtain ⟨kq, rfl⟩ := hW; go_simp; try with_reducible rfl)); try simp only [Act.put, List.setIfInBounds_toArray, List.set_cons_succ, List.set_cons_zero])
        refine wpS_nil ?_
        try simp only [List.getElem_toArray, List.getElem_cons_succ, List.getElem_cons_zero]
        go_wp2_with fail
        refine bodyPost_end (results_none rfl _ _ _) rfl ?_
        rw [HDL.out, HS2.out]
        exact ⟨rfl, HRj.out.belowV hq3, HBj.out.belowV hq3, HP2.out.trans (HPj.out.trans (Part.of_below hq3))⟩
end Go.Proofs.Ytbbjkldkjndfaaa

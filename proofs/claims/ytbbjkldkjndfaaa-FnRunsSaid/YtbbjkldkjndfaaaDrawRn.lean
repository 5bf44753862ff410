/- A drawn run: what l09Run draws. -/
import Derived.Test.YtbbjkldkjndfaaaRunSt
namespace Go.Proofs.Ytbbjkldkjndfaaa
set_option linter.unusedSimpArgs false
set_option linter.unusedSimpArgs false
set_option linter.unusedVariables false
open Go.RowKit Go.ChangeShapes Go.Deep
set_option maxHeartbeats 8000000 in
set_option maxRecDepth 100000 in
theorem l09Run_any (w : World) (B g : Nat) (v : Value) (code : List UInt8) (c : Nat × Int) (h : CurAt w B g v code c) :
    Calls Try.prog 75 #[.pointer (some ⟨g, 0, none⟩)] w (DrewR w B g v code (runDrawn code c).1 (runDrawn code c).2) := by
  have hgl := h.blk.lt
  have hBg := h.base
  obtain ⟨a, c1, e1⟩ : ∃ x c', curBelow code 9 c = (x, c') := ⟨_, _, rfl⟩
  have b1 := curBelow_bd code 9 c (by omega)
  rw [e1] at b1
  simp only at b1
  obtain ⟨p, c2, e2⟩ : ∃ x c', planDrawn code c1 = (x, c') := ⟨_, _, rfl⟩
  have HPG := Lib.hid (show PlanGood p by have := planDrawn_good code c1; rw [e2] at this; exact this)
  obtain ⟨X0, hX0⟩ : ∃ X0, X0 = runNewR0 (1 + a) p := ⟨_, rfl⟩
  have HD := Lib.hid (show ∀ x d o d1, runGo code 12 0 X0 c2 = (x, d) → curBelow code 10 d = (o, d1) → runDrawn code c = (if o = 0 then runLeftR x else x, d1) from fun x d o d1 e3 e4 => runDrawn_eq e1 e2 (by rw [← hX0]; exact e3) e4)
  have hng := new_good (id := 1 + a) (p := p) ⟨by omega, by omega⟩ HPG.out
  rw [← hX0] at hng
  have HG0 := Lib.hid hng.1
  have HX1 := Lib.hid hng.2.2.1
  have C1 := Lib.hid (below_at (B := B) (g := g) (v := v) e1 (by omega))
  have CP := Lib.hid (show ∀ W, CurAt W B g v code c1 → Calls Try.prog 58 #[.pointer (some ⟨g, 0, none⟩)] W (DrewP W B g v code p c2) from fun W hW => by have := l06Plan_any W B g v code c1 hW; rw [e2] at this; exact this)
  have CN := Lib.hid (show ∀ W u, Rd_plan W u p → Calls Try.prog 55 #[.int .i64 (1 + a), .agg #[.int .i64 p.prio, .int .i64 p.most, .int .i64 p.wait, .int .i64 p.tasks, u]] W (GivesRB X0 true W) from fun W u hW => by
    have hE := HPG.out.edges.len
    have := runNew_spec (1 + a) u p W hW (by unfold cost_plan; omega)
    rw [← hX0, HX1.out] at this
    exact this)
  have HC := Lib.hid h
  obtain ⟨R, hR⟩ : ∃ R, R = runDrawn code c := ⟨_, rfl⟩
  rw [← hR] at HD ⊢
  have k1 : IntKind.i64.wrap (1 + a) = 1 + a := IntWalk.i64_in _ (by omega)
  have k2 : wrap64 (1 + a) = 1 + a := IntWalk.wrap64_in _ (by omega)
  clear h e1 e2 hX0 hng hR
  go_enter Try.func75, Try.ntmps75
  go_wp2_with fail
  refine (C1.out _ (HC.out.below ((Below.refl _ _).alloc (Nat.le_refl _) _))).mono ?_
  rintro e w1 ⟨rfl, hc1, hg1⟩
  have HR1 := Lib.hid ((Blk.new w 52 rnZ).grown hg1 (by simp; omega))
  have HGW1 := Lib.hid (show w.grownBy w1 (some g) from only_trans (only_of_below ((Below.refl _ _).alloc (Nat.le_refl _) _) _) hg1)
  have HC1 := Lib.hid hc1
  have hz1 : w.heap.size < w1.heap.size := HR1.out.lt
  clear hc1 hg1
  go_wp2_with fail
  refine (CP.out _ HC1.out).mono ?_
  rintro e w2 ⟨u2, rfl, ho2, hc2, hg2⟩
  have HR2 := Lib.hid (HR1.out.grown hg2 (by simp; omega))
  have HGW2 := Lib.hid (only_trans HGW1.out hg2)
  have HC2 := Lib.hid hc2
  have HO2 := Lib.hid ho2
  have hz2 := hg2.size
  clear hc2 hg2 ho2
  go_wp2_with fail
  refine (CN.out _ _ (OwnS.rd HO2.out)).mono ?_
  rintro e w3 ⟨u3, v3, rfl, ho3, hb3⟩
  obtain ⟨A0, ca0, A0', ca0', rfl, rfl⟩ := Own_run.form ho3
  have hz3 := hb3.size
  obtain ⟨b3, hb3d⟩ : ∃ b3, b3 = w3.heap.size := ⟨_, rfl⟩
  obtain ⟨W3, hW3⟩ : ∃ W, W = w3.alloc (.cells (rnC X0 A0 ca0 A0' ca0') 52) := ⟨_, rfl⟩
  have bW : Below w3.heap.size w3 W3 := by rw [hW3]; exact (Below.refl _ _).alloc (Nat.le_refl _) _
  have bW2 := hb3.trans (bW.mono hb3.size)
  have hsW : W3.heap.size = w3.heap.size + 1 := by rw [hW3]; simp
  have HS0 := Lib.hid (show RunSt w B g b3 v code W3 X0 A0 ca0 A0' ca0' c2 from ⟨HC2.out.below bW2, HR2.out.belowV bW2, by rw [hb3d, hW3]; exact Blk.new _ _ _, ⟨w2.heap.size, w3.heap.size, by omega, .inl (by omega), Own_run.below ho3 bW⟩, only_trans HGW2.out (only_of_below bW2 _), hgl, by omega, hBg⟩)
  have HW3 := Lib.hid hW3
  rw [← hb3d] at hsW
  have HB3 := Lib.hid hb3d
  clear hW3 ho3 hb3 bW bW2 k1 k2 hb3d
  go_wp2_with fail
  rw [show w3.alloc (.cells #[.int .i64 X0.id, .int .i64 X0.plan.prio, .int .i64 X0.plan.most, .int .i64 X0.plan.wait, .int .i64 X0.plan.tasks, .slice A0 X0.plan.edges.length ca0, .int .i64 X0.state, .slice A0' X0.tasks.length ca0'] 52) = W3 from HW3.out.symm, ← HB3.out]
  have hz3b : w.heap.size < b3 := HS0.out.hb
  have hgb : ¬ g = b3 := by omega
  have hgb' : ¬ b3 = g := by omega
  clear hz3 hsW
  go_loopw [5] (fun u5 wr => ∃ (k : Nat) (x : Rn) (d : Nat × Int) (A : Option Addr) (ca : Nat) (A' : Option Addr) (ca' : Nat), k ≤ 11 ∧ u5 = .int .i64 k ∧ Hid (RunGood x) ∧ Hid (runGo code 12 0 X0 c2 = runGo code (12 - k) k x d) ∧ Hid (RunSt w B g b3 v code wr x A ca A' ca' d)) (fun u5 _ => 12 - (intOf u5).toNat)
  case atStart => exact ⟨0, X0, c2, A0, ca0, A0', ca0', by omega, rfl, HG0, Lib.hid rfl, HS0⟩
  case round =>
    obtain ⟨k, x, d, A, ca, A', ca', hk, rfl, HGD, HGO, HST⟩ := hrel
    obtain ⟨n, d1, e12⟩ : ∃ x c', curBelow code 12 d = (x, c') := ⟨_, _, rfl⟩
    have bd := curBelow_bd code 12 d (by omega)
    rw [e12] at bd
    simp only at bd
    have C12 := Lib.hid (below_at (B := B) (g := g) (v := v) e12 (by omega))
    have HE12 := Lib.hid e12
    clear e12
    go_wp2_with fail
    refine (C12.out _ HST.out.cur).mono ?_
    rintro e w4 ⟨rfl, hc4, hg4⟩
    have S4 := Lib.hid (HST.out.draw hc4 hg4)
    clear hc4 hg4
    have p0 := S4.out.var.cell 0
    have p1 := S4.out.var.cell 1
    have p2 := S4.out.var.cell 2
    have p3 := S4.out.var.cell 3
    have p4 := S4.out.var.cell 4
    have p5 := S4.out.var.cell 5
    have p6 := S4.out.var.cell 6
    have p7 := S4.out.var.cell 7
    simp only [rnC, rnZ, List.getElem?_toArray, List.getElem?_cons_succ, List.getElem?_cons_zero] at p0 p1 p2 p3 p4 p5 p6 p7
    have pl := S4.out.var.lt
    by_cases hgo : (k : Int) < n ∧ x.state = 1
    · have HGN := Lib.hid (show runGo code 12 0 X0 c2 = runGo code (12 - (k + 1)) ((k + 1 : Nat) : Int) (runStep code k x d1).1 (runStep code k x d1).2 by rw [HGO.out, show 12 - k = (12 - (k + 1)) + 1 by omega]; exact runGo_step HE12.out hgo)
      have t0 : decide ((k : Int) < n) = true := decide_eq_true hgo.1
      have t1 : (x.state == 1) = true := by simp [hgo.2]
      have hk12 : k < 11 := by omega
      have HLV := Lib.hid hgo.2
      have CT2 := Lib.hid (tasksIn_spec _ _ x 2 w4 S4.out.rd (good_cost HGD.out))
      have hl2 : (tasksInR x 2).length ≤ 12 := Nat.le_trans (tasksTo_le x.tasks 2 x.tasks.length) (by have h1 := HGD.out.plan.tasks; have h2 := HGD.out.n; omega)
      have hl3 : (tasksInR x 3).length ≤ 12 := Nat.le_trans (tasksTo_le x.tasks 3 x.tasks.length) (by have h1 := HGD.out.plan.tasks; have h2 := HGD.out.n; omega)
      have hz4 := S4.out.gw.size
      clear hgo HGO HE12 HST
      go_wp2_with fail
      refine CT2.out.mono ?_
      rintro e w5 ⟨u6, rfl, ho6, hb5⟩
      obtain ⟨A6, c6, rfl, hn6, hm6⟩ := (OwnS.rd ho6).shape
      unfold maxLen at hm6
      have S5 := Lib.hid (S4.out.below hb5)
      have HA5 := Lib.hid (show Own_ints w5 w4.heap.size w5.heap.size (.slice A6 (tasksInR x 2).length c6) (tasksInR x 2) from ho6)
      have hz5 := hb5.size
      clear ho6 hb5 t0 t1
      clear p0 p1 p2 p3 p4 p5 p6 p7 pl
      have p0 := S5.out.var.cell 0
      have p1 := S5.out.var.cell 1
      have p2 := S5.out.var.cell 2
      have p3 := S5.out.var.cell 3
      have p4 := S5.out.var.cell 4
      have p5 := S5.out.var.cell 5
      have p6 := S5.out.var.cell 6
      have p7 := S5.out.var.cell 7
      simp only [rnC, rnZ, List.getElem?_toArray, List.getElem?_cons_succ, List.getElem?_cons_zero] at p0 p1 p2 p3 p4 p5 p6 p7
      have pl := S5.out.var.lt
      have CT3 := Lib.hid (tasksIn_spec _ _ x 3 w5 S5.out.rd (good_cost HGD.out))
      go_wp2_with fail
      refine CT3.out.mono ?_
      rintro e w6 ⟨u7, rfl, ho7, hb6⟩
      obtain ⟨A7, c7, rfl, hn7, hm7⟩ := (OwnS.rd ho7).shape
      unfold maxLen at hm7
      have S6 := Lib.hid (S5.out.below hb6)
      have HA6 := Lib.hid (show Own_ints w6 w4.heap.size w5.heap.size (.slice A6 (tasksInR x 2).length c6) (tasksInR x 2) from OwnS.below HA5.out hb6)
      have HB6 := Lib.hid (show Own_ints w6 w5.heap.size w6.heap.size (.slice A7 (tasksInR x 3).length c7) (tasksInR x 3) from ho7)
      have hz6 := hb6.size
      clear ho7 hb6 HA5 CT2 CT3 S4 S5
      clear p0 p1 p2 p3 p4 p5 p6 p7 pl
      by_cases h3 : 0 < (tasksInR x 3).length
      · have h3i : (0 : Int) < ((tasksInR x 3).length : Int) := by omega
        obtain ⟨o, d2, e2⟩ : ∃ x c', curBelow code 2 d1 = (x, c') := ⟨_, _, rfl⟩
        by_cases ho : o = 0
        · have HE2 := Lib.hid e2
          have HHO := Lib.hid ho
          have CO7 := Lib.hid (once_at (B := B) (g := g) (v := v) e2 (by omega) true (by simp [ho]))
          go_wp2_with fail
          refine (CO7.out _ S6.out.cur).mono ?_
          rintro e w7 ⟨rfl, hc7, hg7⟩
          have S7 := Lib.hid (S6.out.draw hc7 hg7)
          have HA7 := Lib.hid (ints_grown HA6.out hg7 (by omega))
          have HB7 := Lib.hid (ints_grown HB6.out hg7 (by omega))
          clear hc7 hg7
          clear e2 ho
          obtain ⟨kk, dk, eK⟩ : ∃ y c', curBelow code ((tasksInR x 3).length : Int) d2 = (y, c') := ⟨_, _, rfl⟩
          have bK := curBelow_bd code ((tasksInR x 3).length : Int) d2 (by omega)
          rw [eK] at bK
          simp only at bK
          obtain ⟨n', hidx, hpick, hnl, hns⟩ := pickT_in (x := x) (s := 3) bK.1 bK.2
          have CK := Lib.hid (below_at (B := B) (g := g) (v := v) eK (by omega))
          have hstp := runStep_done (i := k) h3 HE2.out HHO.out eK
          rw [hpick] at hstp
          obtain ⟨Y, hY⟩ : ∃ Y, Y = doneX x n' := ⟨_, rfl⟩
          have HGN2 := Lib.hid (show runGo code 12 0 X0 c2 = runGo code (12 - (k + 1)) ((k + 1 : Nat) : Int) Y dk by rw [HGN.out, hstp, hY])
          have CD := Lib.hid (fun W (hW : Rd_run W (.slice A x.plan.edges.length ca) (.slice A' x.tasks.length ca') x) => runDone_spec _ _ x n' W hW HGD.out hnl hns)
          rw [← hY] at CD
          have HGY := Lib.hid (show RunGood Y by rw [hY]; exact (done_good HGD.out hnl hns).1)
          obtain ⟨qn, rfl⟩ : ∃ q : Nat, kk = q := ⟨kk.toNat, by omega⟩
          obtain ⟨b7, o7, _, hv7, _, _, hl7, hc7⟩ := (OwnS.rd HB7.out).form h3 (by omega)
          have hA7 : A7 = some ⟨b7, o7, none⟩ := by injection hv7
          subst hA7
          have hq : qn < (tasksInR x 3).length := by omega
          have hbx : (n' : Int) = (tasksInR x 3)[qn] := by rw [Int.toNat_natCast, List.getElem?_eq_getElem hq] at hidx; injection hidx with hidx; exact hidx.symm
          have d0 := int_cell (Below.refl _ _) hl7 hc7 hq _ hbx
          have hb7 := (HB7.out.1.lt b7 rfl).1
          have hq0 : (0 : Int) ≤ (qn : Int) := by omega
          have hq1 : (qn : Int) < ((tasksInR x 3).length : Int) := by omega
          have hg7 : ¬ b7 = g := by omega
          have HQ := Lib.hid hq
          clear hstp hpick hidx hbx hv7 hc7 hY eK bK hq hnl hns
          have p0 := S7.out.var.cell 0
          have p1 := S7.out.var.cell 1
          have p2 := S7.out.var.cell 2
          have p3 := S7.out.var.cell 3
          have p4 := S7.out.var.cell 4
          have p5 := S7.out.var.cell 5
          have p6 := S7.out.var.cell 6
          have p7 := S7.out.var.cell 7
          simp only [rnC, rnZ, List.getElem?_toArray, List.getElem?_cons_succ, List.getElem?_cons_zero] at p0 p1 p2 p3 p4 p5 p6 p7
          have pl := S7.out.var.lt
          go_wp2_with fail
          refine wp_region_tree (.held 1 (.held 2 (.held 3 (.held 4 (.two 0 5 (.step 5 (.held 6 (.step 7 (.step 8 (.step 9 .nil))))) (.held 6 (.two 0 7 (.step 7 (.step 8 (.step 9 .nil))) (.step 0 (.step 8 (.step 9 .nil)))))))))) (by kernel_rfl) (by kernel_rfl) (fun _ => True) trivial ?_
          (refine wpT_held (by rfl) (by rfl) ?_ (fun W hW => ?_) ?_; rotate_left; (· (obtain ⟨kq, rfl⟩ := hW; go_simp; try with_reducible rfl)); try simp only [Act.put, List.setIfInBounds_toArray, List.set_cons_succ, List.set_cons_zero])
          (refine wpT_held (by rfl) (by rfl) ?_ (fun W hW => ?_) ?_; rotate_left; (· (obtain ⟨kq, rfl⟩ := hW; go_simp; try with_reducible rfl)); try simp only [Act.put, List.setIfInBounds_toArray, List.set_cons_succ, List.set_cons_zero])
          (refine wpT_held (by rfl) (by rfl) ?_ (fun W hW => ?_) ?_; rotate_left; (· (obtain ⟨kq, rfl⟩ := hW; go_simp; try with_reducible rfl)); try simp only [Act.put, List.setIfInBounds_toArray, List.set_cons_succ, List.set_cons_zero])
          (refine wpT_held (by rfl) (by rfl) ?_ (fun W hW => ?_) ?_; rotate_left; (· (obtain ⟨kq, rfl⟩ := hW; go_simp; try with_reducible rfl)); try simp only [Act.put, List.setIfInBounds_toArray, List.set_cons_succ, List.set_cons_zero])
          refine wpT_two ?glx1 ?grx1
          case' glx1 =>
            (refine wpT_step (by rfl) (by rfl) (fun K hK => ?_); go_simp; refine hK.out _ _ ?_ ?_; (· trivial); clear hK K; try simp only [Act.put, List.setIfInBounds_toArray, List.set_cons_succ, List.set_cons_zero])
            (refine wpT_call 98 (by rfl) (by rfl) (by rfl) Try.func98 (by kernel_rfl) (by rfl) (by rfl) ?_; (conv => arg 3; simp [Act.eval]); (first | ((with_reducible refine (CK.out _ (S7.out.cur.below (by exact (by repeat first | exact Below.refl _ _ | assumption | refine Below.drew ?_ | refine below_drewN ?_ _ | refine Below.calm ?_ (by first | exact Nat.le_refl _ | (simp; done) | (simp; omega) | omega) | refine Below.alloc ?_ (by first | exact Nat.le_refl _ | (simp; done) | (simp; omega) | omega) _ | refine Below.setCell ?_ (by first | exact Nat.le_refl _ | (simp; done) | (simp; omega) | omega) _)))).mono ?_); rintro e w8x ⟨rfl, hc8, hg8⟩; have S8x := Lib.hid (RunSt.draw (S7.out.below (by exact (by repeat first | exact Below.refl _ _ | assumption | refine Below.drew ?_ | refine below_drewN ?_ _ | refine Below.calm ?_ (by first | exact Nat.le_refl _ | (simp; done) | (simp; omega) | omega) | refine Below.alloc ?_ (by first | exact Nat.le_refl _ | (simp; done) | (simp; omega) | omega) _ | refine Below.setCell ?_ (by first | exact Nat.le_refl _ | (simp; done) | (simp; omega) | omega) _))) hc8 hg8); have r0 := S8x.out.var.cell 0; have r1 := S8x.out.var.cell 1; have r2 := S8x.out.var.cell 2; have r3 := S8x.out.var.cell 3; have r4 := S8x.out.var.cell 4; have r5 := S8x.out.var.cell 5; have r6 := S8x.out.var.cell 6; have r7 := S8x.out.var.cell 7; simp only [rnC, rnZ, List.getElem?_toArray, List.getElem?_cons_succ, List.getElem?_cons_zero] at r0 r1 r2 r3 r4 r5 r6 r7; have rl := S8x.out.var.lt; have d8 : w8x.cell? ⟨b7, o7 + qn, none⟩ = some (.int .i64 (n' : Int)) := (World.cell?_of_block (a := ⟨b7, o7 + qn, none⟩) (hg8.block b7 hl7 (by simp; omega))).trans d0; have hl8 := Nat.lt_of_lt_of_le hl7 hg8.size; clear hc8 hg8) | ((with_reducible refine (CD.out _ S8x.out.rd).mono ?_); rintro e w9 ⟨u9, v9, rfl, ho9, hb9⟩; obtain ⟨A9, c9, A9', c9', rfl, rfl⟩ := Own_run.form ho9; have HV9 := Lib.hid (S8x.out.var.belowV hb9); have HB9 := Lib.hid hb9; have HO9 := Lib.hid ho9; clear ho9 hb9; have s0 := HV9.out.cell 0; have s1 := HV9.out.cell 1; have s2 := HV9.out.cell 2; have s3 := HV9.out.cell 3; have s4 := HV9.out.cell 4; have s5 := HV9.out.cell 5; have s6 := HV9.out.cell 6; have s7 := HV9.out.cell 7; simp only [rnC, rnZ, List.getElem?_toArray, List.getElem?_cons_succ, List.getElem?_cons_zero] at s0 s1 s2 s3 s4 s5 s6 s7; have sf0 := HV9.out.frozen 0; have sf1 := HV9.out.frozen 1; have sf2 := HV9.out.frozen 2; have sf3 := HV9.out.frozen 3; have sf4 := HV9.out.frozen 4; have sf5 := HV9.out.frozen 5; have sf6 := HV9.out.frozen 6; have sf7 := HV9.out.frozen 7; have sl := HV9.out.lt)); refine ⟨_, rfl, ?_, ?_⟩; (· trivial); try simp only [Act.put, List.setIfInBounds_toArray, List.set_cons_succ, List.set_cons_zero])
            (refine wpT_held (by rfl) (by rfl) ?_ (fun W hW => ?_) ?_; rotate_left; (· (obtain ⟨kq, rfl⟩ := hW; go_simp; try with_reducible rfl)); try simp only [Act.put, List.setIfInBounds_toArray, List.set_cons_succ, List.set_cons_zero])
            (refine wpT_step (by rfl) (by rfl) (fun K hK => ?_); go_simp; refine hK.out _ _ ?_ ?_; (· trivial); clear hK K; try simp only [Act.put, List.setIfInBounds_toArray, List.set_cons_succ, List.set_cons_zero])
            (refine wpT_call 44 (by rfl) (by rfl) (by rfl) Try.func44 (by kernel_rfl) (by rfl) (by rfl) ?_; (conv => arg 3; simp [Act.eval]); (first | ((with_reducible refine (CK.out _ (S7.out.cur.below (by exact (by repeat first | exact Below.refl _ _ | assumption | refine Below.drew ?_ | refine below_drewN ?_ _ | refine Below.calm ?_ (by first | exact Nat.le_refl _ | (simp; done) | (simp; omega) | omega) | refine Below.alloc ?_ (by first | exact Nat.le_refl _ | (simp; done) | (simp; omega) | omega) _ | refine Below.setCell ?_ (by first | exact Nat.le_refl _ | (simp; done) | (simp; omega) | omega) _)))).mono ?_); rintro e w8x ⟨rfl, hc8, hg8⟩; have S8x := Lib.hid (RunSt.draw (S7.out.below (by exact (by repeat first | exact Below.refl _ _ | assumption | refine Below.drew ?_ | refine below_drewN ?_ _ | refine Below.calm ?_ (by first | exact Nat.le_refl _ | (simp; done) | (simp; omega) | omega) | refine Below.alloc ?_ (by first | exact Nat.le_refl _ | (simp; done) | (simp; omega) | omega) _ | refine Below.setCell ?_ (by first | exact Nat.le_refl _ | (simp; done) | (simp; omega) | omega) _))) hc8 hg8); have r0 := S8x.out.var.cell 0; have r1 := S8x.out.var.cell 1; have r2 := S8x.out.var.cell 2; have r3 := S8x.out.var.cell 3; have r4 := S8x.out.var.cell 4; have r5 := S8x.out.var.cell 5; have r6 := S8x.out.var.cell 6; have r7 := S8x.out.var.cell 7; simp only [rnC, rnZ, List.getElem?_toArray, List.getElem?_cons_succ, List.getElem?_cons_zero] at r0 r1 r2 r3 r4 r5 r6 r7; have rl := S8x.out.var.lt; have d8 : w8x.cell? ⟨b7, o7 + qn, none⟩ = some (.int .i64 (n' : Int)) := (World.cell?_of_block (a := ⟨b7, o7 + qn, none⟩) (hg8.block b7 hl7 (by simp; omega))).trans d0; have hl8 := Nat.lt_of_lt_of_le hl7 hg8.size; clear hc8 hg8) | ((with_reducible refine (CD.out _ S8x.out.rd).mono ?_); rintro e w9 ⟨u9, v9, rfl, ho9, hb9⟩; obtain ⟨A9, c9, A9', c9', rfl, rfl⟩ := Own_run.form ho9; have HV9 := Lib.hid (S8x.out.var.belowV hb9); have HB9 := Lib.hid hb9; have HO9 := Lib.hid ho9; clear ho9 hb9; have s0 := HV9.out.cell 0; have s1 := HV9.out.cell 1; have s2 := HV9.out.cell 2; have s3 := HV9.out.cell 3; have s4 := HV9.out.cell 4; have s5 := HV9.out.cell 5; have s6 := HV9.out.cell 6; have s7 := HV9.out.cell 7; simp only [rnC, rnZ, List.getElem?_toArray, List.getElem?_cons_succ, List.getElem?_cons_zero] at s0 s1 s2 s3 s4 s5 s6 s7; have sf0 := HV9.out.frozen 0; have sf1 := HV9.out.frozen 1; have sf2 := HV9.out.frozen 2; have sf3 := HV9.out.frozen 3; have sf4 := HV9.out.frozen 4; have sf5 := HV9.out.frozen 5; have sf6 := HV9.out.frozen 6; have sf7 := HV9.out.frozen 7; have sl := HV9.out.lt)); refine ⟨_, rfl, ?_, ?_⟩; (· trivial); try simp only [Act.put, List.setIfInBounds_toArray, List.set_cons_succ, List.set_cons_zero])
            (refine wpT_step (by rfl) (by rfl) (fun K hK => ?_); go_simp; refine hK.out _ _ ?_ ?_; (· trivial); clear hK K; try simp only [Act.put])
            refine wpT_nil ?_
            try simp only [List.getElem_toArray, List.getElem_cons_succ, List.getElem_cons_zero]
          case' grx1 =>
            (refine wpT_call 98 (by rfl) (by rfl) (by rfl) Try.func98 (by kernel_rfl) (by rfl) (by rfl) ?_; (conv => arg 3; simp [Act.eval]); (first | ((with_reducible refine (CK.out _ (S7.out.cur.below (by exact (by repeat first | exact Below.refl _ _ | assumption | refine Below.drew ?_ | refine below_drewN ?_ _ | refine Below.calm ?_ (by first | exact Nat.le_refl _ | (simp; done) | (simp; omega) | omega) | refine Below.alloc ?_ (by first | exact Nat.le_refl _ | (simp; done) | (simp; omega) | omega) _ | refine Below.setCell ?_ (by first | exact Nat.le_refl _ | (simp; done) | (simp; omega) | omega) _)))).mono ?_); rintro e w8x ⟨rfl, hc8, hg8⟩; have S8x := Lib.hid (RunSt.draw (S7.out.below (by exact (by repeat first | exact Below.refl _ _ | assumption | refine Below.drew ?_ | refine below_drewN ?_ _ | refine Below.calm ?_ (by first | exact Nat.le_refl _ | (simp; done) | (simp; omega) | omega) | refine Below.alloc ?_ (by first | exact Nat.le_refl _ | (simp; done) | (simp; omega) | omega) _ | refine Below.setCell ?_ (by first | exact Nat.le_refl _ | (simp; done) | (simp; omega) | omega) _))) hc8 hg8); have r0 := S8x.out.var.cell 0; have r1 := S8x.out.var.cell 1; have r2 := S8x.out.var.cell 2; have r3 := S8x.out.var.cell 3; have r4 := S8x.out.var.cell 4; have r5 := S8x.out.var.cell 5; have r6 := S8x.out.var.cell 6; have r7 := S8x.out.var.cell 7; simp only [rnC, rnZ, List.getElem?_toArray, List.getElem?_cons_succ, List.getElem?_cons_zero] at r0 r1 r2 r3 r4 r5 r6 r7; have rl := S8x.out.var.lt; have d8 : w8x.cell? ⟨b7, o7 + qn, none⟩ = some (.int .i64 (n' : Int)) := (World.cell?_of_block (a := ⟨b7, o7 + qn, none⟩) (hg8.block b7 hl7 (by simp; omega))).trans d0; have hl8 := Nat.lt_of_lt_of_le hl7 hg8.size; clear hc8 hg8) | ((with_reducible refine (CD.out _ S8x.out.rd).mono ?_); rintro e w9 ⟨u9, v9, rfl, ho9, hb9⟩; obtain ⟨A9, c9, A9', c9', rfl, rfl⟩ := Own_run.form ho9; have HV9 := Lib.hid (S8x.out.var.belowV hb9); have HB9 := Lib.hid hb9; have HO9 := Lib.hid ho9; clear ho9 hb9; have s0 := HV9.out.cell 0; have s1 := HV9.out.cell 1; have s2 := HV9.out.cell 2; have s3 := HV9.out.cell 3; have s4 := HV9.out.cell 4; have s5 := HV9.out.cell 5; have s6 := HV9.out.cell 6; have s7 := HV9.out.cell 7; simp only [rnC, rnZ, List.getElem?_toArray, List.getElem?_cons_succ, List.getElem?_cons_zero] at s0 s1 s2 s3 s4 s5 s6 s7; have sf0 := HV9.out.frozen 0; have sf1 := HV9.out.frozen 1; have sf2 := HV9.out.frozen 2; have sf3 := HV9.out.frozen 3; have sf4 := HV9.out.frozen 4; have sf5 := HV9.out.frozen 5; have sf6 := HV9.out.frozen 6; have sf7 := HV9.out.frozen 7; have sl := HV9.out.lt)); refine ⟨_, rfl, ?_, ?_⟩; (· trivial); try simp only [Act.put, List.setIfInBounds_toArray, List.set_cons_succ, List.set_cons_zero])
            (refine wpT_held (by rfl) (by rfl) ?_ (fun W hW => ?_) ?_; rotate_left; (· (obtain ⟨kq, rfl⟩ := hW; go_simp; try with_reducible rfl)); try simp only [Act.put, List.setIfInBounds_toArray, List.set_cons_succ, List.set_cons_zero])
            refine wpT_two ?glx1r ?grx1r
            case' glx1r =>
              (refine wpT_step (by rfl) (by rfl) (fun K hK => ?_); go_simp; refine hK.out _ _ ?_ ?_; (· trivial); clear hK K; try simp only [Act.put, List.setIfInBounds_toArray, List.set_cons_succ, List.set_cons_zero])
              (refine wpT_step (by rfl) (by rfl) (fun K hK => ?_); go_simp; refine hK.out _ _ ?_ ?_; (· trivial); clear hK K; try simp only [Act.put, List.setIfInBounds_toArray, List.set_cons_succ, List.set_cons_zero])
              (refine wpT_call 44 (by rfl) (by rfl) (by rfl) Try.func44 (by kernel_rfl) (by rfl) (by rfl) ?_; (conv => arg 3; simp [Act.eval]); (first | ((with_reducible refine (CK.out _ (S7.out.cur.below (by exact (by repeat first | exact Below.refl _ _ | assumption | refine Below.drew ?_ | refine below_drewN ?_ _ | refine Below.calm ?_ (by first | exact Nat.le_refl _ | (simp; done) | (simp; omega) | omega) | refine Below.alloc ?_ (by first | exact Nat.le_refl _ | (simp; done) | (simp; omega) | omega) _ | refine Below.setCell ?_ (by first | exact Nat.le_refl _ | (simp; done) | (simp; omega) | omega) _)))).mono ?_); rintro e w8x ⟨rfl, hc8, hg8⟩; have S8x := Lib.hid (RunSt.draw (S7.out.below (by exact (by repeat first | exact Below.refl _ _ | assumption | refine Below.drew ?_ | refine below_drewN ?_ _ | refine Below.calm ?_ (by first | exact Nat.le_refl _ | (simp; done) | (simp; omega) | omega) | refine Below.alloc ?_ (by first | exact Nat.le_refl _ | (simp; done) | (simp; omega) | omega) _ | refine Below.setCell ?_ (by first | exact Nat.le_refl _ | (simp; done) | (simp; omega) | omega) _))) hc8 hg8); have r0 := S8x.out.var.cell 0; have r1 := S8x.out.var.cell 1; have r2 := S8x.out.var.cell 2; have r3 := S8x.out.var.cell 3; have r4 := S8x.out.var.cell 4; have r5 := S8x.out.var.cell 5; have r6 := S8x.out.var.cell 6; have r7 := S8x.out.var.cell 7; simp only [rnC, rnZ, List.getElem?_toArray, List.getElem?_cons_succ, List.getElem?_cons_zero] at r0 r1 r2 r3 r4 r5 r6 r7; have rl := S8x.out.var.lt; have d8 : w8x.cell? ⟨b7, o7 + qn, none⟩ = some (.int .i64 (n' : Int)) := (World.cell?_of_block (a := ⟨b7, o7 + qn, none⟩) (hg8.block b7 hl7 (by simp; omega))).trans d0; have hl8 := Nat.lt_of_lt_of_le hl7 hg8.size; clear hc8 hg8) | ((with_reducible refine (CD.out _ S8x.out.rd).mono ?_); rintro e w9 ⟨u9, v9, rfl, ho9, hb9⟩; obtain ⟨A9, c9, A9', c9', rfl, rfl⟩ := Own_run.form ho9; have HV9 := Lib.hid (S8x.out.var.belowV hb9); have HB9 := Lib.hid hb9; have HO9 := Lib.hid ho9; clear ho9 hb9; have s0 := HV9.out.cell 0; have s1 := HV9.out.cell 1; have s2 := HV9.out.cell 2; have s3 := HV9.out.cell 3; have s4 := HV9.out.cell 4; have s5 := HV9.out.cell 5; have s6 := HV9.out.cell 6; have s7 := HV9.out.cell 7; simp only [rnC, rnZ, List.getElem?_toArray, List.getElem?_cons_succ, List.getElem?_cons_zero] at s0 s1 s2 s3 s4 s5 s6 s7; have sf0 := HV9.out.frozen 0; have sf1 := HV9.out.frozen 1; have sf2 := HV9.out.frozen 2; have sf3 := HV9.out.frozen 3; have sf4 := HV9.out.frozen 4; have sf5 := HV9.out.frozen 5; have sf6 := HV9.out.frozen 6; have sf7 := HV9.out.frozen 7; have sl := HV9.out.lt)); refine ⟨_, rfl, ?_, ?_⟩; (· trivial); try simp only [Act.put, List.setIfInBounds_toArray, List.set_cons_succ, List.set_cons_zero])
              (refine wpT_step (by rfl) (by rfl) (fun K hK => ?_); go_simp; refine hK.out _ _ ?_ ?_; (· trivial); clear hK K; try simp only [Act.put])
              refine wpT_nil ?_
              try simp only [List.getElem_toArray, List.getElem_cons_succ, List.getElem_cons_zero]
            case' grx1r =>
              (refine wpT_step (by rfl) (by rfl) (fun K hK => ?_); go_simp; refine hK.out _ _ ?_ ?_; (· trivial); clear hK K; try simp only [Act.put, List.setIfInBounds_toArray, List.set_cons_succ, List.set_cons_zero])
              (refine wpT_step (by rfl) (by rfl) (fun K hK => ?_); go_simp; refine hK.out _ _ ?_ ?_; (· trivial); clear hK K; try simp only [Act.put, List.setIfInBounds_toArray, List.set_cons_succ, List.set_cons_zero])
              (refine wpT_call 44 (by rfl) (by rfl) (by rfl) Try.func44 (by kernel_rfl) (by rfl) (by rfl) ?_; (conv => arg 3; simp [Act.eval]); (first | ((with_reducible refine (CK.out _ (S7.out.cur.below (by exact (by repeat first | exact Below.refl _ _ | assumption | refine Below.drew ?_ | refine below_drewN ?_ _ | refine Below.calm ?_ (by first | exact Nat.le_refl _ | (simp; done) | (simp; omega) | omega) | refine Below.alloc ?_ (by first | exact Nat.le_refl _ | (simp; done) | (simp; omega) | omega) _ | refine Below.setCell ?_ (by first | exact Nat.le_refl _ | (simp; done) | (simp; omega) | omega) _)))).mono ?_); rintro e w8x ⟨rfl, hc8, hg8⟩; have S8x := Lib.hid (RunSt.draw (S7.out.below (by exact (by repeat first | exact Below.refl _ _ | assumption | refine Below.drew ?_ | refine below_drewN ?_ _ | refine Below.calm ?_ (by first | exact Nat.le_refl _ | (simp; done) | (simp; omega) | omega) | refine Below.alloc ?_ (by first | exact Nat.le_refl _ | (simp; done) | (simp; omega) | omega) _ | refine Below.setCell ?_ (by first | exact Nat.le_refl _ | (simp; done) | (simp; omega) | omega) _))) hc8 hg8); have r0 := S8x.out.var.cell 0; have r1 := S8x.out.var.cell 1; have r2 := S8x.out.var.cell 2; have r3 := S8x.out.var.cell 3; have r4 := S8x.out.var.cell 4; have r5 := S8x.out.var.cell 5; have r6 := S8x.out.var.cell 6; have r7 := S8x.out.var.cell 7; simp only [rnC, rnZ, List.getElem?_toArray, List.getElem?_cons_succ, List.getElem?_cons_zero] at r0 r1 r2 r3 r4 r5 r6 r7; have rl := S8x.out.var.lt; have d8 : w8x.cell? ⟨b7, o7 + qn, none⟩ = some (.int .i64 (n' : Int)) := (World.cell?_of_block (a := ⟨b7, o7 + qn, none⟩) (hg8.block b7 hl7 (by simp; omega))).trans d0; have hl8 := Nat.lt_of_lt_of_le hl7 hg8.size; clear hc8 hg8) | ((with_reducible refine (CD.out _ S8x.out.rd).mono ?_); rintro e w9 ⟨u9, v9, rfl, ho9, hb9⟩; obtain ⟨A9, c9, A9', c9', rfl, rfl⟩ := Own_run.form ho9; have HV9 := Lib.hid (S8x.out.var.belowV hb9); have HB9 := Lib.hid hb9; have HO9 := Lib.hid ho9; clear ho9 hb9; have s0 := HV9.out.cell 0; have s1 := HV9.out.cell 1; have s2 := HV9.out.cell 2; have s3 := HV9.out.cell 3; have s4 := HV9.out.cell 4; have s5 := HV9.out.cell 5; have s6 := HV9.out.cell 6; have s7 := HV9.out.cell 7; simp only [rnC, rnZ, List.getElem?_toArray, List.getElem?_cons_succ, List.getElem?_cons_zero] at s0 s1 s2 s3 s4 s5 s6 s7; have sf0 := HV9.out.frozen 0; have sf1 := HV9.out.frozen 1; have sf2 := HV9.out.frozen 2; have sf3 := HV9.out.frozen 3; have sf4 := HV9.out.frozen 4; have sf5 := HV9.out.frozen 5; have sf6 := HV9.out.frozen 6; have sf7 := HV9.out.frozen 7; have sl := HV9.out.lt)); refine ⟨_, rfl, ?_, ?_⟩; (· trivial); try simp only [Act.put, List.setIfInBounds_toArray, List.set_cons_succ, List.set_cons_zero])
              (refine wpT_step (by rfl) (by rfl) (fun K hK => ?_); go_simp; refine hK.out _ _ ?_ ?_; (· trivial); clear hK K; try simp only [Act.put])
              refine wpT_nil ?_
              try simp only [List.getElem_toArray, List.getElem_cons_succ, List.getElem_cons_zero]
          all_goals
            obtain ⟨W11, hW11⟩ : ∃ W, W = ((((((((w9.setCell ⟨b3, 0, none⟩ (.int .i64 Y.id)).setCell ⟨b3, 1, none⟩ (.int .i64 Y.plan.prio)).setCell ⟨b3, 2, none⟩ (.int .i64 Y.plan.most)).setCell ⟨b3, 3, none⟩ (.int .i64 Y.plan.wait)).setCell ⟨b3, 4, none⟩ (.int .i64 Y.plan.tasks)).setCell ⟨b3, 5, none⟩ (.slice A9 Y.plan.edges.length c9)).setCell ⟨b3, 6, none⟩ (.int .i64 Y.state)).setCell ⟨b3, 7, none⟩ (.slice A9' Y.tasks.length c9')) := ⟨_, rfl⟩
            have kW11 : Blk W11 b3 52 (rnC Y A9 c9 A9' c9') := by rw [hW11]; have q := (Blk.set_ (Blk.set_ (Blk.set_ (Blk.set_ (Blk.set_ (Blk.set_ (Blk.set_ (Blk.set_ HV9.out 0 (.int .i64 Y.id)) 1 (.int .i64 Y.plan.prio)) 2 (.int .i64 Y.plan.most)) 3 (.int .i64 Y.plan.wait)) 4 (.int .i64 Y.plan.tasks)) 5 (.slice A9 Y.plan.edges.length c9)) 6 (.int .i64 Y.state)) 7 (.slice A9' Y.tasks.length c9')); simpa [rnC] using q
            have pW11 : Part b3 (b3 + 1) w9 W11 := by rw [hW11]; exact (Part.setCell (Part.setCell (Part.setCell (Part.setCell (Part.setCell (Part.setCell (Part.setCell (Part.setCell (Part.refl b3 (b3 + 1) w9) (p := ⟨b3, 0, none⟩) ⟨by simp, by simp⟩ (.int .i64 Y.id)) (p := ⟨b3, 1, none⟩) ⟨by simp, by simp⟩ (.int .i64 Y.plan.prio)) (p := ⟨b3, 2, none⟩) ⟨by simp, by simp⟩ (.int .i64 Y.plan.most)) (p := ⟨b3, 3, none⟩) ⟨by simp, by simp⟩ (.int .i64 Y.plan.wait)) (p := ⟨b3, 4, none⟩) ⟨by simp, by simp⟩ (.int .i64 Y.plan.tasks)) (p := ⟨b3, 5, none⟩) ⟨by simp, by simp⟩ (.slice A9 Y.plan.edges.length c9)) (p := ⟨b3, 6, none⟩) ⟨by simp, by simp⟩ (.int .i64 Y.state)) (p := ⟨b3, 7, none⟩) ⟨by simp, by simp⟩ (.slice A9' Y.tasks.length c9'))
            rw [← hW11]
            have S11 := Lib.hid (S8x.out.put HB9.out HO9.out pW11 kW11)
            clear hW11 pW11 kW11
            clear p0 p1 p2 p3 p4 p5 p6 p7 pl
            clear r0 r1 r2 r3 r4 r5 r6 r7 rl
            clear s0 s1 s2 s3 s4 s5 s6 s7 sf0 sf1 sf2 sf3 sf4 sf5 sf6 sf7 sl
            clear d0 d8 hl7 hl8
            go_wp2_with fail
            go_roundw
            case rel => exact ⟨k + 1, Y, dk, A9, c9, A9', c9', by omega, by go_num, HGY, HGN2, S11⟩
            case measure => simp [intOf]; omega
        · have HE2 := Lib.hid e2
          have HHO := Lib.hid ho
          have CO7 := Lib.hid (once_at (B := B) (g := g) (v := v) e2 (by omega) false (by simp [ho]))
          go_wp2_with fail
          refine (CO7.out _ S6.out.cur).mono ?_
          rintro e w7 ⟨rfl, hc7, hg7⟩
          have S7 := Lib.hid (S6.out.draw hc7 hg7)
          have HA7 := Lib.hid (ints_grown HA6.out hg7 (by omega))
          have HB7 := Lib.hid (ints_grown HB6.out hg7 (by omega))
          clear hc7 hg7
          clear e2 ho
          obtain ⟨o4, d3, e4⟩ : ∃ x c', curBelow code 4 d2 = (x, c') := ⟨_, _, rfl⟩
          by_cases ho4 : o4 = 0
          · have HE4 := Lib.hid e4
            have HH4 := Lib.hid ho4
            have CO8 := Lib.hid (once_at (B := B) (g := g) (v := v) e4 (by omega) true (by simp [ho4]))
            go_wp2_with fail
            refine (CO8.out _ S7.out.cur).mono ?_
            rintro e w8 ⟨rfl, hc8, hg8⟩
            have S8 := Lib.hid (S7.out.draw hc8 hg8)
            have HA8 := Lib.hid (ints_grown HA7.out hg8 (by omega))
            have HB8 := Lib.hid (ints_grown HB7.out hg8 (by omega))
            clear hc8 hg8
            clear e4 ho4
            obtain ⟨kk, dk, eK⟩ : ∃ y c', curBelow code ((tasksInR x 3).length : Int) d3 = (y, c') := ⟨_, _, rfl⟩
            have bK := curBelow_bd code ((tasksInR x 3).length : Int) d3 (by omega)
            rw [eK] at bK
            simp only at bK
            obtain ⟨n', hidx, hpick, hnl, hns⟩ := pickT_in (x := x) (s := 3) bK.1 bK.2
            have CK := Lib.hid (below_at (B := B) (g := g) (v := v) eK (by omega))
            have hstp := runStep_fail (i := k) h3 HE2.out HHO.out HE4.out HH4.out eK
            rw [hpick] at hstp
            obtain ⟨Y, hY⟩ : ∃ Y, Y = failX x n' := ⟨_, rfl⟩
            have HGN2 := Lib.hid (show runGo code 12 0 X0 c2 = runGo code (12 - (k + 1)) ((k + 1 : Nat) : Int) Y dk by rw [HGN.out, hstp, hY])
            have CD := Lib.hid (fun W (hW : Rd_run W (.slice A x.plan.edges.length ca) (.slice A' x.tasks.length ca') x) => runFails_spec _ _ x n' W hW HGD.out hnl hns)
            rw [← hY] at CD
            have HGY := Lib.hid (show RunGood Y by rw [hY]; exact (fail_good HGD.out hnl hns).1)
            obtain ⟨qn, rfl⟩ : ∃ q : Nat, kk = q := ⟨kk.toNat, by omega⟩
            obtain ⟨b7, o7, _, hv7, _, _, hl7, hc7⟩ := (OwnS.rd HB8.out).form h3 (by omega)
            have hA7 : A7 = some ⟨b7, o7, none⟩ := by injection hv7
            subst hA7
            have hq : qn < (tasksInR x 3).length := by omega
            have hbx : (n' : Int) = (tasksInR x 3)[qn] := by rw [Int.toNat_natCast, List.getElem?_eq_getElem hq] at hidx; injection hidx with hidx; exact hidx.symm
            have d0 := int_cell (Below.refl _ _) hl7 hc7 hq _ hbx
            have hb7 := (HB8.out.1.lt b7 rfl).1
            have hq0 : (0 : Int) ≤ (qn : Int) := by omega
            have hq1 : (qn : Int) < ((tasksInR x 3).length : Int) := by omega
            have hg7 : ¬ b7 = g := by omega
            have HQ := Lib.hid hq
            clear hstp hpick hidx hbx hv7 hc7 hY eK bK hq hnl hns
            have p0 := S8.out.var.cell 0
            have p1 := S8.out.var.cell 1
            have p2 := S8.out.var.cell 2
            have p3 := S8.out.var.cell 3
            have p4 := S8.out.var.cell 4
            have p5 := S8.out.var.cell 5
            have p6 := S8.out.var.cell 6
            have p7 := S8.out.var.cell 7
            simp only [rnC, rnZ, List.getElem?_toArray, List.getElem?_cons_succ, List.getElem?_cons_zero] at p0 p1 p2 p3 p4 p5 p6 p7
            have pl := S8.out.var.lt
            go_wp2_with fail
            refine wp_region_tree (.held 1 (.held 2 (.held 3 (.held 4 (.two 0 5 (.step 5 (.held 6 (.step 7 (.step 8 (.step 9 .nil))))) (.held 6 (.two 0 7 (.step 7 (.step 8 (.step 9 .nil))) (.step 0 (.step 8 (.step 9 .nil)))))))))) (by kernel_rfl) (by kernel_rfl) (fun _ => True) trivial ?_
            (refine wpT_held (by rfl) (by rfl) ?_ (fun W hW => ?_) ?_; rotate_left; (· (obtain ⟨kq, rfl⟩ := hW; go_simp; try with_reducible rfl)); try simp only [Act.put, List.setIfInBounds_toArray, List.set_cons_succ, List.set_cons_zero])
            (refine wpT_held (by rfl) (by rfl) ?_ (fun W hW => ?_) ?_; rotate_left; (· (obtain ⟨kq, rfl⟩ := hW; go_simp; try with_reducible rfl)); try simp only [Act.put, List.setIfInBounds_toArray, List.set_cons_succ, List.set_cons_zero])
            (refine wpT_held (by rfl) (by rfl) ?_ (fun W hW => ?_) ?_; rotate_left; (· (obtain ⟨kq, rfl⟩ := hW; go_simp; try with_reducible rfl)); try simp only [Act.put, List.setIfInBounds_toArray, List.set_cons_succ, List.set_cons_zero])
            (refine wpT_held (by rfl) (by rfl) ?_ (fun W hW => ?_) ?_; rotate_left; (· (obtain ⟨kq, rfl⟩ := hW; go_simp; try with_reducible rfl)); try simp only [Act.put, List.setIfInBounds_toArray, List.set_cons_succ, List.set_cons_zero])
            refine wpT_two ?glx2 ?grx2
            case' glx2 =>
              (refine wpT_step (by rfl) (by rfl) (fun K hK => ?_); go_simp; refine hK.out _ _ ?_ ?_; (· trivial); clear hK K; try simp only [Act.put, List.setIfInBounds_toArray, List.set_cons_succ, List.set_cons_zero])
              (refine wpT_call 98 (by rfl) (by rfl) (by rfl) Try.func98 (by kernel_rfl) (by rfl) (by rfl) ?_; (conv => arg 3; simp [Act.eval]); (first | ((with_reducible refine (CK.out _ (S8.out.cur.below (by exact (by repeat first | exact Below.refl _ _ | assumption | refine Below.drew ?_ | refine below_drewN ?_ _ | refine Below.calm ?_ (by first | exact Nat.le_refl _ | (simp; done) | (simp; omega) | omega) | refine Below.alloc ?_ (by first | exact Nat.le_refl _ | (simp; done) | (simp; omega) | omega) _ | refine Below.setCell ?_ (by first | exact Nat.le_refl _ | (simp; done) | (simp; omega) | omega) _)))).mono ?_); rintro e w8x ⟨rfl, hc8, hg8⟩; have S8x := Lib.hid (RunSt.draw (S8.out.below (by exact (by repeat first | exact Below.refl _ _ | assumption | refine Below.drew ?_ | refine below_drewN ?_ _ | refine Below.calm ?_ (by first | exact Nat.le_refl _ | (simp; done) | (simp; omega) | omega) | refine Below.alloc ?_ (by first | exact Nat.le_refl _ | (simp; done) | (simp; omega) | omega) _ | refine Below.setCell ?_ (by first | exact Nat.le_refl _ | (simp; done) | (simp; omega) | omega) _))) hc8 hg8); have r0 := S8x.out.var.cell 0; have r1 := S8x.out.var.cell 1; have r2 := S8x.out.var.cell 2; have r3 := S8x.out.var.cell 3; have r4 := S8x.out.var.cell 4; have r5 := S8x.out.var.cell 5; have r6 := S8x.out.var.cell 6; have r7 := S8x.out.var.cell 7; simp only [rnC, rnZ, List.getElem?_toArray, List.getElem?_cons_succ, List.getElem?_cons_zero] at r0 r1 r2 r3 r4 r5 r6 r7; have rl := S8x.out.var.lt; have d8 : w8x.cell? ⟨b7, o7 + qn, none⟩ = some (.int .i64 (n' : Int)) := (World.cell?_of_block (a := ⟨b7, o7 + qn, none⟩) (hg8.block b7 hl7 (by simp; omega))).trans d0; have hl8 := Nat.lt_of_lt_of_le hl7 hg8.size; clear hc8 hg8) | ((with_reducible refine (CD.out _ S8x.out.rd).mono ?_); rintro e w9 ⟨u9, v9, rfl, ho9, hb9⟩; obtain ⟨A9, c9, A9', c9', rfl, rfl⟩ := Own_run.form ho9; have HV9 := Lib.hid (S8x.out.var.belowV hb9); have HB9 := Lib.hid hb9; have HO9 := Lib.hid ho9; clear ho9 hb9; have s0 := HV9.out.cell 0; have s1 := HV9.out.cell 1; have s2 := HV9.out.cell 2; have s3 := HV9.out.cell 3; have s4 := HV9.out.cell 4; have s5 := HV9.out.cell 5; have s6 := HV9.out.cell 6; have s7 := HV9.out.cell 7; simp only [rnC, rnZ, List.getElem?_toArray, List.getElem?_cons_succ, List.getElem?_cons_zero] at s0 s1 s2 s3 s4 s5 s6 s7; have sf0 := HV9.out.frozen 0; have sf1 := HV9.out.frozen 1; have sf2 := HV9.out.frozen 2; have sf3 := HV9.out.frozen 3; have sf4 := HV9.out.frozen 4; have sf5 := HV9.out.frozen 5; have sf6 := HV9.out.frozen 6; have sf7 := HV9.out.frozen 7; have sl := HV9.out.lt)); refine ⟨_, rfl, ?_, ?_⟩; (· trivial); try simp only [Act.put, List.setIfInBounds_toArray, List.set_cons_succ, List.set_cons_zero])
              (refine wpT_held (by rfl) (by rfl) ?_ (fun W hW => ?_) ?_; rotate_left; (· (obtain ⟨kq, rfl⟩ := hW; go_simp; try with_reducible rfl)); try simp only [Act.put, List.setIfInBounds_toArray, List.set_cons_succ, List.set_cons_zero])
              (refine wpT_step (by rfl) (by rfl) (fun K hK => ?_); go_simp; refine hK.out _ _ ?_ ?_; (· trivial); clear hK K; try simp only [Act.put, List.setIfInBounds_toArray, List.set_cons_succ, List.set_cons_zero])
              (refine wpT_call 45 (by rfl) (by rfl) (by rfl) Try.func45 (by kernel_rfl) (by rfl) (by rfl) ?_; (conv => arg 3; simp [Act.eval]); (first | ((with_reducible refine (CK.out _ (S8.out.cur.below (by exact (by repeat first | exact Below.refl _ _ | assumption | refine Below.drew ?_ | refine below_drewN ?_ _ | refine Below.calm ?_ (by first | exact Nat.le_refl _ | (simp; done) | (simp; omega) | omega) | refine Below.alloc ?_ (by first | exact Nat.le_refl _ | (simp; done) | (simp; omega) | omega) _ | refine Below.setCell ?_ (by first | exact Nat.le_refl _ | (simp; done) | (simp; omega) | omega) _)))).mono ?_); rintro e w8x ⟨rfl, hc8, hg8⟩; have S8x := Lib.hid (RunSt.draw (S8.out.below (by exact (by repeat first | exact Below.refl _ _ | assumption | refine Below.drew ?_ | refine below_drewN ?_ _ | refine Below.calm ?_ (by first | exact Nat.le_refl _ | (simp; done) | (simp; omega) | omega) | refine Below.alloc ?_ (by first | exact Nat.le_refl _ | (simp; done) | (simp; omega) | omega) _ | refine Below.setCell ?_ (by first | exact Nat.le_refl _ | (simp; done) | (simp; omega) | omega) _))) hc8 hg8); have r0 := S8x.out.var.cell 0; have r1 := S8x.out.var.cell 1; have r2 := S8x.out.var.cell 2; have r3 := S8x.out.var.cell 3; have r4 := S8x.out.var.cell 4; have r5 := S8x.out.var.cell 5; have r6 := S8x.out.var.cell 6; have r7 := S8x.out.var.cell 7; simp only [rnC, rnZ, List.getElem?_toArray, List.getElem?_cons_succ, List.getElem?_cons_zero] at r0 r1 r2 r3 r4 r5 r6 r7; have rl := S8x.out.var.lt; have d8 : w8x.cell? ⟨b7, o7 + qn, none⟩ = some (.int .i64 (n' : Int)) := (World.cell?_of_block (a := ⟨b7, o7 + qn, none⟩) (hg8.block b7 hl7 (by simp; omega))).trans d0; have hl8 := Nat.lt_of_lt_of_le hl7 hg8.size; clear hc8 hg8) | ((with_reducible refine (CD.out _ S8x.out.rd).mono ?_); rintro e w9 ⟨u9, v9, rfl, ho9, hb9⟩; obtain ⟨A9, c9, A9', c9', rfl, rfl⟩ := Own_run.form ho9; have HV9 := Lib.hid (S8x.out.var.belowV hb9); have HB9 := Lib.hid hb9; have HO9 := Lib.hid ho9; clear ho9 hb9; have s0 := HV9.out.cell 0; have s1 := HV9.out.cell 1; have s2 := HV9.out.cell 2; have s3 := HV9.out.cell 3; have s4 := HV9.out.cell 4; have s5 := HV9.out.cell 5; have s6 := HV9.out.cell 6; have s7 := HV9.out.cell 7; simp only [rnC, rnZ, List.getElem?_toArray, List.getElem?_cons_succ, List.getElem?_cons_zero] at s0 s1 s2 s3 s4 s5 s6 s7; have sf0 := HV9.out.frozen 0; have sf1 := HV9.out.frozen 1; have sf2 := HV9.out.frozen 2; have sf3 := HV9.out.frozen 3; have sf4 := HV9.out.frozen 4; have sf5 := HV9.out.frozen 5; have sf6 := HV9.out.frozen 6; have sf7 := HV9.out.frozen 7; have sl := HV9.out.lt)); refine ⟨_, rfl, ?_, ?_⟩; (· trivial); try simp only [Act.put, List.setIfInBounds_toArray, List.set_cons_succ, List.set_cons_zero])
              (refine wpT_step (by rfl) (by rfl) (fun K hK => ?_); go_simp; refine hK.out _ _ ?_ ?_; (· trivial); clear hK K; try simp only [Act.put])
              refine wpT_nil ?_
              try simp only [List.getElem_toArray, List.getElem_cons_succ, List.getElem_cons_zero]
            case' grx2 =>
              (refine wpT_call 98 (by rfl) (by rfl) (by rfl) Try.func98 (by kernel_rfl) (by rfl) (by rfl) ?_; (conv => arg 3; simp [Act.eval]); (first | ((with_reducible refine (CK.out _ (S8.out.cur.below (by exact (by repeat first | exact Below.refl _ _ | assumption | refine Below.drew ?_ | refine below_drewN ?_ _ | refine Below.calm ?_ (by first | exact Nat.le_refl _ | (simp; done) | (simp; omega) | omega) | refine Below.alloc ?_ (by first | exact Nat.le_refl _ | (simp; done) | (simp; omega) | omega) _ | refine Below.setCell ?_ (by first | exact Nat.le_refl _ | (simp; done) | (simp; omega) | omega) _)))).mono ?_); rintro e w8x ⟨rfl, hc8, hg8⟩; have S8x := Lib.hid (RunSt.draw (S8.out.below (by exact (by repeat first | exact Below.refl _ _ | assumption | refine Below.drew ?_ | refine below_drewN ?_ _ | refine Below.calm ?_ (by first | exact Nat.le_refl _ | (simp; done) | (simp; omega) | omega) | refine Below.alloc ?_ (by first | exact Nat.le_refl _ | (simp; done) | (simp; omega) | omega) _ | refine Below.setCell ?_ (by first | exact Nat.le_refl _ | (simp; done) | (simp; omega) | omega) _))) hc8 hg8); have r0 := S8x.out.var.cell 0; have r1 := S8x.out.var.cell 1; have r2 := S8x.out.var.cell 2; have r3 := S8x.out.var.cell 3; have r4 := S8x.out.var.cell 4; have r5 := S8x.out.var.cell 5; have r6 := S8x.out.var.cell 6; have r7 := S8x.out.var.cell 7; simp only [rnC, rnZ, List.getElem?_toArray, List.getElem?_cons_succ, List.getElem?_cons_zero] at r0 r1 r2 r3 r4 r5 r6 r7; have rl := S8x.out.var.lt; have d8 : w8x.cell? ⟨b7, o7 + qn, none⟩ = some (.int .i64 (n' : Int)) := (World.cell?_of_block (a := ⟨b7, o7 + qn, none⟩) (hg8.block b7 hl7 (by simp; omega))).trans d0; have hl8 := Nat.lt_of_lt_of_le hl7 hg8.size; clear hc8 hg8) | ((with_reducible refine (CD.out _ S8x.out.rd).mono ?_); rintro e w9 ⟨u9, v9, rfl, ho9, hb9⟩; obtain ⟨A9, c9, A9', c9', rfl, rfl⟩ := Own_run.form ho9; have HV9 := Lib.hid (S8x.out.var.belowV hb9); have HB9 := Lib.hid hb9; have HO9 := Lib.hid ho9; clear ho9 hb9; have s0 := HV9.out.cell 0; have s1 := HV9.out.cell 1; have s2 := HV9.out.cell 2; have s3 := HV9.out.cell 3; have s4 := HV9.out.cell 4; have s5 := HV9.out.cell 5; have s6 := HV9.out.cell 6; have s7 := HV9.out.cell 7; simp only [rnC, rnZ, List.getElem?_toArray, List.getElem?_cons_succ, List.getElem?_cons_zero] at s0 s1 s2 s3 s4 s5 s6 s7; have sf0 := HV9.out.frozen 0; have sf1 := HV9.out.frozen 1; have sf2 := HV9.out.frozen 2; have sf3 := HV9.out.frozen 3; have sf4 := HV9.out.frozen 4; have sf5 := HV9.out.frozen 5; have sf6 := HV9.out.frozen 6; have sf7 := HV9.out.frozen 7; have sl := HV9.out.lt)); refine ⟨_, rfl, ?_, ?_⟩; (· trivial); try simp only [Act.put, List.setIfInBounds_toArray, List.set_cons_succ, List.set_cons_zero])
              (refine wpT_held (by rfl) (by rfl) ?_ (fun W hW => ?_) ?_; rotate_left; (· (obtain ⟨kq, rfl⟩ := hW; go_simp; try with_reducible rfl)); try simp only [Act.put, List.setIfInBounds_toArray, List.set_cons_succ, List.set_cons_zero])
              refine wpT_two ?glx2r ?grx2r
              case' glx2r =>
                (refine wpT_step (by rfl) (by rfl) (fun K hK => ?_); go_simp; refine hK.out _ _ ?_ ?_; (· trivial); clear hK K; try simp only [Act.put, List.setIfInBounds_toArray, List.set_cons_succ, List.set_cons_zero])
                (refine wpT_step (by rfl) (by rfl) (fun K hK => ?_); go_simp; refine hK.out _ _ ?_ ?_; (· trivial); clear hK K; try simp only [Act.put, List.setIfInBounds_toArray, List.set_cons_succ, List.set_cons_zero])
                (refine wpT_call 45 (by rfl) (by rfl) (by rfl) Try.func45 (by kernel_rfl) (by rfl) (by rfl) ?_; (conv => arg 3; simp [Act.eval]); (first | ((with_reducible refine (CK.out _ (S8.out.cur.below (by exact (by repeat first | exact Below.refl _ _ | assumption | refine Below.drew ?_ | refine below_drewN ?_ _ | refine Below.calm ?_ (by first | exact Nat.le_refl _ | (simp; done) | (simp; omega) | omega) | refine Below.alloc ?_ (by first | exact Nat.le_refl _ | (simp; done) | (simp; omega) | omega) _ | refine Below.setCell ?_ (by first | exact Nat.le_refl _ | (simp; done) | (simp; omega) | omega) _)))).mono ?_); rintro e w8x ⟨rfl, hc8, hg8⟩; have S8x := Lib.hid (RunSt.draw (S8.out.below (by exact (by repeat first | exact Below.refl _ _ | assumption | refine Below.drew ?_ | refine below_drewN ?_ _ | refine Below.calm ?_ (by first | exact Nat.le_refl _ | (simp; done) | (simp; omega) | omega) | refine Below.alloc ?_ (by first | exact Nat.le_refl _ | (simp; done) | (simp; omega) | omega) _ | refine Below.setCell ?_ (by first | exact Nat.le_refl _ | (simp; done) | (simp; omega) | omega) _))) hc8 hg8); have r0 := S8x.out.var.cell 0; have r1 := S8x.out.var.cell 1; have r2 := S8x.out.var.cell 2; have r3 := S8x.out.var.cell 3; have r4 := S8x.out.var.cell 4; have r5 := S8x.out.var.cell 5; have r6 := S8x.out.var.cell 6; have r7 := S8x.out.var.cell 7; simp only [rnC, rnZ, List.getElem?_toArray, List.getElem?_cons_succ, List.getElem?_cons_zero] at r0 r1 r2 r3 r4 r5 r6 r7; have rl := S8x.out.var.lt; have d8 : w8x.cell? ⟨b7, o7 + qn, none⟩ = some (.int .i64 (n' : Int)) := (World.cell?_of_block (a := ⟨b7, o7 + qn, none⟩) (hg8.block b7 hl7 (by simp; omega))).trans d0; have hl8 := Nat.lt_of_lt_of_le hl7 hg8.size; clear hc8 hg8) | ((with_reducible refine (CD.out _ S8x.out.rd).mono ?_); rintro e w9 ⟨u9, v9, rfl, ho9, hb9⟩; obtain ⟨A9, c9, A9', c9', rfl, rfl⟩ := Own_run.form ho9; have HV9 := Lib.hid (S8x.out.var.belowV hb9); have HB9 := Lib.hid hb9; have HO9 := Lib.hid ho9; clear ho9 hb9; have s0 := HV9.out.cell 0; have s1 := HV9.out.cell 1; have s2 := HV9.out.cell 2; have s3 := HV9.out.cell 3; have s4 := HV9.out.cell 4; have s5 := HV9.out.cell 5; have s6 := HV9.out.cell 6; have s7 := HV9.out.cell 7; simp only [rnC, rnZ, List.getElem?_toArray, List.getElem?_cons_succ, List.getElem?_cons_zero] at s0 s1 s2 s3 s4 s5 s6 s7; have sf0 := HV9.out.frozen 0; have sf1 := HV9.out.frozen 1; have sf2 := HV9.out.frozen 2; have sf3 := HV9.out.frozen 3; have sf4 := HV9.out.frozen 4; have sf5 := HV9.out.frozen 5; have sf6 := HV9.out.frozen 6; have sf7 := HV9.out.frozen 7; have sl := HV9.out.lt)); refine ⟨_, rfl, ?_, ?_⟩; (· trivial); try simp only [Act.put, List.setIfInBounds_toArray, List.set_cons_succ, List.set_cons_zero])
                (refine wpT_step (by rfl) (by rfl) (fun K hK => ?_); go_simp; refine hK.out _ _ ?_ ?_; (· trivial); clear hK K; try simp only [Act.put])
                refine wpT_nil ?_
                try simp only [List.getElem_toArray, List.getElem_cons_succ, List.getElem_cons_zero]
              case' grx2r =>
                (refine wpT_step (by rfl) (by rfl) (fun K hK => ?_); go_simp; refine hK.out _ _ ?_ ?_; (· trivial); clear hK K; try simp only [Act.put, List.setIfInBounds_toArray, List.set_cons_succ, List.set_cons_zero])
                (refine wpT_step (by rfl) (by rfl) (fun K hK => ?_); go_simp; refine hK.out _ _ ?_ ?_; (· trivial); clear hK K; try simp only [Act.put, List.setIfInBounds_toArray, List.set_cons_succ, List.set_cons_zero])
                (refine wpT_call 45 (by rfl) (by rfl) (by rfl) Try.func45 (by kernel_rfl) (by rfl) (by rfl) ?_; (conv => arg 3; simp [Act.eval]); (first | ((with_reducible refine (CK.out _ (S8.out.cur.below (by exact (by repeat first | exact Below.refl _ _ | assumption | refine Below.drew ?_ | refine below_drewN ?_ _ | refine Below.calm ?_ (by first | exact Nat.le_refl _ | (simp; done) | (simp; omega) | omega) | refine Below.alloc ?_ (by first | exact Nat.le_refl _ | (simp; done) | (simp; omega) | omega) _ | refine Below.setCell ?_ (by first | exact Nat.le_refl _ | (simp; done) | (simp; omega) | omega) _)))).mono ?_); rintro e w8x ⟨rfl, hc8, hg8⟩; have S8x := Lib.hid (RunSt.draw (S8.out.below (by exact (by repeat first | exact Below.refl _ _ | assumption | refine Below.drew ?_ | refine below_drewN ?_ _ | refine Below.calm ?_ (by first | exact Nat.le_refl _ | (simp; done) | (simp; omega) | omega) | refine Below.alloc ?_ (by first | exact Nat.le_refl _ | (simp; done) | (simp; omega) | omega) _ | refine Below.setCell ?_ (by first | exact Nat.le_refl _ | (simp; done) | (simp; omega) | omega) _))) hc8 hg8); have r0 := S8x.out.var.cell 0; have r1 := S8x.out.var.cell 1; have r2 := S8x.out.var.cell 2; have r3 := S8x.out.var.cell 3; have r4 := S8x.out.var.cell 4; have r5 := S8x.out.var.cell 5; have r6 := S8x.out.var.cell 6; have r7 := S8x.out.var.cell 7; simp only [rnC, rnZ, List.getElem?_toArray, List.getElem?_cons_succ, List.getElem?_cons_zero] at r0 r1 r2 r3 r4 r5 r6 r7; have rl := S8x.out.var.lt; have d8 : w8x.cell? ⟨b7, o7 + qn, none⟩ = some (.int .i64 (n' : Int)) := (World.cell?_of_block (a := ⟨b7, o7 + qn, none⟩) (hg8.block b7 hl7 (by simp; omega))).trans d0; have hl8 := Nat.lt_of_lt_of_le hl7 hg8.size; clear hc8 hg8) | ((with_reducible refine (CD.out _ S8x.out.rd).mono ?_); rintro e w9 ⟨u9, v9, rfl, ho9, hb9⟩; obtain ⟨A9, c9, A9', c9', rfl, rfl⟩ := Own_run.form ho9; have HV9 := Lib.hid (S8x.out.var.belowV hb9); have HB9 := Lib.hid hb9; have HO9 := Lib.hid ho9; clear ho9 hb9; have s0 := HV9.out.cell 0; have s1 := HV9.out.cell 1; have s2 := HV9.out.cell 2; have s3 := HV9.out.cell 3; have s4 := HV9.out.cell 4; have s5 := HV9.out.cell 5; have s6 := HV9.out.cell 6; have s7 := HV9.out.cell 7; simp only [rnC, rnZ, List.getElem?_toArray, List.getElem?_cons_succ, List.getElem?_cons_zero] at s0 s1 s2 s3 s4 s5 s6 s7; have sf0 := HV9.out.frozen 0; have sf1 := HV9.out.frozen 1; have sf2 := HV9.out.frozen 2; have sf3 := HV9.out.frozen 3; have sf4 := HV9.out.frozen 4; have sf5 := HV9.out.frozen 5; have sf6 := HV9.out.frozen 6; have sf7 := HV9.out.frozen 7; have sl := HV9.out.lt)); refine ⟨_, rfl, ?_, ?_⟩; (· trivial); try simp only [Act.put, List.setIfInBounds_toArray, List.set_cons_succ, List.set_cons_zero])
                (refine wpT_step (by rfl) (by rfl) (fun K hK => ?_); go_simp; refine hK.out _ _ ?_ ?_; (· trivial); clear hK K; try simp only [Act.put])
                refine wpT_nil ?_
                try simp only [List.getElem_toArray, List.getElem_cons_succ, List.getElem_cons_zero]
            all_goals
              obtain ⟨W11, hW11⟩ : ∃ W, W = ((((((((w9.setCell ⟨b3, 0, none⟩ (.int .i64 Y.id)).setCell ⟨b3, 1, none⟩ (.int .i64 Y.plan.prio)).setCell ⟨b3, 2, none⟩ (.int .i64 Y.plan.most)).setCell ⟨b3, 3, none⟩ (.int .i64 Y.plan.wait)).setCell ⟨b3, 4, none⟩ (.int .i64 Y.plan.tasks)).setCell ⟨b3, 5, none⟩ (.slice A9 Y.plan.edges.length c9)).setCell ⟨b3, 6, none⟩ (.int .i64 Y.state)).setCell ⟨b3, 7, none⟩ (.slice A9' Y.tasks.length c9')) := ⟨_, rfl⟩
              have kW11 : Blk W11 b3 52 (rnC Y A9 c9 A9' c9') := by rw [hW11]; have q := (Blk.set_ (Blk.set_ (Blk.set_ (Blk.set_ (Blk.set_ (Blk.set_ (Blk.set_ (Blk.set_ HV9.out 0 (.int .i64 Y.id)) 1 (.int .i64 Y.plan.prio)) 2 (.int .i64 Y.plan.most)) 3 (.int .i64 Y.plan.wait)) 4 (.int .i64 Y.plan.tasks)) 5 (.slice A9 Y.plan.edges.length c9)) 6 (.int .i64 Y.state)) 7 (.slice A9' Y.tasks.length c9')); simpa [rnC] using q
              have pW11 : Part b3 (b3 + 1) w9 W11 := by rw [hW11]; exact (Part.setCell (Part.setCell (Part.setCell (Part.setCell (Part.setCell (Part.setCell (Part.setCell (Part.setCell (Part.refl b3 (b3 + 1) w9) (p := ⟨b3, 0, none⟩) ⟨by simp, by simp⟩ (.int .i64 Y.id)) (p := ⟨b3, 1, none⟩) ⟨by simp, by simp⟩ (.int .i64 Y.plan.prio)) (p := ⟨b3, 2, none⟩) ⟨by simp, by simp⟩ (.int .i64 Y.plan.most)) (p := ⟨b3, 3, none⟩) ⟨by simp, by simp⟩ (.int .i64 Y.plan.wait)) (p := ⟨b3, 4, none⟩) ⟨by simp, by simp⟩ (.int .i64 Y.plan.tasks)) (p := ⟨b3, 5, none⟩) ⟨by simp, by simp⟩ (.slice A9 Y.plan.edges.length c9)) (p := ⟨b3, 6, none⟩) ⟨by simp, by simp⟩ (.int .i64 Y.state)) (p := ⟨b3, 7, none⟩) ⟨by simp, by simp⟩ (.slice A9' Y.tasks.length c9'))
              rw [← hW11]
              have S11 := Lib.hid (S8x.out.put HB9.out HO9.out pW11 kW11)
              clear hW11 pW11 kW11
              clear p0 p1 p2 p3 p4 p5 p6 p7 pl
              clear r0 r1 r2 r3 r4 r5 r6 r7 rl
              clear s0 s1 s2 s3 s4 s5 s6 s7 sf0 sf1 sf2 sf3 sf4 sf5 sf6 sf7 sl
              clear d0 d8 hl7 hl8
              go_wp2_with fail
              go_roundw
              case rel => exact ⟨k + 1, Y, dk, A9, c9, A9', c9', by omega, by go_num, HGY, HGN2, S11⟩
              case measure => simp [intOf]; omega
          · have HE4 := Lib.hid e4
            have HH4 := Lib.hid ho4
            have CO8 := Lib.hid (once_at (B := B) (g := g) (v := v) e4 (by omega) false (by simp [ho4]))
            go_wp2_with fail
            refine (CO8.out _ S7.out.cur).mono ?_
            rintro e w8 ⟨rfl, hc8, hg8⟩
            have S8 := Lib.hid (S7.out.draw hc8 hg8)
            have HA8 := Lib.hid (ints_grown HA7.out hg8 (by omega))
            have HB8 := Lib.hid (ints_grown HB7.out hg8 (by omega))
            clear hc8 hg8
            clear e4 ho4
            by_cases h2 : 0 < (tasksInR x 2).length
            · have h2i : (0 : Int) < ((tasksInR x 2).length : Int) := by omega
              obtain ⟨kk, dk, eK⟩ : ∃ y c', curBelow code ((tasksInR x 2).length : Int) d3 = (y, c') := ⟨_, _, rfl⟩
              have bK := curBelow_bd code ((tasksInR x 2).length : Int) d3 (by omega)
              rw [eK] at bK
              simp only at bK
              obtain ⟨n', hidx, hpick, hnl, hns⟩ := pickT_in (x := x) (s := 2) bK.1 bK.2
              have CK := Lib.hid (below_at (B := B) (g := g) (v := v) eK (by omega))
              have hstp := runStep_start (i := k) h3 HE2.out HHO.out HE4.out HH4.out h2 eK
              rw [hpick] at hstp
              obtain ⟨Y, hY⟩ : ∃ Y, Y = startX x n' k := ⟨_, rfl⟩
              have HGN2 := Lib.hid (show runGo code 12 0 X0 c2 = runGo code (12 - (k + 1)) ((k + 1 : Nat) : Int) Y dk by rw [HGN.out, hstp, hY])
              have CD := Lib.hid (fun W (hW : Rd_run W (.slice A x.plan.edges.length ca) (.slice A' x.tasks.length ca') x) => started_any _ _ x n' k W hW HGD.out hnl (by omega) (by omega))
              rw [← hY] at CD
              have HGY := Lib.hid (show RunGood Y by rw [hY]; exact (start_good HGD.out HLV.out hnl hns (by omega) (by omega)).1)
              obtain ⟨qn, rfl⟩ : ∃ q : Nat, kk = q := ⟨kk.toNat, by omega⟩
              obtain ⟨b7, o7, _, hv7, _, _, hl7, hc7⟩ := (OwnS.rd HA8.out).form h2 (by omega)
              have hA7 : A6 = some ⟨b7, o7, none⟩ := by injection hv7
              subst hA7
              have hq : qn < (tasksInR x 2).length := by omega
              have hbx : (n' : Int) = (tasksInR x 2)[qn] := by rw [Int.toNat_natCast, List.getElem?_eq_getElem hq] at hidx; injection hidx with hidx; exact hidx.symm
              have d0 := int_cell (Below.refl _ _) hl7 hc7 hq _ hbx
              have hb7 := (HA8.out.1.lt b7 rfl).1
              have hq0 : (0 : Int) ≤ (qn : Int) := by omega
              have hq1 : (qn : Int) < ((tasksInR x 2).length : Int) := by omega
              have hg7 : ¬ b7 = g := by omega
              have HQ := Lib.hid hq
              clear hstp hpick hidx hbx hv7 hc7 hY eK bK hq hnl hns
              have p0 := S8.out.var.cell 0
              have p1 := S8.out.var.cell 1
              have p2 := S8.out.var.cell 2
              have p3 := S8.out.var.cell 3
              have p4 := S8.out.var.cell 4
              have p5 := S8.out.var.cell 5
              have p6 := S8.out.var.cell 6
              have p7 := S8.out.var.cell 7
              simp only [rnC, rnZ, List.getElem?_toArray, List.getElem?_cons_succ, List.getElem?_cons_zero] at p0 p1 p2 p3 p4 p5 p6 p7
              have pl := S8.out.var.lt
              go_wp2_with fail
              refine wp_region_tree (.held 1 (.held 2 (.held 3 (.held 4 (.held 8 (.two 0 5 (.step 5 (.held 6 (.step 7 (.step 9 (.step 10 .nil))))) (.held 6 (.two 0 7 (.step 7 (.step 9 (.step 10 .nil))) (.step 0 (.step 9 (.step 10 .nil))))))))))) (by kernel_rfl) (by kernel_rfl) (fun _ => True) trivial ?_
              (refine wpT_held (by rfl) (by rfl) ?_ (fun W hW => ?_) ?_; rotate_left; (· (obtain ⟨kq, rfl⟩ := hW; go_simp; try with_reducible rfl)); try simp only [Act.put, List.setIfInBounds_toArray, List.set_cons_succ, List.set_cons_zero])
              (refine wpT_held (by rfl) (by rfl) ?_ (fun W hW => ?_) ?_; rotate_left; (· (obtain ⟨kq, rfl⟩ := hW; go_simp; try with_reducible rfl)); try simp only [Act.put, List.setIfInBounds_toArray, List.set_cons_succ, List.set_cons_zero])
              (refine wpT_held (by rfl) (by rfl) ?_ (fun W hW => ?_) ?_; rotate_left; (· (obtain ⟨kq, rfl⟩ := hW; go_simp; try with_reducible rfl)); try simp only [Act.put, List.setIfInBounds_toArray, List.set_cons_succ, List.set_cons_zero])
              (refine wpT_held (by rfl) (by rfl) ?_ (fun W hW => ?_) ?_; rotate_left; (· (obtain ⟨kq, rfl⟩ := hW; go_simp; try with_reducible rfl)); try simp only [Act.put, List.setIfInBounds_toArray, List.set_cons_succ, List.set_cons_zero])
              (refine wpT_held (by rfl) (by rfl) ?_ (fun W hW => ?_) ?_; rotate_left; (· (obtain ⟨kq, rfl⟩ := hW; go_simp; try with_reducible rfl)); try simp only [Act.put, List.setIfInBounds_toArray, List.set_cons_succ, List.set_cons_zero])
              refine wpT_two ?glx3 ?grx3
              case' glx3 =>
                (refine wpT_step (by rfl) (by rfl) (fun K hK => ?_); go_simp; refine hK.out _ _ ?_ ?_; (· trivial); clear hK K; try simp only [Act.put, List.setIfInBounds_toArray, List.set_cons_succ, List.set_cons_zero])
                (refine wpT_call 98 (by rfl) (by rfl) (by rfl) Try.func98 (by kernel_rfl) (by rfl) (by rfl) ?_; (conv => arg 3; simp [Act.eval]); (first | ((with_reducible refine (CK.out _ (S8.out.cur.below (by exact (by repeat first | exact Below.refl _ _ | assumption | refine Below.drew ?_ | refine below_drewN ?_ _ | refine Below.calm ?_ (by first | exact Nat.le_refl _ | (simp; done) | (simp; omega) | omega) | refine Below.alloc ?_ (by first | exact Nat.le_refl _ | (simp; done) | (simp; omega) | omega) _ | refine Below.setCell ?_ (by first | exact Nat.le_refl _ | (simp; done) | (simp; omega) | omega) _)))).mono ?_); rintro e w8x ⟨rfl, hc8, hg8⟩; have S8x := Lib.hid (RunSt.draw (S8.out.below (by exact (by repeat first | exact Below.refl _ _ | assumption | refine Below.drew ?_ | refine below_drewN ?_ _ | refine Below.calm ?_ (by first | exact Nat.le_refl _ | (simp; done) | (simp; omega) | omega) | refine Below.alloc ?_ (by first | exact Nat.le_refl _ | (simp; done) | (simp; omega) | omega) _ | refine Below.setCell ?_ (by first | exact Nat.le_refl _ | (simp; done) | (simp; omega) | omega) _))) hc8 hg8); have r0 := S8x.out.var.cell 0; have r1 := S8x.out.var.cell 1; have r2 := S8x.out.var.cell 2; have r3 := S8x.out.var.cell 3; have r4 := S8x.out.var.cell 4; have r5 := S8x.out.var.cell 5; have r6 := S8x.out.var.cell 6; have r7 := S8x.out.var.cell 7; simp only [rnC, rnZ, List.getElem?_toArray, List.getElem?_cons_succ, List.getElem?_cons_zero] at r0 r1 r2 r3 r4 r5 r6 r7; have rl := S8x.out.var.lt; have d8 : w8x.cell? ⟨b7, o7 + qn, none⟩ = some (.int .i64 (n' : Int)) := (World.cell?_of_block (a := ⟨b7, o7 + qn, none⟩) (hg8.block b7 hl7 (by simp; omega))).trans d0; have hl8 := Nat.lt_of_lt_of_le hl7 hg8.size; clear hc8 hg8) | ((with_reducible refine (CD.out _ S8x.out.rd).mono ?_); rintro e w9 ⟨u9, v9, rfl, ho9, hb9⟩; obtain ⟨A9, c9, A9', c9', rfl, rfl⟩ := Own_run.form ho9; have HV9 := Lib.hid (S8x.out.var.belowV hb9); have HB9 := Lib.hid hb9; have HO9 := Lib.hid ho9; clear ho9 hb9; have s0 := HV9.out.cell 0; have s1 := HV9.out.cell 1; have s2 := HV9.out.cell 2; have s3 := HV9.out.cell 3; have s4 := HV9.out.cell 4; have s5 := HV9.out.cell 5; have s6 := HV9.out.cell 6; have s7 := HV9.out.cell 7; simp only [rnC, rnZ, List.getElem?_toArray, List.getElem?_cons_succ, List.getElem?_cons_zero] at s0 s1 s2 s3 s4 s5 s6 s7; have sf0 := HV9.out.frozen 0; have sf1 := HV9.out.frozen 1; have sf2 := HV9.out.frozen 2; have sf3 := HV9.out.frozen 3; have sf4 := HV9.out.frozen 4; have sf5 := HV9.out.frozen 5; have sf6 := HV9.out.frozen 6; have sf7 := HV9.out.frozen 7; have sl := HV9.out.lt)); refine ⟨_, rfl, ?_, ?_⟩; (· trivial); try simp only [Act.put, List.setIfInBounds_toArray, List.set_cons_succ, List.set_cons_zero])
                (refine wpT_held (by rfl) (by rfl) ?_ (fun W hW => ?_) ?_; rotate_left; (· (obtain ⟨kq, rfl⟩ := hW; go_simp; try with_reducible rfl)); try simp only [Act.put, List.setIfInBounds_toArray, List.set_cons_succ, List.set_cons_zero])
                (refine wpT_step (by rfl) (by rfl) (fun K hK => ?_); go_simp; refine hK.out _ _ ?_ ?_; (· trivial); clear hK K; try simp only [Act.put, List.setIfInBounds_toArray, List.set_cons_succ, List.set_cons_zero])
                (refine wpT_call 109 (by rfl) (by rfl) (by rfl) Try.func109 (by kernel_rfl) (by rfl) (by rfl) ?_; (conv => arg 3; simp [Act.eval]); (first | ((with_reducible refine (CK.out _ (S8.out.cur.below (by exact (by repeat first | exact Below.refl _ _ | assumption | refine Below.drew ?_ | refine below_drewN ?_ _ | refine Below.calm ?_ (by first | exact Nat.le_refl _ | (simp; done) | (simp; omega) | omega) | refine Below.alloc ?_ (by first | exact Nat.le_refl _ | (simp; done) | (simp; omega) | omega) _ | refine Below.setCell ?_ (by first | exact Nat.le_refl _ | (simp; done) | (simp; omega) | omega) _)))).mono ?_); rintro e w8x ⟨rfl, hc8, hg8⟩; have S8x := Lib.hid (RunSt.draw (S8.out.below (by exact (by repeat first | exact Below.refl _ _ | assumption | refine Below.drew ?_ | refine below_drewN ?_ _ | refine Below.calm ?_ (by first | exact Nat.le_refl _ | (simp; done) | (simp; omega) | omega) | refine Below.alloc ?_ (by first | exact Nat.le_refl _ | (simp; done) | (simp; omega) | omega) _ | refine Below.setCell ?_ (by first | exact Nat.le_refl _ | (simp; done) | (simp; omega) | omega) _))) hc8 hg8); have r0 := S8x.out.var.cell 0; have r1 := S8x.out.var.cell 1; have r2 := S8x.out.var.cell 2; have r3 := S8x.out.var.cell 3; have r4 := S8x.out.var.cell 4; have r5 := S8x.out.var.cell 5; have r6 := S8x.out.var.cell 6; have r7 := S8x.out.var.cell 7; simp only [rnC, rnZ, List.getElem?_toArray, List.getElem?_cons_succ, List.getElem?_cons_zero] at r0 r1 r2 r3 r4 r5 r6 r7; have rl := S8x.out.var.lt; have d8 : w8x.cell? ⟨b7, o7 + qn, none⟩ = some (.int .i64 (n' : Int)) := (World.cell?_of_block (a := ⟨b7, o7 + qn, none⟩) (hg8.block b7 hl7 (by simp; omega))).trans d0; have hl8 := Nat.lt_of_lt_of_le hl7 hg8.size; clear hc8 hg8) | ((with_reducible refine (CD.out _ S8x.out.rd).mono ?_); rintro e w9 ⟨u9, v9, rfl, ho9, hb9⟩; obtain ⟨A9, c9, A9', c9', rfl, rfl⟩ := Own_run.form ho9; have HV9 := Lib.hid (S8x.out.var.belowV hb9); have HB9 := Lib.hid hb9; have HO9 := Lib.hid ho9; clear ho9 hb9; have s0 := HV9.out.cell 0; have s1 := HV9.out.cell 1; have s2 := HV9.out.cell 2; have s3 := HV9.out.cell 3; have s4 := HV9.out.cell 4; have s5 := HV9.out.cell 5; have s6 := HV9.out.cell 6; have s7 := HV9.out.cell 7; simp only [rnC, rnZ, List.getElem?_toArray, List.getElem?_cons_succ, List.getElem?_cons_zero] at s0 s1 s2 s3 s4 s5 s6 s7; have sf0 := HV9.out.frozen 0; have sf1 := HV9.out.frozen 1; have sf2 := HV9.out.frozen 2; have sf3 := HV9.out.frozen 3; have sf4 := HV9.out.frozen 4; have sf5 := HV9.out.frozen 5; have sf6 := HV9.out.frozen 6; have sf7 := HV9.out.frozen 7; have sl := HV9.out.lt)); refine ⟨_, rfl, ?_, ?_⟩; (· trivial); try simp only [Act.put, List.setIfInBounds_toArray, List.set_cons_succ, List.set_cons_zero])
                (refine wpT_step (by rfl) (by rfl) (fun K hK => ?_); go_simp; refine hK.out _ _ ?_ ?_; (· trivial); clear hK K; try simp only [Act.put])
                refine wpT_nil ?_
                try simp only [List.getElem_toArray, List.getElem_cons_succ, List.getElem_cons_zero]
              case' grx3 =>
                (refine wpT_call 98 (by rfl) (by rfl) (by rfl) Try.func98 (by kernel_rfl) (by rfl) (by rfl) ?_; (conv => arg 3; simp [Act.eval]); (first | ((with_reducible refine (CK.out _ (S8.out.cur.below (by exact (by repeat first | exact Below.refl _ _ | assumption | refine Below.drew ?_ | refine below_drewN ?_ _ | refine Below.calm ?_ (by first | exact Nat.le_refl _ | (simp; done) | (simp; omega) | omega) | refine Below.alloc ?_ (by first | exact Nat.le_refl _ | (simp; done) | (simp; omega) | omega) _ | refine Below.setCell ?_ (by first | exact Nat.le_refl _ | (simp; done) | (simp; omega) | omega) _)))).mono ?_); rintro e w8x ⟨rfl, hc8, hg8⟩; have S8x := Lib.hid (RunSt.draw (S8.out.below (by exact (by repeat first | exact Below.refl _ _ | assumption | refine Below.drew ?_ | refine below_drewN ?_ _ | refine Below.calm ?_ (by first | exact Nat.le_refl _ | (simp; done) | (simp; omega) | omega) | refine Below.alloc ?_ (by first | exact Nat.le_refl _ | (simp; done) | (simp; omega) | omega) _ | refine Below.setCell ?_ (by first | exact Nat.le_refl _ | (simp; done) | (simp; omega) | omega) _))) hc8 hg8); have r0 := S8x.out.var.cell 0; have r1 := S8x.out.var.cell 1; have r2 := S8x.out.var.cell 2; have r3 := S8x.out.var.cell 3; have r4 := S8x.out.var.cell 4; have r5 := S8x.out.var.cell 5; have r6 := S8x.out.var.cell 6; have r7 := S8x.out.var.cell 7; simp only [rnC, rnZ, List.getElem?_toArray, List.getElem?_cons_succ, List.getElem?_cons_zero] at r0 r1 r2 r3 r4 r5 r6 r7; have rl := S8x.out.var.lt; have d8 : w8x.cell? ⟨b7, o7 + qn, none⟩ = some (.int .i64 (n' : Int)) := (World.cell?_of_block (a := ⟨b7, o7 + qn, none⟩) (hg8.block b7 hl7 (by simp; omega))).trans d0; have hl8 := Nat.lt_of_lt_of_le hl7 hg8.size; clear hc8 hg8) | ((with_reducible refine (CD.out _ S8x.out.rd).mono ?_); rintro e w9 ⟨u9, v9, rfl, ho9, hb9⟩; obtain ⟨A9, c9, A9', c9', rfl, rfl⟩ := Own_run.form ho9; have HV9 := Lib.hid (S8x.out.var.belowV hb9); have HB9 := Lib.hid hb9; have HO9 := Lib.hid ho9; clear ho9 hb9; have s0 := HV9.out.cell 0; have s1 := HV9.out.cell 1; have s2 := HV9.out.cell 2; have s3 := HV9.out.cell 3; have s4 := HV9.out.cell 4; have s5 := HV9.out.cell 5; have s6 := HV9.out.cell 6; have s7 := HV9.out.cell 7; simp only [rnC, rnZ, List.getElem?_toArray, List.getElem?_cons_succ, List.getElem?_cons_zero] at s0 s1 s2 s3 s4 s5 s6 s7; have sf0 := HV9.out.frozen 0; have sf1 := HV9.out.frozen 1; have sf2 := HV9.out.frozen 2; have sf3 := HV9.out.frozen 3; have sf4 := HV9.out.frozen 4; have sf5 := HV9.out.frozen 5; have sf6 := HV9.out.frozen 6; have sf7 := HV9.out.frozen 7; have sl := HV9.out.lt)); refine ⟨_, rfl, ?_, ?_⟩; (· trivial); try simp only [Act.put, List.setIfInBounds_toArray, List.set_cons_succ, List.set_cons_zero])
                (refine wpT_held (by rfl) (by rfl) ?_ (fun W hW => ?_) ?_; rotate_left; (· (obtain ⟨kq, rfl⟩ := hW; go_simp; try with_reducible rfl)); try simp only [Act.put, List.setIfInBounds_toArray, List.set_cons_succ, List.set_cons_zero])
                refine wpT_two ?glx3r ?grx3r
                case' glx3r =>
                  (refine wpT_step (by rfl) (by rfl) (fun K hK => ?_); go_simp; refine hK.out _ _ ?_ ?_; (· trivial); clear hK K; try simp only [Act.put, List.setIfInBounds_toArray, List.set_cons_succ, List.set_cons_zero])
                  (refine wpT_step (by rfl) (by rfl) (fun K hK => ?_); go_simp; refine hK.out _ _ ?_ ?_; (· trivial); clear hK K; try simp only [Act.put, List.setIfInBounds_toArray, List.set_cons_succ, List.set_cons_zero])
                  (refine wpT_call 109 (by rfl) (by rfl) (by rfl) Try.func109 (by kernel_rfl) (by rfl) (by rfl) ?_; (conv => arg 3; simp [Act.eval]); (first | ((with_reducible refine (CK.out _ (S8.out.cur.below (by exact (by repeat first | exact Below.refl _ _ | assumption | refine Below.drew ?_ | refine below_drewN ?_ _ | refine Below.calm ?_ (by first | exact Nat.le_refl _ | (simp; done) | (simp; omega) | omega) | refine Below.alloc ?_ (by first | exact Nat.le_refl _ | (simp; done) | (simp; omega) | omega) _ | refine Below.setCell ?_ (by first | exact Nat.le_refl _ | (simp; done) | (simp; omega) | omega) _)))).mono ?_); rintro e w8x ⟨rfl, hc8, hg8⟩; have S8x := Lib.hid (RunSt.draw (S8.out.below (by exact (by repeat first | exact Below.refl _ _ | assumption | refine Below.drew ?_ | refine below_drewN ?_ _ | refine Below.calm ?_ (by first | exact Nat.le_refl _ | (simp; done) | (simp; omega) | omega) | refine Below.alloc ?_ (by first | exact Nat.le_refl _ | (simp; done) | (simp; omega) | omega) _ | refine Below.setCell ?_ (by first | exact Nat.le_refl _ | (simp; done) | (simp; omega) | omega) _))) hc8 hg8); have r0 := S8x.out.var.cell 0; have r1 := S8x.out.var.cell 1; have r2 := S8x.out.var.cell 2; have r3 := S8x.out.var.cell 3; have r4 := S8x.out.var.cell 4; have r5 := S8x.out.var.cell 5; have r6 := S8x.out.var.cell 6; have r7 := S8x.out.var.cell 7; simp only [rnC, rnZ, List.getElem?_toArray, List.getElem?_cons_succ, List.getElem?_cons_zero] at r0 r1 r2 r3 r4 r5 r6 r7; have rl := S8x.out.var.lt; have d8 : w8x.cell? ⟨b7, o7 + qn, none⟩ = some (.int .i64 (n' : Int)) := (World.cell?_of_block (a := ⟨b7, o7 + qn, none⟩) (hg8.block b7 hl7 (by simp; omega))).trans d0; have hl8 := Nat.lt_of_lt_of_le hl7 hg8.size; clear hc8 hg8) | ((with_reducible refine (CD.out _ S8x.out.rd).mono ?_); rintro e w9 ⟨u9, v9, rfl, ho9, hb9⟩; obtain ⟨A9, c9, A9', c9', rfl, rfl⟩ := Own_run.form ho9; have HV9 := Lib.hid (S8x.out.var.belowV hb9); have HB9 := Lib.hid hb9; have HO9 := Lib.hid ho9; clear ho9 hb9; have s0 := HV9.out.cell 0; have s1 := HV9.out.cell 1; have s2 := HV9.out.cell 2; have s3 := HV9.out.cell 3; have s4 := HV9.out.cell 4; have s5 := HV9.out.cell 5; have s6 := HV9.out.cell 6; have s7 := HV9.out.cell 7; simp only [rnC, rnZ, List.getElem?_toArray, List.getElem?_cons_succ, List.getElem?_cons_zero] at s0 s1 s2 s3 s4 s5 s6 s7; have sf0 := HV9.out.frozen 0; have sf1 := HV9.out.frozen 1; have sf2 := HV9.out.frozen 2; have sf3 := HV9.out.frozen 3; have sf4 := HV9.out.frozen 4; have sf5 := HV9.out.frozen 5; have sf6 := HV9.out.frozen 6; have sf7 := HV9.out.frozen 7; have sl := HV9.out.lt)); refine ⟨_, rfl, ?_, ?_⟩; (· trivial); try simp only [Act.put, List.setIfInBounds_toArray, List.set_cons_succ, List.set_cons_zero])
                  (refine wpT_step (by rfl) (by rfl) (fun K hK => ?_); go_simp; refine hK.out _ _ ?_ ?_; (· trivial); clear hK K; try simp only [Act.put])
                  refine wpT_nil ?_
                  try simp only [List.getElem_toArray, List.getElem_cons_succ, List.getElem_cons_zero]
                case' grx3r =>
                  (refine wpT_step (by rfl) (by rfl) (fun K hK => ?_); go_simp; refine hK.out _ _ ?_ ?_; (· trivial); clear hK K; try simp only [Act.put, List.setIfInBounds_toArray, List.set_cons_succ, List.set_cons_zero])
                  (refine wpT_step (by rfl) (by rfl) (fun K hK => ?_); go_simp; refine hK.out _ _ ?_ ?_; (· trivial); clear hK K; try simp only [Act.put, List.setIfInBounds_toArray, List.set_cons_succ, List.set_cons_zero])
                  (refine wpT_call 109 (by rfl) (by rfl) (by rfl) Try.func109 (by kernel_rfl) (by rfl) (by rfl) ?_; (conv => arg 3; simp [Act.eval]); (first | ((with_reducible refine (CK.out _ (S8.out.cur.below (by exact (by repeat first | exact Below.refl _ _ | assumption | refine Below.drew ?_ | refine below_drewN ?_ _ | refine Below.calm ?_ (by first | exact Nat.le_refl _ | (simp; done) | (simp; omega) | omega) | refine Below.alloc ?_ (by first | exact Nat.le_refl _ | (simp; done) | (simp; omega) | omega) _ | refine Below.setCell ?_ (by first | exact Nat.le_refl _ | (simp; done) | (simp; omega) | omega) _)))).mono ?_); rintro e w8x ⟨rfl, hc8, hg8⟩; have S8x := Lib.hid (RunSt.draw (S8.out.below (by exact (by repeat first | exact Below.refl _ _ | assumption | refine Below.drew ?_ | refine below_drewN ?_ _ | refine Below.calm ?_ (by first | exact Nat.le_refl _ | (simp; done) | (simp; omega) | omega) | refine Below.alloc ?_ (by first | exact Nat.le_refl _ | (simp; done) | (simp; omega) | omega) _ | refine Below.setCell ?_ (by first | exact Nat.le_refl _ | (simp; done) | (simp; omega) | omega) _))) hc8 hg8); have r0 := S8x.out.var.cell 0; have r1 := S8x.out.var.cell 1; have r2 := S8x.out.var.cell 2; have r3 := S8x.out.var.cell 3; have r4 := S8x.out.var.cell 4; have r5 := S8x.out.var.cell 5; have r6 := S8x.out.var.cell 6; have r7 := S8x.out.var.cell 7; simp only [rnC, rnZ, List.getElem?_toArray, List.getElem?_cons_succ, List.getElem?_cons_zero] at r0 r1 r2 r3 r4 r5 r6 r7; have rl := S8x.out.var.lt; have d8 : w8x.cell? ⟨b7, o7 + qn, none⟩ = some (.int .i64 (n' : Int)) := (World.cell?_of_block (a := ⟨b7, o7 + qn, none⟩) (hg8.block b7 hl7 (by simp; omega))).trans d0; have hl8 := Nat.lt_of_lt_of_le hl7 hg8.size; clear hc8 hg8) | ((with_reducible refine (CD.out _ S8x.out.rd).mono ?_); rintro e w9 ⟨u9, v9, rfl, ho9, hb9⟩; obtain ⟨A9, c9, A9', c9', rfl, rfl⟩ := Own_run.form ho9; have HV9 := Lib.hid (S8x.out.var.belowV hb9); have HB9 := Lib.hid hb9; have HO9 := Lib.hid ho9; clear ho9 hb9; have s0 := HV9.out.cell 0; have s1 := HV9.out.cell 1; have s2 := HV9.out.cell 2; have s3 := HV9.out.cell 3; have s4 := HV9.out.cell 4; have s5 := HV9.out.cell 5; have s6 := HV9.out.cell 6; have s7 := HV9.out.cell 7; simp only [rnC, rnZ, List.getElem?_toArray, List.getElem?_cons_succ, List.getElem?_cons_zero] at s0 s1 s2 s3 s4 s5 s6 s7; have sf0 := HV9.out.frozen 0; have sf1 := HV9.out.frozen 1; have sf2 := HV9.out.frozen 2; have sf3 := HV9.out.frozen 3; have sf4 := HV9.out.frozen 4; have sf5 := HV9.out.frozen 5; have sf6 := HV9.out.frozen 6; have sf7 := HV9.out.frozen 7; have sl := HV9.out.lt)); refine ⟨_, rfl, ?_, ?_⟩; (· trivial); try simp only [Act.put, List.setIfInBounds_toArray, List.set_cons_succ, List.set_cons_zero])
                  (refine wpT_step (by rfl) (by rfl) (fun K hK => ?_); go_simp; refine hK.out _ _ ?_ ?_; (· trivial); clear hK K; try simp only [Act.put])
                  refine wpT_nil ?_
                  try simp only [List.getElem_toArray, List.getElem_cons_succ, List.getElem_cons_zero]
              all_goals
                obtain ⟨W11, hW11⟩ : ∃ W, W = ((((((((w9.setCell ⟨b3, 0, none⟩ (.int .i64 Y.id)).setCell ⟨b3, 1, none⟩ (.int .i64 Y.plan.prio)).setCell ⟨b3, 2, none⟩ (.int .i64 Y.plan.most)).setCell ⟨b3, 3, none⟩ (.int .i64 Y.plan.wait)).setCell ⟨b3, 4, none⟩ (.int .i64 Y.plan.tasks)).setCell ⟨b3, 5, none⟩ (.slice A9 Y.plan.edges.length c9)).setCell ⟨b3, 6, none⟩ (.int .i64 Y.state)).setCell ⟨b3, 7, none⟩ (.slice A9' Y.tasks.length c9')) := ⟨_, rfl⟩
                have kW11 : Blk W11 b3 52 (rnC Y A9 c9 A9' c9') := by rw [hW11]; have q := (Blk.set_ (Blk.set_ (Blk.set_ (Blk.set_ (Blk.set_ (Blk.set_ (Blk.set_ (Blk.set_ HV9.out 0 (.int .i64 Y.id)) 1 (.int .i64 Y.plan.prio)) 2 (.int .i64 Y.plan.most)) 3 (.int .i64 Y.plan.wait)) 4 (.int .i64 Y.plan.tasks)) 5 (.slice A9 Y.plan.edges.length c9)) 6 (.int .i64 Y.state)) 7 (.slice A9' Y.tasks.length c9')); simpa [rnC] using q
                have pW11 : Part b3 (b3 + 1) w9 W11 := by rw [hW11]; exact (Part.setCell (Part.setCell (Part.setCell (Part.setCell (Part.setCell (Part.setCell (Part.setCell (Part.setCell (Part.refl b3 (b3 + 1) w9) (p := ⟨b3, 0, none⟩) ⟨by simp, by simp⟩ (.int .i64 Y.id)) (p := ⟨b3, 1, none⟩) ⟨by simp, by simp⟩ (.int .i64 Y.plan.prio)) (p := ⟨b3, 2, none⟩) ⟨by simp, by simp⟩ (.int .i64 Y.plan.most)) (p := ⟨b3, 3, none⟩) ⟨by simp, by simp⟩ (.int .i64 Y.plan.wait)) (p := ⟨b3, 4, none⟩) ⟨by simp, by simp⟩ (.int .i64 Y.plan.tasks)) (p := ⟨b3, 5, none⟩) ⟨by simp, by simp⟩ (.slice A9 Y.plan.edges.length c9)) (p := ⟨b3, 6, none⟩) ⟨by simp, by simp⟩ (.int .i64 Y.state)) (p := ⟨b3, 7, none⟩) ⟨by simp, by simp⟩ (.slice A9' Y.tasks.length c9'))
                rw [← hW11]
                have S11 := Lib.hid (S8x.out.put HB9.out HO9.out pW11 kW11)
                clear hW11 pW11 kW11
                clear p0 p1 p2 p3 p4 p5 p6 p7 pl
                clear r0 r1 r2 r3 r4 r5 r6 r7 rl
                clear s0 s1 s2 s3 s4 s5 s6 s7 sf0 sf1 sf2 sf3 sf4 sf5 sf6 sf7 sl
                clear d0 d8 hl7 hl8
                go_wp2_with fail
                go_roundw
                case rel => exact ⟨k + 1, Y, dk, A9, c9, A9', c9', by omega, by go_num, HGY, HGN2, S11⟩
                case measure => simp [intOf]; omega
            · have h2i : ¬ (0 : Int) < ((tasksInR x 2).length : Int) := by omega
              have HGN2 := Lib.hid (show runGo code 12 0 X0 c2 = runGo code (12 - (k + 1)) ((k + 1 : Nat) : Int) x d3 by rw [HGN.out, runStep_none h3 HE2.out HHO.out HE4.out HH4.out h2])
              go_wp2_with fail
              go_roundw
              case rel => exact ⟨k + 1, x, d3, A, ca, A', ca', by omega, by go_num, HGD, HGN2, S8⟩
              case measure => simp [intOf]; omega
      · have h3i : ¬ (0 : Int) < ((tasksInR x 3).length : Int) := by omega
        by_cases h2 : 0 < (tasksInR x 2).length
        · have h2i : (0 : Int) < ((tasksInR x 2).length : Int) := by omega
          obtain ⟨kk, dk, eK⟩ : ∃ y c', curBelow code ((tasksInR x 2).length : Int) d1 = (y, c') := ⟨_, _, rfl⟩
          have bK := curBelow_bd code ((tasksInR x 2).length : Int) d1 (by omega)
          rw [eK] at bK
          simp only at bK
          obtain ⟨n', hidx, hpick, hnl, hns⟩ := pickT_in (x := x) (s := 2) bK.1 bK.2
          have CK := Lib.hid (below_at (B := B) (g := g) (v := v) eK (by omega))
          have hstp := runStep_start0 (i := k) h3 h2 eK
          rw [hpick] at hstp
          obtain ⟨Y, hY⟩ : ∃ Y, Y = startX x n' k := ⟨_, rfl⟩
          have HGN2 := Lib.hid (show runGo code 12 0 X0 c2 = runGo code (12 - (k + 1)) ((k + 1 : Nat) : Int) Y dk by rw [HGN.out, hstp, hY])
          have CD := Lib.hid (fun W (hW : Rd_run W (.slice A x.plan.edges.length ca) (.slice A' x.tasks.length ca') x) => started_any _ _ x n' k W hW HGD.out hnl (by omega) (by omega))
          rw [← hY] at CD
          have HGY := Lib.hid (show RunGood Y by rw [hY]; exact (start_good HGD.out HLV.out hnl hns (by omega) (by omega)).1)
          obtain ⟨qn, rfl⟩ : ∃ q : Nat, kk = q := ⟨kk.toNat, by omega⟩
          obtain ⟨b7, o7, _, hv7, _, _, hl7, hc7⟩ := (OwnS.rd HA6.out).form h2 (by omega)
          have hA7 : A6 = some ⟨b7, o7, none⟩ := by injection hv7
          subst hA7
          have hq : qn < (tasksInR x 2).length := by omega
          have hbx : (n' : Int) = (tasksInR x 2)[qn] := by rw [Int.toNat_natCast, List.getElem?_eq_getElem hq] at hidx; injection hidx with hidx; exact hidx.symm
          have d0 := int_cell (Below.refl _ _) hl7 hc7 hq _ hbx
          have hb7 := (HA6.out.1.lt b7 rfl).1
          have hq0 : (0 : Int) ≤ (qn : Int) := by omega
          have hq1 : (qn : Int) < ((tasksInR x 2).length : Int) := by omega
          have hg7 : ¬ b7 = g := by omega
          have HQ := Lib.hid hq
          clear hstp hpick hidx hbx hv7 hc7 hY eK bK hq hnl hns
          have p0 := S6.out.var.cell 0
          have p1 := S6.out.var.cell 1
          have p2 := S6.out.var.cell 2
          have p3 := S6.out.var.cell 3
          have p4 := S6.out.var.cell 4
          have p5 := S6.out.var.cell 5
          have p6 := S6.out.var.cell 6
          have p7 := S6.out.var.cell 7
          simp only [rnC, rnZ, List.getElem?_toArray, List.getElem?_cons_succ, List.getElem?_cons_zero] at p0 p1 p2 p3 p4 p5 p6 p7
          have pl := S6.out.var.lt
          go_wp2_with fail
          refine wp_region_tree (.held 1 (.held 2 (.held 3 (.held 4 (.held 8 (.two 0 5 (.step 5 (.held 6 (.step 7 (.step 9 (.step 10 .nil))))) (.held 6 (.two 0 7 (.step 7 (.step 9 (.step 10 .nil))) (.step 0 (.step 9 (.step 10 .nil))))))))))) (by kernel_rfl) (by kernel_rfl) (fun _ => True) trivial ?_
          (refine wpT_held (by rfl) (by rfl) ?_ (fun W hW => ?_) ?_; rotate_left; (· (obtain ⟨kq, rfl⟩ := hW; go_simp; try with_reducible rfl)); try simp only [Act.put, List.setIfInBounds_toArray, List.set_cons_succ, List.set_cons_zero])
          (refine wpT_held (by rfl) (by rfl) ?_ (fun W hW => ?_) ?_; rotate_left; (· (obtain ⟨kq, rfl⟩ := hW; go_simp; try with_reducible rfl)); try simp only [Act.put, List.setIfInBounds_toArray, List.set_cons_succ, List.set_cons_zero])
          (refine wpT_held (by rfl) (by rfl) ?_ (fun W hW => ?_) ?_; rotate_left; (· (obtain ⟨kq, rfl⟩ := hW; go_simp; try with_reducible rfl)); try simp only [Act.put, List.setIfInBounds_toArray, List.set_cons_succ, List.set_cons_zero])
          (refine wpT_held (by rfl) (by rfl) ?_ (fun W hW => ?_) ?_; rotate_left; (· (obtain ⟨kq, rfl⟩ := hW; go_simp; try with_reducible rfl)); try simp only [Act.put, List.setIfInBounds_toArray, List.set_cons_succ, List.set_cons_zero])
          (refine wpT_held (by rfl) (by rfl) ?_ (fun W hW => ?_) ?_; rotate_left; (· (obtain ⟨kq, rfl⟩ := hW; go_simp; try with_reducible rfl)); try simp only [Act.put, List.setIfInBounds_toArray, List.set_cons_succ, List.set_cons_zero])
          refine wpT_two ?glx4 ?grx4
          case' glx4 =>
            (refine wpT_step (by rfl) (by rfl) (fun K hK => ?_); go_simp; refine hK.out _ _ ?_ ?_; (· trivial); clear hK K; try simp only [Act.put, List.setIfInBounds_toArray, List.set_cons_succ, List.set_cons_zero])
            (refine wpT_call 98 (by rfl) (by rfl) (by rfl) Try.func98 (by kernel_rfl) (by rfl) (by rfl) ?_; (conv => arg 3; simp [Act.eval]); (first | ((with_reducible refine (CK.out _ (S6.out.cur.below (by exact (by repeat first | exact Below.refl _ _ | assumption | refine Below.drew ?_ | refine below_drewN ?_ _ | refine Below.calm ?_ (by first | exact Nat.le_refl _ | (simp; done) | (simp; omega) | omega) | refine Below.alloc ?_ (by first | exact Nat.le_refl _ | (simp; done) | (simp; omega) | omega) _ | refine Below.setCell ?_ (by first | exact Nat.le_refl _ | (simp; done) | (simp; omega) | omega) _)))).mono ?_); rintro e w8x ⟨rfl, hc8, hg8⟩; have S8x := Lib.hid (RunSt.draw (S6.out.below (by exact (by repeat first | exact Below.refl _ _ | assumption | refine Below.drew ?_ | refine below_drewN ?_ _ | refine Below.calm ?_ (by first | exact Nat.le_refl _ | (simp; done) | (simp; omega) | omega) | refine Below.alloc ?_ (by first | exact Nat.le_refl _ | (simp; done) | (simp; omega) | omega) _ | refine Below.setCell ?_ (by first | exact Nat.le_refl _ | (simp; done) | (simp; omega) | omega) _))) hc8 hg8); have r0 := S8x.out.var.cell 0; have r1 := S8x.out.var.cell 1; have r2 := S8x.out.var.cell 2; have r3 := S8x.out.var.cell 3; have r4 := S8x.out.var.cell 4; have r5 := S8x.out.var.cell 5; have r6 := S8x.out.var.cell 6; have r7 := S8x.out.var.cell 7; simp only [rnC, rnZ, List.getElem?_toArray, List.getElem?_cons_succ, List.getElem?_cons_zero] at r0 r1 r2 r3 r4 r5 r6 r7; have rl := S8x.out.var.lt; have d8 : w8x.cell? ⟨b7, o7 + qn, none⟩ = some (.int .i64 (n' : Int)) := (World.cell?_of_block (a := ⟨b7, o7 + qn, none⟩) (hg8.block b7 hl7 (by simp; omega))).trans d0; have hl8 := Nat.lt_of_lt_of_le hl7 hg8.size; clear hc8 hg8) | ((with_reducible refine (CD.out _ S8x.out.rd).mono ?_); rintro e w9 ⟨u9, v9, rfl, ho9, hb9⟩; obtain ⟨A9, c9, A9', c9', rfl, rfl⟩ := Own_run.form ho9; have HV9 := Lib.hid (S8x.out.var.belowV hb9); have HB9 := Lib.hid hb9; have HO9 := Lib.hid ho9; clear ho9 hb9; have s0 := HV9.out.cell 0; have s1 := HV9.out.cell 1; have s2 := HV9.out.cell 2; have s3 := HV9.out.cell 3; have s4 := HV9.out.cell 4; have s5 := HV9.out.cell 5; have s6 := HV9.out.cell 6; have s7 := HV9.out.cell 7; simp only [rnC, rnZ, List.getElem?_toArray, List.getElem?_cons_succ, List.getElem?_cons_zero] at s0 s1 s2 s3 s4 s5 s6 s7; have sf0 := HV9.out.frozen 0; have sf1 := HV9.out.frozen 1; have sf2 := HV9.out.frozen 2; have sf3 := HV9.out.frozen 3; have sf4 := HV9.out.frozen 4; have sf5 := HV9.out.frozen 5; have sf6 := HV9.out.frozen 6; have sf7 := HV9.out.frozen 7; have sl := HV9.out.lt)); refine ⟨_, rfl, ?_, ?_⟩; (· trivial); try simp only [Act.put, List.setIfInBounds_toArray, List.set_cons_succ, List.set_cons_zero])
            (refine wpT_held (by rfl) (by rfl) ?_ (fun W hW => ?_) ?_; rotate_left; (· (obtain ⟨kq, rfl⟩ := hW; go_simp; try with_reducible rfl)); try simp only [Act.put, List.setIfInBounds_toArray, List.set_cons_succ, List.set_cons_zero])
            (refine wpT_step (by rfl) (by rfl) (fun K hK => ?_); go_simp; refine hK.out _ _ ?_ ?_; (· trivial); clear hK K; try simp only [Act.put, List.setIfInBounds_toArray, List.set_cons_succ, List.set_cons_zero])
            (refine wpT_call 109 (by rfl) (by rfl) (by rfl) Try.func109 (by kernel_rfl) (by rfl) (by rfl) ?_; (conv => arg 3; simp [Act.eval]); (first | ((with_reducible refine (CK.out _ (S6.out.cur.below (by exact (by repeat first | exact Below.refl _ _ | assumption | refine Below.drew ?_ | refine below_drewN ?_ _ | refine Below.calm ?_ (by first | exact Nat.le_refl _ | (simp; done) | (simp; omega) | omega) | refine Below.alloc ?_ (by first | exact Nat.le_refl _ | (simp; done) | (simp; omega) | omega) _ | refine Below.setCell ?_ (by first | exact Nat.le_refl _ | (simp; done) | (simp; omega) | omega) _)))).mono ?_); rintro e w8x ⟨rfl, hc8, hg8⟩; have S8x := Lib.hid (RunSt.draw (S6.out.below (by exact (by repeat first | exact Below.refl _ _ | assumption | refine Below.drew ?_ | refine below_drewN ?_ _ | refine Below.calm ?_ (by first | exact Nat.le_refl _ | (simp; done) | (simp; omega) | omega) | refine Below.alloc ?_ (by first | exact Nat.le_refl _ | (simp; done) | (simp; omega) | omega) _ | refine Below.setCell ?_ (by first | exact Nat.le_refl _ | (simp; done) | (simp; omega) | omega) _))) hc8 hg8); have r0 := S8x.out.var.cell 0; have r1 := S8x.out.var.cell 1; have r2 := S8x.out.var.cell 2; have r3 := S8x.out.var.cell 3; have r4 := S8x.out.var.cell 4; have r5 := S8x.out.var.cell 5; have r6 := S8x.out.var.cell 6; have r7 := S8x.out.var.cell 7; simp only [rnC, rnZ, List.getElem?_toArray, List.getElem?_cons_succ, List.getElem?_cons_zero] at r0 r1 r2 r3 r4 r5 r6 r7; have rl := S8x.out.var.lt; have d8 : w8x.cell? ⟨b7, o7 + qn, none⟩ = some (.int .i64 (n' : Int)) := (World.cell?_of_block (a := ⟨b7, o7 + qn, none⟩) (hg8.block b7 hl7 (by simp; omega))).trans d0; have hl8 := Nat.lt_of_lt_of_le hl7 hg8.size; clear hc8 hg8) | ((with_reducible refine (CD.out _ S8x.out.rd).mono ?_); rintro e w9 ⟨u9, v9, rfl, ho9, hb9⟩; obtain ⟨A9, c9, A9', c9', rfl, rfl⟩ := Own_run.form ho9; have HV9 := Lib.hid (S8x.out.var.belowV hb9); have HB9 := Lib.hid hb9; have HO9 := Lib.hid ho9; clear ho9 hb9; have s0 := HV9.out.cell 0; have s1 := HV9.out.cell 1; have s2 := HV9.out.cell 2; have s3 := HV9.out.cell 3; have s4 := HV9.out.cell 4; have s5 := HV9.out.cell 5; have s6 := HV9.out.cell 6; have s7 := HV9.out.cell 7; simp only [rnC, rnZ, List.getElem?_toArray, List.getElem?_cons_succ, List.getElem?_cons_zero] at s0 s1 s2 s3 s4 s5 s6 s7; have sf0 := HV9.out.frozen 0; have sf1 := HV9.out.frozen 1; have sf2 := HV9.out.frozen 2; have sf3 := HV9.out.frozen 3; have sf4 := HV9.out.frozen 4; have sf5 := HV9.out.frozen 5; have sf6 := HV9.out.frozen 6; have sf7 := HV9.out.frozen 7; have sl := HV9.out.lt)); refine ⟨_, rfl, ?_, ?_⟩; (· trivial); try simp only [Act.put, List.setIfInBounds_toArray, List.set_cons_succ, List.set_cons_zero])
            (refine wpT_step (by rfl) (by rfl) (fun K hK => ?_); go_simp; refine hK.out _ _ ?_ ?_; (· trivial); clear hK K; try simp only [Act.put])
            refine wpT_nil ?_
            try simp only [List.getElem_toArray, List.getElem_cons_succ, List.getElem_cons_zero]
          case' grx4 =>
            (refine wpT_call 98 (by rfl) (by rfl) (by rfl) Try.func98 (by kernel_rfl) (by rfl) (by rfl) ?_; (conv => arg 3; simp [Act.eval]); (first | ((with_reducible refine (CK.out _ (S6.out.cur.below (by exact (by repeat first | exact Below.refl _ _ | assumption | refine Below.drew ?_ | refine below_drewN ?_ _ | refine Below.calm ?_ (by first | exact Nat.le_refl _ | (simp; done) | (simp; omega) | omega) | refine Below.alloc ?_ (by first | exact Nat.le_refl _ | (simp; done) | (simp; omega) | omega) _ | refine Below.setCell ?_ (by first | exact Nat.le_refl _ | (simp; done) | (simp; omega) | omega) _)))).mono ?_); rintro e w8x ⟨rfl, hc8, hg8⟩; have S8x := Lib.hid (RunSt.draw (S6.out.below (by exact (by repeat first | exact Below.refl _ _ | assumption | refine Below.drew ?_ | refine below_drewN ?_ _ | refine Below.calm ?_ (by first | exact Nat.le_refl _ | (simp; done) | (simp; omega) | omega) | refine Below.alloc ?_ (by first | exact Nat.le_refl _ | (simp; done) | (simp; omega) | omega) _ | refine Below.setCell ?_ (by first | exact Nat.le_refl _ | (simp; done) | (simp; omega) | omega) _))) hc8 hg8); have r0 := S8x.out.var.cell 0; have r1 := S8x.out.var.cell 1; have r2 := S8x.out.var.cell 2; have r3 := S8x.out.var.cell 3; have r4 := S8x.out.var.cell 4; have r5 := S8x.out.var.cell 5; have r6 := S8x.out.var.cell 6; have r7 := S8x.out.var.cell 7; simp only [rnC, rnZ, List.getElem?_toArray, List.getElem?_cons_succ, List.getElem?_cons_zero] at r0 r1 r2 r3 r4 r5 r6 r7; have rl := S8x.out.var.lt; have d8 : w8x.cell? ⟨b7, o7 + qn, none⟩ = some (.int .i64 (n' : Int)) := (World.cell?_of_block (a := ⟨b7, o7 + qn, none⟩) (hg8.block b7 hl7 (by simp; omega))).trans d0; have hl8 := Nat.lt_of_lt_of_le hl7 hg8.size; clear hc8 hg8) | ((with_reducible refine (CD.out _ S8x.out.rd).mono ?_); rintro e w9 ⟨u9, v9, rfl, ho9, hb9⟩; obtain ⟨A9, c9, A9', c9', rfl, rfl⟩ := Own_run.form ho9; have HV9 := Lib.hid (S8x.out.var.belowV hb9); have HB9 := Lib.hid hb9; have HO9 := Lib.hid ho9; clear ho9 hb9; have s0 := HV9.out.cell 0; have s1 := HV9.out.cell 1; have s2 := HV9.out.cell 2; have s3 := HV9.out.cell 3; have s4 := HV9.out.cell 4; have s5 := HV9.out.cell 5; have s6 := HV9.out.cell 6; have s7 := HV9.out.cell 7; simp only [rnC, rnZ, List.getElem?_toArray, List.getElem?_cons_succ, List.getElem?_cons_zero] at s0 s1 s2 s3 s4 s5 s6 s7; have sf0 := HV9.out.frozen 0; have sf1 := HV9.out.frozen 1; have sf2 := HV9.out.frozen 2; have sf3 := HV9.out.frozen 3; have sf4 := HV9.out.frozen 4; have sf5 := HV9.out.frozen 5; have sf6 := HV9.out.frozen 6; have sf7 := HV9.out.frozen 7; have sl := HV9.out.lt)); refine ⟨_, rfl, ?_, ?_⟩; (· trivial); try simp only [Act.put, List.setIfInBounds_toArray, List.set_cons_succ, List.set_cons_zero])
            (refine wpT_held (by rfl) (by rfl) ?_ (fun W hW => ?_) ?_; rotate_left; (· (obtain ⟨kq, rfl⟩ := hW; go_simp; try with_reducible rfl)); try simp only [Act.put, List.setIfInBounds_toArray, List.set_cons_succ, List.set_cons_zero])
            refine wpT_two ?glx4r ?grx4r
            case' glx4r =>
              (refine wpT_step (by rfl) (by rfl) (fun K hK => ?_); go_simp; refine hK.out _ _ ?_ ?_; (· trivial); clear hK K; try simp only [Act.put, List.setIfInBounds_toArray, List.set_cons_succ, List.set_cons_zero])
              (refine wpT_step (by rfl) (by rfl) (fun K hK => ?_); go_simp; refine hK.out _ _ ?_ ?_; (· trivial); clear hK K; try simp only [Act.put, List.setIfInBounds_toArray, List.set_cons_succ, List.set_cons_zero])
              (refine wpT_call 109 (by rfl) (by rfl) (by rfl) Try.func109 (by kernel_rfl) (by rfl) (by rfl) ?_; (conv => arg 3; simp [Act.eval]); (first | ((with_reducible refine (CK.out _ (S6.out.cur.below (by exact (by repeat first | exact Below.refl _ _ | assumption | refine Below.drew ?_ | refine below_drewN ?_ _ | refine Below.calm ?_ (by first | exact Nat.le_refl _ | (simp; done) | (simp; omega) | omega) | refine Below.alloc ?_ (by first | exact Nat.le_refl _ | (simp; done) | (simp; omega) | omega) _ | refine Below.setCell ?_ (by first | exact Nat.le_refl _ | (simp; done) | (simp; omega) | omega) _)))).mono ?_); rintro e w8x ⟨rfl, hc8, hg8⟩; have S8x := Lib.hid (RunSt.draw (S6.out.below (by exact (by repeat first | exact Below.refl _ _ | assumption | refine Below.drew ?_ | refine below_drewN ?_ _ | refine Below.calm ?_ (by first | exact Nat.le_refl _ | (simp; done) | (simp; omega) | omega) | refine Below.alloc ?_ (by first | exact Nat.le_refl _ | (simp; done) | (simp; omega) | omega) _ | refine Below.setCell ?_ (by first | exact Nat.le_refl _ | (simp; done) | (simp; omega) | omega) _))) hc8 hg8); have r0 := S8x.out.var.cell 0; have r1 := S8x.out.var.cell 1; have r2 := S8x.out.var.cell 2; have r3 := S8x.out.var.cell 3; have r4 := S8x.out.var.cell 4; have r5 := S8x.out.var.cell 5; have r6 := S8x.out.var.cell 6; have r7 := S8x.out.var.cell 7; simp only [rnC, rnZ, List.getElem?_toArray, List.getElem?_cons_succ, List.getElem?_cons_zero] at r0 r1 r2 r3 r4 r5 r6 r7; have rl := S8x.out.var.lt; have d8 : w8x.cell? ⟨b7, o7 + qn, none⟩ = some (.int .i64 (n' : Int)) := (World.cell?_of_block (a := ⟨b7, o7 + qn, none⟩) (hg8.block b7 hl7 (by simp; omega))).trans d0; have hl8 := Nat.lt_of_lt_of_le hl7 hg8.size; clear hc8 hg8) | ((with_reducible refine (CD.out _ S8x.out.rd).mono ?_); rintro e w9 ⟨u9, v9, rfl, ho9, hb9⟩; obtain ⟨A9, c9, A9', c9', rfl, rfl⟩ := Own_run.form ho9; have HV9 := Lib.hid (S8x.out.var.belowV hb9); have HB9 := Lib.hid hb9; have HO9 := Lib.hid ho9; clear ho9 hb9; have s0 := HV9.out.cell 0; have s1 := HV9.out.cell 1; have s2 := HV9.out.cell 2; have s3 := HV9.out.cell 3; have s4 := HV9.out.cell 4; have s5 := HV9.out.cell 5; have s6 := HV9.out.cell 6; have s7 := HV9.out.cell 7; simp only [rnC, rnZ, List.getElem?_toArray, List.getElem?_cons_succ, List.getElem?_cons_zero] at s0 s1 s2 s3 s4 s5 s6 s7; have sf0 := HV9.out.frozen 0; have sf1 := HV9.out.frozen 1; have sf2 := HV9.out.frozen 2; have sf3 := HV9.out.frozen 3; have sf4 := HV9.out.frozen 4; have sf5 := HV9.out.frozen 5; have sf6 := HV9.out.frozen 6; have sf7 := HV9.out.frozen 7; have sl := HV9.out.lt)); refine ⟨_, rfl, ?_, ?_⟩; (· trivial); try simp only [Act.put, List.setIfInBounds_toArray, List.set_cons_succ, List.set_cons_zero])
              (refine wpT_step (by rfl) (by rfl) (fun K hK => ?_); go_simp; refine hK.out _ _ ?_ ?_; (· trivial); clear hK K; try simp only [Act.put])
              refine wpT_nil ?_
              try simp only [List.getElem_toArray, List.getElem_cons_succ, List.getElem_cons_zero]
            case' grx4r =>
              (refine wpT_step (by rfl) (by rfl) (fun K hK => ?_); go_simp; refine hK.out _ _ ?_ ?_; (· trivial); clear hK K; try simp only [Act.put, List.setIfInBounds_toArray, List.set_cons_succ, List.set_cons_zero])
              (refine wpT_step (by rfl) (by rfl) (fun K hK => ?_); go_simp; refine hK.out _ _ ?_ ?_; (· trivial); clear hK K; try simp only [Act.put, List.setIfInBounds_toArray, List.set_cons_succ, List.set_cons_zero])
              (refine wpT_call 109 (by rfl) (by rfl) (by rfl) Try.func109 (by kernel_rfl) (by rfl) (by rfl) ?_; (conv => arg 3; simp [Act.eval]); (first | ((with_reducible refine (CK.out _ (S6.out.cur.below (by exact (by repeat first | exact Below.refl _ _ | assumption | refine Below.drew ?_ | refine below_drewN ?_ _ | refine Below.calm ?_ (by first | exact Nat.le_refl _ | (simp; done) | (simp; omega) | omega) | refine Below.alloc ?_ (by first | exact Nat.le_refl _ | (simp; done) | (simp; omega) | omega) _ | refine Below.setCell ?_ (by first | exact Nat.le_refl _ | (simp; done) | (simp; omega) | omega) _)))).mono ?_); rintro e w8x ⟨rfl, hc8, hg8⟩; have S8x := Lib.hid (RunSt.draw (S6.out.below (by exact (by repeat first | exact Below.refl _ _ | assumption | refine Below.drew ?_ | refine below_drewN ?_ _ | refine Below.calm ?_ (by first | exact Nat.le_refl _ | (simp; done) | (simp; omega) | omega) | refine Below.alloc ?_ (by first | exact Nat.le_refl _ | (simp; done) | (simp; omega) | omega) _ | refine Below.setCell ?_ (by first | exact Nat.le_refl _ | (simp; done) | (simp; omega) | omega) _))) hc8 hg8); have r0 := S8x.out.var.cell 0; have r1 := S8x.out.var.cell 1; have r2 := S8x.out.var.cell 2; have r3 := S8x.out.var.cell 3; have r4 := S8x.out.var.cell 4; have r5 := S8x.out.var.cell 5; have r6 := S8x.out.var.cell 6; have r7 := S8x.out.var.cell 7; simp only [rnC, rnZ, List.getElem?_toArray, List.getElem?_cons_succ, List.getElem?_cons_zero] at r0 r1 r2 r3 r4 r5 r6 r7; have rl := S8x.out.var.lt; have d8 : w8x.cell? ⟨b7, o7 + qn, none⟩ = some (.int .i64 (n' : Int)) := (World.cell?_of_block (a := ⟨b7, o7 + qn, none⟩) (hg8.block b7 hl7 (by simp; omega))).trans d0; have hl8 := Nat.lt_of_lt_of_le hl7 hg8.size; clear hc8 hg8) | ((with_reducible refine (CD.out _ S8x.out.rd).mono ?_); rintro e w9 ⟨u9, v9, rfl, ho9, hb9⟩; obtain ⟨A9, c9, A9', c9', rfl, rfl⟩ := Own_run.form ho9; have HV9 := Lib.hid (S8x.out.var.belowV hb9); have HB9 := Lib.hid hb9; have HO9 := Lib.hid ho9; clear ho9 hb9; have s0 := HV9.out.cell 0; have s1 := HV9.out.cell 1; have s2 := HV9.out.cell 2; have s3 := HV9.out.cell 3; have s4 := HV9.out.cell 4; have s5 := HV9.out.cell 5; have s6 := HV9.out.cell 6; have s7 := HV9.out.cell 7; simp only [rnC, rnZ, List.getElem?_toArray, List.getElem?_cons_succ, List.getElem?_cons_zero] at s0 s1 s2 s3 s4 s5 s6 s7; have sf0 := HV9.out.frozen 0; have sf1 := HV9.out.frozen 1; have sf2 := HV9.out.frozen 2; have sf3 := HV9.out.frozen 3; have sf4 := HV9.out.frozen 4; have sf5 := HV9.out.frozen 5; have sf6 := HV9.out.frozen 6; have sf7 := HV9.out.frozen 7; have sl := HV9.out.lt)); refine ⟨_, rfl, ?_, ?_⟩; (· trivial); try simp only [Act.put, List.setIfInBounds_toArray, List.set_cons_succ, List.set_cons_zero])
              (refine wpT_step (by rfl) (by rfl) (fun K hK => ?_); go_simp; refine hK.out _ _ ?_ ?_; (· trivial); clear hK K; try simp only [Act.put])
              refine wpT_nil ?_
              try simp only [List.getElem_toArray, List.getElem_cons_succ, List.getElem_cons_zero]
          all_goals
            obtain ⟨W11, hW11⟩ : ∃ W, W = ((((((((w9.setCell ⟨b3, 0, none⟩ (.int .i64 Y.id)).setCell ⟨b3, 1, none⟩ (.int .i64 Y.plan.prio)).setCell ⟨b3, 2, none⟩ (.int .i64 Y.plan.most)).setCell ⟨b3, 3, none⟩ (.int .i64 Y.plan.wait)).setCell ⟨b3, 4, none⟩ (.int .i64 Y.plan.tasks)).setCell ⟨b3, 5, none⟩ (.slice A9 Y.plan.edges.length c9)).setCell ⟨b3, 6, none⟩ (.int .i64 Y.state)).setCell ⟨b3, 7, none⟩ (.slice A9' Y.tasks.length c9')) := ⟨_, rfl⟩
            have kW11 : Blk W11 b3 52 (rnC Y A9 c9 A9' c9') := by rw [hW11]; have q := (Blk.set_ (Blk.set_ (Blk.set_ (Blk.set_ (Blk.set_ (Blk.set_ (Blk.set_ (Blk.set_ HV9.out 0 (.int .i64 Y.id)) 1 (.int .i64 Y.plan.prio)) 2 (.int .i64 Y.plan.most)) 3 (.int .i64 Y.plan.wait)) 4 (.int .i64 Y.plan.tasks)) 5 (.slice A9 Y.plan.edges.length c9)) 6 (.int .i64 Y.state)) 7 (.slice A9' Y.tasks.length c9')); simpa [rnC] using q
            have pW11 : Part b3 (b3 + 1) w9 W11 := by rw [hW11]; exact (Part.setCell (Part.setCell (Part.setCell (Part.setCell (Part.setCell (Part.setCell (Part.setCell (Part.setCell (Part.refl b3 (b3 + 1) w9) (p := ⟨b3, 0, none⟩) ⟨by simp, by simp⟩ (.int .i64 Y.id)) (p := ⟨b3, 1, none⟩) ⟨by simp, by simp⟩ (.int .i64 Y.plan.prio)) (p := ⟨b3, 2, none⟩) ⟨by simp, by simp⟩ (.int .i64 Y.plan.most)) (p := ⟨b3, 3, none⟩) ⟨by simp, by simp⟩ (.int .i64 Y.plan.wait)) (p := ⟨b3, 4, none⟩) ⟨by simp, by simp⟩ (.int .i64 Y.plan.tasks)) (p := ⟨b3, 5, none⟩) ⟨by simp, by simp⟩ (.slice A9 Y.plan.edges.length c9)) (p := ⟨b3, 6, none⟩) ⟨by simp, by simp⟩ (.int .i64 Y.state)) (p := ⟨b3, 7, none⟩) ⟨by simp, by simp⟩ (.slice A9' Y.tasks.length c9'))
            rw [← hW11]
            have S11 := Lib.hid (S8x.out.put HB9.out HO9.out pW11 kW11)
            clear hW11 pW11 kW11
            clear p0 p1 p2 p3 p4 p5 p6 p7 pl
            clear r0 r1 r2 r3 r4 r5 r6 r7 rl
            clear s0 s1 s2 s3 s4 s5 s6 s7 sf0 sf1 sf2 sf3 sf4 sf5 sf6 sf7 sl
            clear d0 d8 hl7 hl8
            go_wp2_with fail
            go_roundw
            case rel => exact ⟨k + 1, Y, dk, A9, c9, A9', c9', by omega, by go_num, HGY, HGN2, S11⟩
            case measure => simp [intOf]; omega
        · have h2i : ¬ (0 : Int) < ((tasksInR x 2).length : Int) := by omega
          have HGN2 := Lib.hid (show runGo code 12 0 X0 c2 = runGo code (12 - (k + 1)) ((k + 1 : Nat) : Int) x d1 by rw [HGN.out, runStep_none0 h3 h2])
          go_wp2_with fail
          go_roundw
          case rel => exact ⟨k + 1, x, d1, A, ca, A', ca', by omega, by go_num, HGD, HGN2, S6⟩
          case measure => simp [intOf]; omega
    · have HXD := Lib.hid (show runGo code 12 0 X0 c2 = (x, d1) by rw [HGO.out, show 12 - k = (11 - k) + 1 by omega]; exact runGo_stop HE12.out hgo)
      obtain ⟨o, d2, e10⟩ : ∃ x c', curBelow code 10 d1 = (x, c') := ⟨_, _, rfl⟩
      have HRE := Lib.hid (HD.out x d1 o d2 HXD.out e10)
      have CO := Lib.hid (once_at (B := B) (g := g) (v := v) e10 (by omega) (decide (o = 0)) rfl)
      have HTT := Lib.hid (show (decide ((k : Int) < n) = false) ∨ (decide ((k : Int) < n) = true ∧ (x.state == 1) = false) from by
        by_cases h1 : (k : Int) < n
        · exact .inr ⟨decide_eq_true h1, beq_eq_false_iff_ne.2 (fun h2 => hgo ⟨h1, h2⟩)⟩
        · exact .inl (decide_eq_false h1))
      clear e10 hgo HXD HGO HE12
      by_cases ho : o = 0
      · have HRR := Lib.hid (show R = (runLeftR x, d2) by rw [HRE.out, if_pos ho])
        rw [decide_eq_true ho] at CO
        clear ho HRE
        rcases HTT.out with t0 | ⟨t0, t1⟩
        all_goals
          clear HTT
          go_wp2_with fail
          refine (CO.out _ S4.out.cur).mono ?_
          rintro e w5 ⟨rfl, hc5, hg5⟩
          have S5 := Lib.hid (S4.out.draw hc5 hg5)
          clear hc5 hg5 t0
          clear p0 p1 p2 p3 p4 p5 p6 p7 pl
          have p0 := S5.out.var.cell 0
          have p1 := S5.out.var.cell 1
          have p2 := S5.out.var.cell 2
          have p3 := S5.out.var.cell 3
          have p4 := S5.out.var.cell 4
          have p5 := S5.out.var.cell 5
          have p6 := S5.out.var.cell 6
          have p7 := S5.out.var.cell 7
          simp only [rnC, rnZ, List.getElem?_toArray, List.getElem?_cons_succ, List.getElem?_cons_zero] at p0 p1 p2 p3 p4 p5 p6 p7
          have pl := S5.out.var.lt
          obtain ⟨Y, hY⟩ : ∃ Y, Y = runLeftR x := ⟨_, rfl⟩
          have CL := Lib.hid (show Calls Try.prog 47 #[.agg (rnC x A ca A' ca')] w5 (GivesR Y w5) by rw [hY]; exact runLeft_spec _ _ x w5 S5.out.rd (good_cost HGD.out))
          rw [← hY] at HRR
          have HY := Lib.hid hY
          clear hY
          go_wp2_with fail
          refine CL.out.mono ?_
          rintro e w6 ⟨u6, v6, rfl, ho6, hb6⟩
          obtain ⟨A6, c6, A6', c6', rfl, rfl⟩ := Own_run.form ho6
          have HO6 := Lib.hid ho6
          have HB6 := Lib.hid hb6
          have HV6 := Lib.hid (S5.out.var.belowV hb6)
          have HR6 := Lib.hid (S5.out.res.belowV hb6)
          have hbb := S5.out.hb
          clear ho6 hb6
          clear p0 p1 p2 p3 p4 p5 p6 p7 pl
          have p0 := HV6.out.cell 0
          have p1 := HV6.out.cell 1
          have p2 := HV6.out.cell 2
          have p3 := HV6.out.cell 3
          have p4 := HV6.out.cell 4
          have p5 := HV6.out.cell 5
          have p6 := HV6.out.cell 6
          have p7 := HV6.out.cell 7
          simp only [rnC, rnZ, List.getElem?_toArray, List.getElem?_cons_succ, List.getElem?_cons_zero] at p0 p1 p2 p3 p4 p5 p6 p7
          have pf0 := HV6.out.frozen 0
          have pf1 := HV6.out.frozen 1
          have pf2 := HV6.out.frozen 2
          have pf3 := HV6.out.frozen 3
          have pf4 := HV6.out.frozen 4
          have pf5 := HV6.out.frozen 5
          have pf6 := HV6.out.frozen 6
          have pf7 := HV6.out.frozen 7
          have pl := HV6.out.lt
          have r0 := HR6.out.cell 0
          have r1 := HR6.out.cell 1
          have r2 := HR6.out.cell 2
          have r3 := HR6.out.cell 3
          have r4 := HR6.out.cell 4
          have r5 := HR6.out.cell 5
          have r6 := HR6.out.cell 6
          have r7 := HR6.out.cell 7
          simp only [rnC, rnZ, List.getElem?_toArray, List.getElem?_cons_succ, List.getElem?_cons_zero] at r0 r1 r2 r3 r4 r5 r6 r7
          have rf0 := HR6.out.frozen 0
          have rf1 := HR6.out.frozen 1
          have rf2 := HR6.out.frozen 2
          have rf3 := HR6.out.frozen 3
          have rf4 := HR6.out.frozen 4
          have rf5 := HR6.out.frozen 5
          have rf6 := HR6.out.frozen 6
          have rf7 := HR6.out.frozen 7
          have rl := HR6.out.lt
          go_wp2_with fail
          clear p0 p1 p2 p3 p4 p5 p6 p7 pf0 pf1 pf2 pf3 pf4 pf5 pf6 pf7 pl
          clear r0 r1 r2 r3 r4 r5 r6 r7 rf0 rf1 rf2 rf3 rf4 rf5 rf6 rf7 rl
          obtain ⟨W7, hW7⟩ : ∃ W, W = ((((((((w6.setCell ⟨b3, 0, none⟩ (.int .i64 Y.id)).setCell ⟨b3, 1, none⟩ (.int .i64 Y.plan.prio)).setCell ⟨b3, 2, none⟩ (.int .i64 Y.plan.most)).setCell ⟨b3, 3, none⟩ (.int .i64 Y.plan.wait)).setCell ⟨b3, 4, none⟩ (.int .i64 Y.plan.tasks)).setCell ⟨b3, 5, none⟩ (.slice A6 Y.plan.edges.length c6)).setCell ⟨b3, 6, none⟩ (.int .i64 Y.state)).setCell ⟨b3, 7, none⟩ (.slice A6' Y.tasks.length c6')) := ⟨_, rfl⟩
          have kW7 : Blk W7 b3 52 (rnC Y A6 c6 A6' c6') := by rw [hW7]; have q := (Blk.set_ (Blk.set_ (Blk.set_ (Blk.set_ (Blk.set_ (Blk.set_ (Blk.set_ (Blk.set_ HV6.out 0 (.int .i64 Y.id)) 1 (.int .i64 Y.plan.prio)) 2 (.int .i64 Y.plan.most)) 3 (.int .i64 Y.plan.wait)) 4 (.int .i64 Y.plan.tasks)) 5 (.slice A6 Y.plan.edges.length c6)) 6 (.int .i64 Y.state)) 7 (.slice A6' Y.tasks.length c6')); simpa [rnC] using q
          have pW7 : Part b3 (b3 + 1) w6 W7 := by rw [hW7]; exact (Part.setCell (Part.setCell (Part.setCell (Part.setCell (Part.setCell (Part.setCell (Part.setCell (Part.setCell (Part.refl b3 (b3 + 1) w6) (p := ⟨b3, 0, none⟩) ⟨by simp, by simp⟩ (.int .i64 Y.id)) (p := ⟨b3, 1, none⟩) ⟨by simp, by simp⟩ (.int .i64 Y.plan.prio)) (p := ⟨b3, 2, none⟩) ⟨by simp, by simp⟩ (.int .i64 Y.plan.most)) (p := ⟨b3, 3, none⟩) ⟨by simp, by simp⟩ (.int .i64 Y.plan.wait)) (p := ⟨b3, 4, none⟩) ⟨by simp, by simp⟩ (.int .i64 Y.plan.tasks)) (p := ⟨b3, 5, none⟩) ⟨by simp, by simp⟩ (.slice A6 Y.plan.edges.length c6)) (p := ⟨b3, 6, none⟩) ⟨by simp, by simp⟩ (.int .i64 Y.state)) (p := ⟨b3, 7, none⟩) ⟨by simp, by simp⟩ (.slice A6' Y.tasks.length c6'))
          rw [← hW7]
          clear hW7
          have S7 := Lib.hid (S5.out.put HB6.out HO6.out pW7 kW7)
          have HR7 := Lib.hid S7.out.res
          obtain ⟨W9, hW9⟩ : ∃ W, W = ((((((((W7.setCell ⟨w.heap.size, 0, none⟩ (.int .i64 Y.id)).setCell ⟨w.heap.size, 1, none⟩ (.int .i64 Y.plan.prio)).setCell ⟨w.heap.size, 2, none⟩ (.int .i64 Y.plan.most)).setCell ⟨w.heap.size, 3, none⟩ (.int .i64 Y.plan.wait)).setCell ⟨w.heap.size, 4, none⟩ (.int .i64 Y.plan.tasks)).setCell ⟨w.heap.size, 5, none⟩ (.slice A6 Y.plan.edges.length c6)).setCell ⟨w.heap.size, 6, none⟩ (.int .i64 Y.state)).setCell ⟨w.heap.size, 7, none⟩ (.slice A6' Y.tasks.length c6')) := ⟨_, rfl⟩
          rw [← hW9]
          have kW9 : Blk W9 (w.heap.size) 52 #[.int .i64 Y.id, .int .i64 Y.plan.prio, .int .i64 Y.plan.most, .int .i64 Y.plan.wait, .int .i64 Y.plan.tasks, .slice A6 Y.plan.edges.length c6, .int .i64 Y.state, .slice A6' Y.tasks.length c6'] := by rw [hW9]; have q := (Blk.set_ (Blk.set_ (Blk.set_ (Blk.set_ (Blk.set_ (Blk.set_ (Blk.set_ (Blk.set_ HR7.out 0 (.int .i64 Y.id)) 1 (.int .i64 Y.plan.prio)) 2 (.int .i64 Y.plan.most)) 3 (.int .i64 Y.plan.wait)) 4 (.int .i64 Y.plan.tasks)) 5 (.slice A6 Y.plan.edges.length c6)) 6 (.int .i64 Y.state)) 7 (.slice A6' Y.tasks.length c6')); simpa [rnZ] using q
          have pW9 : Part (w.heap.size) (w.heap.size + 1) W7 W9 := by rw [hW9]; exact (Part.setCell (Part.setCell (Part.setCell (Part.setCell (Part.setCell (Part.setCell (Part.setCell (Part.setCell (Part.refl (w.heap.size) (w.heap.size + 1) W7) (p := ⟨w.heap.size, 0, none⟩) ⟨by simp, by simp⟩ (.int .i64 Y.id)) (p := ⟨w.heap.size, 1, none⟩) ⟨by simp, by simp⟩ (.int .i64 Y.plan.prio)) (p := ⟨w.heap.size, 2, none⟩) ⟨by simp, by simp⟩ (.int .i64 Y.plan.most)) (p := ⟨w.heap.size, 3, none⟩) ⟨by simp, by simp⟩ (.int .i64 Y.plan.wait)) (p := ⟨w.heap.size, 4, none⟩) ⟨by simp, by simp⟩ (.int .i64 Y.plan.tasks)) (p := ⟨w.heap.size, 5, none⟩) ⟨by simp, by simp⟩ (.slice A6 Y.plan.edges.length c6)) (p := ⟨w.heap.size, 6, none⟩) ⟨by simp, by simp⟩ (.int .i64 Y.state)) (p := ⟨w.heap.size, 7, none⟩) ⟨by simp, by simp⟩ (.slice A6' Y.tasks.length c6'))
          have e0 := kW9.cell 0
          have e1 := kW9.cell 1
          have e2 := kW9.cell 2
          have e3 := kW9.cell 3
          have e4 := kW9.cell 4
          have e5 := kW9.cell 5
          have e6 := kW9.cell 6
          have e7 := kW9.cell 7
          simp only [List.getElem?_toArray, List.getElem?_cons_succ, List.getElem?_cons_zero] at e0 e1 e2 e3 e4 e5 e6 e7
          refine bodyPost_ret (v := .agg #[.int .i64 Y.id, .int .i64 Y.plan.prio, .int .i64 Y.plan.most, .int .i64 Y.plan.wait, .int .i64 Y.plan.tasks, .slice A6 Y.plan.edges.length c6, .int .i64 Y.state, .slice A6' Y.tasks.length c6']) (by simp [results, Try.results75, go_sem, e0, e1, e2, e3, e4, e5, e6, e7]) rfl ?_
          obtain ⟨f1, f2, f3⟩ := S7.out.fin pW9
          rw [HRR.out]
          exact ⟨_, _, rfl, f1, f2, f3⟩
      · have HRR := Lib.hid (show R = (x, d2) by rw [HRE.out, if_neg ho])
        rw [decide_eq_false ho] at CO
        clear ho HRE
        rcases HTT.out with t0 | ⟨t0, t1⟩
        all_goals
          clear HTT
          go_wp2_with fail
          refine (CO.out _ S4.out.cur).mono ?_
          rintro e w5 ⟨rfl, hc5, hg5⟩
          have S5 := Lib.hid (S4.out.draw hc5 hg5)
          clear hc5 hg5 t0
          clear p0 p1 p2 p3 p4 p5 p6 p7 pl
          have p0 := S5.out.var.cell 0
          have p1 := S5.out.var.cell 1
          have p2 := S5.out.var.cell 2
          have p3 := S5.out.var.cell 3
          have p4 := S5.out.var.cell 4
          have p5 := S5.out.var.cell 5
          have p6 := S5.out.var.cell 6
          have p7 := S5.out.var.cell 7
          simp only [rnC, rnZ, List.getElem?_toArray, List.getElem?_cons_succ, List.getElem?_cons_zero] at p0 p1 p2 p3 p4 p5 p6 p7
          have pl := S5.out.var.lt
          have r0 := S5.out.res.cell 0
          have r1 := S5.out.res.cell 1
          have r2 := S5.out.res.cell 2
          have r3 := S5.out.res.cell 3
          have r4 := S5.out.res.cell 4
          have r5 := S5.out.res.cell 5
          have r6 := S5.out.res.cell 6
          have r7 := S5.out.res.cell 7
          simp only [rnC, rnZ, List.getElem?_toArray, List.getElem?_cons_succ, List.getElem?_cons_zero] at r0 r1 r2 r3 r4 r5 r6 r7
          have rf0 := S5.out.res.frozen 0
          have rf1 := S5.out.res.frozen 1
          have rf2 := S5.out.res.frozen 2
          have rf3 := S5.out.res.frozen 3
          have rf4 := S5.out.res.frozen 4
          have rf5 := S5.out.res.frozen 5
          have rf6 := S5.out.res.frozen 6
          have rf7 := S5.out.res.frozen 7
          have rl := S5.out.res.lt
          go_wp2_with fail
          clear p0 p1 p2 p3 p4 p5 p6 p7 pl
          clear r0 r1 r2 r3 r4 r5 r6 r7 rf0 rf1 rf2 rf3 rf4 rf5 rf6 rf7 rl
          have S7 := S5
          have HR7 := Lib.hid S7.out.res
          obtain ⟨W9, hW9⟩ : ∃ W, W = ((((((((w5.setCell ⟨w.heap.size, 0, none⟩ (.int .i64 x.id)).setCell ⟨w.heap.size, 1, none⟩ (.int .i64 x.plan.prio)).setCell ⟨w.heap.size, 2, none⟩ (.int .i64 x.plan.most)).setCell ⟨w.heap.size, 3, none⟩ (.int .i64 x.plan.wait)).setCell ⟨w.heap.size, 4, none⟩ (.int .i64 x.plan.tasks)).setCell ⟨w.heap.size, 5, none⟩ (.slice A x.plan.edges.length ca)).setCell ⟨w.heap.size, 6, none⟩ (.int .i64 x.state)).setCell ⟨w.heap.size, 7, none⟩ (.slice A' x.tasks.length ca')) := ⟨_, rfl⟩
          rw [← hW9]
          have kW9 : Blk W9 (w.heap.size) 52 #[.int .i64 x.id, .int .i64 x.plan.prio, .int .i64 x.plan.most, .int .i64 x.plan.wait, .int .i64 x.plan.tasks, .slice A x.plan.edges.length ca, .int .i64 x.state, .slice A' x.tasks.length ca'] := by rw [hW9]; have q := (Blk.set_ (Blk.set_ (Blk.set_ (Blk.set_ (Blk.set_ (Blk.set_ (Blk.set_ (Blk.set_ HR7.out 0 (.int .i64 x.id)) 1 (.int .i64 x.plan.prio)) 2 (.int .i64 x.plan.most)) 3 (.int .i64 x.plan.wait)) 4 (.int .i64 x.plan.tasks)) 5 (.slice A x.plan.edges.length ca)) 6 (.int .i64 x.state)) 7 (.slice A' x.tasks.length ca')); simpa [rnZ] using q
          have pW9 : Part (w.heap.size) (w.heap.size + 1) w5 W9 := by rw [hW9]; exact (Part.setCell (Part.setCell (Part.setCell (Part.setCell (Part.setCell (Part.setCell (Part.setCell (Part.setCell (Part.refl (w.heap.size) (w.heap.size + 1) w5) (p := ⟨w.heap.size, 0, none⟩) ⟨by simp, by simp⟩ (.int .i64 x.id)) (p := ⟨w.heap.size, 1, none⟩) ⟨by simp, by simp⟩ (.int .i64 x.plan.prio)) (p := ⟨w.heap.size, 2, none⟩) ⟨by simp, by simp⟩ (.int .i64 x.plan.most)) (p := ⟨w.heap.size, 3, none⟩) ⟨by simp, by simp⟩ (.int .i64 x.plan.wait)) (p := ⟨w.heap.size, 4, none⟩) ⟨by simp, by simp⟩ (.int .i64 x.plan.tasks)) (p := ⟨w.heap.size, 5, none⟩) ⟨by simp, by simp⟩ (.slice A x.plan.edges.length ca)) (p := ⟨w.heap.size, 6, none⟩) ⟨by simp, by simp⟩ (.int .i64 x.state)) (p := ⟨w.heap.size, 7, none⟩) ⟨by simp, by simp⟩ (.slice A' x.tasks.length ca'))
          have e0 := kW9.cell 0
          have e1 := kW9.cell 1
          have e2 := kW9.cell 2
          have e3 := kW9.cell 3
          have e4 := kW9.cell 4
          have e5 := kW9.cell 5
          have e6 := kW9.cell 6
          have e7 := kW9.cell 7
          simp only [List.getElem?_toArray, List.getElem?_cons_succ, List.getElem?_cons_zero] at e0 e1 e2 e3 e4 e5 e6 e7
          refine bodyPost_ret (v := .agg #[.int .i64 x.id, .int .i64 x.plan.prio, .int .i64 x.plan.most, .int .i64 x.plan.wait, .int .i64 x.plan.tasks, .slice A x.plan.edges.length ca, .int .i64 x.state, .slice A' x.tasks.length ca']) (by simp [results, Try.results75, go_sem, e0, e1, e2, e3, e4, e5, e6, e7]) rfl ?_
          obtain ⟨f1, f2, f3⟩ := S7.out.fin pW9
          rw [HRR.out]
          exact ⟨_, _, rfl, f1, f2, f3⟩
end Go.Proofs.Ytbbjkldkjndfaaa

/- The walk of the law FnShelves. -/
import Derived.Test.YthjkmefbjbfonaaDrawE
import Derived.Test.YthjkmefbjbfonaaSameE
import Derived.Test.YthjkmefbjbfonaaPlaces
import Derived.Test.YthjkmefbjbfonaaBig
namespace Go.Proofs.Ythjkmefbjbfonaa
set_option linter.unusedSimpArgs false
set_option linter.unusedSimpArgs false
set_option linter.unusedVariables false
open Go.RowKit Go.ChangeShapes Go.Deep

set_option maxHeartbeats 8000000 in
set_option maxRecDepth 100000 in
theorem walk_FnShelves (v0 : Value) (w : World) (a0 : ArgBytes w v0) :
    Calls Try.prog 8 #[v0] w fun e w' => e = .returned (.bool true) ∧ Below w.heap.size w w' := by
  obtain ⟨code, hrd⟩ := a0
  by_cases hbig : code.length ≤ 1048576
  · have CB := Lib.hid (big_f w v0 code hrd hbig)
    have CD := Lib.hid (fun W (hW : Below w.heap.size w W) => drawShelf_any W v0 code (hrd.below hW) hbig)
    have CP := Lib.hid (fun W (hW : Below w.heap.size w W) => drawPlaces_any W v0 code (hrd.below hW) hbig)
    obtain ⟨hlin, hseq, hlen⟩ := shelf_drawn code
    have hPL := places_length code
    have hPB : ∀ x ∈ places code, 0 ≤ x ∧ x < 10000 := placesGo_bd code _ _
    obtain ⟨P, hP⟩ : ∃ P, P = places code := ⟨_, rfl⟩
    obtain ⟨L, hL⟩ : ∃ L, L = shelfDrawn code := ⟨_, rfl⟩
    rw [← hP] at CP hPL hPB
    rw [← hL] at CD hlin hseq hlen
    have HLIN := Lib.hid hlin
    have HSEQ := Lib.hid hseq
    have HPB := Lib.hid hPB
    have HPL := Lib.hid hPL
    clear hP hL hrd hlin hseq hPB hPL
    go_enter Try.func8, Try.ntmps8
    go_wp2_with fail
    refine CB.out.mono ?_
    rintro e w0 ⟨rfl, rfl⟩
    go_wp2_with fail
    refine (CD.out _ (Below.refl _ _)).mono ?_
    rintro e w1 ⟨u, rfl, hown, hw1⟩
    obtain ⟨A1, c1, rfl, -, -⟩ := (Rd.of_own hown).shape
    have R1 := Lib.hid (Rd.of_own hown)
    clear hown
    go_wp2_with fail
    refine (CD.out _ hw1).mono ?_
    rintro e w2 ⟨u, rfl, hown, hb2⟩
    obtain ⟨A2, c2, rfl, -, -⟩ := (Rd.of_own hown).shape
    have R2 := Lib.hid (Rd.of_own hown)
    have R1 := Lib.hid (R1.out.below hb2)
    have hw2 := hw1.trans (hb2.mono hw1.size)
    clear hown CD
    go_wp2_with fail
    refine (CP.out _ hw2).mono ?_
    rintro e w3 ⟨u, rfl, hown, hb3⟩
    have hw3 := hw2.trans (hb3.mono hw2.size)
    have R1 := Lib.hid (R1.out.below hb3)
    have R2 := Lib.hid (R2.out.below hb3)
    obtain ⟨p0, p1, rest, rfl⟩ : ∃ p0 p1 rest, P = p0 :: p1 :: rest := by
      match P, HPL.out with
      | a :: b :: r, _ => exact ⟨a, b, r, rfl⟩
    have q0 := HPB.out p0 (by simp)
    have q1 := HPB.out p1 (by simp)
    obtain ⟨pb, po, pc, rfl, hpc, hpm, hpl, hpcell⟩ := (Rd.of_own hown).form (by omega) (by omega)
    unfold maxLen at hpm
    have e0 : w3.cell? ⟨pb, po, none⟩ = some (.int .i64 p0) := hpcell 0 _ rfl
    have e1 := hpcell 1 _ rfl
    have G0 : ∀ kk : Kept w3 none, kk.w.cell? ⟨pb, po, none⟩ = some (.int .i64 p0) := fun kk => ((grown_below (base := w3.heap.size) kk.2 (by simp) (Nat.le_refl _)).cell (p := ⟨pb, po, none⟩) hpl).trans e0
    have G1 : ∀ kk : Kept w3 none, kk.w.cell? ⟨pb, po + 1, none⟩ = some (.int .i64 p1) := fun kk => ((grown_below (base := w3.heap.size) kk.2 (by simp) (Nat.le_refl _)).cell (p := ⟨pb, po + 1, none⟩) hpl).trans e1
    obtain ⟨q, hq⟩ : ∃ q : Int, q = p0 % 4 := ⟨_, rfl⟩
    obtain ⟨s, hs⟩ : ∃ s : Int, s = 1000 + p1 := ⟨_, rfl⟩
    have y0 : p0.tmod 4 = q := by rw [Int.tmod_eq_emod_of_nonneg q0.1, hq]
    have y0' : p0 % 4 = q := hq.symm
    have y1 : IntKind.i64.wrap (1000 + p1) = s := by rw [hs]; exact IntWalk.i64_in _ (by omega)
    have y1' : 1000 + p1 = s := hs.symm
    have y2 : IntKind.i64.wrap s = s := IntWalk.i64_in _ (by omega)
    have hs0 : 1000 ≤ s := by omega
    clear hpcell e0 e1 hown CP HPL HPB CB hq hs
    obtain ⟨M, hM⟩ : ∃ M, M = putEntryR L ⟨q, s, 1, 0⟩ := ⟨_, rfl⟩
    have HLM := Lib.hid (show Lined M by rw [hM]; exact more_lined HLIN.out HSEQ.out hs0)
    have hml : M.length = L.length + 1 := by rw [hM]; exact putEntryR_length _ _
    have CPUT := Lib.hid (fun W (hW : Rd_entries W (.slice A1 L.length c1) L) => putEntry_impl (.slice A1 L.length c1) L ⟨q, s, 1, 0⟩ W hW (by unfold cost_entries; omega))
    simp only at CPUT
    rw [← hM] at CPUT
    obtain ⟨x, rr, hxr⟩ : ∃ x rr, M = x :: rr := by
      match M, hml with
      | x :: rr, _ => exact ⟨x, rr, rfl⟩
    have hrl : rr.length = L.length := by rw [hxr] at hml; simpa using hml
    have HFST := Lib.hid (show ∀ z ∈ rr, x.ahead z = true by have h := HLM.out; rw [hxr] at h; exact (List.pairwise_cons.1 h).1)
    have CTAKE := Lib.hid (fun W (v : Value) (hW : Rd_entries W v M) => takeEntry_impl v M W hW (by unfold cost_entries; omega))
    unfold GivesTake at CTAKE
    rw [show takeEntryR0 M = x by rw [hxr]; rfl, show takeEntryR1 M = rr by rw [hxr]; rfl, show takeEntryR2 M = true by rw [hxr]; rfl] at CTAKE
    have HML := Lib.hid hml
    have HRL := Lib.hid hrl
    have hml1 : M.length ≤ L.length + 1 := by omega
    have hrl1 : rr.length ≤ L.length := by omega
    have CH := Lib.hid (fun W (hW : Rd_entries W (.slice A1 L.length c1) L) => halfOf_impl (.slice A1 L.length c1) L W hW (by unfold cost_entries; omega))
    have HMG := Lib.hid (merged_halves HLIN.out (by omega) ((L.length + 1) / 2))
    obtain ⟨Ha, hHa⟩ : ∃ Ha, Ha = halfOfR0 L := ⟨_, rfl⟩
    obtain ⟨Hb, hHb⟩ : ∃ Hb, Hb = halfOfR1 L := ⟨_, rfl⟩
    have hla : Ha.length = (L.length + 1) / 2 := by rw [hHa, halfOfR0, List.length_take]; omega
    have hlb : Hb.length = L.length - (L.length + 1) / 2 := by rw [hHb, halfOfR1, List.length_drop]
    have HM1 := Lib.hid (show mergedR Ha Hb = L by rw [hHa, hHb]; exact HMG.out.1)
    have HM2 := Lib.hid (show mergedR Hb Ha = L by rw [hHa, hHb]; exact HMG.out.2)
    rw [← hHa, ← hHb] at CH
    have t1 : ((M.length : Int) == (L.length : Int) + 1) = true := beq_iff_eq.2 (by omega)
    have t2 : ((rr.length : Int) == (L.length : Int)) = true := beq_iff_eq.2 (by omega)
    have t3 : ((Ha.length : Int) + (Hb.length : Int) == (L.length : Int)) = true := beq_iff_eq.2 (by omega)
    have t4 : (0 : Int) ≤ (Ha.length : Int) - (Hb.length : Int) := by omega
    have t5 : (Ha.length : Int) - (Hb.length : Int) ≤ 1 := by omega
    have hla7 : Ha.length ≤ 7 := by omega
    have hlb7 : Hb.length ≤ 7 := by omega
    clear hM hxr hml hrl hHa hHb hla hlb HMG
    go_wp2_with fail
    refine wp_region_sched [(0, true), (1, true), (2, true), (3, true), (4, true), (5, true), (6, true), (7, true), (8, true), (9, false), (10, false)] [(true, _), (true, _), (true, _), (true, _), (true, _), (true, _), (true, _), (true, _), (true, _), (false, _), (false, _)] rfl (by kernel_rfl) (by kernel_rfl) (KeptS _ none) (KeptS.refl _ _).drew ?_
    try simp only [List.getElem_toArray, List.getElem_cons_succ, List.getElem_cons_zero]
    (refine wpS_held (by rfl) ?_ (fun W hW => ?_) ?_; rotate_left; (· (obtain ⟨kq, rfl⟩ := hW; go_simp; try with_reducible rfl)); try simp only [Act.put, List.setIfInBounds_toArray, List.set_cons_succ, List.set_cons_zero])
    (refine wpS_held (by rfl) ?_ (fun W hW => ?_) ?_; rotate_left; (· (obtain ⟨kq, rfl⟩ := hW; go_simp; try with_reducible rfl)); try simp only [Act.put, List.setIfInBounds_toArray, List.set_cons_succ, List.set_cons_zero])
    (refine wpS_held (by rfl) ?_ (fun W hW => ?_) ?_; rotate_left; (· (obtain ⟨kq, rfl⟩ := hW; go_simp; try with_reducible rfl)); try simp only [Act.put, List.setIfInBounds_toArray, List.set_cons_succ, List.set_cons_zero])
    (refine wpS_held (by rfl) ?_ (fun W hW => ?_) ?_; rotate_left; (· (obtain ⟨kq, rfl⟩ := hW; go_simp; try with_reducible rfl)); try simp only [Act.put, List.setIfInBounds_toArray, List.set_cons_succ, List.set_cons_zero])
    (refine wpS_held (by rfl) ?_ (fun W hW => ?_) ?_; rotate_left; (· (obtain ⟨kq, rfl⟩ := hW; go_simp; try with_reducible rfl)); try simp only [Act.put, List.setIfInBounds_toArray, List.set_cons_succ, List.set_cons_zero])
    (refine wpS_held (by rfl) ?_ (fun W hW => ?_) ?_; rotate_left; (· (obtain ⟨kq, rfl⟩ := hW; go_simp; try with_reducible rfl)); try simp only [Act.put, List.setIfInBounds_toArray, List.set_cons_succ, List.set_cons_zero])
    (refine wpS_held (by rfl) ?_ (fun W hW => ?_) ?_; rotate_left; (· (obtain ⟨kq, rfl⟩ := hW; go_simp; try with_reducible rfl)); try simp only [Act.put, List.setIfInBounds_toArray, List.set_cons_succ, List.set_cons_zero])
    (refine wpS_held (by rfl) ?_ (fun W hW => ?_) ?_; rotate_left; (· (obtain ⟨kq, rfl⟩ := hW; go_simp; try with_reducible rfl)); try simp only [Act.put, List.setIfInBounds_toArray, List.set_cons_succ, List.set_cons_zero])
    (refine wpS_held (by rfl) ?_ (fun W hW => ?_) ?_; rotate_left; (· (obtain ⟨kq, rfl⟩ := hW; go_simp; try with_reducible rfl)); try simp only [Act.put, List.setIfInBounds_toArray, List.set_cons_succ, List.set_cons_zero])
    (refine wpS_step (by rfl) (fun K hK => ?_); go_simp; refine hK.out _ _ ?_ ?_; (· (repeat first | exact KeptS.refl _ _ | exact KeptS.of (only_of_below (by assumption) _) | assumption | refine KeptS.drew ?_ | refine KeptS.alloc ?_ _ | refine KeptS.grown ?_ (by assumption) | refine KeptS.below ?_ (by assumption) | refine KeptS.belowAt ?_ (by assumption) | refine KeptS.setRow ?_ (by simp; done) _ | refine KeptS.setNew ?_ (by simp) _)); clear hK K; try simp only [Act.put, List.setIfInBounds_toArray, List.set_cons_succ, List.set_cons_zero])
    (refine wpS_step (by rfl) (fun K hK => ?_); go_simp; refine hK.out _ _ ?_ ?_; (· (repeat first | exact KeptS.refl _ _ | exact KeptS.of (only_of_below (by assumption) _) | assumption | refine KeptS.drew ?_ | refine KeptS.alloc ?_ _ | refine KeptS.grown ?_ (by assumption) | refine KeptS.below ?_ (by assumption) | refine KeptS.belowAt ?_ (by assumption) | refine KeptS.setRow ?_ (by simp; done) _ | refine KeptS.setNew ?_ (by simp) _)); clear hK K; try simp only [Act.put])
    refine wpS_nil ?_
    try simp only [List.getElem_toArray, List.getElem_cons_succ, List.getElem_cons_zero]
    obtain ⟨W4, hW4⟩ : ∃ W4, W4 = (w3.alloc (.cells #[.int .i64 q, .int .i64 s, .int .i64 1, .int .i64 0] 61)).drew := ⟨_, rfl⟩
    rw [← hW4]
    have h34 : Below w3.heap.size w3 W4 := by rw [hW4]; exact ((Below.refl _ _).alloc (Nat.le_refl _) _).drew
    have k4 : Blk W4 w3.heap.size 61 #[.int .i64 q, .int .i64 s, .int .i64 1, .int .i64 0] := by rw [hW4]; exact (Blk.new _ _ _).drew
    have hw4 := hw3.trans (h34.mono hw3.size)
    have R1 := Lib.hid (R1.out.below h34)
    have R2 := Lib.hid (R2.out.below h34)
    have s0 := k4.cell 0
    have s1 := k4.cell 1
    have s2 := k4.cell 2
    have s3 := k4.cell 3
    simp only [List.getElem?_toArray, List.getElem?_cons_succ, List.getElem?_cons_zero] at s0 s1 s2 s3
    have sl := k4.lt
    clear hW4 k4 G0 G1 y0 y0' y1 y1' y2
    go_wp2_with fail
    refine (CPUT.out _ R1.out).mono ?_
    rintro e w5 ⟨u5, rfl, ho5, hb5⟩
    obtain ⟨A5, c5, rfl, -, -⟩ := (OwnS.rd ho5).shape
    have R5 := Lib.hid (show Rd_entries w5 (.slice A5 M.length c5) M from OwnS.rd ho5)
    have R1 := Lib.hid (R1.out.below hb5)
    have R2 := Lib.hid (R2.out.below hb5)
    have hw5 := hw4.trans (hb5.mono hw4.size)
    clear ho5 s0 s1 s2 s3 sl CPUT
    go_wp2_with fail
    refine (CTAKE.out _ _ R5.out).mono ?_
    rintro e w6 ⟨u6, rfl, ho6, hb6⟩
    obtain ⟨A6, c6, rfl, -, -⟩ := (OwnS.rd ho6).shape
    have R6 := Lib.hid (show Rd_entries w6 (.slice A6 rr.length c6) rr from OwnS.rd ho6)
    obtain ⟨W7, hW7⟩ : ∃ W7, W7 = w6.alloc (.cells #[.int .i64 x.prio, .int .i64 x.seq, .int .i64 x.run, .int .i64 x.task] 61) := ⟨_, rfl⟩
    have h67 : Below w6.heap.size w6 W7 := by rw [hW7]; exact (Below.refl _ _).alloc (Nat.le_refl _) _
    have h57 := hb6.trans (h67.mono hb6.size)
    have KX := Lib.hid (show Blk W7 w6.heap.size 61 #[.int .i64 x.prio, .int .i64 x.seq, .int .i64 x.run, .int .i64 x.task] by rw [hW7]; exact Blk.new _ _ _)
    have R1 := Lib.hid (R1.out.below h57)
    have R2 := Lib.hid (R2.out.below h57)
    have R5 := Lib.hid (R5.out.below h57)
    have R6 := Lib.hid (R6.out.below h67)
    have hw7 := hw5.trans (h57.mono hw5.size)
    have HW7 := Lib.hid hW7
    clear ho6 hW7 CTAKE
    go_wp2_with fail
    rw [← HW7.out]
    go_loopw [11] (fun i wr => ∃ k : Nat, k ≤ rr.length ∧ i = .int .i64 k ∧ Hid (Below W7.heap.size W7 wr)) (fun i _ => rr.length - (intOf i).toNat)
    case atStart => exact ⟨0, Nat.zero_le _, rfl, Lib.hid (Below.refl _ _)⟩
    case round =>
      obtain ⟨k, hk, rfl, HB⟩ := hrel
      have hwr := hw7.trans (HB.out.mono hw7.size)
      by_cases hlt : k < rr.length
      · have R6r := R6.out.below HB.out
        obtain ⟨b1, o1, _, hv1, _, _, hl1, hc1⟩ := R6r.form (by omega) (by omega)
        have hx1 := fun f hf => (hc1 (k * 4 + f) _ ((entV_at hlt f hf).trans (List.getElem?_eq_getElem hf)))
        have hA1 : A6 = some ⟨b1, o1, none⟩ := by injection hv1
        subst hA1
        have hk0 : (0 : Int) ≤ (k : Int) := by omega
        have hk1 : (k : Int) < (rr.length : Int) := by omega
        obtain ⟨z, hz⟩ : ∃ z, z = rr[k] := ⟨_, rfl⟩
        have hxz := HFST.out z (by rw [hz]; exact List.getElem_mem hlt)
        have hzx := ahead_asymm hxz
        rw [← hz] at hx1
        have d0 : wr.cell? ⟨b1, o1 + k * 4, none⟩ = some (.int .i64 z.prio) := hx1 0 (by decide)
        have d1 : wr.cell? ⟨b1, o1 + k * 4 + 1, none⟩ = some (.int .i64 z.seq) := hx1 1 (by decide)
        have d2 : wr.cell? ⟨b1, o1 + k * 4 + 2, none⟩ = some (.int .i64 z.run) := hx1 2 (by decide)
        have d3 : wr.cell? ⟨b1, o1 + k * 4 + 3, none⟩ = some (.int .i64 z.task) := hx1 3 (by decide)
        have kx := KX.out.belowV HB.out
        have s0 := kx.cell 0
        have s1 := kx.cell 1
        have s2 := kx.cell 2
        have s3 := kx.cell 3
        simp only [List.getElem?_toArray, List.getElem?_cons_succ, List.getElem?_cons_zero] at s0 s1 s2 s3
        have sl := kx.lt
        have CA1 := Lib.hid (fun W => ahead_impl x.prio x.seq x.run x.task z.prio z.seq z.run z.task W)
        have CA2 := Lib.hid (fun W => ahead_impl z.prio z.seq z.run z.task x.prio x.seq x.run x.task W)
        rw [show aheadB x.prio x.seq z.prio z.seq = true from hxz] at CA1
        rw [show aheadB z.prio z.seq x.prio x.seq = false from hzx] at CA2
        have hnx : k + 1 ≤ rr.length := hlt
        clear hz hv1 hc1 hx1 hxz hzx kx R6r
        go_wp2_with fail
        first | refine wp_region_calm_on (by kernel_rfl) (by kernel_rfl) ?_ | refine wp_region_calm_lit (by kernel_rfl) (by kernel_rfl) ?_
        repeat (go_big_quiet_step ((go_at_call 42; first | (with_reducible exact calm_of (CA1.out _)) | (with_reducible exact calm_of (CA2.out _)) | exact calm_of (CA1.out _) | exact calm_of (CA2.out _))))
        refine wpQuiet_nil ?_
        intro _ hw'
        obtain ⟨kz, hw''⟩ := hw'
        subst hw''
        go_wp2_with fail
        go_roundw
        case rel => exact ⟨k + 1, hnx, by go_num, Lib.hid (Below.calm HB.out HB.out.size)⟩
        case measure => simp [intOf]; omega
      · have R1 := Lib.hid (R1.out.below HB.out)
        have R2 := Lib.hid (R2.out.below HB.out)
        have R5 := Lib.hid (R5.out.below HB.out)
        go_wp2_with fail
        refine (CH.out _ R1.out).mono ?_
        rintro e w8 ⟨ua, ub, mid, rfl, hoa, hob, -, hb8⟩
        obtain ⟨Aa, ca, rfl, -, -⟩ := (OwnS.rd hoa).shape
        obtain ⟨Ab, cb, rfl, -, -⟩ := (OwnS.rd hob).shape
        have RA := Lib.hid (show Rd_entries w8 (.slice Aa Ha.length ca) Ha from OwnS.rd hoa)
        have RB := Lib.hid (show Rd_entries w8 (.slice Ab Hb.length cb) Hb from OwnS.rd hob)
        have R1 := Lib.hid (R1.out.below hb8)
        have R2 := Lib.hid (R2.out.below hb8)
        have R5 := Lib.hid (R5.out.below hb8)
        have hw8 := hwr.trans (hb8.mono hwr.size)
        clear hoa hob CH
        have CO1 := Lib.hid (shelfOk_impl _ L w8 R1.out (by omega))
        rw [lined_shelfOk HLIN.out (by omega)] at CO1
        go_wp2_with fail
        refine CO1.out.mono ?_
        rintro e w9 ⟨rfl, hb9⟩
        have hw9 := hw8.trans (hb9.mono hw8.size)
        have CO2 := Lib.hid (shelfOk_impl _ M w9 (R5.out.below hb9) (by omega))
        rw [lined_shelfOk HLM.out (by omega)] at CO2
        go_wp2_with fail
        refine CO2.out.mono ?_
        rintro e w10 ⟨rfl, hb10⟩
        have hx10 := hb9.trans (hb10.mono hb9.size)
        have hw10 := hw9.trans (hb10.mono hw9.size)
        have CM1 := Lib.hid (merged_impl _ Hb _ Ha w10 (RB.out.below hx10) (RA.out.below hx10) (by unfold cost_entries; omega) (by unfold cost_entries; omega))
        rw [HM2.out] at CM1
        go_wp2_with fail
        refine CM1.out.mono ?_
        rintro e w11 ⟨u11, rfl, ho11, hb11⟩
        obtain ⟨A11, c11, rfl, -, -⟩ := (OwnS.rd ho11).shape
        have hx11 := hx10.trans (hb11.mono hx10.size)
        have hw11 := hw10.trans (hb11.mono hw10.size)
        have CS1 := Lib.hid (sameEntries_same _ _ L w11 (OwnS.rd ho11) (R2.out.below hx11))
        clear ho11
        go_wp2_with fail
        refine CS1.out.mono ?_
        rintro e w12 ⟨rfl, hb12⟩
        have hx12 := hx11.trans (hb12.mono hx11.size)
        have hw12 := hw11.trans (hb12.mono hw11.size)
        have CM2 := Lib.hid (merged_impl _ Ha _ Hb w12 (RA.out.below hx12) (RB.out.below hx12) (by unfold cost_entries; omega) (by unfold cost_entries; omega))
        rw [HM1.out] at CM2
        go_wp2_with fail
        refine CM2.out.mono ?_
        rintro e w13 ⟨u13, rfl, ho13, hb13⟩
        obtain ⟨A13, c13, rfl, -, -⟩ := (OwnS.rd ho13).shape
        have hx13 := hx12.trans (hb13.mono hx12.size)
        have hw13 := hw12.trans (hb13.mono hw12.size)
        have CS2 := Lib.hid (sameEntries_same _ _ L w13 (OwnS.rd ho13) (R2.out.below hx13))
        clear ho13
        go_wp2_with fail
        refine CS2.out.mono ?_
        rintro e w14 ⟨rfl, hb14⟩
        have hx14 := hx13.trans (hb14.mono hx13.size)
        have hw14 := hw13.trans (hb14.mono hw13.size)
        have CS3 := Lib.hid (sameEntries_same _ _ L w14 (R1.out.below hx14) (R2.out.below hx14))
        go_wp2_with fail
        refine CS3.out.mono ?_
        rintro e w15 ⟨rfl, hb15⟩
        go_wp2_with fail
        go_ret
        exact ⟨rfl, hw14.trans (hb15.mono hw14.size)⟩
  · have CB := Lib.hid (big_t w v0 code hrd (by omega))
    go_enter Try.func8, Try.ntmps8
    go_wp2_with fail
    refine CB.out.mono ?_
    rintro e w0 ⟨rfl, rfl⟩
    go_wp2_with fail
    go_ret
    exact ⟨rfl, Below.refl _ _⟩
end Go.Proofs.Ythjkmefbjbfonaa

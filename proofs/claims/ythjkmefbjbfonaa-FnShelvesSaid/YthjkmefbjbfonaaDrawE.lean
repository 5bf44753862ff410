/- Drawn shelves: the walks of the reference's draws. -/
import Derived.Test.YthjkmefbjbfonaaShelvesP
namespace Go.Proofs.Ythjkmefbjbfonaa
set_option linter.unusedSimpArgs false
set_option linter.unusedVariables false
open Go.RowKit Go.ChangeShapes Go.Deep

theorem BlkE.new' {w : World} {t : TypeId} {cs : Array Value} {g : Nat} (hg : g = w.heap.size) : Blk (w.alloc (.cells cs t)) g t cs := by subst hg; exact Blk.new _ _ _
theorem ownE_old {w : World} {base size n g : Nat} {e : TypeId} {v : Value} {xs : List Value} (h : w.ownsRow base e size v n xs) (hg : g < base) : v.ownBlock = none ∨ v.ownBlock ≠ some g :=
  .inr fun he => by have := (h.lt g he).1; omega
def DrewE (w0 : World) (B g : Nat) (v : Value) (code : List UInt8) (r : Ent × (Nat × Int)) (e : Ending) (w' : World) : Prop :=
  e = .returned (.agg #[.int .i64 r.1.prio, .int .i64 r.1.seq, .int .i64 r.1.run, .int .i64 r.1.task]) ∧ CurAt w' B g v code r.2 ∧ w0.grownBy w' (some g)
set_option maxHeartbeats 2000000 in
set_option maxRecDepth 100000 in
theorem l08Entry_any (w : World) (B g : Nat) (v : Value) (code : List UInt8) (c : Nat × Int) (h : CurAt w B g v code c) :
    Calls Try.prog 97 #[.pointer (some ⟨g, 0, none⟩)] w (DrewE w B g v code (drawEnt code c)) := by
  have hgl := h.blk.lt
  have hBg := h.base
  obtain ⟨W0, hW0⟩ : ∃ W0, W0 = w.alloc (.cells #[.int .i64 0, .int .i64 0, .int .i64 0, .int .i64 0] 61) := ⟨_, rfl⟩
  have hb0 : Below w.heap.size w W0 := by rw [hW0]; exact (Below.refl _ _).alloc (Nat.le_refl _) _
  have k0 : Blk W0 w.heap.size 61 #[.int .i64 0, .int .i64 0, .int .i64 0, .int .i64 0] := by rw [hW0]; exact Blk.new _ _ _
  have HC0 := Lib.hid (h.below hb0)
  have HG0 := Lib.hid (only_of_below hb0 (some g))
  have HK0 := Lib.hid k0
  have HW := Lib.hid hW0
  clear h hW0 k0
  have b1 := curBelow_bd code 3 c (by omega)
  obtain ⟨x1, c1, hr1⟩ : ∃ x c', curBelow code 3 c = (x, c') := ⟨_, _, rfl⟩
  have b2 := curBelow_bd code 30 c1 (by omega)
  obtain ⟨x2, c2, hr2⟩ : ∃ x c', curBelow code 30 c1 = (x, c') := ⟨_, _, rfl⟩
  have b3 := curBelow_bd code 4 c2 (by omega)
  obtain ⟨x3, c3, hr3⟩ : ∃ x c', curBelow code 4 c2 = (x, c') := ⟨_, _, rfl⟩
  have b4 := curBelow_bd code 4 c3 (by omega)
  obtain ⟨x4, c4, hr4⟩ : ∃ x c', curBelow code 4 c3 = (x, c') := ⟨_, _, rfl⟩
  have HR := Lib.hid (show drawEnt code c = (⟨x1, 1 + x2, 1 + x3, x4⟩, c4) by
    unfold drawEnt
    simp only [hr1, hr2, hr3, hr4])
  have C1 := Lib.hid (fun W (hW : CurAt W B g v code c) => by have := l01Below_any W B g v code c 3 hW (by omega); rw [hr1] at this; exact this)
  have C2 := Lib.hid (fun W (hW : CurAt W B g v code c1) => by have := l01Below_any W B g v code c1 30 hW (by omega); rw [hr2] at this; exact this)
  have C3 := Lib.hid (fun W (hW : CurAt W B g v code c2) => by have := l01Below_any W B g v code c2 4 hW (by omega); rw [hr3] at this; exact this)
  have C4 := Lib.hid (fun W (hW : CurAt W B g v code c3) => by have := l01Below_any W B g v code c3 4 hW (by omega); rw [hr4] at this; exact this)
  rw [hr1] at b1
  rw [hr2] at b2
  rw [hr3] at b3
  rw [hr4] at b4
  simp only at b1 b2 b3 b4
  clear hr1 hr2 hr3 hr4
  go_enter Try.func97, Try.ntmps97
  go_wp2_with fail
  rw [← HW.out]
  refine (C1.out _ HC0.out).mono ?_
  rintro e w1 ⟨rfl, hc1, hg1⟩
  have HC1 := Lib.hid hc1
  have HG1 := Lib.hid (only_trans HG0.out hg1)
  have HK1 := Lib.hid (HK0.out.grown hg1 (by simp; omega))
  clear hc1 hg1
  go_wp2_with fail
  refine (C2.out _ HC1.out).mono ?_
  rintro e w2 ⟨rfl, hc2, hg2⟩
  have HC2 := Lib.hid hc2
  have HG2 := Lib.hid (only_trans HG1.out hg2)
  have HK2 := Lib.hid (HK1.out.grown hg2 (by simp; omega))
  clear hc2 hg2
  go_wp2_with fail
  refine (C3.out _ HC2.out).mono ?_
  rintro e w3 ⟨rfl, hc3, hg3⟩
  have HC3 := Lib.hid hc3
  have HG3 := Lib.hid (only_trans HG2.out hg3)
  have HK3 := Lib.hid (HK2.out.grown hg3 (by simp; omega))
  clear hc3 hg3
  go_wp2_with fail
  refine (C4.out _ HC3.out).mono ?_
  rintro e w4 ⟨rfl, hc4, hg4⟩
  have HC4 := Lib.hid hc4
  have HG4 := Lib.hid (only_trans HG3.out hg4)
  have k4 := HK3.out.grown hg4 (by simp; omega)
  have r0 := k4.cell 0
  have r1 := k4.cell 1
  have r2 := k4.cell 2
  have r3 := k4.cell 3
  simp only [List.getElem?_toArray, List.getElem?_cons_succ, List.getElem?_cons_zero] at r0 r1 r2 r3
  have f0 := k4.frozen 0
  have f1 := k4.frozen 1
  have f2 := k4.frozen 2
  have f3 := k4.frozen 3
  have kl := k4.lt
  clear hc4 hg4 k4 HC1 HC2 HC3 C1 C2 C3 C4
  go_wp2_with fail
  refine bodyPost_ret (v := .agg #[.int .i64 x1, .int .i64 (1 + x2), .int .i64 (1 + x3), .int .i64 x4]) (by simp [results, Try.results97, go_sem, r0, r1, r2, r3, f0, f1, f2, f3]) rfl ?_
  rw [HR.out]
  refine ⟨rfl, ?_, ?_⟩
  · exact HC4.out.keep (row := some w.heap.size) (only_setCell (only_setCell (only_setCell (only_setCell (World.grownBy.refl w4 (some w.heap.size)) (.inl rfl) _) (.inl rfl) _) (.inl rfl) _) (.inl rfl) _) (fun j hj => by cases hj; omega) (by simp; omega)
  · exact only_setCell (only_setCell (only_setCell (only_setCell HG4.out (.inr (Nat.le_refl _)) _) (.inr (Nat.le_refl _)) _) (.inr (Nat.le_refl _)) _) (.inr (Nat.le_refl _)) _

set_option maxHeartbeats 4000000 in
set_option maxRecDepth 100000 in
theorem l08Shelf_any (w : World) (B g : Nat) (v : Value) (code : List UInt8) (c : Nat × Int) (h : CurAt w B g v code c) :
    Calls Try.prog 81 #[.pointer (some ⟨g, 0, none⟩)] w fun e w' => ∃ u, e = .returned u ∧ w'.ownsRow w.heap.size 61 4 u (shelfGo code 7 0 [] c).length (entV (shelfGo code 7 0 [] c)) ∧ w.grownBy w' (some g) := by
  have hgl := h.blk.lt
  have hgB := h.base
  have H := Lib.hid h
  obtain ⟨R, hR⟩ : ∃ R, R = shelfGo code 7 0 [] c := ⟨_, rfl⟩
  have HRR := Lib.hid hR
  rw [← hR]
  clear h hR
  go_enter Try.func81, Try.ntmps81
  go_wp2_with fail
  go_loopw [3, 4] (fun q i wr => ∃ (k : Nat) (l : List Ent) (d : Nat × Int) (A : Option Addr) (cc : Nat), q = .slice A l.length cc ∧ k ≤ 6 ∧ l.length = k ∧ i = .int .i64 k ∧ Hid (R = shelfGo code (7 - k) k l d) ∧ Hid (wr.ownsRow w.heap.size 61 4 (.slice A l.length cc) l.length (entV l)) ∧ Hid (CurAt wr B g v code d) ∧ Hid (w.grownBy wr (some g))) (fun _ i _ => 7 - (intOf i).toNat)
  case atStart => exact ⟨0, [], c, some ⟨w.heap.size, 0, none⟩, 0, rfl, by omega, rfl, rfl, HRR, Lib.hid (World.ownsRow_made _ #[] 0 (Nat.le_refl _) (by decide) rfl), Lib.hid (H.out.below ((Below.refl _ _).alloc (Nat.le_refl _) _)), Lib.hid (only_of_below ((Below.refl _ _).alloc (Nat.le_refl _) _) _)⟩
  case round =>
    obtain ⟨_, l, d, A, cc, rfl, hk, rfl, rfl, HG, HO, HC, HGW⟩ := hrel
    have hsz := HGW.out.size
    have hbd := curBelow_bd code 7 d (by omega)
    have CB := Lib.hid (l01Below_any _ _ _ _ _ _ 7 HC.out (by omega))
    obtain ⟨m, d1, hr⟩ : ∃ x c', curBelow code 7 d = (x, c') := ⟨_, _, rfl⟩
    have HR1 := Lib.hid hr
    rw [hr] at CB hbd
    simp only at hbd
    clear hr
    go_wp2_with fail
    refine CB.out.mono ?_
    rintro e w3 ⟨rfl, hc3, hg3⟩
    have HO3 := Lib.hid (own_grown HO.out hg3 (ownE_old HO.out hgl))
    have HG3 := Lib.hid (only_trans HGW.out hg3)
    have HC3 := Lib.hid hc3
    clear CB hc3 hg3 HO HGW HC
    by_cases hlt : (l.length : Int) < m
    · have CE := Lib.hid (l08Entry_any w3 B g v code d1 HC3.out)
      obtain ⟨en, d2, hre⟩ : ∃ x c', drawEnt code d1 = (x, c') := ⟨_, _, rfl⟩
      have HR2 := Lib.hid hre
      rw [hre] at CE
      have hbd9 := curBelow_bd code 9 d2 (by omega)
      obtain ⟨s, d3, hrs⟩ : ∃ x c', curBelow code 9 d2 = (x, c') := ⟨_, _, rfl⟩
      have HR3 := Lib.hid hrs
      have C9 := Lib.hid (fun W (hW : CurAt W B g v code d2) => by have := l01Below_any W B g v code d2 9 hW (by omega); rw [hrs] at this; exact this)
      rw [hrs] at hbd9
      simp only at hbd9
      have HN := Lib.hid (show R = shelfGo code (7 - (l.length + 1)) (l.length + 1) (putEntryR l ⟨en.prio, 10 * l.length + s, en.run, en.task⟩) d3 by
        rw [HG.out, show 7 - l.length = (7 - (l.length + 1)) + 1 by omega, shelfGo, HR1.out]
        dsimp only
        rw [if_pos hlt, HR2.out]
        dsimp only
        rw [HR3.out])
      have CP := Lib.hid (fun W (hW : Rd_entries W (.slice A l.length cc) l) => putEntry_spec (.slice A l.length cc) l ⟨en.prio, 10 * l.length + s, en.run, en.task⟩ W hW (by unfold cost_entries; omega))
      simp only at CP
      clear hre hrs HG HR1 HR2 HR3
      go_wp2_with fail
      refine CE.out.mono ?_
      rintro e w4 ⟨rfl, hc4, hg4⟩
      have HO4 := Lib.hid (own_grown HO3.out hg4 (ownE_old HO3.out hgl))
      have HG4 := Lib.hid (only_trans HG3.out hg4)
      have hs4 := HG4.out.size
      obtain ⟨W4, hW4⟩ : ∃ W4, W4 = w4.alloc (.cells #[.int .i64 en.prio, .int .i64 en.seq, .int .i64 en.run, .int .i64 en.task] 61) := ⟨_, rfl⟩
      have hb4 : Below w4.heap.size w4 W4 := by rw [hW4]; exact (Below.refl _ _).alloc (Nat.le_refl _) _
      have HY4 := Lib.hid (show Blk W4 w4.heap.size 61 #[.int .i64 en.prio, .int .i64 en.seq, .int .i64 en.run, .int .i64 en.task] by rw [hW4]; exact Blk.new _ _ _)
      have HO4' := Lib.hid (own_below HO4.out hb4)
      have HG4' := Lib.hid (only_trans HG4.out (only_of_below hb4 _))
      have HC4 := Lib.hid (hc4.below hb4)
      have HW4 := Lib.hid hW4
      have hx0 : (0 : Int) ≤ 10 * (l.length : Int) := by omega
      have y1 : IntKind.i64.wrap (10 * (l.length : Int)) = 10 * (l.length : Int) := IntWalk.i64_in _ (by omega)
      have y2 : IntKind.i64.wrap (10 * (l.length : Int) + s) = 10 * (l.length : Int) + s := IntWalk.i64_in _ (by omega)
      have HNE := Lib.hid (fun g' h => (HO4.out.lt g' h).2)
      clear hc4 hg4 hW4 CE HO4
      go_wp2_with fail
      rw [← HW4.out]
      refine (C9.out _ HC4.out).mono ?_
      rintro e w5 ⟨rfl, hc5, hg5⟩
      have HO5 := Lib.hid (own_grown HO4'.out hg5 (ownE_old HO4'.out hgl))
      have HG5 := Lib.hid (only_trans HG4'.out hg5)
      have HC5 := Lib.hid hc5
      have k5 := HY4.out.grown hg5 (by simp; omega)
      have s0 := k5.cell 0
      have s1 := k5.cell 1
      have s2 := k5.cell 2
      have s3 := k5.cell 3
      simp only [List.getElem?_toArray, List.getElem?_cons_succ, List.getElem?_cons_zero] at s0 s1 s2 s3
      have f1 := k5.frozen 1
      have sl := k5.lt
      have HY5 := Lib.hid k5
      clear hc5 hg5 k5 C9 HO4' HG4' HC4
      go_wp2_with fail
      obtain ⟨W6, hW6⟩ : ∃ W6, W6 = w5.setCell ⟨w4.heap.size, 1, none⟩ (.int .i64 (10 * l.length + s)) := ⟨_, rfl⟩
      rw [← hW6]
      have hgo : w5.grownBy W6 (some w4.heap.size) := by rw [hW6]; exact only_setCell (World.grownBy.refl w5 _) (.inl rfl) _
      have HC6 := Lib.hid (HC5.out.keep hgo (fun j hj => by cases hj; omega) (by simp; omega))
      have HG6 := Lib.hid (show w.grownBy W6 (some g) by rw [hW6]; exact only_setCell HG5.out (.inr hs4) _)
      have HO6 := Lib.hid (own_grown HO5.out hgo (.inr fun e => by have := HNE.out _ e; omega))
      have hs6 := HG6.out.size
      clear hW6 hgo s0 s1 s2 s3 f1 sl HY5 HO5 HG5 HC5
      refine (CP.out _ (Rd.of_own HO6.out)).mono ?_
      rintro e w7 ⟨u7, rfl, ho7, hb7⟩
      obtain ⟨A7, c7, rfl, -, -⟩ := (Rd.of_own ho7.1).shape
      have hlen := putEntryR_length l ⟨en.prio, 10 * l.length + s, en.run, en.task⟩
      have HO7 := Lib.hid (own_more ho7.1 hs6)
      have HC7 := Lib.hid (HC6.out.below hb7)
      have HG7 := Lib.hid (only_trans HG6.out (only_of_below hb7 _))
      obtain ⟨L', hL'⟩ : ∃ L', L' = putEntryR l ⟨en.prio, 10 * l.length + s, en.run, en.task⟩ := ⟨_, rfl⟩
      rw [← hL'] at hlen HO7 HN ⊢
      have HLEN := Lib.hid hlen
      clear hL' hlen ho7 hb7 CP
      go_wp2_with fail
      go_roundw
      case rel =>
        have hl := HLEN.out
        exact ⟨l.length + 1, L', d3, A7, c7, rfl, by omega, hl, by go_num, HN, HO7, HC7, HG7⟩
      case measure => simp [intOf]; omega
    · have HN := Lib.hid (show R = l by rw [HG.out, show 7 - l.length = (6 - l.length) + 1 by omega, shelfGo, HR1.out]; dsimp only; rw [if_neg hlt])
      clear HG HR1
      go_wp2_with fail
      go_ret
      exact ⟨_, rfl, by rw [HN.out]; exact HO3.out, HG3.out⟩
set_option maxHeartbeats 1000000 in
set_option maxRecDepth 100000 in
theorem drawShelf_any (w : World) (v : Value) (code : List UInt8) (h : Rd w 1 v code.length (bytesV code)) (hn : code.length ≤ 1048576) :
    Calls Try.prog 39 #[v] w (MadeRow w 61 4 (shelfDrawn code).length (entV (shelfDrawn code))) := by
  have CN := Lib.hid (l01New_any w v code h hn)
  go_enter Try.func39, Try.ntmps39
  go_wp2_with fail
  refine CN.out.mono ?_
  rintro e w1 ⟨g, rfl, hc1, hb1⟩
  have hgl := hc1.blk.lt
  have hgB := hc1.base
  go_wp2_with fail
  refine (l08Shelf_any w1 w.heap.size g v code _ hc1).mono ?_
  rintro e w2 ⟨u, rfl, ho, hg2⟩
  have hb2 : Below w.heap.size w w2 := hb1.grown hg2 hb1.size (by intro k hk; injection hk with hk; omega)
  go_wp2_with fail
  go_ret
  exact ⟨u, rfl, own_more ho hb1.size, hb2⟩
end Go.Proofs.Ythjkmefbjbfonaa

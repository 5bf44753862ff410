/- A drawn plan: what l06Plan draws. -/
import Derived.Test.YtbbjkldkjndfaaaPlansP
import Derived.Test.YtbbjkldkjndfaaaGC
import Derived.Test.YtbbjkldkjndfaaaFaultS
import Derived.Test.YtbbjkldkjndfaaaCopyP
namespace Go.Proofs.Ytbbjkldkjndfaaa
set_option linter.unusedSimpArgs false
open Go.RowKit Go.ChangeShapes Go.Deep

/-- One draw, its value named. -/
theorem below_at {B g : Nat} {v : Value} {code : List UInt8} {n : Int} {c c' : Nat × Int} {x : Int} (e : curBelow code n c = (x, c')) (hn : n ≤ 1000000000000) (W : World) (h : CurAt W B g v code c) :
    Calls Try.prog 98 #[.pointer (some ⟨g, 0, none⟩), .int .i64 n] W (Drew W B g v code (x, c')) := by
  rw [← e]
  exact l01Below_any W B g v code c n h hn
def DrewB (w0 : World) (B g : Nat) (v : Value) (code : List UInt8) (b : Bool) (c : Nat × Int) (e : Ending) (w' : World) : Prop := e = .returned (.bool b) ∧ CurAt w' B g v code c ∧ w0.grownBy w' (some g)
set_option maxRecDepth 100000 in
theorem once_at {B g : Nat} {v : Value} {code : List UInt8} {n : Int} {c c' : Nat × Int} {x : Int} (e : curBelow code n c = (x, c')) (hn : n ≤ 1000000000000) (b : Bool) (hb : b = decide (x = 0)) (W : World) (h : CurAt W B g v code c) :
    Calls Try.prog 99 #[.pointer (some ⟨g, 0, none⟩), .int .i64 n] W (DrewB W B g v code b c') := by
  have C := Lib.hid (below_at e hn W h)
  by_cases h0 : x = 0
  · have HB := Lib.hid (show b = true by rw [hb, decide_eq_true h0])
    have t0 : (x == 0) = true := by simp [h0]
    clear hb h0 h e
    go_enter Try.func99, Try.ntmps99
    go_wp2_with (go_at_call 98; refine C.out.mono ?_; rintro e w1 ⟨rfl, hc1, hg1⟩; have HC1 := Lib.hid hc1; clear hc1)
    go_ret
    exact ⟨by rw [HB.out]; rfl, HC1.out, hg1⟩
  · have HB := Lib.hid (show b = false by rw [hb, decide_eq_false h0])
    have t0 : (x == 0) = false := by simp [h0]
    clear hb h0 h e
    go_enter Try.func99, Try.ntmps99
    go_wp2_with (go_at_call 98; refine C.out.mono ?_; rintro e w1 ⟨rfl, hc1, hg1⟩; have HC1 := Lib.hid hc1; clear hc1)
    go_ret
    exact ⟨by rw [HB.out]; rfl, HC1.out, hg1⟩

/-- What a draw of a plan leaves. -/
def DrewP (w0 : World) (B g : Nat) (v : Value) (code : List UInt8) (x : Pln) (c : Nat × Int) (e : Ending) (w' : World) : Prop :=
  ∃ u, e = .returned (.agg #[.int .i64 x.prio, .int .i64 x.most, .int .i64 x.wait, .int .i64 x.tasks, u]) ∧ Own_plan w' w0.heap.size w'.heap.size u x ∧ CurAt w' B g v code c ∧ w0.grownBy w' (some g)
theorem Own_edgs_hid {w : World} {base n : Nat} {v : Value} {xs : List Value} (h : w.ownsRow base 39 2 v n xs) : ∀ k, v.ownBlock = some k → base ≤ k := fun k hk => (h.lt k hk).1

set_option maxHeartbeats 16000000 in
set_option maxRecDepth 100000 in
theorem l06Plan_any (w : World) (B g : Nat) (v : Value) (code : List UInt8) (c : Nat × Int) (h : CurAt w B g v code c) :
    Calls Try.prog 58 #[.pointer (some ⟨g, 0, none⟩)] w (DrewP w B g v code (planDrawn code c).1 (planDrawn code c).2) := by
  have hgl := h.blk.lt
  have hBg := h.base
  obtain ⟨i0, hii, iz0, iz1, iz2⟩ := info_parts Try.infoEdg
  obtain ⟨x1, c1, e1⟩ : ∃ x c', curBelow code 4 c = (x, c') := ⟨_, _, rfl⟩
  have b1 := curBelow_bd code 4 c (by omega)
  obtain ⟨x2, c2, e2⟩ : ∃ x c', curBelow code 3 c1 = (x, c') := ⟨_, _, rfl⟩
  have b2 := curBelow_bd code 3 c1 (by omega)
  obtain ⟨x3, c3, e3⟩ : ∃ x c', curBelow code 4 c2 = (x, c') := ⟨_, _, rfl⟩
  have b3 := curBelow_bd code 4 c2 (by omega)
  obtain ⟨x4, c4, e4⟩ : ∃ x c', curBelow code 6 c3 = (x, c') := ⟨_, _, rfl⟩
  have b4 := curBelow_bd code 6 c3 (by omega)
  obtain ⟨x5, c5, e5⟩ : ∃ x c', curBelow code 10 c4 = (x, c') := ⟨_, _, rfl⟩
  rw [e1] at b1
  rw [e2] at b2
  rw [e3] at b3
  rw [e4] at b4
  simp only at b1 b2 b3 b4
  have HP := Lib.hid (show planDrawn code c = planOf code x1 (1 + x2) (1 + x3) (if x5 = 0 then 12 else 1 + x4) c5 by
    unfold planDrawn
    rw [e1]; dsimp only
    rw [e2]; dsimp only
    rw [e3]; dsimp only
    rw [e4]; dsimp only
    rw [e5])
  have C1 := Lib.hid (below_at (B := B) (g := g) (v := v) e1 (by omega))
  have C2 := Lib.hid (below_at (B := B) (g := g) (v := v) e2 (by omega))
  have C3 := Lib.hid (below_at (B := B) (g := g) (v := v) e3 (by omega))
  have C4 := Lib.hid (below_at (B := B) (g := g) (v := v) e4 (by omega))
  have HC := Lib.hid h
  clear h e1 e2 e3 e4
  by_cases h5 : x5 = 0
  · rw [if_pos h5] at HP
    have CO := Lib.hid (once_at (B := B) (g := g) (v := v) e5 (by omega) true (by simp [h5]))
    clear h5 e5
    go_enter Try.func58, Try.ntmps58
    go_wp2_with fail
    refine (C1.out _ (HC.out.below ((Below.refl _ _).alloc (Nat.le_refl _) _))).mono ?_
    rintro e w1 ⟨rfl, hc1, hg1⟩
    have HR1 := Lib.hid ((Blk.new w 26 #[.int .i64 0, .int .i64 0, .int .i64 0, .int .i64 0, .slice none 0 0]).grown hg1 (by simp; omega))
    have HGW1 := Lib.hid (show w.grownBy w1 (some g) from only_trans (only_of_below ((Below.refl _ _).alloc (Nat.le_refl _) _) _) hg1)
    have HC1 := Lib.hid hc1
    clear hc1 hg1
    go_wp2_with fail
    refine (C2.out _ HC1.out).mono ?_
    rintro e w2 ⟨rfl, hc2, hg2⟩
    have HR2 := Lib.hid (HR1.out.grown hg2 (by simp; omega))
    have HGW2 := Lib.hid (only_trans HGW1.out hg2)
    have HC2 := Lib.hid hc2
    clear hc2 hg2
    go_wp2_with fail
    refine (C3.out _ HC2.out).mono ?_
    rintro e w3 ⟨rfl, hc3, hg3⟩
    have HR3 := Lib.hid (HR2.out.grown hg3 (by simp; omega))
    have HGW3 := Lib.hid (only_trans HGW2.out hg3)
    have HC3 := Lib.hid hc3
    clear hc3 hg3
    go_wp2_with fail
    refine (C4.out _ HC3.out).mono ?_
    rintro e w4 ⟨rfl, hc4, hg4⟩
    have HR4 := Lib.hid (HR3.out.grown hg4 (by simp; omega))
    have HGW4 := Lib.hid (only_trans HGW3.out hg4)
    have HC4 := Lib.hid hc4
    clear hc4 hg4
    have hr4 := HR4.out.lt
    go_wp2_with fail
    have ha4 : Below w4.heap.size w4 (w4.alloc (.cells #[.int .i64 x1, .int .i64 (1 + x2), .int .i64 (1 + x3), .int .i64 (1 + x4), .slice none 0 0] 26)) := (Below.refl _ _).alloc (Nat.le_refl _) _
    refine (CO.out _ (HC4.out.below ha4)).mono ?_
    rintro e w5 ⟨rfl, hc5, hg5⟩
    obtain ⟨bp, hbp⟩ : ∃ bp, bp = w4.heap.size := ⟨_, rfl⟩
    have HBP5 := Lib.hid (show Blk w5 bp 26 #[.int .i64 x1, .int .i64 (1 + x2), .int .i64 (1 + x3), .int .i64 (1 + x4), .slice none 0 0] by rw [hbp]; exact (Blk.new w4 26 _).grown hg5 (by simp; omega))
    have HR5 := Lib.hid ((HR4.out.belowV ha4).grown hg5 (by simp; omega))
    have HGW5 := Lib.hid (only_trans (only_trans HGW4.out (only_of_below ha4 (some g))) hg5)
    have HC5 := Lib.hid hc5
    have hrb : w.heap.size < bp := by omega
    have HBPQ := Lib.hid hbp
    clear hc5 hg5 ha4 hbp hr4
    have p3 := HBP5.out.cell 3
    have pf3 := HBP5.out.frozen 3
    have pl := HBP5.out.lt
    simp only [List.getElem?_toArray, List.getElem?_cons_succ, List.getElem?_cons_zero] at p3
    rw [HBPQ.out] at p3 pf3 pl
    go_wp2_with fail
    clear p3 pf3 pl
    have HBP6 := Lib.hid (show Blk (w5.setCell ⟨w4.heap.size, 3, none⟩ (.int .i64 12)) bp 26 #[.int .i64 x1, .int .i64 (1 + x2), .int .i64 (1 + x3), .int .i64 12, .slice none 0 0] by rw [← HBPQ.out]; have q := Blk.set_ HBP5.out 3 (.int .i64 12); simpa using q)
    have P6 : Part bp (bp + 1) w5 (w5.setCell ⟨w4.heap.size, 3, none⟩ (.int .i64 12)) := by rw [← HBPQ.out]; exact (Part.refl bp (bp + 1) w5).setCell (p := ⟨bp, 3, none⟩) ⟨Nat.le_refl _, by simp⟩ _
    obtain ⟨w6, hw6⟩ : ∃ W, W = w5.setCell ⟨w4.heap.size, 3, none⟩ (.int .i64 12) := ⟨_, rfl⟩
    rw [← hw6] at HBP6 P6 ⊢
    have HR6 := Lib.hid (HR5.out.keepV P6 (.inl hrb))
    have HC6 := Lib.hid (show CurAt w6 B g v code c5 from ⟨HC5.out.blk.keepV P6 (.inl (by omega)), HC5.out.rd.below (Part.to_below (Below.refl B w5) P6 (by omega) HC5.out.le), HC5.out.at_, HC5.out.len, HC5.out.base⟩)
    have HGW6 := Lib.hid (show w.grownBy w6 (some g) from ⟨P6.os.trans HGW5.out.os, P6.tape.trans HGW5.out.tape, P6.output.trans HGW5.out.output, Nat.le_trans HGW5.out.size P6.size, fun i hi hn => (P6.block i (Nat.lt_of_lt_of_le hi HGW5.out.size) (.inl (by omega))).trans (HGW5.out.block i hi hn)⟩)
    clear hw6 P6 HBP5 HR5 HC5 HGW5
    rw [← HBPQ.out]
    have hbs6 := HBP6.out.lt
    go_loopw [4] (fun u4 wr => ∃ (k : Nat) (E : List Edg) (d : Nat × Int) (u : Value), k ≤ 8 ∧ u4 = .int .i64 k ∧ Hid (planGo code 12 9 0 [] c5 = planGo code 12 (9 - k) k E d) ∧ E.length ≤ k ∧ Hid (Blk wr bp 26 #[.int .i64 x1, .int .i64 (1 + x2), .int .i64 (1 + x3), .int .i64 12, u]) ∧ Hid (wr.ownsRow (bp + 1) 39 2 u E.length (edgV E)) ∧ Hid (CurAt wr B g v code d) ∧ Hid (Blk wr w.heap.size 26 #[.int .i64 0, .int .i64 0, .int .i64 0, .int .i64 0, .slice none 0 0]) ∧ Hid (w.grownBy wr (some g))) (fun u4 _ => 9 - (intOf u4).toNat)
    case atStart => exact ⟨0, [], c5, _, by omega, rfl, Lib.hid rfl, Nat.le_refl _, HBP6, Lib.hid ⟨by simp [edgV], .inl ⟨rfl, rfl⟩⟩, HC6, HR6, HGW6⟩
    case round =>
      clear HBP6 HR6 HC6 HGW6 hbs6
      obtain ⟨k, E, d, u, hk, rfl, HG, hEk, HBP, HO, HC, HR, HGW⟩ := hrel
      obtain ⟨m, d1, em⟩ : ∃ x c', curBelow code 9 d = (x, c') := ⟨_, _, rfl⟩
      have hm := curBelow_bd code 9 d (by omega)
      rw [em] at hm
      simp only at hm
      have D1 := Lib.hid (below_at (B := B) (g := g) (v := v) em (by omega))
      obtain ⟨A, cc, rfl, hnc, hcm⟩ := (Rd.of_own HO.out).shape
      unfold maxLen at hcm
      have EM := Lib.hid em
      go_wp2_with fail
      refine (D1.out _ HC.out).mono ?_
      rintro e w1 ⟨rfl, hc1, hg1⟩
      have HC1 := Lib.hid hc1
      have HBP1 := Lib.hid (HBP.out.grown hg1 (by simp; omega))
      have HR1 := Lib.hid (HR.out.grown hg1 (by simp; omega))
      have HO1 := Lib.hid (own_grown HO.out hg1 (.inr fun he => by have := Own_edgs_hid HO.out _ he; omega))
      have HGW1 := Lib.hid (only_trans HGW.out hg1)
      have hz1 := hg1.size
      clear hc1
      clear hg1 HBP HO HC HR HGW D1 em
      have p0 := HBP1.out.cell 0
      have p1 := HBP1.out.cell 1
      have p2 := HBP1.out.cell 2
      have p3 := HBP1.out.cell 3
      have p4 := HBP1.out.cell 4
      simp only [List.getElem?_toArray, List.getElem?_cons_succ, List.getElem?_cons_zero] at p0 p1 p2 p3 p4
      have pl := HBP1.out.lt
      by_cases hkm : (k : Int) < m
      rotate_left
      · have HNO := Lib.hid (show ¬ ((k : Int) < m ∧ (1 : Int) < 12) from fun h => hkm h.1)
        have em := EM.out
        have HE := Lib.hid (show planGo code (12) 9 0 [] c5 = (E, d1) by rw [HG.out, show 9 - k = (8 - k) + 1 by omega, planGo, if_neg (by rw [em]; exact fun h => HNO.out h), em])
        clear HG
        have r0 := HR1.out.cell 0
        have r1 := HR1.out.cell 1
        have r2 := HR1.out.cell 2
        have r3 := HR1.out.cell 3
        have r4 := HR1.out.cell 4
        have rl := HR1.out.lt
        simp only [List.getElem?_toArray, List.getElem?_cons_succ, List.getElem?_cons_zero] at r0 r1 r2 r3 r4
        have rf0 := HR1.out.frozen 0
        have rf1 := HR1.out.frozen 1
        have rf2 := HR1.out.frozen 2
        have rf3 := HR1.out.frozen 3
        have rf4 := HR1.out.frozen 4
        go_wp2_with fail
        clear p0 p1 p2 p3 p4 pl r0 r1 r2 r3 r4 rl rf0 rf1 rf2 rf3 rf4
        obtain ⟨W9, hW9⟩ : ∃ W, W = (((((w1.setCell ⟨w.heap.size, 0, none⟩ (.int .i64 x1)).setCell ⟨w.heap.size, 1, none⟩ (.int .i64 (1 + x2))).setCell ⟨w.heap.size, 2, none⟩ (.int .i64 (1 + x3))).setCell ⟨w.heap.size, 3, none⟩ (.int .i64 12)).setCell ⟨w.heap.size, 4, none⟩ (.slice A E.length cc)) := ⟨_, rfl⟩
        rw [← hW9]
        have kW9 : Blk W9 w.heap.size 26 #[.int .i64 x1, .int .i64 (1 + x2), .int .i64 (1 + x3), .int .i64 12, .slice A E.length cc] := by rw [hW9]; have q := (Blk.set_ (Blk.set_ (Blk.set_ (Blk.set_ (Blk.set_ HR1.out 0 (.int .i64 x1)) 1 (.int .i64 (1 + x2))) 2 (.int .i64 (1 + x3))) 3 (.int .i64 12)) 4 (.slice A E.length cc)); simpa using q
        have pW9 : Part (w.heap.size) (w.heap.size + 1) w1 W9 := by rw [hW9]; exact (Part.setCell (Part.setCell (Part.setCell (Part.setCell (Part.setCell (Part.refl (w.heap.size) (w.heap.size + 1) w1) (p := ⟨w.heap.size, 0, none⟩) ⟨by simp, by simp⟩ (.int .i64 x1)) (p := ⟨w.heap.size, 1, none⟩) ⟨by simp, by simp⟩ (.int .i64 (1 + x2))) (p := ⟨w.heap.size, 2, none⟩) ⟨by simp, by simp⟩ (.int .i64 (1 + x3))) (p := ⟨w.heap.size, 3, none⟩) ⟨by simp, by simp⟩ (.int .i64 12)) (p := ⟨w.heap.size, 4, none⟩) ⟨by simp, by simp⟩ (.slice A E.length cc))
        have e0 := kW9.cell 0
        have e1 := kW9.cell 1
        have e2 := kW9.cell 2
        have e3 := kW9.cell 3
        have e4 := kW9.cell 4
        simp only [List.getElem?_toArray, List.getElem?_cons_succ, List.getElem?_cons_zero] at e0 e1 e2 e3 e4
        refine bodyPost_ret (v := .agg #[.int .i64 x1, .int .i64 (1 + x2), .int .i64 (1 + x3), .int .i64 12, .slice A E.length cc]) (by simp [results, Try.results58, go_sem, e0, e1, e2, e3, e4]) rfl ?_
        rw [HP.out]
        show DrewP w B g v code (planOf code x1 (1 + x2) (1 + x3) (12) c5).1 (planOf code x1 (1 + x2) (1 + x3) (12) c5).2 _ _
        rw [planOf, HE.out]
        have hz9 := pW9.size
        have hbl := HBP1.out.lt
        refine ⟨_, rfl, ?_, ?_, ?_⟩
        · exact OwnS.mono (OwnS.keep (OwnS.of_own HO1.out) pW9 (.inr (by omega))) (by omega) hz9 (Nat.le_refl _)
        · exact ⟨HC1.out.blk.keepV pW9 (.inl hgl), (HC1.out.rd.below (Part.to_below (Below.refl B w1) pW9 (by omega) HC1.out.le)), HC1.out.at_, HC1.out.len, HC1.out.base⟩
        · exact ⟨pW9.os.trans HGW1.out.os, pW9.tape.trans HGW1.out.tape, pW9.output.trans HGW1.out.output, Nat.le_trans HGW1.out.size pW9.size, fun i hi hn => (pW9.block i (Nat.lt_of_lt_of_le hi HGW1.out.size) (.inl hi)).trans (HGW1.out.block i hi hn)⟩
      obtain ⟨t, d2, e2⟩ : ∃ x c', curBelow code (12 - 1) d1 = (x, c') := ⟨_, _, rfl⟩
      have b5 := curBelow_bd code (12 - 1) d1 (by omega)
      rw [e2] at b5
      simp only at b5
      obtain ⟨s, d3, e3⟩ : ∃ x c', curBelow code (1 + t) d2 = (x, c') := ⟨_, _, rfl⟩
      have b6 := curBelow_bd code (1 + t) d2 (by omega)
      rw [e3] at b6
      simp only at b6
      have D2 := Lib.hid (below_at (B := B) (g := g) (v := v) e2 (by omega))
      have D3 := Lib.hid (below_at (B := B) (g := g) (v := v) e3 (by omega))
      have HNE := Lib.hid (show newEdge code 12 d1 = (⟨s, 1 + t⟩, d3) by unfold newEdge; rw [e2]; dsimp only; rw [e3])
      have HS := Lib.hid (show planGo code 12 9 0 [] c5 = planGo code 12 (9 - (k + 1)) (k + 1) (if hasB E ⟨s, 1 + t⟩ = true then E else E ++ [⟨s, 1 + t⟩]) d3 by
        rw [HG.out, show 9 - k = (9 - (k + 1)) + 1 by omega, planGo, if_pos (by rw [EM.out]; exact ⟨hkm, by omega⟩), EM.out]
        dsimp only
        rw [HNE.out])
      clear HG e2 e3 EM
      go_wp2_with fail
      try simp only [show (12 : Int) - 1 = 11 from rfl] at D2 b5
      refine (D2.out _ HC1.out).mono ?_
      rintro e w2 ⟨rfl, hc2, hg2⟩
      have HC2 := Lib.hid hc2
      have HBP2 := Lib.hid (HBP1.out.grown hg2 (by simp; omega))
      have HR2 := Lib.hid (HR1.out.grown hg2 (by simp; omega))
      have HO2 := Lib.hid (own_grown HO1.out hg2 (.inr fun he => by have := Own_edgs_hid HO1.out _ he; omega))
      have HGW2 := Lib.hid (only_trans HGW1.out hg2)
      have hz2 := hg2.size
      clear hc2
      clear hg2 HBP1 HO1 HC1 HR1 HGW1 D2 p0 p1 p2 p3 p4 pl
      go_wp2_with fail
      refine (D3.out _ HC2.out).mono ?_
      rintro e w3 ⟨rfl, hc3, hg3⟩
      have HC3 := Lib.hid hc3
      have HBP3 := Lib.hid (HBP2.out.grown hg3 (by simp; omega))
      have HR3 := Lib.hid (HR2.out.grown hg3 (by simp; omega))
      have HO3 := Lib.hid (own_grown HO2.out hg3 (.inr fun he => by have := Own_edgs_hid HO2.out _ he; omega))
      have HGW3 := Lib.hid (only_trans HGW2.out hg3)
      have hz3 := hg3.size
      clear hc3
      clear hg3 HBP2 HO2 HC2 HR2 HGW2 D3
      have ha : Below w3.heap.size w3 (w3.alloc (.cells #[.int .i64 s, .int .i64 (1 + t)] 39)) := (Below.refl _ _).alloc (Nat.le_refl _) _
      have HE4 := Lib.hid (Blk.new w3 39 #[.int .i64 s, .int .i64 (1 + t)])
      have HBP4 := Lib.hid (HBP3.out.belowV ha)
      have HR4 := Lib.hid (HR3.out.belowV ha)
      have HC4 := Lib.hid (HC3.out.below ha)
      have HO4 := Lib.hid (HO3.out.alloc (.cells #[.int .i64 s, .int .i64 (1 + t)] 39))
      have HGW4 := Lib.hid (only_trans HGW3.out (only_of_below ha (some g)))
      clear ha HBP3 HR3 HC3 HO3 HGW3
      have p0 := HBP4.out.cell 0
      have p1 := HBP4.out.cell 1
      have p2 := HBP4.out.cell 2
      have p3 := HBP4.out.cell 3
      have p4 := HBP4.out.cell 4
      simp only [List.getElem?_toArray, List.getElem?_cons_succ, List.getElem?_cons_zero] at p0 p1 p2 p3 p4
      have pl := HBP4.out.lt
      go_wp2_with fail
      obtain ⟨be, hbe⟩ : ∃ be, be = w3.heap.size := ⟨_, rfl⟩
      have HBE := Lib.hid hbe
      obtain ⟨WI, hWI⟩ : ∃ W, W = w3.alloc (.cells #[.int .i64 s, .int .i64 (1 + t)] 39) := ⟨_, rfl⟩
      rw [← hbe] at HE4
      rw [← hWI] at HE4 HBP4 HR4 HC4 HO4 HGW4 ⊢
      rw [← hbe]
      clear hbe hWI p0 p1 p2 p3 p4 pl
      go_loopw [7, 8] (fun u7 u8 wr => ∃ j : Nat, j ≤ E.length ∧ u8 = .int .i64 j ∧ u7 = .bool (hasB (E.take j) ⟨s, 1 + t⟩) ∧ Hid (Below WI.heap.size WI wr)) (fun _ u8 _ => E.length - (intOf u8).toNat)
      case atStart => exact ⟨0, Nat.zero_le _, rfl, rfl, Lib.hid (Below.refl _ _)⟩
      case round =>
        obtain ⟨j, hj, rfl, rfl, HB⟩ := hrel
        have kp := HBP4.out.belowV HB.out
        have ke := HE4.out.belowV HB.out
        have p4 := kp.cell 4
        have s0 := ke.cell 0
        have s1 := ke.cell 1
        simp only [List.getElem?_toArray, List.getElem?_cons_succ, List.getElem?_cons_zero] at p4 s0 s1
        have pl := kp.lt
        have sl := ke.lt
        by_cases hltj : j < E.length
        · obtain ⟨b1', o1, _, hv1, _, _, hl1, hc1⟩ := (Rd.of_own HO4.out).form (by omega) (by omega)
          have hA1 : A = some ⟨b1', o1, none⟩ := by injection hv1
          subst hA1
          obtain ⟨z, hz⟩ : ∃ z, z = E[j] := ⟨_, rfl⟩
          obtain ⟨q0, q1⟩ := edg_cells HB.out hl1 hc1 hltj z hz
          have hlb : b1' < wr.heap.size := Nat.lt_of_lt_of_le hl1 HB.out.size
          have HT := Lib.hid (show hasB (E.take (j + 1)) ⟨s, 1 + t⟩ = (hasB (E.take j) ⟨s, 1 + t⟩ || ((⟨s, 1 + t⟩ : Edg) == z)) by rw [hasB_take_succ hltj, hz])
          have hj0 : (0 : Int) ≤ (j : Int) := by omega
          have hj1 : (j : Int) < (E.length : Int) := by omega
          obtain ⟨zs, zd⟩ := z
          simp only at q0 q1
          clear hv1 hc1 kp ke hz
          cases hbb : hasB (E.take j) ⟨s, 1 + t⟩ with
          | true =>
            rw [hbb, Bool.true_or] at HT
            clear hbb
            go_wp2
            first | refine wp_region_calm_on (by kernel_rfl) (by kernel_rfl) ?_ | refine wp_region_calm_lit (by kernel_rfl) (by kernel_rfl) ?_
            repeat (go_big_quiet_step (fail))
            refine wpQuiet_nil ?_
            intro _ hw'
            obtain ⟨k1, hw''⟩ := hw'
            subst hw''
            go_wp2
            go_roundw
            case rel => exact ⟨j + 1, by omega, by go_num, by rw [HT.out], Lib.hid (Below.calm HB.out HB.out.size)⟩
            case measure => simp [intOf]; omega
          | false =>
            rw [hbb, Bool.false_or] at HT
            clear hbb
            by_cases hs : zs = s
            · by_cases hd : zd = 1 + t
              · have HT2 := Lib.hid (show hasB (E.take (j + 1)) ⟨s, 1 + t⟩ = true by rw [HT.out, hs, hd]; simp)
                have t0 : (zs == s) = true := by simp [hs]
                have t1 : (zd == 1 + t) = true := by simp [hd]
                clear hs hd HT
                go_wp2
                first | refine wp_region_calm_on (by kernel_rfl) (by kernel_rfl) ?_ | refine wp_region_calm_lit (by kernel_rfl) (by kernel_rfl) ?_
                repeat (go_big_quiet_step (fail))
                refine wpQuiet_nil ?_
                intro _ hw'
                obtain ⟨k1, hw''⟩ := hw'
                subst hw''
                go_wp2
                go_roundw
                case rel => exact ⟨j + 1, by omega, by go_num, by rw [HT2.out], Lib.hid (Below.calm HB.out HB.out.size)⟩
                case measure => simp [intOf]; omega
              · have HT2 := Lib.hid (show hasB (E.take (j + 1)) ⟨s, 1 + t⟩ = false by rw [HT.out]; simp; exact fun _ e => hd e.symm)
                have t0 : (zs == s) = true := by simp [hs]
                have t1 : (zd == 1 + t) = false := by simp [hd]
                clear hs hd HT
                go_wp2
                first | refine wp_region_calm_on (by kernel_rfl) (by kernel_rfl) ?_ | refine wp_region_calm_lit (by kernel_rfl) (by kernel_rfl) ?_
                repeat (go_big_quiet_step (fail))
                refine wpQuiet_nil ?_
                intro _ hw'
                obtain ⟨k1, hw''⟩ := hw'
                subst hw''
                go_wp2
                go_roundw
                case rel => exact ⟨j + 1, by omega, by go_num, by rw [HT2.out], Lib.hid (Below.calm HB.out HB.out.size)⟩
                case measure => simp [intOf]; omega
            · have HT2 := Lib.hid (show hasB (E.take (j + 1)) ⟨s, 1 + t⟩ = false by rw [HT.out]; simp; exact fun e => absurd e.symm hs)
              have t0 : (zs == s) = false := by simp [hs]
              clear hs HT
              go_wp2
              first | refine wp_region_calm_on (by kernel_rfl) (by kernel_rfl) ?_ | refine wp_region_calm_lit (by kernel_rfl) (by kernel_rfl) ?_
              repeat (go_big_quiet_step (fail))
              refine wpQuiet_nil ?_
              intro _ hw'
              obtain ⟨k1, hw''⟩ := hw'
              subst hw''
              go_wp2
              go_roundw
              case rel => exact ⟨j + 1, by omega, by go_num, by rw [HT2.out], Lib.hid (Below.calm HB.out HB.out.size)⟩
              case measure => simp [intOf]; omega
        · obtain rfl : j = E.length := by omega
          rw [List.take_length]
          have HBP5 := Lib.hid (HBP4.out.belowV HB.out)
          have HE5 := Lib.hid (HE4.out.belowV HB.out)
          have HR5 := Lib.hid (HR4.out.belowV HB.out)
          have HC5 := Lib.hid (HC4.out.below HB.out)
          have HO5 := Lib.hid (own_grown HO4.out (only_of_below HB.out (some g)) (.inr fun he => by have := Own_edgs_hid HO4.out _ he; omega))
          have HGW5 := Lib.hid (only_trans HGW4.out (only_of_below HB.out (some g)))
          clear kp ke
          cases hbb : hasB E ⟨s, 1 + t⟩ with
          | true =>
            rw [hbb, if_pos rfl] at HS
            clear hbb
            go_wp2
            go_roundw
            case rel => exact ⟨k + 1, E, d3, _, by omega, by go_num, HS, by omega, HBP5, HO5, HC5, HR5, HGW5⟩
            case measure => simp [intOf]; omega
          | false =>
            rw [hbb, if_neg (by simp)] at HS
            clear hbb
            have pf4 := HBP5.out.frozen 4
            have hown5 := HO5.out
            have hbb5 : bp + 1 ≤ wr.heap.size := HBP5.out.lt
            go_wp2_with (at_builtin; refine wpList_append_new (w0 := wr) rfl _ _ _ rfl (bp + 1) _ i0 _ 2 16 Try.underlying24 hii iz0 iz1 iz2 rfl (by decide) (.slice A E.length cc) E.length _ rfl hown5 (Below.refl _ _) hbb5 _ 1 1 rfl rfl (fun x hx => edgV_one [⟨s, 1 + t⟩] x hx) ⟨by omega, by omega⟩ ?_; intro v6 w6 hown6 hb6 hg6 hat6; obtain ⟨A6, c6, rfl, -, -⟩ := (Rd.of_own hown6).shape; have HG6 := Lib.hid hg6; have HO6 := Lib.hid hown6; have kb6 := Lib.hid ((HBP5.out.alloc (.cells #[.int .i64 s, .int .i64 (1 + t)] 39)).grown hg6 (fun he => by have := Own_edgs_hid HO5.out _ he.symm; omega)); clear p4 pl pf4; have p4 := kb6.out.cell 4; have pl := kb6.out.lt; have pf4 := kb6.out.frozen 4; simp only [List.getElem?_toArray, List.getElem?_cons_succ, List.getElem?_cons_zero] at p4; clear hg6 hown6 hb6 hat6)
            clear p4 pl pf4 s0 s1 sl hown5
            have hng : ∀ he : some g = (Value.slice A E.length cc).ownBlock, False := fun he => by have := Own_edgs_hid HO5.out _ he.symm; omega
            have hnr : ∀ he : some w.heap.size = (Value.slice A E.length cc).ownBlock, False := fun he => by have := Own_edgs_hid HO5.out _ he.symm; omega
            have HC6 := (HC5.out.below ((Below.refl _ _).alloc (Nat.le_refl _) (.cells #[.int .i64 s, .int .i64 (1 + t)] 39))).keep HG6.out (fun j hj => by have := Own_edgs_hid HO5.out j hj; omega) hng
            have HR6 := (HR5.out.alloc (.cells #[.int .i64 s, .int .i64 (1 + t)] 39)).grown HG6.out hnr
            obtain ⟨W7, hW7⟩ : ∃ W, W = w6.setCell ⟨bp, 4, none⟩ (.slice A6 (E.length + 1) c6) := ⟨_, rfl⟩
            have P7 : Part bp (bp + 1) w6 W7 := by rw [hW7]; exact (Part.refl bp (bp + 1) w6).setCell (p := ⟨bp, 4, none⟩) ⟨Nat.le_refl _, by simp⟩ _
            have HB7 := Lib.hid (show Blk W7 bp 26 #[.int .i64 x1, .int .i64 (1 + x2), .int .i64 (1 + x3), .int .i64 12, .slice A6 (E.length + 1) c6] by rw [hW7]; have q := Blk.set_ kb6.out 4 (.slice A6 (E.length + 1) c6); simpa using q)
            have HO7 := OwnS.keep (OwnS.of_own HO6.out) P7 (.inr (Nat.le_refl _))
            have hlow : w.grownBy w6 (some g) := ⟨HG6.out.os.trans HGW5.out.os, HG6.out.tape.trans HGW5.out.tape, HG6.out.output.trans HGW5.out.output, by have h1 := HG6.out.size; have h2 := HGW5.out.size; simp at h1; omega, fun i hi hn => (HG6.out.block i (by have h2 := HGW5.out.size; simp; omega) (fun he => by have := Own_edgs_hid HO5.out i he.symm; omega)).trans ((Below.heap_alloc wr _ i (by have h2 := HGW5.out.size; omega)).trans (HGW5.out.block i hi hn))⟩
            rw [← hW7]
            clear hW7
            go_roundw
            case rel =>
              refine ⟨k + 1, E ++ [⟨s, 1 + t⟩], d3, _, by omega, by go_num, HS, by rw [List.length_append, List.length_singleton]; omega, HB7, Lib.hid ?_, Lib.hid ⟨HC6.blk.keepV P7 (.inl (by omega)), HC6.rd.below (Part.to_below (Below.refl B w6) P7 (by omega) HC6.le), HC6.at_, HC6.len, HC6.base⟩, Lib.hid (HR6.keepV P7 (.inl hrb)), Lib.hid ⟨P7.os.trans hlow.os, P7.tape.trans hlow.tape, P7.output.trans hlow.output, Nat.le_trans hlow.size P7.size, fun i hi hn => (P7.block i (Nat.lt_of_lt_of_le hi hlow.size) (.inl (by omega))).trans (hlow.block i hi hn)⟩⟩
              rw [List.length_append, List.length_singleton, edgV_append]
              exact HO7.1
            case measure => simp [intOf]; omega
  · rw [if_neg h5] at HP
    have CO := Lib.hid (once_at (B := B) (g := g) (v := v) e5 (by omega) false (by simp [h5]))
    clear h5 e5
    go_enter Try.func58, Try.ntmps58
    go_wp2_with fail
    refine (C1.out _ (HC.out.below ((Below.refl _ _).alloc (Nat.le_refl _) _))).mono ?_
    rintro e w1 ⟨rfl, hc1, hg1⟩
    have HR1 := Lib.hid ((Blk.new w 26 #[.int .i64 0, .int .i64 0, .int .i64 0, .int .i64 0, .slice none 0 0]).grown hg1 (by simp; omega))
    have HGW1 := Lib.hid (show w.grownBy w1 (some g) from only_trans (only_of_below ((Below.refl _ _).alloc (Nat.le_refl _) _) _) hg1)
    have HC1 := Lib.hid hc1
    clear hc1 hg1
    go_wp2_with fail
    refine (C2.out _ HC1.out).mono ?_
    rintro e w2 ⟨rfl, hc2, hg2⟩
    have HR2 := Lib.hid (HR1.out.grown hg2 (by simp; omega))
    have HGW2 := Lib.hid (only_trans HGW1.out hg2)
    have HC2 := Lib.hid hc2
    clear hc2 hg2
    go_wp2_with fail
    refine (C3.out _ HC2.out).mono ?_
    rintro e w3 ⟨rfl, hc3, hg3⟩
    have HR3 := Lib.hid (HR2.out.grown hg3 (by simp; omega))
    have HGW3 := Lib.hid (only_trans HGW2.out hg3)
    have HC3 := Lib.hid hc3
    clear hc3 hg3
    go_wp2_with fail
    refine (C4.out _ HC3.out).mono ?_
    rintro e w4 ⟨rfl, hc4, hg4⟩
    have HR4 := Lib.hid (HR3.out.grown hg4 (by simp; omega))
    have HGW4 := Lib.hid (only_trans HGW3.out hg4)
    have HC4 := Lib.hid hc4
    clear hc4 hg4
    have hr4 := HR4.out.lt
    go_wp2_with fail
    have ha4 : Below w4.heap.size w4 (w4.alloc (.cells #[.int .i64 x1, .int .i64 (1 + x2), .int .i64 (1 + x3), .int .i64 (1 + x4), .slice none 0 0] 26)) := (Below.refl _ _).alloc (Nat.le_refl _) _
    refine (CO.out _ (HC4.out.below ha4)).mono ?_
    rintro e w5 ⟨rfl, hc5, hg5⟩
    obtain ⟨bp, hbp⟩ : ∃ bp, bp = w4.heap.size := ⟨_, rfl⟩
    have HBP5 := Lib.hid (show Blk w5 bp 26 #[.int .i64 x1, .int .i64 (1 + x2), .int .i64 (1 + x3), .int .i64 (1 + x4), .slice none 0 0] by rw [hbp]; exact (Blk.new w4 26 _).grown hg5 (by simp; omega))
    have HR5 := Lib.hid ((HR4.out.belowV ha4).grown hg5 (by simp; omega))
    have HGW5 := Lib.hid (only_trans (only_trans HGW4.out (only_of_below ha4 (some g))) hg5)
    have HC5 := Lib.hid hc5
    have hrb : w.heap.size < bp := by omega
    have HBPQ := Lib.hid hbp
    clear hc5 hg5 ha4 hbp hr4
    go_wp2_with fail
    have HBP6 := HBP5
    have HR6 := HR5
    have HC6 := HC5
    have HGW6 := HGW5
    clear HBP5 HR5 HC5 HGW5
    rw [← HBPQ.out]
    have hbs6 := HBP6.out.lt
    go_loopw [4] (fun u4 wr => ∃ (k : Nat) (E : List Edg) (d : Nat × Int) (u : Value), k ≤ 8 ∧ u4 = .int .i64 k ∧ Hid (planGo code (1 + x4) 9 0 [] c5 = planGo code (1 + x4) (9 - k) k E d) ∧ E.length ≤ k ∧ Hid (Blk wr bp 26 #[.int .i64 x1, .int .i64 (1 + x2), .int .i64 (1 + x3), .int .i64 (1 + x4), u]) ∧ Hid (wr.ownsRow (bp + 1) 39 2 u E.length (edgV E)) ∧ Hid (CurAt wr B g v code d) ∧ Hid (Blk wr w.heap.size 26 #[.int .i64 0, .int .i64 0, .int .i64 0, .int .i64 0, .slice none 0 0]) ∧ Hid (w.grownBy wr (some g))) (fun u4 _ => 9 - (intOf u4).toNat)
    case atStart => exact ⟨0, [], c5, _, by omega, rfl, Lib.hid rfl, Nat.le_refl _, HBP6, Lib.hid ⟨by simp [edgV], .inl ⟨rfl, rfl⟩⟩, HC6, HR6, HGW6⟩
    case round =>
      clear HBP6 HR6 HC6 HGW6 hbs6
      obtain ⟨k, E, d, u, hk, rfl, HG, hEk, HBP, HO, HC, HR, HGW⟩ := hrel
      obtain ⟨m, d1, em⟩ : ∃ x c', curBelow code 9 d = (x, c') := ⟨_, _, rfl⟩
      have hm := curBelow_bd code 9 d (by omega)
      rw [em] at hm
      simp only at hm
      have D1 := Lib.hid (below_at (B := B) (g := g) (v := v) em (by omega))
      obtain ⟨A, cc, rfl, hnc, hcm⟩ := (Rd.of_own HO.out).shape
      unfold maxLen at hcm
      have EM := Lib.hid em
      go_wp2_with fail
      refine (D1.out _ HC.out).mono ?_
      rintro e w1 ⟨rfl, hc1, hg1⟩
      have HC1 := Lib.hid hc1
      have HBP1 := Lib.hid (HBP.out.grown hg1 (by simp; omega))
      have HR1 := Lib.hid (HR.out.grown hg1 (by simp; omega))
      have HO1 := Lib.hid (own_grown HO.out hg1 (.inr fun he => by have := Own_edgs_hid HO.out _ he; omega))
      have HGW1 := Lib.hid (only_trans HGW.out hg1)
      have hz1 := hg1.size
      clear hc1
      clear hg1 HBP HO HC HR HGW D1 em
      have p0 := HBP1.out.cell 0
      have p1 := HBP1.out.cell 1
      have p2 := HBP1.out.cell 2
      have p3 := HBP1.out.cell 3
      have p4 := HBP1.out.cell 4
      simp only [List.getElem?_toArray, List.getElem?_cons_succ, List.getElem?_cons_zero] at p0 p1 p2 p3 p4
      have pl := HBP1.out.lt
      by_cases hkm : (k : Int) < m
      rotate_left
      · have HNO := Lib.hid (show ¬ ((k : Int) < m ∧ (1 : Int) < (1 + x4)) from fun h => hkm h.1)
        have em := EM.out
        have HE := Lib.hid (show planGo code ((1 + x4)) 9 0 [] c5 = (E, d1) by rw [HG.out, show 9 - k = (8 - k) + 1 by omega, planGo, if_neg (by rw [em]; exact fun h => HNO.out h), em])
        clear HG
        have r0 := HR1.out.cell 0
        have r1 := HR1.out.cell 1
        have r2 := HR1.out.cell 2
        have r3 := HR1.out.cell 3
        have r4 := HR1.out.cell 4
        have rl := HR1.out.lt
        simp only [List.getElem?_toArray, List.getElem?_cons_succ, List.getElem?_cons_zero] at r0 r1 r2 r3 r4
        have rf0 := HR1.out.frozen 0
        have rf1 := HR1.out.frozen 1
        have rf2 := HR1.out.frozen 2
        have rf3 := HR1.out.frozen 3
        have rf4 := HR1.out.frozen 4
        go_wp2_with fail
        clear p0 p1 p2 p3 p4 pl r0 r1 r2 r3 r4 rl rf0 rf1 rf2 rf3 rf4
        obtain ⟨W9, hW9⟩ : ∃ W, W = (((((w1.setCell ⟨w.heap.size, 0, none⟩ (.int .i64 x1)).setCell ⟨w.heap.size, 1, none⟩ (.int .i64 (1 + x2))).setCell ⟨w.heap.size, 2, none⟩ (.int .i64 (1 + x3))).setCell ⟨w.heap.size, 3, none⟩ (.int .i64 (1 + x4))).setCell ⟨w.heap.size, 4, none⟩ (.slice A E.length cc)) := ⟨_, rfl⟩
        rw [← hW9]
        have kW9 : Blk W9 w.heap.size 26 #[.int .i64 x1, .int .i64 (1 + x2), .int .i64 (1 + x3), .int .i64 (1 + x4), .slice A E.length cc] := by rw [hW9]; have q := (Blk.set_ (Blk.set_ (Blk.set_ (Blk.set_ (Blk.set_ HR1.out 0 (.int .i64 x1)) 1 (.int .i64 (1 + x2))) 2 (.int .i64 (1 + x3))) 3 (.int .i64 (1 + x4))) 4 (.slice A E.length cc)); simpa using q
        have pW9 : Part (w.heap.size) (w.heap.size + 1) w1 W9 := by rw [hW9]; exact (Part.setCell (Part.setCell (Part.setCell (Part.setCell (Part.setCell (Part.refl (w.heap.size) (w.heap.size + 1) w1) (p := ⟨w.heap.size, 0, none⟩) ⟨by simp, by simp⟩ (.int .i64 x1)) (p := ⟨w.heap.size, 1, none⟩) ⟨by simp, by simp⟩ (.int .i64 (1 + x2))) (p := ⟨w.heap.size, 2, none⟩) ⟨by simp, by simp⟩ (.int .i64 (1 + x3))) (p := ⟨w.heap.size, 3, none⟩) ⟨by simp, by simp⟩ (.int .i64 (1 + x4))) (p := ⟨w.heap.size, 4, none⟩) ⟨by simp, by simp⟩ (.slice A E.length cc))
        have e0 := kW9.cell 0
        have e1 := kW9.cell 1
        have e2 := kW9.cell 2
        have e3 := kW9.cell 3
        have e4 := kW9.cell 4
        simp only [List.getElem?_toArray, List.getElem?_cons_succ, List.getElem?_cons_zero] at e0 e1 e2 e3 e4
        refine bodyPost_ret (v := .agg #[.int .i64 x1, .int .i64 (1 + x2), .int .i64 (1 + x3), .int .i64 (1 + x4), .slice A E.length cc]) (by simp [results, Try.results58, go_sem, e0, e1, e2, e3, e4]) rfl ?_
        rw [HP.out]
        show DrewP w B g v code (planOf code x1 (1 + x2) (1 + x3) ((1 + x4)) c5).1 (planOf code x1 (1 + x2) (1 + x3) ((1 + x4)) c5).2 _ _
        rw [planOf, HE.out]
        have hz9 := pW9.size
        have hbl := HBP1.out.lt
        refine ⟨_, rfl, ?_, ?_, ?_⟩
        · exact OwnS.mono (OwnS.keep (OwnS.of_own HO1.out) pW9 (.inr (by omega))) (by omega) hz9 (Nat.le_refl _)
        · exact ⟨HC1.out.blk.keepV pW9 (.inl hgl), (HC1.out.rd.below (Part.to_below (Below.refl B w1) pW9 (by omega) HC1.out.le)), HC1.out.at_, HC1.out.len, HC1.out.base⟩
        · exact ⟨pW9.os.trans HGW1.out.os, pW9.tape.trans HGW1.out.tape, pW9.output.trans HGW1.out.output, Nat.le_trans HGW1.out.size pW9.size, fun i hi hn => (pW9.block i (Nat.lt_of_lt_of_le hi HGW1.out.size) (.inl hi)).trans (HGW1.out.block i hi hn)⟩
      by_cases hn1 : 1 < 1 + x4
      rotate_left
      · have HNO := Lib.hid (show ¬ ((k : Int) < m ∧ 1 < (1 + x4)) from fun h => hn1 h.2)
        have em := EM.out
        have HE := Lib.hid (show planGo code ((1 + x4)) 9 0 [] c5 = (E, d1) by rw [HG.out, show 9 - k = (8 - k) + 1 by omega, planGo, if_neg (by rw [em]; exact fun h => HNO.out h), em])
        clear HG
        have r0 := HR1.out.cell 0
        have r1 := HR1.out.cell 1
        have r2 := HR1.out.cell 2
        have r3 := HR1.out.cell 3
        have r4 := HR1.out.cell 4
        have rl := HR1.out.lt
        simp only [List.getElem?_toArray, List.getElem?_cons_succ, List.getElem?_cons_zero] at r0 r1 r2 r3 r4
        have rf0 := HR1.out.frozen 0
        have rf1 := HR1.out.frozen 1
        have rf2 := HR1.out.frozen 2
        have rf3 := HR1.out.frozen 3
        have rf4 := HR1.out.frozen 4
        go_wp2_with fail
        clear p0 p1 p2 p3 p4 pl r0 r1 r2 r3 r4 rl rf0 rf1 rf2 rf3 rf4
        obtain ⟨W9, hW9⟩ : ∃ W, W = (((((w1.setCell ⟨w.heap.size, 0, none⟩ (.int .i64 x1)).setCell ⟨w.heap.size, 1, none⟩ (.int .i64 (1 + x2))).setCell ⟨w.heap.size, 2, none⟩ (.int .i64 (1 + x3))).setCell ⟨w.heap.size, 3, none⟩ (.int .i64 (1 + x4))).setCell ⟨w.heap.size, 4, none⟩ (.slice A E.length cc)) := ⟨_, rfl⟩
        rw [← hW9]
        have kW9 : Blk W9 w.heap.size 26 #[.int .i64 x1, .int .i64 (1 + x2), .int .i64 (1 + x3), .int .i64 (1 + x4), .slice A E.length cc] := by rw [hW9]; have q := (Blk.set_ (Blk.set_ (Blk.set_ (Blk.set_ (Blk.set_ HR1.out 0 (.int .i64 x1)) 1 (.int .i64 (1 + x2))) 2 (.int .i64 (1 + x3))) 3 (.int .i64 (1 + x4))) 4 (.slice A E.length cc)); simpa using q
        have pW9 : Part (w.heap.size) (w.heap.size + 1) w1 W9 := by rw [hW9]; exact (Part.setCell (Part.setCell (Part.setCell (Part.setCell (Part.setCell (Part.refl (w.heap.size) (w.heap.size + 1) w1) (p := ⟨w.heap.size, 0, none⟩) ⟨by simp, by simp⟩ (.int .i64 x1)) (p := ⟨w.heap.size, 1, none⟩) ⟨by simp, by simp⟩ (.int .i64 (1 + x2))) (p := ⟨w.heap.size, 2, none⟩) ⟨by simp, by simp⟩ (.int .i64 (1 + x3))) (p := ⟨w.heap.size, 3, none⟩) ⟨by simp, by simp⟩ (.int .i64 (1 + x4))) (p := ⟨w.heap.size, 4, none⟩) ⟨by simp, by simp⟩ (.slice A E.length cc))
        have e0 := kW9.cell 0
        have e1 := kW9.cell 1
        have e2 := kW9.cell 2
        have e3 := kW9.cell 3
        have e4 := kW9.cell 4
        simp only [List.getElem?_toArray, List.getElem?_cons_succ, List.getElem?_cons_zero] at e0 e1 e2 e3 e4
        refine bodyPost_ret (v := .agg #[.int .i64 x1, .int .i64 (1 + x2), .int .i64 (1 + x3), .int .i64 (1 + x4), .slice A E.length cc]) (by simp [results, Try.results58, go_sem, e0, e1, e2, e3, e4]) rfl ?_
        rw [HP.out]
        show DrewP w B g v code (planOf code x1 (1 + x2) (1 + x3) ((1 + x4)) c5).1 (planOf code x1 (1 + x2) (1 + x3) ((1 + x4)) c5).2 _ _
        rw [planOf, HE.out]
        have hz9 := pW9.size
        have hbl := HBP1.out.lt
        refine ⟨_, rfl, ?_, ?_, ?_⟩
        · exact OwnS.mono (OwnS.keep (OwnS.of_own HO1.out) pW9 (.inr (by omega))) (by omega) hz9 (Nat.le_refl _)
        · exact ⟨HC1.out.blk.keepV pW9 (.inl hgl), (HC1.out.rd.below (Part.to_below (Below.refl B w1) pW9 (by omega) HC1.out.le)), HC1.out.at_, HC1.out.len, HC1.out.base⟩
        · exact ⟨pW9.os.trans HGW1.out.os, pW9.tape.trans HGW1.out.tape, pW9.output.trans HGW1.out.output, Nat.le_trans HGW1.out.size pW9.size, fun i hi hn => (pW9.block i (Nat.lt_of_lt_of_le hi HGW1.out.size) (.inl hi)).trans (HGW1.out.block i hi hn)⟩
      obtain ⟨t, d2, e2⟩ : ∃ x c', curBelow code ((1 + x4) - 1) d1 = (x, c') := ⟨_, _, rfl⟩
      have b5 := curBelow_bd code ((1 + x4) - 1) d1 (by omega)
      rw [e2] at b5
      simp only at b5
      obtain ⟨s, d3, e3⟩ : ∃ x c', curBelow code (1 + t) d2 = (x, c') := ⟨_, _, rfl⟩
      have b6 := curBelow_bd code (1 + t) d2 (by omega)
      rw [e3] at b6
      simp only at b6
      have D2 := Lib.hid (below_at (B := B) (g := g) (v := v) e2 (by omega))
      have D3 := Lib.hid (below_at (B := B) (g := g) (v := v) e3 (by omega))
      have HNE := Lib.hid (show newEdge code (1 + x4) d1 = (⟨s, 1 + t⟩, d3) by unfold newEdge; rw [e2]; dsimp only; rw [e3])
      have HS := Lib.hid (show planGo code (1 + x4) 9 0 [] c5 = planGo code (1 + x4) (9 - (k + 1)) (k + 1) (if hasB E ⟨s, 1 + t⟩ = true then E else E ++ [⟨s, 1 + t⟩]) d3 by
        rw [HG.out, show 9 - k = (9 - (k + 1)) + 1 by omega, planGo, if_pos (by rw [EM.out]; exact ⟨hkm, by omega⟩), EM.out]
        dsimp only
        rw [HNE.out])
      clear HG e2 e3 EM
      go_wp2_with fail
      refine (D2.out _ HC1.out).mono ?_
      rintro e w2 ⟨rfl, hc2, hg2⟩
      have HC2 := Lib.hid hc2
      have HBP2 := Lib.hid (HBP1.out.grown hg2 (by simp; omega))
      have HR2 := Lib.hid (HR1.out.grown hg2 (by simp; omega))
      have HO2 := Lib.hid (own_grown HO1.out hg2 (.inr fun he => by have := Own_edgs_hid HO1.out _ he; omega))
      have HGW2 := Lib.hid (only_trans HGW1.out hg2)
      have hz2 := hg2.size
      clear hc2
      clear hg2 HBP1 HO1 HC1 HR1 HGW1 D2 p0 p1 p2 p3 p4 pl
      go_wp2_with fail
      refine (D3.out _ HC2.out).mono ?_
      rintro e w3 ⟨rfl, hc3, hg3⟩
      have HC3 := Lib.hid hc3
      have HBP3 := Lib.hid (HBP2.out.grown hg3 (by simp; omega))
      have HR3 := Lib.hid (HR2.out.grown hg3 (by simp; omega))
      have HO3 := Lib.hid (own_grown HO2.out hg3 (.inr fun he => by have := Own_edgs_hid HO2.out _ he; omega))
      have HGW3 := Lib.hid (only_trans HGW2.out hg3)
      have hz3 := hg3.size
      clear hc3
      clear hg3 HBP2 HO2 HC2 HR2 HGW2 D3
      have ha : Below w3.heap.size w3 (w3.alloc (.cells #[.int .i64 s, .int .i64 (1 + t)] 39)) := (Below.refl _ _).alloc (Nat.le_refl _) _
      have HE4 := Lib.hid (Blk.new w3 39 #[.int .i64 s, .int .i64 (1 + t)])
      have HBP4 := Lib.hid (HBP3.out.belowV ha)
      have HR4 := Lib.hid (HR3.out.belowV ha)
      have HC4 := Lib.hid (HC3.out.below ha)
      have HO4 := Lib.hid (HO3.out.alloc (.cells #[.int .i64 s, .int .i64 (1 + t)] 39))
      have HGW4 := Lib.hid (only_trans HGW3.out (only_of_below ha (some g)))
      clear ha HBP3 HR3 HC3 HO3 HGW3
      have p0 := HBP4.out.cell 0
      have p1 := HBP4.out.cell 1
      have p2 := HBP4.out.cell 2
      have p3 := HBP4.out.cell 3
      have p4 := HBP4.out.cell 4
      simp only [List.getElem?_toArray, List.getElem?_cons_succ, List.getElem?_cons_zero] at p0 p1 p2 p3 p4
      have pl := HBP4.out.lt
      go_wp2_with fail
      obtain ⟨be, hbe⟩ : ∃ be, be = w3.heap.size := ⟨_, rfl⟩
      have HBE := Lib.hid hbe
      obtain ⟨WI, hWI⟩ : ∃ W, W = w3.alloc (.cells #[.int .i64 s, .int .i64 (1 + t)] 39) := ⟨_, rfl⟩
      rw [← hbe] at HE4
      rw [← hWI] at HE4 HBP4 HR4 HC4 HO4 HGW4 ⊢
      rw [← hbe]
      clear hbe hWI p0 p1 p2 p3 p4 pl
      go_loopw [7, 8] (fun u7 u8 wr => ∃ j : Nat, j ≤ E.length ∧ u8 = .int .i64 j ∧ u7 = .bool (hasB (E.take j) ⟨s, 1 + t⟩) ∧ Hid (Below WI.heap.size WI wr)) (fun _ u8 _ => E.length - (intOf u8).toNat)
      case atStart => exact ⟨0, Nat.zero_le _, rfl, rfl, Lib.hid (Below.refl _ _)⟩
      case round =>
        obtain ⟨j, hj, rfl, rfl, HB⟩ := hrel
        have kp := HBP4.out.belowV HB.out
        have ke := HE4.out.belowV HB.out
        have p4 := kp.cell 4
        have s0 := ke.cell 0
        have s1 := ke.cell 1
        simp only [List.getElem?_toArray, List.getElem?_cons_succ, List.getElem?_cons_zero] at p4 s0 s1
        have pl := kp.lt
        have sl := ke.lt
        by_cases hltj : j < E.length
        · obtain ⟨b1', o1, _, hv1, _, _, hl1, hc1⟩ := (Rd.of_own HO4.out).form (by omega) (by omega)
          have hA1 : A = some ⟨b1', o1, none⟩ := by injection hv1
          subst hA1
          obtain ⟨z, hz⟩ : ∃ z, z = E[j] := ⟨_, rfl⟩
          obtain ⟨q0, q1⟩ := edg_cells HB.out hl1 hc1 hltj z hz
          have hlb : b1' < wr.heap.size := Nat.lt_of_lt_of_le hl1 HB.out.size
          have HT := Lib.hid (show hasB (E.take (j + 1)) ⟨s, 1 + t⟩ = (hasB (E.take j) ⟨s, 1 + t⟩ || ((⟨s, 1 + t⟩ : Edg) == z)) by rw [hasB_take_succ hltj, hz])
          have hj0 : (0 : Int) ≤ (j : Int) := by omega
          have hj1 : (j : Int) < (E.length : Int) := by omega
          obtain ⟨zs, zd⟩ := z
          simp only at q0 q1
          clear hv1 hc1 kp ke hz
          cases hbb : hasB (E.take j) ⟨s, 1 + t⟩ with
          | true =>
            rw [hbb, Bool.true_or] at HT
            clear hbb
            go_wp2
            first | refine wp_region_calm_on (by kernel_rfl) (by kernel_rfl) ?_ | refine wp_region_calm_lit (by kernel_rfl) (by kernel_rfl) ?_
            repeat (go_big_quiet_step (fail))
            refine wpQuiet_nil ?_
            intro _ hw'
            obtain ⟨k1, hw''⟩ := hw'
            subst hw''
            go_wp2
            go_roundw
            case rel => exact ⟨j + 1, by omega, by go_num, by rw [HT.out], Lib.hid (Below.calm HB.out HB.out.size)⟩
            case measure => simp [intOf]; omega
          | false =>
            rw [hbb, Bool.false_or] at HT
            clear hbb
            by_cases hs : zs = s
            · by_cases hd : zd = 1 + t
              · have HT2 := Lib.hid (show hasB (E.take (j + 1)) ⟨s, 1 + t⟩ = true by rw [HT.out, hs, hd]; simp)
                have t0 : (zs == s) = true := by simp [hs]
                have t1 : (zd == 1 + t) = true := by simp [hd]
                clear hs hd HT
                go_wp2
                first | refine wp_region_calm_on (by kernel_rfl) (by kernel_rfl) ?_ | refine wp_region_calm_lit (by kernel_rfl) (by kernel_rfl) ?_
                repeat (go_big_quiet_step (fail))
                refine wpQuiet_nil ?_
                intro _ hw'
                obtain ⟨k1, hw''⟩ := hw'
                subst hw''
                go_wp2
                go_roundw
                case rel => exact ⟨j + 1, by omega, by go_num, by rw [HT2.out], Lib.hid (Below.calm HB.out HB.out.size)⟩
                case measure => simp [intOf]; omega
              · have HT2 := Lib.hid (show hasB (E.take (j + 1)) ⟨s, 1 + t⟩ = false by rw [HT.out]; simp; exact fun _ e => hd e.symm)
                have t0 : (zs == s) = true := by simp [hs]
                have t1 : (zd == 1 + t) = false := by simp [hd]
                clear hs hd HT
                go_wp2
                first | refine wp_region_calm_on (by kernel_rfl) (by kernel_rfl) ?_ | refine wp_region_calm_lit (by kernel_rfl) (by kernel_rfl) ?_
                repeat (go_big_quiet_step (fail))
                refine wpQuiet_nil ?_
                intro _ hw'
                obtain ⟨k1, hw''⟩ := hw'
                subst hw''
                go_wp2
                go_roundw
                case rel => exact ⟨j + 1, by omega, by go_num, by rw [HT2.out], Lib.hid (Below.calm HB.out HB.out.size)⟩
                case measure => simp [intOf]; omega
            · have HT2 := Lib.hid (show hasB (E.take (j + 1)) ⟨s, 1 + t⟩ = false by rw [HT.out]; simp; exact fun e => absurd e.symm hs)
              have t0 : (zs == s) = false := by simp [hs]
              clear hs HT
              go_wp2
              first | refine wp_region_calm_on (by kernel_rfl) (by kernel_rfl) ?_ | refine wp_region_calm_lit (by kernel_rfl) (by kernel_rfl) ?_
              repeat (go_big_quiet_step (fail))
              refine wpQuiet_nil ?_
              intro _ hw'
              obtain ⟨k1, hw''⟩ := hw'
              subst hw''
              go_wp2
              go_roundw
              case rel => exact ⟨j + 1, by omega, by go_num, by rw [HT2.out], Lib.hid (Below.calm HB.out HB.out.size)⟩
              case measure => simp [intOf]; omega
        · obtain rfl : j = E.length := by omega
          rw [List.take_length]
          have HBP5 := Lib.hid (HBP4.out.belowV HB.out)
          have HE5 := Lib.hid (HE4.out.belowV HB.out)
          have HR5 := Lib.hid (HR4.out.belowV HB.out)
          have HC5 := Lib.hid (HC4.out.below HB.out)
          have HO5 := Lib.hid (own_grown HO4.out (only_of_below HB.out (some g)) (.inr fun he => by have := Own_edgs_hid HO4.out _ he; omega))
          have HGW5 := Lib.hid (only_trans HGW4.out (only_of_below HB.out (some g)))
          clear kp ke
          cases hbb : hasB E ⟨s, 1 + t⟩ with
          | true =>
            rw [hbb, if_pos rfl] at HS
            clear hbb
            go_wp2
            go_roundw
            case rel => exact ⟨k + 1, E, d3, _, by omega, by go_num, HS, by omega, HBP5, HO5, HC5, HR5, HGW5⟩
            case measure => simp [intOf]; omega
          | false =>
            rw [hbb, if_neg (by simp)] at HS
            clear hbb
            have pf4 := HBP5.out.frozen 4
            have hown5 := HO5.out
            have hbb5 : bp + 1 ≤ wr.heap.size := HBP5.out.lt
            go_wp2_with (at_builtin; refine wpList_append_new (w0 := wr) rfl _ _ _ rfl (bp + 1) _ i0 _ 2 16 Try.underlying24 hii iz0 iz1 iz2 rfl (by decide) (.slice A E.length cc) E.length _ rfl hown5 (Below.refl _ _) hbb5 _ 1 1 rfl rfl (fun x hx => edgV_one [⟨s, 1 + t⟩] x hx) ⟨by omega, by omega⟩ ?_; intro v6 w6 hown6 hb6 hg6 hat6; obtain ⟨A6, c6, rfl, -, -⟩ := (Rd.of_own hown6).shape; have HG6 := Lib.hid hg6; have HO6 := Lib.hid hown6; have kb6 := Lib.hid ((HBP5.out.alloc (.cells #[.int .i64 s, .int .i64 (1 + t)] 39)).grown hg6 (fun he => by have := Own_edgs_hid HO5.out _ he.symm; omega)); clear p4 pl pf4; have p4 := kb6.out.cell 4; have pl := kb6.out.lt; have pf4 := kb6.out.frozen 4; simp only [List.getElem?_toArray, List.getElem?_cons_succ, List.getElem?_cons_zero] at p4; clear hg6 hown6 hb6 hat6)
            clear p4 pl pf4 s0 s1 sl hown5
            have hng : ∀ he : some g = (Value.slice A E.length cc).ownBlock, False := fun he => by have := Own_edgs_hid HO5.out _ he.symm; omega
            have hnr : ∀ he : some w.heap.size = (Value.slice A E.length cc).ownBlock, False := fun he => by have := Own_edgs_hid HO5.out _ he.symm; omega
            have HC6 := (HC5.out.below ((Below.refl _ _).alloc (Nat.le_refl _) (.cells #[.int .i64 s, .int .i64 (1 + t)] 39))).keep HG6.out (fun j hj => by have := Own_edgs_hid HO5.out j hj; omega) hng
            have HR6 := (HR5.out.alloc (.cells #[.int .i64 s, .int .i64 (1 + t)] 39)).grown HG6.out hnr
            obtain ⟨W7, hW7⟩ : ∃ W, W = w6.setCell ⟨bp, 4, none⟩ (.slice A6 (E.length + 1) c6) := ⟨_, rfl⟩
            have P7 : Part bp (bp + 1) w6 W7 := by rw [hW7]; exact (Part.refl bp (bp + 1) w6).setCell (p := ⟨bp, 4, none⟩) ⟨Nat.le_refl _, by simp⟩ _
            have HB7 := Lib.hid (show Blk W7 bp 26 #[.int .i64 x1, .int .i64 (1 + x2), .int .i64 (1 + x3), .int .i64 (1 + x4), .slice A6 (E.length + 1) c6] by rw [hW7]; have q := Blk.set_ kb6.out 4 (.slice A6 (E.length + 1) c6); simpa using q)
            have HO7 := OwnS.keep (OwnS.of_own HO6.out) P7 (.inr (Nat.le_refl _))
            have hlow : w.grownBy w6 (some g) := ⟨HG6.out.os.trans HGW5.out.os, HG6.out.tape.trans HGW5.out.tape, HG6.out.output.trans HGW5.out.output, by have h1 := HG6.out.size; have h2 := HGW5.out.size; simp at h1; omega, fun i hi hn => (HG6.out.block i (by have h2 := HGW5.out.size; simp; omega) (fun he => by have := Own_edgs_hid HO5.out i he.symm; omega)).trans ((Below.heap_alloc wr _ i (by have h2 := HGW5.out.size; omega)).trans (HGW5.out.block i hi hn))⟩
            rw [← hW7]
            clear hW7
            go_roundw
            case rel =>
              refine ⟨k + 1, E ++ [⟨s, 1 + t⟩], d3, _, by omega, by go_num, HS, by rw [List.length_append, List.length_singleton]; omega, HB7, Lib.hid ?_, Lib.hid ⟨HC6.blk.keepV P7 (.inl (by omega)), HC6.rd.below (Part.to_below (Below.refl B w6) P7 (by omega) HC6.le), HC6.at_, HC6.len, HC6.base⟩, Lib.hid (HR6.keepV P7 (.inl hrb)), Lib.hid ⟨P7.os.trans hlow.os, P7.tape.trans hlow.tape, P7.output.trans hlow.output, Nat.le_trans hlow.size P7.size, fun i hi hn => (P7.block i (Nat.lt_of_lt_of_le hi hlow.size) (.inl (by omega))).trans (hlow.block i hi hn)⟩⟩
              rw [List.length_append, List.length_singleton, edgV_append]
              exact HO7.1
            case measure => simp [intOf]; omega
end Go.Proofs.Ytbbjkldkjndfaaa

/- Drawn disks with what is kept: the walks of the reference's draws. -/
import Derived.Test.YthjkmefbjbfonaaDrawF
namespace Go.Proofs.Ythjkmefbjbfonaa
set_option linter.unusedSimpArgs false
set_option linter.unusedVariables false
open Go.RowKit Go.ChangeShapes Go.Deep

def keepCells : Array Value := #[.int .i64 0, .int .i64 1, .int .i64 2, .int .i64 3, .int .i64 5, .int .i64 100, .int .i64 (-1), .int .i64 9223372036854775807]
theorem keep_cell {w : World} {b : Nat} {t : TypeId} (h : Blk w b t keepCells) {k : Nat} (hk : k ≤ 7) : w.cell? ⟨b, k, none⟩ = some (.int .i64 (keepL.getD k 0)) := by
  rw [h.cell k]
  match k, hk with
  | 0, _ => rfl
  | 1, _ => rfl
  | 2, _ => rfl
  | 3, _ => rfl
  | 4, _ => rfl
  | 5, _ => rfl
  | 6, _ => rfl
  | 7, _ => rfl
set_option maxRecDepth 100000 in
theorem l01PickInt_keep (w : World) (B g b : Nat) (v : Value) (code : List UInt8) (c : Cur) (h : CurAt w B g v code c) (hk : Blk w b 3 keepCells) (hne : b ≠ g) :
    Calls Try.prog 88 #[.pointer (some ⟨g, 0, none⟩), .slice (some ⟨b, 0, none⟩) 8 8] w (Drew w B g v code (keepL.getD (curBelow code 8 c).1.toNat 0, (curBelow code 8 c).2)) := by
  have CB := Lib.hid (l01Below_any w B g v code c 8 h (by omega))
  have hbd := curBelow_bd code 8 c (by omega)
  obtain ⟨r, hr⟩ : ∃ r, r = curBelow code 8 c := ⟨_, rfl⟩
  rw [← hr] at CB hbd ⊢
  obtain ⟨x, c1⟩ := r
  simp only at hbd ⊢
  obtain ⟨n, hn⟩ : ∃ n : Nat, x = (n : Int) := ⟨x.toNat, by omega⟩
  subst hn
  have HK := Lib.hid hk
  obtain ⟨y, hy⟩ : ∃ y, y = keepL.getD n 0 := ⟨_, rfl⟩
  have HY := Lib.hid hy
  rw [show ((n : Int).toNat) = n from rfl, ← hy]
  clear h hr hk hy
  go_enter Try.func88, Try.ntmps88
  go_wp2_with fail
  refine CB.out.mono ?_
  rintro e w1 ⟨rfl, hc1, hg1⟩
  have k1 := HK.out.grown hg1 (by simpa using hne)
  have s0 := keep_cell k1 (k := n) (by omega)
  rw [← HY.out] at s0
  have kl := k1.lt
  have hn0 : (0 : Int) ≤ (n : Int) := by omega
  have hn8 : (n : Int) < 8 := by omega
  have HC1 := Lib.hid hc1
  clear hc1 CB k1
  go_wp2_with fail
  go_ret
  exact ⟨rfl, HC1.out, hg1⟩

set_option maxHeartbeats 4000000 in
set_option maxRecDepth 100000 in
theorem l05Keep_any (w : World) (B g : Nat) (v : Value) (code : List UInt8) (c : Cur) (h : CurAt w B g v code c) :
    Calls Try.prog 61 #[.pointer (some ⟨g, 0, none⟩)] w fun e w' => ∃ u, e = .returned u ∧ w'.ownsRow w.heap.size 3 1 u (keepGo code 5 0 [] c).length (intsV (keepGo code 5 0 [] c)) ∧ w.grownBy w' (some g) := by
  obtain ⟨i0, hi, hz0, hz1, hz2⟩ := info_parts Try.infoI64
  have hgl := h.blk.lt
  have hgB := h.base
  have H := Lib.hid h
  obtain ⟨R, hR⟩ : ∃ R, R = keepGo code 5 0 [] c := ⟨_, rfl⟩
  have HRR := Lib.hid hR
  rw [← hR]
  clear h hR
  go_enter Try.func61, Try.ntmps61
  go_wp2_with fail
  go_loopw [3, 4] (fun q i wr => ∃ (k : Nat) (acc : List Int) (d : Cur) (A : Option Addr) (cc : Nat), q = .slice A k cc ∧ k ≤ 4 ∧ i = .int .i64 k ∧ acc.length = k ∧ Hid (R = keepGo code (5 - k) k acc d) ∧ wr.ownsRow w.heap.size 3 1 (.slice A k cc) k (intsV acc) ∧ CurAt wr B g v code d ∧ w.grownBy wr (some g)) (fun _ i _ => 5 - (intOf i).toNat)
  case atStart => exact ⟨0, [], c, some ⟨w.heap.size, 0, none⟩, 0, rfl, by omega, rfl, rfl, HRR, World.ownsRow_made _ #[] 0 (Nat.le_refl _) (by decide) rfl, H.out.below ((Below.refl _ _).alloc (Nat.le_refl _) _), only_of_below ((Below.refl _ _).alloc (Nat.le_refl _) _) _⟩
  case round =>
    obtain ⟨k, acc, d, A, cc, rfl, hk, rfl, hal, hgo, hown, hc, hgw⟩ := hrel
    have hsz := hgw.size
    have hne := own_old hown hgl
    have hbd := curBelow_bd code 5 d (by omega)
    have CB := Lib.hid (l01Below_any _ _ _ _ _ _ 5 hc (by omega))
    obtain ⟨m, d1, hr⟩ : ∃ x c', curBelow code 5 d = (x, c') := ⟨_, _, rfl⟩
    have HR := Lib.hid hr
    rw [hr] at CB hbd
    simp only at hbd
    clear hr
    go_wp2_with fail
    refine CB.out.mono ?_
    rintro e w3 ⟨rfl, hc3, hg3⟩
    have hs3 := hg3.size
    have hown3 := own_grown hown hg3 hne
    have hgw3 := only_trans hgw hg3
    clear hown hgw CB
    by_cases hlt : (k : Int) < m
    · have CP := Lib.hid (fun W b (hW : CurAt W B g v code d1) hkb hbg => l01PickInt_keep W B g b v code d1 hW hkb hbg)
      obtain ⟨z, d2, hr2⟩ : ∃ x c', curBelow code 8 d1 = (x, c') := ⟨_, _, rfl⟩
      have HR2 := Lib.hid hr2
      obtain ⟨y, hy⟩ : ∃ y, y = keepL.getD z.toNat 0 := ⟨_, rfl⟩
      have HY := Lib.hid hy
      rw [hr2] at CP
      simp only at CP
      rw [← hy] at CP
      have HG := Lib.hid (show R = keepGo code (5 - (k + 1)) (k + 1) (acc ++ [y]) d2 by
        rw [hgo.out, show 5 - k = (5 - (k + 1)) + 1 by omega, keepGo, if_pos (by rw [HR.out]; exact hlt), HR.out]
        dsimp only
        rw [HR2.out]
        dsimp only
        rw [HY.out])
      clear hr2 hgo HR HR2 hy
      have HC3 := Lib.hid hc3
      have HO3 := Lib.hid hown3
      have HG3 := Lib.hid hgw3
      clear hc3 hown3 hgw3 hc
      go_wp2_with fail
      refine (CP.out _ w3.heap.size (HC3.out.below ((Below.refl _ _).alloc (Nat.le_refl _) _)) (Blk.new' rfl) (by omega)).mono ?_
      rintro e w5 ⟨rfl, hc5, hg5⟩
      have hs5 := hg5.size
      simp at hs5
      have HO5 := own_grown (HO3.out.alloc (.cells keepCells 3)) hg5 hne
      have hgw5 := only_trans (only_alloc HG3.out (.cells keepCells 3)) hg5
      clear CP
      go_wp2_with (at_builtin; refine wpList_append_new (w0 := w5) rfl _ _ _ rfl w.heap.size _ i0 _ 1 8 Try.underlying26 hi hz0 hz1 hz2 rfl (by decide) _ k _ rfl HO5 (Below.refl _ _) (by omega) _ 1 1 rfl rfl (by intro u hu; simp at hu; subst hu; rfl) ⟨by omega, by omega⟩ ?_; intro v6 w6 hown6 hb6 hg6 hat6; obtain ⟨A6, c6, rfl, -, -⟩ := (Rd.of_own hown6).shape)
      have hs6 := hg6.size
      have hc6 := (hc5.below ((Below.refl _ _).alloc (Nat.le_refl _) (.cells #[.int .i64 y] 3))).keep hg6 (fun j hj => by have := (HO5.lt j hj).1; omega) (hne.elim (fun h e => Option.some_ne_none g (e.trans h)) (fun h e => h e.symm))
      have hgw6 : w.grownBy w6 (some g) := ⟨hg6.os.trans hgw5.os, hg6.tape.trans hgw5.tape, hg6.output.trans hgw5.output, by have h2 := hgw5.size; simp at hs6; omega, fun i hi hn => (hg6.block i (by have h2 := hgw5.size; simp; omega) (fun he => by have := (HO5.lt i he.symm).1; omega)).trans ((Below.heap_alloc w5 _ i (by have h2 := hgw5.size; omega)).trans (hgw5.block i hi hn))⟩
      go_roundw
      case rel => exact ⟨k + 1, acc ++ [y], d2, A6, c6, rfl, by omega, by go_num, by simp; omega, HG, by rw [intsV_append]; exact hown6, hc6, hgw6⟩
      case measure => simp [intOf]; omega
    · have HG := Lib.hid (show R = acc by rw [hgo.out, show 5 - k = (4 - k) + 1 by omega, keepGo, if_neg (by rw [HR.out]; exact hlt)])
      clear hgo
      go_wp2_with fail
      go_ret
      exact ⟨_, rfl, by rw [HG.out, hal]; exact hown3, hgw3⟩

/-- What a drawn disk leaves, with what is kept. -/
def DrawnD (w0 : World) (code : List UInt8) (e : Ending) (w' : World) : Prop :=
  ∃ A c u, e = .returned (.tuple #[.agg #[.slice A (diskD code).1.length c], u]) ∧ Rd_disk w' (.slice A (diskD code).1.length c) (diskD code).1 ∧ Rd w' 1 u (keepD code).length (intsV (keepD code)) ∧ Below w0.heap.size w0 w'
theorem drawn_okF {d : List Fil} (h : DrawnDisk d) : okF d := fun f hf => by
  obtain ⟨a, b, _, _⟩ := h.good f hf
  unfold nmOk at a
  have a' : f.name.size ≤ 10 := by
    revert a
    simp [inB]
    try omega
  exact ⟨by omega, by omega⟩
set_option maxHeartbeats 2000000 in
set_option maxRecDepth 100000 in
theorem drawDisk_any (w : World) (v : Value) (code : List UInt8) (h : Rd w 1 v code.length (bytesV code)) (hn : code.length ≤ 1048576) :
    Calls Try.prog 18 #[v] w (DrawnD w code) := by
  obtain ⟨W0, hW0⟩ : ∃ W0, W0 = w.alloc (.cells #[.slice none 0 0] 37) := ⟨_, rfl⟩
  have hb0 : Below w.heap.size w W0 := by rw [hW0]; exact (Below.refl _ _).alloc (Nat.le_refl _) _
  have k0 : Blk W0 w.heap.size 37 #[.slice none 0 0] := by rw [hW0]; exact Blk.new _ _ _
  have hs0 : W0.heap.size = w.heap.size + 1 := by rw [hW0]; simp
  have hs0' : w.heap.size < W0.heap.size := by omega
  have CN := Lib.hid (l01New_any W0 v code (h.below hb0) hn)
  have HW := Lib.hid hW0
  have HK0 := Lib.hid k0
  clear hW0 k0 h hs0
  go_enter Try.func18, Try.ntmps18
  go_wp2_with fail
  rw [← HW.out]
  refine CN.out.mono ?_
  rintro e w1 ⟨g, rfl, hc1, hb1⟩
  have hgl := hc1.blk.lt
  have hgB := hc1.base
  have HK1 := Lib.hid (HK0.out.belowV hb1)
  have hw1 := hb0.trans (hb1.mono hb0.size)
  have hs1 := hw1.size
  clear CN
  go_wp2_with fail
  refine (l04Disk_any w1 W0.heap.size g v code _ hc1).mono ?_
  rintro e w2 ⟨A, c, rfl, ho2, hc2, hg2⟩
  have HK2 := Lib.hid (HK1.out.grown hg2 (by simp; omega))
  have hs2 := hg2.size
  have hw2 : Below w.heap.size w w2 := hw1.grown hg2 hw1.size (by intro k hk; injection hk with hk; omega)
  have HO2 := Lib.hid ho2
  clear ho2
  go_wp2_with fail
  refine (l05Keep_any w2 W0.heap.size g v code _ hc2).mono ?_
  rintro e w3 ⟨u, rfl, ho3, hg3⟩
  obtain ⟨A5, c5, rfl, -, -⟩ := (Rd.of_own ho3).shape
  have HK3 := Lib.hid (HK2.out.grown hg3 (by simp; omega))
  have hs3 := hg3.size
  have hw3 : Below w.heap.size w w3 := hw2.grown hg3 hw2.size (by intro k hk; injection hk with hk; omega)
  have HO3 := Lib.hid ho3
  have HD3 := Lib.hid (own_grown HO2.out hg3 (own_old HO2.out hgl))
  have r0 := HK3.out.cell 0
  have r1 := HK3.out.frozen 0
  have rl := HK3.out.lt
  simp only [List.getElem?_toArray, List.getElem?_cons_zero] at r0
  clear ho3 hg2 hg3 hc1 hc2
  go_wp2_with fail
  refine bodyPost_ret (v := .tuple #[.agg #[.slice A (diskD code).1.length c], .slice A5 (keepD code).length c5]) (by simp [results, Try.results18, go_sem, r0, r1]; try exact ⟨rfl, rfl⟩) rfl ?_
  have hgo : w3.grownBy (w3.setCell ⟨w.heap.size, 0, none⟩ (.slice A (diskD code).1.length c)) (some w.heap.size) := only_setCell (World.grownBy.refl w3 _) (.inl rfl) _
  exact ⟨A, c, _, rfl, ⟨Rd.of_own (own_grown HD3.out hgo (.inr (own_blk_ne HD3.out HK3.out (by decide)))), drawn_okF (disk_drawn code)⟩, Rd.of_own (own_grown HO3.out hgo (.inr (own_blk_ne HO3.out HK3.out (by decide)))), hw3.setCell (Nat.le_refl _) _⟩
end Go.Proofs.Ythjkmefbjbfonaa

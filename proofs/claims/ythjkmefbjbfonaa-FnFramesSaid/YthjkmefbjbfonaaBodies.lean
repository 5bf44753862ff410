/- DrawBodies: drawn bodies of frames. -/
import Derived.Test.YthjkmefbjbfonaaTextD
import Derived.Test.YthjkmefbjbfonaaFramesLaw
namespace Go.Proofs.Ythjkmefbjbfonaa
set_option linter.unusedSimpArgs false
open Go.RowKit Go.ChangeShapes Go.Deep

def bodiesGo (code : List UInt8) : Nat → Nat → List ByteArray → Nat × Int → List ByteArray
  | 0, _, l, _ => l
  | f + 1, i, l, c =>
    if (i : Int) < (curBelow code 5 c).1 then
      bodiesGo code f (i + 1) (l ++ [(textD code (1 + (curBelow code 6 (curBelow code 5 c).2).1) (curBelow code 6 (curBelow code 5 c).2).2).1]) (textD code (1 + (curBelow code 6 (curBelow code 5 c).2).1) (curBelow code 6 (curBelow code 5 c).2).2).2
    else l
def bodies (code : List UInt8) : List ByteArray := bodiesGo code 5 0 [] (newC code)
def BodInv (i : Nat) (l : List ByteArray) : Prop := (∀ b ∈ l, 1 ≤ b.size ∧ b.size ≤ 6) ∧ l.length = i
theorem bodiesGo_inv (code : List UInt8) : ∀ (f i : Nat) (l : List ByteArray) (c : Nat × Int), i + f = 5 → BodInv i l → ∃ j, j ≤ 5 ∧ BodInv j (bodiesGo code f i l c)
  | 0, i, l, c, hi, h => ⟨i, by omega, h⟩
  | f + 1, i, l, c, hi, h => by
    rw [bodiesGo]
    by_cases hlt : (i : Int) < (curBelow code 5 c).1
    · rw [if_pos hlt]
      have hb := curBelow_bd code 6 (curBelow code 5 c).2 (by omega)
      refine bodiesGo_inv code f (i + 1) _ _ (by omega) ⟨fun b hm => ?_, by rw [List.length_append, List.length_singleton, h.2]⟩
      rcases List.mem_append.1 hm with hm | hm
      · exact h.1 b hm
      · rw [List.mem_singleton.1 hm, textD_size]; omega
    · rw [if_neg hlt]
      exact ⟨i, by omega, h⟩
theorem bodies_good (code : List UInt8) : (∀ b ∈ bodies code, 1 ≤ b.size ∧ b.size ≤ 6) ∧ (bodies code).length ≤ 5 := by
  obtain ⟨j, hj, h1, h2⟩ := bodiesGo_inv code 5 0 [] (newC code) rfl ⟨fun _ h => (by cases h), rfl⟩
  exact ⟨h1, by unfold bodies; omega⟩
theorem bodies_bods (code : List UInt8) : Bods (bodies code) := fun b hb => by have := (bodies_good code).1 b hb; unfold Bod; omega
theorem frT_small : ∀ {l : List ByteArray}, (∀ b ∈ l, 1 ≤ b.size ∧ b.size ≤ 6) → frT l ≤ 11 * l.length
  | [], _ => Nat.le_refl _
  | b :: r, h => by
    have := h b (List.mem_cons_self ..)
    have ih := frT_small (l := r) fun x hx => h x (List.mem_cons_of_mem _ hx)
    rw [frT, List.length_cons]
    omega

set_option maxHeartbeats 1000000 in
set_option maxRecDepth 100000 in
theorem drawBodies_any (w : World) (v : Value) (code : List UInt8) (h : Rd w 1 v code.length (bytesV code)) (hn : code.length ≤ 1048576) :
    Calls Try.prog 11 #[v] w (MadeRow w 9 1 (bodies code).length (strV (bodies code))) := by
  obtain ⟨i0, hi, hz0, hz1, hz2⟩ := info_parts Try.infoStr
  have CN := Lib.hid (l01New_any w v code h hn)
  have key : ∀ (w1 : World) (g : Nat), CurAt w1 w.heap.size g v code (newC code) → Calls Try.prog 50 #[.pointer (some ⟨g, 0, none⟩)] w1 fun e w2 => ∃ u, e = .returned u ∧ w2.ownsRow w1.heap.size 9 1 u (bodies code).length (strV (bodies code)) ∧ w1.grownBy w2 (some g) := by
    intro w1 g hc
    have hgl := hc.blk.lt
    have hgB := hc.base
    have H := Lib.hid hc
    clear hc CN
    go_enter Try.func50, Try.ntmps50
    go_wp2_with fail
    go_loopw [3, 4] (fun q i wr => ∃ (k : Nat) (acc : List ByteArray) (d : Nat × Int), k ≤ 4 ∧ i = .int .i64 k ∧ acc.length = k ∧ Hid (bodies code = bodiesGo code (5 - k) k acc d) ∧ wr.ownsRow w1.heap.size 9 1 q k (strV acc) ∧ CurAt wr w.heap.size g v code d ∧ w1.grownBy wr (some g)) (fun _ i _ => 5 - (intOf i).toNat)
    case atStart => exact ⟨0, [], newC code, by omega, rfl, rfl, rfl, World.ownsRow_made _ #[] 0 (Nat.le_refl _) (by decide) rfl, H.out.below ((Below.refl _ _).alloc (Nat.le_refl _) _), only_of_below ((Below.refl _ _).alloc (Nat.le_refl _) _) _⟩
    case round =>
      obtain ⟨k, acc, d, hk, rfl, hal, hgo, hown, hc, hgw⟩ := hrel
      have hsz := hgw.size
      have hne := own_old hown hgl
      have hbd := curBelow_bd code 5 d (by omega)
      have CB := Lib.hid (l01Below_any _ _ _ _ _ _ 5 hc (by omega))
      obtain ⟨m, d1, hr⟩ : ∃ x c', curBelow code 5 d = (x, c') := ⟨_, _, rfl⟩
      have HR := Lib.hid hr
      rw [hr] at CB hbd
      simp only at hbd
      clear hr
      go_wp2_with fail
      refine CB.out.mono ?_
      rintro e w3 ⟨rfl, hc3, hg3⟩
      have hs3 := hg3.size
      have hown3 := own_grown hown hg3 hne
      have hgw3 := only_trans hgw hg3
      clear hown hgw CB
      by_cases hlt : (k : Int) < m
      · have hbd2 := curBelow_bd code 6 d1 (by omega)
        have CB := Lib.hid (l01Below_any _ _ _ _ _ _ 6 hc3 (by omega))
        obtain ⟨z, d2, hr2⟩ : ∃ x c', curBelow code 6 d1 = (x, c') := ⟨_, _, rfl⟩
        have HR2 := Lib.hid hr2
        rw [hr2] at CB hbd2
        simp only at hbd2
        clear hr2
        go_wp2_with fail
        refine CB.out.mono ?_
        rintro e w4 ⟨rfl, hc4, hg4⟩
        have hs4 := hg4.size
        have hown4 := own_grown hown3 hg4 hne
        have hgw4 := only_trans hgw3 hg4
        clear hown3 hgw3 CB
        have CT := Lib.hid (l01Text_any _ _ _ _ _ _ (1 + z) hc4 (by omega) (by omega))
        have hts := textD_size code (1 + z) d2
        obtain ⟨b, d3, hr3⟩ : ∃ x c', textD code (1 + z) d2 = (x, c') := ⟨_, _, rfl⟩
        rw [hr3] at CT hts
        simp only at hts
        have HG := Lib.hid (show bodies code = bodiesGo code (5 - (k + 1)) (k + 1) (acc ++ [b]) d3 by
          rw [hgo.out, show 5 - k = (5 - (k + 1)) + 1 by omega, bodiesGo, if_pos (by rw [HR.out]; exact hlt), HR.out]
          dsimp only
          rw [HR2.out]
          dsimp only
          rw [hr3])
        clear hgo HR HR2 hr3
        go_wp2_with fail
        refine CT.out.mono ?_
        rintro e w5 ⟨rfl, hc5, hg5⟩
        have hs5 := hg5.size
        have hown5 := own_grown hown4 hg5 hne
        have hgw5 := only_trans hgw4 hg5
        clear hown4 hgw4 CT
        go_wp2_with (at_builtin; refine wpList_append_new (w0 := w5) rfl _ _ _ rfl w1.heap.size _ i0 _ 1 16 Try.underlying24 hi hz0 hz1 hz2 rfl (by decide) _ k _ rfl hown5 (Below.refl _ _) (by omega) _ 1 1 rfl rfl (by intro u hu; simp at hu; subst hu; rfl) ⟨by omega, by omega⟩ ?_; intro v6 w6 hown6 hb6 hg6 hat6)
        have hs6 := hg6.size
        have hc6 := (hc5.below ((Below.refl _ _).alloc (Nat.le_refl _) (.cells #[.string b] 9))).keep hg6 (fun j hj => by have := (hown5.lt j hj).1; omega) (hne.elim (fun h e => Option.some_ne_none g (e.trans h)) (fun h e => h e.symm))
        have hgw6 : w1.grownBy w6 (some g) := ⟨hg6.os.trans hgw5.os, hg6.tape.trans hgw5.tape, hg6.output.trans hgw5.output, by have h2 := hgw5.size; simp at hs6; omega, fun i hi hn => (hg6.block i (by have h2 := hgw5.size; simp; omega) (fun he => by have := (hown5.lt i he.symm).1; omega)).trans ((Below.heap_alloc w5 _ i (by have h2 := hgw5.size; omega)).trans (hgw5.block i hi hn))⟩
        go_roundw
        case rel => exact ⟨k + 1, acc ++ [b], d3, by omega, by go_num, by simp; omega, HG, by rw [strV_append]; simpa [strV] using hown6, hc6, hgw6⟩
        case measure => simp [intOf]; omega
      · have HG := Lib.hid (show bodies code = acc by rw [hgo.out, show 5 - k = (4 - k) + 1 by omega, bodiesGo, if_neg (by rw [HR.out]; exact hlt)])
        clear hgo
        go_wp2_with fail
        go_ret
        exact ⟨_, rfl, by rw [HG.out, hal]; exact hown3, hgw3⟩
  have K := Lib.hid key
  clear key
  go_enter Try.func11, Try.ntmps11
  go_wp2_with fail
  refine CN.out.mono ?_
  rintro e w1 ⟨g, rfl, hc1, hb1⟩
  have hgl := hc1.blk.lt
  have hgB := hc1.base
  go_wp2_with fail
  refine (K.out w1 g hc1).mono ?_
  rintro e w2 ⟨u, rfl, ho, hg2⟩
  have hb2 : Below w.heap.size w w2 := hb1.grown hg2 hb1.size (by intro k hk; injection hk with hk; omega)
  go_wp2_with fail
  go_ret
  exact ⟨u, rfl, own_more ho hb1.size, hb2⟩
end Go.Proofs.Ythjkmefbjbfonaa

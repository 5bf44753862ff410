/- DrawPlaces: twelve drawn numbers. -/
import Derived.Test.YtfcgijhiedlfgaaDoorDraw
import Derived.Test.YtfcgijhiedlfgaaDoorInts
namespace Go.Proofs.YtfcgijhiedlfgaaDoor
open Go.RowKit Go.ChangeShapes

def placesGo (code : List UInt8) : Nat → Nat × Int → List Int
  | 0, _ => []
  | k + 1, c => (curBelow code 10000 c).1 :: placesGo code k (curBelow code 10000 c).2
def places (code : List UInt8) : List Int := placesGo code 12 (curByte code (newC code)).2
theorem placesGo_length (code : List UInt8) : ∀ k c, (placesGo code k c).length = k
  | 0, _ => rfl
  | k + 1, c => by rw [placesGo, List.length_cons, placesGo_length]
theorem placesGo_bd (code : List UInt8) : ∀ k c, ∀ x ∈ placesGo code k c, 0 ≤ x ∧ x < 10000
  | 0, _, x, h => by simp [placesGo] at h
  | k + 1, c, x, h => by
    rw [placesGo, List.mem_cons] at h
    rcases h with rfl | h
    · exact curBelow_bd code 10000 c (by omega)
    · exact placesGo_bd code k _ x h
theorem places_length (code : List UInt8) : (places code).length = 12 := placesGo_length _ _ _

set_option maxHeartbeats 1000000 in
set_option maxRecDepth 100000 in
theorem drawPlaces_any (w : World) (v : Value) (code : List UInt8) (h : Rd w 1 v code.length (bytesV code)) (hn : code.length ≤ 1048576) :
    Calls Tryd.prog 17 #[v] w (MadeRow w 3 1 12 (intsV (places code))) := by
  obtain ⟨i0, hi, hz0, hz1, hz2⟩ := info_parts Tryd.infoI64
  have CN := Lib.hid (l01New_any w v code h hn)
  go_enter Tryd.func17, Tryd.ntmps17
  go_wp2_with fail
  refine CN.out.mono ?_
  rintro e w1 ⟨g, rfl, hc1, hb1⟩
  have hgl := hc1.blk.lt
  have hgB := hc1.base
  go_wp2_with fail
  refine (l01Byte_any w1 w.heap.size g v code _ hc1).mono ?_
  rintro e w2 ⟨rfl, hc2, hg2⟩
  have hb2 : Below w.heap.size w w2 := hb1.grown hg2 hb1.size (by intro k hk; injection hk with hk; omega)
  have hgs := hg2.size
  have hP := Lib.hid (show places code = [] ++ placesGo code (12 - 0) (curByte code (newC code)).2 from rfl)
  generalize (curByte code (newC code)).2 = c0 at *
  go_wp2_with fail
  go_loopw [4, 5] (fun u4 u5 wr => ∃ (k : Nat) (acc : List Int) (c : Nat × Int), k ≤ 12 ∧ u5 = .int .i64 k ∧ acc.length = k ∧ Hid (places code = acc ++ placesGo code (12 - k) c) ∧ wr.ownsRow w1.heap.size 3 1 u4 k (intsV acc) ∧ CurAt wr w.heap.size g v code c ∧ Below w.heap.size w wr ∧ w1.heap.size ≤ wr.heap.size) (fun _ u5 _ => 12 - (intOf u5).toNat)
  case atStart => exact ⟨0, [], c0, by omega, rfl, rfl, hP, World.ownsRow_made _ #[] 0 hgs (by decide) rfl, hc2.below ((Below.refl _ _).alloc (Nat.le_refl _) _), hb2.alloc hb2.size _, by simp; omega⟩
  case round =>
    obtain ⟨k, acc, c, hk, rfl, hal, hgo, hown, hc, hb, hsz⟩ := hrel
    by_cases hlt : k < 12
    · have hne : u4.ownBlock = none ∨ u4.ownBlock ≠ some g := .inr fun he => by have := (hown.lt g he).1; omega
      have HG := Lib.hid (show places code = (acc ++ [(curBelow code 10000 c).1]) ++ placesGo code (12 - (k + 1)) (curBelow code 10000 c).2 by rw [hgo.out, show 12 - k = (12 - (k + 1)) + 1 by omega, placesGo, List.append_assoc]; rfl)
      have CB := Lib.hid (l01Below_any _ _ _ _ _ _ 10000 hc (by omega))
      obtain ⟨x, c', hr⟩ : ∃ x c', curBelow code 10000 c = (x, c') := ⟨_, _, rfl⟩
      rw [hr] at CB HG
      clear hgo hr
      go_wp2_with fail
      refine CB.out.mono ?_
      rintro e w3 ⟨rfl, hc3, hg3⟩
      have hs3 := hg3.size
      have hown3 := own_grown hown hg3 hne
      have hb3 : Below w.heap.size w w3 := hb.grown hg3 hb.size (by intro k hk; injection hk with hk; omega)
      go_wp2_with (at_builtin; refine wpList_append_new (w0 := w3) rfl _ _ _ rfl w1.heap.size _ i0 _ 1 8 Tryd.underlying34 hi hz0 hz1 hz2 rfl (by decide) u4 k _ rfl hown3 (Below.refl _ _) (by omega) _ 1 1 rfl rfl (by intro u hu; simp at hu; subst hu; rfl) ⟨by omega, by omega⟩ ?_; intro v4 w4 hown4 hb4 hg4 hat4)
      have hs4 := hg4.size
      have hc4 := (hc3.below ((Below.refl _ _).alloc (Nat.le_refl _) (.cells #[.int .i64 x] 3))).keep hg4 (fun j hj => by have := (hown3.lt j hj).1; have := hb1.size; omega) (hne.elim (fun h => by rw [h]; simp) (fun h he => h he.symm))
      have hbb : Below w.heap.size w w4 := hb3.trans (hb4.mono hb1.size)
      go_roundw
      case rel => exact ⟨k + 1, acc ++ [x], c', by omega, by go_num, by simp; omega, HG, by rw [intsV_append]; exact hown4, hc4, hbb, by simp at hs4; omega⟩
      case measure => simp [intOf]; omega
    · have HR := Lib.hid (show places code = acc by rw [hgo.out, show 12 - k = 0 by omega]; simp [placesGo])
      have hk12 : k = 12 := by omega
      subst hk12
      clear hgo
      go_wp2_with fail
      go_ret
      exact ⟨u4, rfl, by rw [HR.out]; exact own_more hown hb1.size, hb⟩
end Go.Proofs.YtfcgijhiedlfgaaDoor

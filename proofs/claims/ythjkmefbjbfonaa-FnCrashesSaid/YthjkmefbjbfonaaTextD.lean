/- Drawn texts. -/
import Derived.Test.YthjkmefbjbfonaaDraw
namespace Go.Proofs.Ythjkmefbjbfonaa
set_option linter.unusedSimpArgs false
open Go.RowKit Go.ChangeShapes Go.Deep

def textGo (code : List UInt8) : Nat → Nat × Int → List UInt8 × (Nat × Int)
  | 0, c => ([], c)
  | k + 1, c => (UInt8.ofNat (curByte code c).1.toNat :: (textGo code k (curByte code c).2).1, (textGo code k (curByte code c).2).2)
theorem textGo_length (code : List UInt8) : ∀ k c, (textGo code k c).1.length = k
  | 0, _ => rfl
  | k + 1, c => by rw [textGo]; simp only [List.length_cons]; rw [textGo_length]
def textD (code : List UInt8) (n : Int) (c : Nat × Int) : ByteArray × (Nat × Int) := (⟨(textGo code n.toNat c).1.toArray⟩, (textGo code n.toNat c).2)
theorem textD_size (code : List UInt8) (n : Int) (c : Nat × Int) : (textD code n c).1.size = n.toNat := by
  show (textGo code n.toNat c).1.toArray.size = _
  rw [List.size_toArray, textGo_length]
def DrewT (w0 : World) (B g : Nat) (v : Value) (code : List UInt8) (r : ByteArray × (Nat × Int)) (e : Ending) (w' : World) : Prop :=
  e = .returned (.string r.1) ∧ CurAt w' B g v code r.2 ∧ w0.grownBy w' (some g)

theorem own_old {w : World} {base size n g : Nat} {e : TypeId} {v : Value} {xs : List Value} (h : w.ownsRow base e size v n xs) (hg : g < base) : v.ownBlock = none ∨ v.ownBlock ≠ some g :=
  .inr fun he => by have := (h.lt g he).1; omega
set_option maxRecDepth 100000 in
theorem l01Text_any (w : World) (B g : Nat) (v : Value) (code : List UInt8) (c : Nat × Int) (n : Int) (h : CurAt w B g v code c) (h0 : 0 ≤ n) (h1 : n ≤ 5000) :
    Calls Try.prog 86 #[.pointer (some ⟨g, 0, none⟩), .int .i64 n] w (DrewT w B g v code (textD code n c)) := by
  obtain ⟨i0, hi, hz0, hz1, hz2⟩ := info_parts Try.infoU8
  obtain ⟨m, rfl⟩ := Int.eq_ofNat_of_zero_le h0
  have HT := Lib.hid (show textD code (m : Int) c = (⟨(textGo code m c).1.toArray⟩, (textGo code m c).2) by rw [textD, Int.toNat_natCast])
  have hgl := h.blk.lt
  have hBg := h.base
  have H := Lib.hid h
  clear h
  go_enter Try.func86, Try.ntmps86
  go_wp2_with fail
  go_loopw [5, 6] (fun q i wr => ∃ (k : Nat) (acc : List UInt8) (d : Nat × Int), k ≤ m ∧ i = .int .i64 k ∧ acc.length = k ∧ Hid (textGo code m c = (acc ++ (textGo code (m - k) d).1, (textGo code (m - k) d).2)) ∧ wr.ownsRow w.heap.size 5 1 q k (bytesV acc) ∧ CurAt wr B g v code d ∧ w.grownBy wr (some g)) (fun _ i _ => m - (intOf i).toNat)
  case atStart => exact ⟨0, [], c, Nat.zero_le _, rfl, rfl, rfl, World.ownsRow_made _ #[] 0 (Nat.le_refl _) (by decide) rfl, H.out.below ((Below.refl _ _).alloc (Nat.le_refl _) _), only_of_below ((Below.refl _ _).alloc (Nat.le_refl _) _) _⟩
  case round =>
    obtain ⟨k, acc, d, hk, rfl, hal, hgo, hown, hc, hgw⟩ := hrel
    have hsz := hgw.size
    by_cases hlt : k < m
    · have hne := own_old hown hgl
      have CB := Lib.hid (l01Byte_any _ _ _ _ _ _ hc)
      have hbd := curByte_bd code d
      have HG := Lib.hid (show textGo code m c = ((acc ++ [UInt8.ofNat (curByte code d).1.toNat]) ++ (textGo code (m - (k + 1)) (curByte code d).2).1, (textGo code (m - (k + 1)) (curByte code d).2).2) by
        rw [hgo.out, show m - k = (m - (k + 1)) + 1 by omega, textGo, List.append_assoc]; rfl)
      obtain ⟨x, d', hr⟩ : ∃ x c', curByte code d = (x, c') := ⟨_, _, rfl⟩
      rw [hr] at CB HG hbd
      simp only at hbd HG
      have hu : x = ((UInt8.ofNat x.toNat).toNat : Int) := by rw [UInt8.toNat_ofNat']; omega
      have HU := Lib.hid hu
      clear hgo hr hu
      go_wp2_with fail
      refine CB.out.mono ?_
      rintro e w3 ⟨rfl, hc3, hg3⟩
      have hs3 := hg3.size
      have hown3 := own_grown hown hg3 hne
      have hgw3 := only_trans hgw hg3
      clear hown hgw
      go_wp2_with (at_builtin; refine wpList_append_new (w0 := w3) rfl _ _ _ rfl w.heap.size _ i0 _ 1 1 Try.underlying22 hi hz0 hz1 hz2 rfl (by decide) _ k _ rfl hown3 (Below.refl _ _) (by omega) _ 1 1 rfl rfl (by intro u hu; simp at hu; subst hu; rfl) ⟨by omega, by omega⟩ ?_; intro v4 w4 hown4 hb4 hg4 hat4)
      have hs4 := hg4.size
      have hc4 := (hc3.below ((Below.refl _ _).alloc (Nat.le_refl _) (.cells #[.int .u8 x] 5))).keep hg4 (fun j hj => by have := (hown3.lt j hj).1; omega) (hne.elim (fun h e => Option.some_ne_none g (e.trans h)) (fun h e => h e.symm))
      have hgw4 : w.grownBy w4 (some g) := ⟨hg4.os.trans hgw3.os, hg4.tape.trans hgw3.tape, hg4.output.trans hgw3.output, by have h2 := hgw3.size; simp at hs4; omega, fun i hi hn => (hg4.block i (by have h2 := hgw3.size; simp; omega) (fun he => by have := (hown3.lt i he.symm).1; omega)).trans ((Below.heap_alloc w3 _ i (by have h2 := hgw3.size; omega)).trans (hgw3.block i hi hn))⟩
      go_roundw
      case rel => exact ⟨k + 1, acc ++ [UInt8.ofNat x.toNat], d', by omega, by go_num, by simp; omega, HG, by have e := hown4; rw [HU.out] at e; rw [bytesV_append]; exact e, hc4, hgw4⟩
      case measure => simp [intOf]; omega
    · obtain rfl : k = m := by omega
      rw [Nat.sub_self, textGo] at hgo
      have HG := Lib.hid (show textGo code k c = (acc, d) by rw [hgo.out]; simp)
      clear hgo
      have hcv := run_string_own (dst := 9) Try.underlying22 Try.underlying5 Try.underlying9 hown
      have HC := Lib.hid hc
      clear hown hc
      go_wp2_with fail
      go_ret
      exact ⟨ret_str (by rw [HT.out, HG.out]), by rw [HT.out, HG.out]; exact HC.out, hgw⟩
end Go.Proofs.Ythjkmefbjbfonaa

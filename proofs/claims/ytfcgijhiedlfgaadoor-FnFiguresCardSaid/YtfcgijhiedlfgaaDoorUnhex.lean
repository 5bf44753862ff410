/- The walks of Unhex, the program's and the reference's. -/
import Derived.Test.YtfcgijhiedlfgaaDoorHex
import Derived.Test.YtfcgijhiedlfgaaDoorUnhexPlain
import Derived.Test.YtfcgijhiedlfgaaDoorShelf
namespace Go.Proofs.YtfcgijhiedlfgaaDoor
open Go.RowKit Go.ChangeShapes

theorem figsIndex_any (x : Int) (w : World) (h0 : 0 ≤ x) (h1 : x < 256) :
    Calls Tryd.prog 30 #[.string ⟨#[48, 49, 50, 51, 52, 53, 54, 55, 56, 57, 97, 98, 99, 100, 101, 102]⟩, .int .u8 x] w fun e w' => e = .returned (.int .i64 (unfig x)) ∧ w = w' := by
  obtain ⟨n, rfl⟩ := Int.eq_ofNat_of_zero_le h0
  have := Tryd.strings_IndexByte figsB (n : Int) w
  rw [indexByte_at n (by omega)] at this
  exact this.mono fun e w' ⟨he, hw⟩ => ⟨he, hw.symm⟩

theorem ret2_sb {a b : ByteArray} {c d : Bool} (h1 : a = b) (h2 : c = d) : Ending.returned (.tuple #[.string a, .bool c]) = .returned (.tuple #[.string b, .bool d]) := by rw [h1, h2]

set_option maxRecDepth 100000 in
theorem unhex_impl (s : ByteArray) (w : World) (hs : s.size ≤ 40000) (h2 : s.size % 2 = 0) :
    Calls Tryd.prog 19 #[.string s] w fun e w' => e = .returned (.tuple #[.string (unhexS s), .bool (unhexOk s)]) ∧ Below w.heap.size w w' := by
  obtain ⟨i0, hi, hz0, hz1, hz2⟩ := info_parts Tryd.infoU8
  have t1 : (((s.size : Int) % 2) == 1) = false := by simp; omega
  have t2 : decide ((40000 : Int) < s.size) = false := by simp; omega
  have H2 := Lib.hid h2
  clear h2
  go_enter Tryd.func19, Tryd.ntmps19
  go_wp2
  clear t1 t2
  go_loopw [4, 5, 6, 7] (fun v h i _ wr => ∃ (k : Nat) (hf : Int), k ≤ s.size ∧ i = .int .i64 k ∧ h = .int .i64 hf ∧ -1 ≤ hf ∧ hf < 16 ∧ Hid (k % 2 = 1 → hf = unfig (byteAt s (k - 1))) ∧ Hid (figsTo s k) ∧
      wr.ownsRow w.heap.size 5 1 v (k / 2) (bytesV (unhexL s (k / 2))) ∧ Below w.heap.size w wr)
    (fun _ _ i _ _ => s.size - (intOf i).toNat)
  case atStart => exact ⟨0, 0, Nat.zero_le _, rfl, rfl, by omega, by omega, Lib.hid (by omega), Lib.hid (fun i hi => by omega), World.ownsRow_nil _ _ _ _, Below.refl _ _⟩
  case round =>
    obtain ⟨k, hf, hk, rfl, rfl, hf0, hf1, hhalf, hgood, hown, hb⟩ := hrel
    by_cases hlt : k < s.size
    · have hbl := byteAt_lt s k
      have e0 := run_byte (P := Tryd.prog) Tryd.underlying9 s .i64 k hlt
      have hub := unfig_bd (byteAt s k)
      by_cases hneg : unfig (byteAt s k) < 0
      · obtain ⟨ho1, ho2⟩ := unhex_bad hlt hneg
        have HO1 := Lib.hid ho1
        have HO2 := Lib.hid ho2
        clear ho1 ho2
        obtain ⟨x, hx⟩ : ∃ x, x = byteAt s k := ⟨_, rfl⟩
        rw [← hx] at hbl e0 hub hneg
        clear hx
        go_wp2_with (go_at_call 30; refine (figsIndex_any _ _ (by omega) (by omega)).mono ?_; rintro e w' ⟨rfl, rfl⟩)
        go_ret2
        exact ⟨ret2_sb HO2.out.symm HO1.out.symm, hb⟩
      · have HG := Lib.hid (figsTo_succ hgood.out (by omega))
        by_cases hodd : k % 2 = 1
        · have t1 : (((k : Int) % 2) == 1) = true := by simp; omega
          have HB := Lib.hid (bytesV_pair s (k / 2) (hgood.out _ (by omega)) (by rw [show 2 * (k / 2) + 1 = k by omega]; omega))
          have HU := Lib.hid (show unfig (byteAt s (2 * (k / 2))) = hf ∧ 2 * (k / 2) + 1 = k by
            have := hhalf.out hodd
            rw [show 2 * (k / 2) = k - 1 by omega, this]
            exact ⟨rfl, by omega⟩)
          have hf2 : 0 ≤ hf := by rw [← HU.out.1]; exact hgood.out _ (by omega)
          have HK := Lib.hid (show (k + 1) / 2 = k / 2 + 1 by omega)
          have HX := Lib.hid (show unfig (byteAt s (k + 1 - 1)) = unfig (byteAt s k) from rfl)
          obtain ⟨y, hy⟩ : ∃ y, y = unfig (byteAt s k) := ⟨_, rfl⟩
          have HY := Lib.hid hy
          rw [← hy] at hub hneg
          obtain ⟨m, hm⟩ : ∃ m, m = k / 2 := ⟨_, rfl⟩
          have HM := Lib.hid hm
          have hml : m ≤ 20000 := by omega
          rw [← hm] at hown
          obtain ⟨x, hx⟩ : ∃ x, x = byteAt s k := ⟨_, rfl⟩
          have HXX := Lib.hid (show y = unfig x by rw [hx]; exact hy)
          rw [← hx] at hbl e0
          clear hx hy hm hodd
          go_wp2_with (first | (go_at_call 30; refine (figsIndex_any _ _ (by omega) (by omega)).mono ?_; rintro e w' ⟨rfl, rfl⟩; rw [← HXX.out]) | (at_builtin; refine wpList_append_new rfl _ _ _ rfl w.heap.size _ i0 _ 1 1 Tryd.underlying32 hi hz0 hz1 hz2 rfl (by decide) u4 m _ rfl hown hb hb.size _ 1 1 rfl rfl (by intro u hu; simp at hu; subst hu; rfl) ⟨by omega, by omega⟩ ?_; intro v1 w1 hown1 hb1 hg1 hat1))
          go_roundw
          case rel =>
            refine ⟨k + 1, y, by omega, by go_num, rfl, by omega, by omega, Lib.hid (fun _ => by rw [HX.out]; exact HY.out), HG, ?_, hb1⟩
            have e1 := HB.out
            rw [HU.out.1, HU.out.2, ← HY.out, ← HM.out] at e1
            rw [HK.out, ← HM.out, e1]
            exact hown1
          case measure => simp [intOf]; omega
        · have t1 : (((k : Int) % 2) == 1) = false := by simp; omega
          have HK := Lib.hid (show (k + 1) / 2 = k / 2 by omega)
          obtain ⟨y, hy⟩ : ∃ y, y = unfig (byteAt s k) := ⟨_, rfl⟩
          have HY := Lib.hid hy
          rw [← hy] at hub hneg
          obtain ⟨m, hm⟩ : ∃ m, m = k / 2 := ⟨_, rfl⟩
          have HM := Lib.hid hm
          rw [← hm] at hown
          obtain ⟨x, hx⟩ : ∃ x, x = byteAt s k := ⟨_, rfl⟩
          have HXX := Lib.hid (show y = unfig x by rw [hx]; exact hy)
          rw [← hx] at hbl e0
          clear hx hy hm hodd
          go_wp2_with (first | (go_at_call 30; refine (figsIndex_any _ _ (by omega) (by omega)).mono ?_; rintro e w' ⟨rfl, rfl⟩; rw [← HXX.out]))
          go_roundw
          case rel => exact ⟨k + 1, y, by omega, by go_num, rfl, by omega, by omega, Lib.hid (fun _ => HY.out), HG, by rw [HK.out, ← HM.out]; exact hown, hb⟩
          case measure => simp [intOf]; omega
    · obtain rfl : k = s.size := by omega
      obtain ⟨ho1, ho2⟩ := unhex_yes hs H2.out hgood.out
      have HO1 := Lib.hid ho1
      have HO2 := Lib.hid ho2
      clear ho1 ho2
      have hcv := run_string_own (dst := 9) Tryd.underlying32 Tryd.underlying5 Tryd.underlying9 hown
      clear hown
      go_wp2
      go_ret2
      exact ⟨ret2_sb HO2.out.symm HO1.out.symm, hb⟩

set_option maxRecDepth 100000 in
theorem unhex_impl_no (s : ByteArray) (w : World) (hs : s.size ≤ 1048576) (h2 : ¬ (s.size ≤ 40000 ∧ s.size % 2 = 0)) :
    Calls Tryd.prog 19 #[.string s] w fun e w' => e = .returned (.tuple #[.string (unhexS s), .bool (unhexOk s)]) ∧ Below w.heap.size w w' := by
  obtain ⟨ho1, ho2⟩ := unhex_no (s := s) (fun h => h2 ⟨h.1, h.2.1⟩)
  rw [ho1, ho2]
  clear ho1 ho2
  by_cases hodd : s.size % 2 = 0
  · have t1 : (((s.size : Int) % 2) == 1) = false := by simp; omega
    have t2 : decide ((40000 : Int) < s.size) = true := by simp; omega
    clear h2 hodd
    go_enter Tryd.func19, Tryd.ntmps19
    go_wp2
    go_ret2
    exact ⟨rfl, (by repeat first | exact Below.refl _ _ | assumption | refine Below.drew ?_ | refine below_drewN ?_ _ | refine Below.calm ?_ (by first | exact Nat.le_refl _ | (simp; done) | (simp; omega) | omega) | refine Below.alloc ?_ (by first | exact Nat.le_refl _ | (simp; done) | (simp; omega) | omega) _ | refine Below.setCell ?_ (by first | exact Nat.le_refl _ | (simp; done) | (simp; omega) | omega) _)⟩
  · have t1 : (((s.size : Int) % 2) == 1) = true := by simp; omega
    clear h2 hodd
    go_enter Tryd.func19, Tryd.ntmps19
    go_wp2
    go_ret2
    exact ⟨rfl, (by repeat first | exact Below.refl _ _ | assumption | refine Below.drew ?_ | refine below_drewN ?_ _ | refine Below.calm ?_ (by first | exact Nat.le_refl _ | (simp; done) | (simp; omega) | omega) | refine Below.alloc ?_ (by first | exact Nat.le_refl _ | (simp; done) | (simp; omega) | omega) _ | refine Below.setCell ?_ (by first | exact Nat.le_refl _ | (simp; done) | (simp; omega) | omega) _)⟩

theorem unhex_impl_any (s : ByteArray) (w : World) (hs : s.size ≤ 1048576) : Calls Tryd.prog 19 #[.string s] w fun e w' => e = .returned (.tuple #[.string (unhexS s), .bool (unhexOk s)]) ∧ Below w.heap.size w w' := by
  by_cases h : s.size ≤ 40000 ∧ s.size % 2 = 0
  · exact unhex_impl s w h.1 h.2
  · exact unhex_impl_no s w hs h
end Go.Proofs.YtfcgijhiedlfgaaDoor

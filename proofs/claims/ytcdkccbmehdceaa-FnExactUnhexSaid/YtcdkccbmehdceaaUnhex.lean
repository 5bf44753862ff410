/- The walks of Unhex, the program's and the reference's. -/
import Derived.Test.YtcdkccbmehdceaaHex
import Derived.Test.YtcdkccbmehdceaaUnhexPlain
import Derived.Test.YtcdkccbmehdceaaShelf
namespace Go.Proofs.Ytcdkccbmehdceaa
open Go.RowKit Go.ChangeShapes

theorem figsIndex_any (x : Int) (w : World) (h0 : 0 ≤ x) (h1 : x < 256) :
    Calls Try.prog 43 #[.string ⟨#[48, 49, 50, 51, 52, 53, 54, 55, 56, 57, 97, 98, 99, 100, 101, 102]⟩, .int .u8 x] w fun e w' => e = .returned (.int .i64 (unfig x)) ∧ w = w' := by
  obtain ⟨n, rfl⟩ := Int.eq_ofNat_of_zero_le h0
  have := Try.strings_IndexByte figsB (n : Int) w
  rw [indexByte_at n (by omega)] at this
  exact this.mono fun e w' ⟨he, hw⟩ => ⟨he, hw.symm⟩

set_option maxRecDepth 100000 in
theorem l01Value_any (x : Int) (w : World) (h0 : 0 ≤ x) (h1 : x < 256) : Calls Try.prog 42 #[.int .u8 x] w fun e w' => e = .returned (.int .i64 (unfig x)) ∧ w = w' := by
  by_cases c1 : x < 48
  · have H := Lib.hid (show unfig x = -1 by unfold unfig; rw [if_neg (by omega), if_neg (by omega)])
    have t1 : decide (48 ≤ x) = false := by simp; omega
    have t2 : decide (97 ≤ x) = false := by simp; omega
    go_enter Try.func42, Try.ntmps42
    go_wp2
    go_ret
    exact ⟨ret_int (by rw [H.out]), rfl⟩
  · by_cases c2 : x ≤ 57
    · have H := Lib.hid (show unfig x = x - 48 by unfold unfig; rw [if_pos (by omega)])
      have t1 : decide (48 ≤ x) = true := by simp; omega
      have t2 : decide (x ≤ 57) = true := by simp; omega
      go_enter Try.func42, Try.ntmps42
      go_wp2
      go_ret
      exact ⟨ret_int (by rw [H.out]), rfl⟩
    · have t1 : decide (48 ≤ x) = true := by simp; omega
      have t2 : decide (x ≤ 57) = false := by simp; omega
      by_cases c3 : x < 97
      · have H := Lib.hid (show unfig x = -1 by unfold unfig; rw [if_neg (by omega), if_neg (by omega)])
        have t3 : decide (97 ≤ x) = false := by simp; omega
        go_enter Try.func42, Try.ntmps42
        go_wp2
        go_ret
        exact ⟨ret_int (by rw [H.out]), rfl⟩
      · have t3 : decide (97 ≤ x) = true := by simp; omega
        by_cases c4 : x ≤ 102
        · have H := Lib.hid (show unfig x = x - 97 + 10 by unfold unfig; rw [if_neg (by omega), if_pos (by omega)])
          have t4 : decide (x ≤ 102) = true := by simp; omega
          go_enter Try.func42, Try.ntmps42
          go_wp2
          go_ret
          exact ⟨ret_int (by rw [H.out]), rfl⟩
        · have H := Lib.hid (show unfig x = -1 by unfold unfig; rw [if_neg (by omega), if_neg (by omega)])
          have t4 : decide (x ≤ 102) = false := by simp; omega
          go_enter Try.func42, Try.ntmps42
          go_wp2
          go_ret
          exact ⟨ret_int (by rw [H.out]), rfl⟩

theorem ret2_sb {a b : ByteArray} {c d : Bool} (h1 : a = b) (h2 : c = d) : Ending.returned (.tuple #[.string a, .bool c]) = .returned (.tuple #[.string b, .bool d]) := by rw [h1, h2]

set_option maxRecDepth 100000 in
theorem unhex_impl (s : ByteArray) (w : World) (hs : s.size ≤ 40000) (h2 : s.size % 2 = 0) :
    Calls Try.prog 18 #[.string s] w fun e w' => e = .returned (.tuple #[.string (unhexS s), .bool (unhexOk s)]) ∧ Below w.heap.size w w' := by
  obtain ⟨i0, hi, hz0, hz1, hz2⟩ := info_parts Try.infoU8
  have t1 : (((s.size : Int) % 2) == 1) = false := by simp; omega
  have t2 : decide ((40000 : Int) < s.size) = false := by simp; omega
  have H2 := Lib.hid h2
  clear h2
  go_enter Try.func18, Try.ntmps18
  go_wp2
  clear t1 t2
  go_loopw [4, 5, 6, 7] (fun v h i _ wr => ∃ (k : Nat) (hf : Int), k ≤ s.size ∧ i = .int .i64 k ∧ h = .int .i64 hf ∧ -1 ≤ hf ∧ hf < 16 ∧ Hid (k % 2 = 1 → hf = unfig (byteAt s (k - 1))) ∧ Hid (figsTo s k) ∧
      wr.ownsRow w.heap.size 5 1 v (k / 2) (bytesV (unhexL s (k / 2))) ∧ Below w.heap.size w wr)
    (fun _ _ i _ _ => s.size - (intOf i).toNat)
  case atStart => exact ⟨0, 0, Nat.zero_le _, rfl, rfl, by omega, by omega, Lib.hid (by omega), Lib.hid (fun i hi => by omega), World.ownsRow_nil _ _ _ _, Below.refl _ _⟩
  case round =>
    obtain ⟨k, hf, hk, rfl, rfl, hf0, hf1, hhalf, hgood, hown, hb⟩ := hrel
    by_cases hlt : k < s.size
    · have hbl := byteAt_lt s k
      have e0 := run_byte (P := Try.prog) Try.underlying9 s .i64 k hlt
      have hub := unfig_bd (byteAt s k)
      by_cases hneg : unfig (byteAt s k) < 0
      · obtain ⟨ho1, ho2⟩ := unhex_bad hlt hneg
        have HO1 := Lib.hid ho1
        have HO2 := Lib.hid ho2
        clear ho1 ho2
        obtain ⟨x, hx⟩ : ∃ x, x = byteAt s k := ⟨_, rfl⟩
        rw [← hx] at hbl e0 hub hneg
        clear hx
        go_wp2_with (go_at_call 43; refine (figsIndex_any _ _ (by omega) (by omega)).mono ?_; rintro e w' ⟨rfl, rfl⟩)
        go_ret2
        exact ⟨ret2_sb HO2.out.symm HO1.out.symm, hb⟩
      · have HG := Lib.hid (figsTo_succ hgood.out (by omega))
        by_cases hodd : k % 2 = 1
        · have t1 : (((k : Int) % 2) == 1) = true := by simp; omega
          have HB := Lib.hid (bytesV_pair s (k / 2) (hgood.out _ (by omega)) (by rw [show 2 * (k / 2) + 1 = k by omega]; omega))
          have HU := Lib.hid (show unfig (byteAt s (2 * (k / 2))) = hf ∧ 2 * (k / 2) + 1 = k by
            have := hhalf.out hodd
            rw [show 2 * (k / 2) = k - 1 by omega, this]
            exact ⟨rfl, by omega⟩)
          have hf2 : 0 ≤ hf := by rw [← HU.out.1]; exact hgood.out _ (by omega)
          have HK := Lib.hid (show (k + 1) / 2 = k / 2 + 1 by omega)
          have HX := Lib.hid (show unfig (byteAt s (k + 1 - 1)) = unfig (byteAt s k) from rfl)
          obtain ⟨y, hy⟩ : ∃ y, y = unfig (byteAt s k) := ⟨_, rfl⟩
          have HY := Lib.hid hy
          rw [← hy] at hub hneg
          obtain ⟨m, hm⟩ : ∃ m, m = k / 2 := ⟨_, rfl⟩
          have HM := Lib.hid hm
          have hml : m ≤ 20000 := by omega
          rw [← hm] at hown
          obtain ⟨x, hx⟩ : ∃ x, x = byteAt s k := ⟨_, rfl⟩
          have HXX := Lib.hid (show y = unfig x by rw [hx]; exact hy)
          rw [← hx] at hbl e0
          clear hx hy hm hodd
          go_wp2_with (first | (go_at_call 43; refine (figsIndex_any _ _ (by omega) (by omega)).mono ?_; rintro e w' ⟨rfl, rfl⟩; rw [← HXX.out]) | (at_builtin; refine wpList_append_new rfl _ _ _ rfl w.heap.size _ i0 _ 1 1 Try.underlying30 hi hz0 hz1 hz2 rfl (by decide) u4 m _ rfl hown hb hb.size _ 1 1 rfl rfl (by intro u hu; simp at hu; subst hu; rfl) ⟨by omega, by omega⟩ ?_; intro v1 w1 hown1 hb1 hg1 hat1))
          go_roundw
          case rel =>
            refine ⟨k + 1, y, by omega, by go_num, rfl, by omega, by omega, Lib.hid (fun _ => by rw [HX.out]; exact HY.out), HG, ?_, hb1⟩
            have e1 := HB.out
            rw [HU.out.1, HU.out.2, ← HY.out, ← HM.out] at e1
            rw [HK.out, ← HM.out, e1]
            exact hown1
          case measure => simp [intOf]; omega
        · have t1 : (((k : Int) % 2) == 1) = false := by simp; omega
          have HK := Lib.hid (show (k + 1) / 2 = k / 2 by omega)
          obtain ⟨y, hy⟩ : ∃ y, y = unfig (byteAt s k) := ⟨_, rfl⟩
          have HY := Lib.hid hy
          rw [← hy] at hub hneg
          obtain ⟨m, hm⟩ : ∃ m, m = k / 2 := ⟨_, rfl⟩
          have HM := Lib.hid hm
          rw [← hm] at hown
          obtain ⟨x, hx⟩ : ∃ x, x = byteAt s k := ⟨_, rfl⟩
          have HXX := Lib.hid (show y = unfig x by rw [hx]; exact hy)
          rw [← hx] at hbl e0
          clear hx hy hm hodd
          go_wp2_with (first | (go_at_call 43; refine (figsIndex_any _ _ (by omega) (by omega)).mono ?_; rintro e w' ⟨rfl, rfl⟩; rw [← HXX.out]))
          go_roundw
          case rel => exact ⟨k + 1, y, by omega, by go_num, rfl, by omega, by omega, Lib.hid (fun _ => HY.out), HG, by rw [HK.out, ← HM.out]; exact hown, hb⟩
          case measure => simp [intOf]; omega
    · obtain rfl : k = s.size := by omega
      obtain ⟨ho1, ho2⟩ := unhex_yes hs H2.out hgood.out
      have HO1 := Lib.hid ho1
      have HO2 := Lib.hid ho2
      clear ho1 ho2
      have hcv := run_string_own (dst := 9) Try.underlying30 Try.underlying5 Try.underlying9 hown
      clear hown
      go_wp2
      go_ret2
      exact ⟨ret2_sb HO2.out.symm HO1.out.symm, hb⟩

set_option maxRecDepth 100000 in
theorem unhex_impl_no (s : ByteArray) (w : World) (hs : s.size ≤ 1048576) (h2 : ¬ (s.size ≤ 40000 ∧ s.size % 2 = 0)) :
    Calls Try.prog 18 #[.string s] w fun e w' => e = .returned (.tuple #[.string (unhexS s), .bool (unhexOk s)]) ∧ Below w.heap.size w w' := by
  obtain ⟨ho1, ho2⟩ := unhex_no (s := s) (fun h => h2 ⟨h.1, h.2.1⟩)
  rw [ho1, ho2]
  clear ho1 ho2
  by_cases hodd : s.size % 2 = 0
  · have t1 : (((s.size : Int) % 2) == 1) = false := by simp; omega
    have t2 : decide ((40000 : Int) < s.size) = true := by simp; omega
    clear h2 hodd
    go_enter Try.func18, Try.ntmps18
    go_wp2
    go_ret2
    exact ⟨rfl, (by repeat first | exact Below.refl _ _ | assumption | refine Below.drew ?_ | refine below_drewN ?_ _ | refine Below.calm ?_ (by first | exact Nat.le_refl _ | (simp; done) | (simp; omega)) | refine Below.alloc ?_ (by first | exact Nat.le_refl _ | (simp; done) | (simp; omega)) _ | refine Below.setCell ?_ (by first | exact Nat.le_refl _ | (simp; done) | (simp; omega)) _)⟩
  · have t1 : (((s.size : Int) % 2) == 1) = true := by simp; omega
    clear h2 hodd
    go_enter Try.func18, Try.ntmps18
    go_wp2
    go_ret2
    exact ⟨rfl, (by repeat first | exact Below.refl _ _ | assumption | refine Below.drew ?_ | refine below_drewN ?_ _ | refine Below.calm ?_ (by first | exact Nat.le_refl _ | (simp; done) | (simp; omega)) | refine Below.alloc ?_ (by first | exact Nat.le_refl _ | (simp; done) | (simp; omega)) _ | refine Below.setCell ?_ (by first | exact Nat.le_refl _ | (simp; done) | (simp; omega)) _)⟩

set_option maxRecDepth 100000 in
theorem unhex_spec_no (s : ByteArray) (w : World) (hs : s.size ≤ 1048576) (h2 : ¬ (s.size ≤ 40000 ∧ s.size % 2 = 0)) :
    Calls Try.prog 17 #[.string s] w fun e w' => e = .returned (.tuple #[.string (unhexS s), .bool (unhexOk s)]) ∧ Below w.heap.size w w' := by
  obtain ⟨ho1, ho2⟩ := unhex_no (s := s) (fun h => h2 ⟨h.1, h.2.1⟩)
  rw [ho1, ho2]
  clear ho1 ho2
  by_cases hb : s.size ≤ 40000
  · have t1 : (((s.size : Int) % 2) != 0) = true := by rw [bne_iff_ne]; omega
    have t2 : decide ((40000 : Int) < s.size) = false := by simp; omega
    clear h2
    go_enter Try.func17, Try.ntmps17
    go_wp2
    go_ret2
    exact ⟨rfl, (by repeat first | exact Below.refl _ _ | assumption | refine Below.drew ?_ | refine below_drewN ?_ _ | refine Below.calm ?_ (by first | exact Nat.le_refl _ | (simp; done) | (simp; omega)) | refine Below.alloc ?_ (by first | exact Nat.le_refl _ | (simp; done) | (simp; omega)) _ | refine Below.setCell ?_ (by first | exact Nat.le_refl _ | (simp; done) | (simp; omega)) _)⟩
  · have t2 : decide ((40000 : Int) < s.size) = true := by simp; omega
    clear h2 hb
    go_enter Try.func17, Try.ntmps17
    go_wp2
    go_ret2
    exact ⟨rfl, (by repeat first | exact Below.refl _ _ | assumption | refine Below.drew ?_ | refine below_drewN ?_ _ | refine Below.calm ?_ (by first | exact Nat.le_refl _ | (simp; done) | (simp; omega)) | refine Below.alloc ?_ (by first | exact Nat.le_refl _ | (simp; done) | (simp; omega)) _ | refine Below.setCell ?_ (by first | exact Nat.le_refl _ | (simp; done) | (simp; omega)) _)⟩

set_option maxRecDepth 100000 in
theorem unhex_spec (s : ByteArray) (w : World) (hs : s.size ≤ 40000) (h2 : s.size % 2 = 0) :
    Calls Try.prog 17 #[.string s] w fun e w' => e = .returned (.tuple #[.string (unhexS s), .bool (unhexOk s)]) ∧ Below w.heap.size w w' := by
  obtain ⟨i0, hi, hz0, hz1, hz2⟩ := info_parts Try.infoU8
  have t1 : (((s.size : Int) % 2) != 0) = false := by rw [bne_eq_false_iff_eq]; omega
  have t2 : decide ((40000 : Int) < s.size) = false := by simp; omega
  have H2 := Lib.hid h2
  obtain ⟨n, hn⟩ : ∃ n, s.size = 2 * n := ⟨s.size / 2, by omega⟩
  have HN := Lib.hid hn
  have hn1 : 2 * n ≤ s.size := by omega
  have hn2 : s.size ≤ 2 * n := by omega
  clear h2 hn
  go_enter Try.func17, Try.ntmps17
  go_wp2
  clear t1 t2
  go_loopw [4, 5, 6, 7] (fun v i _ _ wr => ∃ (k : Nat), k ≤ n ∧ i = .int .i64 ((2 * k : Nat) : Int) ∧ Hid (figsTo s (2 * k)) ∧ wr.ownsRow w.heap.size 5 1 v k (bytesV (unhexL s k)) ∧ Below w.heap.size w wr)
    (fun _ i _ _ _ => s.size - (intOf i).toNat)
  case atStart => exact ⟨0, Nat.zero_le _, rfl, Lib.hid (fun i hi => by omega), World.ownsRow_made _ #[] 0 (Nat.le_refl _) (by decide) rfl, (Below.refl _ _).alloc (Nat.le_refl _) _⟩
  case round =>
    obtain ⟨k, hk, rfl, hgood, hown, hb⟩ := hrel
    obtain ⟨j, hj⟩ : ∃ j, j = 2 * k := ⟨_, rfl⟩
    have HJ := Lib.hid hj
    have hj1 : j ≤ 2 * k := by omega
    have hj2 : 2 * k ≤ j := by omega
    rw [← hj] at hgood ⊢
    by_cases hlt : k < n
    · have hbl0 := byteAt_lt s j
      have hbl1 := byteAt_lt s (j + 1)
      have e0 := run_byte (P := Try.prog) Try.underlying9 s .i64 j (by omega)
      have e1 := run_byte (P := Try.prog) Try.underlying9 s .i64 (j + 1) (by omega)
      rw [show ((j + 1 : Nat) : Int) = (j : Int) + 1 by omega] at e1
      have hu0 := unfig_bd (byteAt s j)
      have hu1 := unfig_bd (byteAt s (j + 1))
      have HG := Lib.hid (show 0 ≤ unfig (byteAt s j) → 0 ≤ unfig (byteAt s (j + 1)) → figsTo s (2 * (k + 1)) ∧ bytesV (unhexL s (k + 1)) = bytesV (unhexL s k) ++ [.int .u8 (16 * unfig (byteAt s j) + unfig (byteAt s (j + 1)))] from fun a b => by
        have h1 := bytesV_pair s k (by rw [← hj]; exact a) (by rw [← hj]; exact b)
        rw [← hj] at h1
        exact ⟨by rw [show 2 * (k + 1) = j + 1 + 1 by omega]; exact figsTo_succ (figsTo_succ hgood.out a) b, h1⟩)
      have HB0 := Lib.hid (show unfig (byteAt s j) < 0 → unhexOk s = false ∧ unhexS s = ⟨#[]⟩ from unhex_bad (by omega))
      have HB1 := Lib.hid (show unfig (byteAt s (j + 1)) < 0 → unhexOk s = false ∧ unhexS s = ⟨#[]⟩ from unhex_bad (by omega))
      obtain ⟨y0, hy0⟩ : ∃ y, y = unfig (byteAt s j) := ⟨_, rfl⟩
      obtain ⟨y1, hy1⟩ : ∃ y, y = unfig (byteAt s (j + 1)) := ⟨_, rfl⟩
      rw [← hy0] at hu0 HG HB0
      rw [← hy1] at hu1 HG HB1
      obtain ⟨x0, hx0⟩ : ∃ x, x = byteAt s j := ⟨_, rfl⟩
      obtain ⟨x1, hx1⟩ : ∃ x, x = byteAt s (j + 1) := ⟨_, rfl⟩
      rw [← hx0] at hbl0 e0 hy0
      rw [← hx1] at hbl1 e1 hy1
      have HY0 := Lib.hid hy0
      have HY1 := Lib.hid hy1
      clear hx0 hx1 hy0 hy1 hj
      have c0 : ∀ w : World, Calls Try.prog 42 #[.int .u8 (x0 : Int)] w fun e w' => e = .returned (.int .i64 y0) ∧ w = w' := fun w => by rw [HY0.out]; exact l01Value_any _ w (by omega) (by omega)
      have c1 : ∀ w : World, Calls Try.prog 42 #[.int .u8 (x1 : Int)] w fun e w' => e = .returned (.int .i64 y1) ∧ w = w' := fun w => by rw [HY1.out]; exact l01Value_any _ w (by omega) (by omega)
      have C0 := Lib.hid c0
      have C1 := Lib.hid c1
      clear c0 c1
      by_cases n0 : y0 < 0
      · obtain ⟨ho1, ho2⟩ := HB0.out n0
        have HO := Lib.hid (And.intro ho1 ho2)
        clear ho1 ho2
        have t0 : decide (y0 < 0) = true := by simp; omega
        go_wp2_with fail
        refine (C0.out _).mono ?_
        rintro e w' ⟨rfl, rfl⟩
        go_wp2_with fail
        refine (C1.out _).mono ?_
        rintro e w' ⟨rfl, rfl⟩
        go_wp2
        go_ret2
        exact ⟨ret2_sb HO.out.2.symm HO.out.1.symm, hb⟩
      · have t0 : decide (y0 < 0) = false := by simp; omega
        by_cases n1 : y1 < 0
        · obtain ⟨ho1, ho2⟩ := HB1.out n1
          have HO := Lib.hid (And.intro ho1 ho2)
          clear ho1 ho2
          have t1 : decide (y1 < 0) = true := by simp; omega
          go_wp2_with fail
          refine (C0.out _).mono ?_
          rintro e w' ⟨rfl, rfl⟩
          go_wp2_with fail
          refine (C1.out _).mono ?_
          rintro e w' ⟨rfl, rfl⟩
          go_wp2
          go_ret2
          exact ⟨ret2_sb HO.out.2.symm HO.out.1.symm, hb⟩
        · have t1 : decide (y1 < 0) = false := by simp; omega
          go_wp2_with fail
          refine (C0.out _).mono ?_
          rintro e w' ⟨rfl, rfl⟩
          go_wp2_with fail
          refine (C1.out _).mono ?_
          rintro e w' ⟨rfl, rfl⟩
          go_wp2_with (at_builtin; refine wpList_append_new rfl _ _ _ rfl w.heap.size _ i0 _ 1 1 Try.underlying30 hi hz0 hz1 hz2 rfl (by decide) u4 k _ rfl hown hb hb.size _ 1 1 rfl rfl (by intro u hu; simp at hu; subst hu; rfl) ⟨by omega, by omega⟩ ?_; intro v1 w1 hown1 hb1 hg1 hat1)
          go_roundw
          case rel => exact ⟨k + 1, by omega, by rw [show ((2 * (k + 1) : Nat) : Int) = (j : Int) + 2 by omega], Lib.hid (HG.out (by omega) (by omega)).1, by rw [(HG.out (by omega) (by omega)).2]; exact hown1, hb1⟩
          case measure => simp [intOf]; omega
    · obtain rfl : k = n := by omega
      obtain ⟨ho1, ho2⟩ := unhex_yes hs H2.out (by rw [show s.size = j by omega]; exact hgood.out)
      have HO1 := Lib.hid ho1
      have HO2 := Lib.hid (show unhexS s = ⟨(unhexL s k).toArray⟩ by rw [ho2, show s.size / 2 = k by omega])
      clear ho1 ho2 hj
      have hcv := run_string_own (dst := 9) Try.underlying30 Try.underlying5 Try.underlying9 hown
      clear hown
      go_wp2
      go_ret2
      exact ⟨ret2_sb HO2.out.symm HO1.out.symm, hb⟩

theorem unhex_impl_any (s : ByteArray) (w : World) (hs : s.size ≤ 1048576) : Calls Try.prog 18 #[.string s] w fun e w' => e = .returned (.tuple #[.string (unhexS s), .bool (unhexOk s)]) ∧ Below w.heap.size w w' := by
  by_cases h : s.size ≤ 40000 ∧ s.size % 2 = 0
  · exact unhex_impl s w h.1 h.2
  · exact unhex_impl_no s w hs h
theorem unhex_spec_any (s : ByteArray) (w : World) (hs : s.size ≤ 1048576) : Calls Try.prog 17 #[.string s] w fun e w' => e = .returned (.tuple #[.string (unhexS s), .bool (unhexOk s)]) ∧ Below w.heap.size w w' := by
  by_cases h : s.size ≤ 40000 ∧ s.size % 2 = 0
  · exact unhex_spec s w h.1 h.2
  · exact unhex_spec_no s w hs h
end Go.Proofs.Ytcdkccbmehdceaa

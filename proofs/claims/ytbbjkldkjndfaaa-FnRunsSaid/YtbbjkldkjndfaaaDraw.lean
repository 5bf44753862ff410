/- Draws: the cursor over a law's bytes, as the reference's draws use it. -/
import Derived.Test.YtbbjkldkjndfaaaGA
import Derived.Test.YtbbjkldkjndfaaaGB
import Derived.IntWalk
namespace Go.Proofs.Ytbbjkldkjndfaaa
open Go.RowKit Go.ChangeShapes Go.Deep

theorem and_bd (a : Int) (m : Nat) (hm : m < 4294967296) : 0 ≤ bits .and .i64 a (m : Int) ∧ bits .and .i64 a (m : Int) ≤ m := by
  have hx : (BitVec.ofInt 64 a).toNat &&& m ≤ m := Nat.and_le_right
  have e : bits .and .i64 a (m : Int) = (((BitVec.ofInt 64 a).toNat &&& m : Nat) : Int) := by
    show IntKind.i64.wrap ((BitVec.ofInt 64 a &&& BitVec.ofInt 64 (m : Int)).toNat : Int) = _
    rw [BitVec.toNat_and, ofInt_i64 m (by omega), IntKind.wrap_i64]
    omega
  rw [e]
  omega
theorem and_255 (a : Int) : 0 ≤ bits .and .i64 a 255 ∧ bits .and .i64 a 255 ≤ 255 := and_bd a 255 (by omega)
theorem and_m30 (a : Int) : 0 ≤ bits .and .i64 a 1073741823 ∧ bits .and .i64 a 1073741823 ≤ 1073741823 := and_bd a 1073741823 (by omega)

/-- The cursor's number, one step on. -/
def lcg (h : Int) : Int := wrap64 (wrap64 (h * 6364136223846793005) + 1442695040888963407)
def hashB (h : Int) : Int := bits .and .i64 (bits .xor .i64 (h / 8589934592) (h / 35184372088832)) 255
def newTo (code : List UInt8) : Nat → Int
  | 0 => 94701 + code.length
  | k + 1 => bits .and .i64 (newTo code k * 131 + (code.getD k 0).toNat + 7) 1073741823
theorem newTo_bd (code : List UInt8) (h : code.length ≤ 1048576) : ∀ k, 0 ≤ newTo code k ∧ newTo code k ≤ 1073741823
  | 0 => by simp only [newTo]; omega
  | k + 1 => and_m30 _
def newC (code : List UInt8) : Nat × Int := (0, newTo code (min code.length 4000))
def curByte (code : List UInt8) (c : Nat × Int) : Int × (Nat × Int) :=
  if c.1 < code.length then (bits .and .i64 (hashB (lcg c.2) + (code.getD c.1 0).toNat) 255, (c.1 + 1, lcg c.2)) else (hashB (lcg c.2), (c.1, lcg c.2))
theorem curByte_bd (code : List UInt8) (c : Nat × Int) : 0 ≤ (curByte code c).1 ∧ (curByte code c).1 ≤ 255 := by
  unfold curByte
  by_cases h : c.1 < code.length
  · rw [if_pos h]; exact and_255 _
  · rw [if_neg h]; exact and_255 _
theorem curByte_le (code : List UInt8) (c : Nat × Int) (h : c.1 ≤ code.length) : (curByte code c).2.1 ≤ code.length := by
  unfold curByte
  by_cases h : c.1 < code.length
  · rw [if_pos h]; show c.1 + 1 ≤ _; omega
  · rw [if_neg h]; show c.1 ≤ _; omega
def cur4 (code : List UInt8) (c : Nat × Int) : Int × (Nat × Int) :=
  ((curByte code c).1 * 16777216 + (curByte code (curByte code c).2).1 * 65536 + (curByte code (curByte code (curByte code c).2).2).1 * 256 + (curByte code (curByte code (curByte code (curByte code c).2).2).2).1,
    (curByte code (curByte code (curByte code (curByte code c).2).2).2).2)
def curBelow (code : List UInt8) (n : Int) (c : Nat × Int) : Int × (Nat × Int) :=
  if n ≤ 0 then (0, c) else if n ≤ 256 then ((curByte code c).1 % n, (curByte code c).2) else ((cur4 code c).1 % n, (cur4 code c).2)
theorem curBelow_bd (code : List UInt8) (n : Int) (c : Nat × Int) (hn : 0 < n) : 0 ≤ (curBelow code n c).1 ∧ (curBelow code n c).1 < n := by
  unfold curBelow
  rw [if_neg (by omega)]
  by_cases h : n ≤ 256
  · rw [if_pos h]; exact ⟨Int.emod_nonneg _ (by omega), Int.emod_lt_of_pos _ hn⟩
  · rw [if_neg h]; exact ⟨Int.emod_nonneg _ (by omega), Int.emod_lt_of_pos _ hn⟩
theorem curBelow_le (code : List UInt8) (n : Int) (c : Nat × Int) (h : c.1 ≤ code.length) : (curBelow code n c).2.1 ≤ code.length := by
  have h1 := curByte_le code c h
  have h2 := curByte_le code _ h1
  have h3 := curByte_le code _ h2
  have h4 := curByte_le code _ h3
  unfold curBelow
  by_cases a : n ≤ 0
  · rw [if_pos a]; exact h
  · rw [if_neg a]
    by_cases b : n ≤ 256
    · rw [if_pos b]; exact h1
    · rw [if_neg b]; exact h4

/-- A slice below block B. -/
def RdB (w : World) (B size : Nat) (v : Value) (n : Nat) (xs : List Value) : Prop := ∃ A c, v = .slice A n c ∧ n ≤ c ∧ c ≤ maxLen ∧ Reads w B size A n xs
theorem RdB.of {w : World} {size n : Nat} {v : Value} {xs : List Value} (h : Rd w size v n xs) : RdB w w.heap.size size v n xs := h
theorem RdB.to {w : World} {B size n : Nat} {v : Value} {xs : List Value} (h : RdB w B size v n xs) (hB : B ≤ w.heap.size) : Rd w size v n xs := by
  obtain ⟨A, c, h0, h1, h2, h3⟩ := h
  exact ⟨A, c, h0, h1, h2, h3.more hB⟩
theorem RdB.below {w w' : World} {B size n : Nat} {v : Value} {xs : List Value} (h : RdB w B size v n xs) (hb : Below B w w') : RdB w' B size v n xs := by
  obtain ⟨A, c, h0, h1, h2, h3⟩ := h
  exact ⟨A, c, h0, h1, h2, h3.below hb⟩
/-- The cursor c over code lies in block g. -/
structure CurAt (w : World) (B g : Nat) (v : Value) (code : List UInt8) (c : Nat × Int) : Prop where
  blk : Blk w g 99 #[v, .int .i64 c.1, .int .i64 c.2]
  rd : RdB w B 1 v code.length (bytesV code)
  at_ : c.1 ≤ code.length
  len : code.length ≤ 1048576
  base : B ≤ g
theorem CurAt.le {w : World} {B g : Nat} {v : Value} {code : List UInt8} {c : Nat × Int} (h : CurAt w B g v code c) : B ≤ w.heap.size := by have := h.blk.lt; have := h.base; omega
theorem CurAt.keep {w w' : World} {B g : Nat} {v : Value} {code : List UInt8} {c : Nat × Int} {row : Option Nat} (h : CurAt w B g v code c) (hg : w.grownBy w' row) (hr : ∀ k, row = some k → B ≤ k) (hne : some g ≠ row) : CurAt w' B g v code c :=
  ⟨h.blk.grown hg hne, h.rd.below (grown_below hg hr h.le), h.at_, h.len, h.base⟩
theorem CurAt.below {w w' : World} {B g : Nat} {v : Value} {code : List UInt8} {c : Nat × Int} (h : CurAt w B g v code c) (hb : Below w.heap.size w w') : CurAt w' B g v code c :=
  h.keep (only_of_below hb none) (by simp) (by simp)

/-- What a draw leaves: its value, and the cursor one or some steps on. -/
def Drew (w0 : World) (B g : Nat) (v : Value) (code : List UInt8) (r : Int × (Nat × Int)) (e : Ending) (w' : World) : Prop :=
  e = .returned (.int .i64 r.1) ∧ CurAt w' B g v code r.2 ∧ w0.grownBy w' (some g)

set_option maxRecDepth 100000 in
theorem l01Byte_any (w : World) (B g : Nat) (v : Value) (code : List UInt8) (c : Nat × Int) (h : CurAt w B g v code c) :
    Calls Try.prog 115 #[.pointer (some ⟨g, 0, none⟩)] w (Drew w B g v code (curByte code c)) := by
  obtain ⟨hblk, hrd, hi, hlen, hbase⟩ := h
  obtain ⟨i, hh⟩ := c
  obtain ⟨A, cp, rfl, hnc, hcm, hrs⟩ := hrd
  unfold maxLen at hcm
  have c0 := hblk.cell 0
  have c1 := hblk.cell 1
  have c2 := hblk.cell 2
  have f1 := hblk.frozen 1
  have f2 := hblk.frozen 2
  simp only [List.getElem?_toArray, List.getElem?_cons_succ, List.getElem?_cons_zero] at c0 c1 c2
  have hgl := hblk.lt
  by_cases hlt : i < code.length
  · have HB := Lib.hid (show curByte code (i, hh) = (bits .and .i64 (hashB (lcg hh) + (code.getD i 0).toNat) 255, (i + 1, lcg hh)) by rw [curByte, if_pos hlt])
    have HL := Lib.hid (show lcg hh = wrap64 (wrap64 (hh * 6364136223846793005) + 1442695040888963407) from rfl)
    obtain ⟨ad, hA, hab, hcs⟩ := hrs.2 (by omega)
    obtain ⟨b, off, spot⟩ := ad
    have hcc := hcs i (.int .u8 (code[i].toNat : Int)) (by simp [bytesV, hlt])
    have hspot : spot = none := by simpa [Addr.add] using World.cell?_spot (hcs 0 (.int .u8 (code[0].toNat : Int)) (by simp only [bytesV, List.getElem?_map, List.getElem?_eq_getElem (show 0 < code.length by omega), Option.map_some]))
    subst hspot
    subst hA
    have hcode : w.cell? ⟨b, off + i, none⟩ = some (.int .u8 (code[i].toNat : Int)) := by
      rw [← hcc]
      congr 1
      unfold Addr.add; split <;> simp_all
    have HX := Lib.hid (show (code.getD i 0).toNat = code[i].toNat by simp [List.getD, hlt])
    have hx : code[i].toNat < 256 := UInt8.toNat_lt _
    obtain ⟨x, hxx⟩ : ∃ x, x = code[i].toNat := ⟨_, rfl⟩
    rw [← hxx] at hcode HX hx
    have hx1 : (x : Int) < 256 := by omega
    have hrd : RdB w B 1 (.slice (some ⟨b, off, none⟩) code.length cp) code.length (bytesV code) := ⟨_, _, rfl, hnc, by unfold maxLen; exact hcm, hrs⟩
    have HRD := Lib.hid hrd
    simp only at hab
    clear hxx hrd hcs hcc hrs
    go_enter Try.func115, Try.ntmps115
    go_wp2
    generalize hL : wrap64 (wrap64 (hh * 6364136223846793005) + 1442695040888963407) = h1
    have HL1 := Lib.hid (HL.out.trans hL)
    clear hL HL
    have hblk1 : Blk (w.setCell ⟨g, 2, none⟩ (.int .i64 h1)) g 99 #[.slice (some ⟨b, off, none⟩) code.length cp, .int .i64 i, .int .i64 h1] := hblk.set_ 2 _
    have hg1 : w.grownBy (w.setCell ⟨g, 2, none⟩ (.int .i64 h1)) (some g) := only_setCell (World.grownBy.refl _ _) (.inl rfl) _
    have hcode1 : (w.setCell ⟨g, 2, none⟩ (.int .i64 h1)).cell? ⟨b, off + i, none⟩ = some (.int .u8 (x : Int)) := (World.cell?_setCell_other _ _ _ _ (by simp <;> omega)).trans hcode
    generalize w.setCell ⟨g, 2, none⟩ (.int .i64 h1) = W at *
    have HG1 := Lib.hid hg1
    have d0 := hblk1.cell 0
    have d1 := hblk1.cell 1
    have d2 := hblk1.cell 2
    have e1 := hblk1.frozen 1
    simp only [List.getElem?_toArray, List.getElem?_cons_succ, List.getElem?_cons_zero] at d0 d1 d2
    have hgW := hblk1.lt
    have hbW : b < W.heap.size := Nat.lt_of_lt_of_le (show b < w.heap.size by omega) hg1.size
    have HBLK1 := Lib.hid hblk1
    have hi1 : (i : Int) < (code.length : Int) := by omega
    have hi0 : (0 : Int) ≤ (i : Int) := by omega
    have hwx : IntKind.i64.wrap (x : Int) = (x : Int) := IntWalk.i64_in _ (by omega)
    have HH := Lib.hid (show hashB h1 = bits .and .i64 (bits .xor .i64 (h1 / 8589934592) (h1 / 35184372088832)) 255 from rfl)
    clear c0 c1 c2 f1 f2 hblk hblk1 hg1 hcode hlt
    first | refine wp_region_calm_on (by kernel_rfl) (by kernel_rfl) ?_ | refine wp_region_calm_lit (by kernel_rfl) (by kernel_rfl) ?_
    repeat (go_big_quiet_step (fail))
    refine wpQuiet_nil ?_
    intro _ hw'
    obtain ⟨k1, hw''⟩ := hw'
    subst hw''
    go_wp2
    first | refine wp_region_calm_on (by kernel_rfl) (by kernel_rfl) ?_ | refine wp_region_calm_lit (by kernel_rfl) (by kernel_rfl) ?_
    repeat (go_big_quiet_step (fail))
    refine wpQuiet_nil ?_
    intro _ hw'
    obtain ⟨k2, hw''⟩ := hw'
    subst hw''
    go_wp2
    first | refine wp_region_calm_on (by kernel_rfl) (by kernel_rfl) ?_ | refine wp_region_calm_lit (by kernel_rfl) (by kernel_rfl) ?_
    repeat (go_big_quiet_step (fail))
    refine wpQuiet_nil ?_
    intro _ hw'
    obtain ⟨k3, hw''⟩ := hw'
    subst hw''
    go_wp2
    go_ret
    have hb1 := HBLK1.out.below k3.below hgW
    have hg3 := (only_below HG1.out k3.below)
    have hw2 : wrap64 (hashB h1 + (x : Int)) = hashB h1 + (x : Int) := by exact IntWalk.wrap64_in _ (by have := and_255 (bits .xor .i64 (h1 / 8589934592) (h1 / 35184372088832)); rw [← HH.out] at this; omega)
    rw [← HH.out, hw2]
    have hset := hb1.set_ 1 (.int .i64 ((i : Int) + 1))
    have hgs : w.grownBy (k3.w.setCell ⟨g, 1, none⟩ (.int .i64 ((i : Int) + 1))) (some g) := only_setCell hg3 (.inl rfl) _
    refine ⟨ret_int (by rw [HB.out, HL1.out, HX.out]), ?_, hgs⟩
    rw [HB.out, HL1.out]
    exact ⟨hset, HRD.out.below (grown_below hgs (by intro k hk; injection hk with hk; omega) (by omega)), by show i + 1 ≤ _; omega, hlen, hbase⟩
  · have HB := Lib.hid (show curByte code (i, hh) = (hashB (lcg hh), (i, lcg hh)) by rw [curByte, if_neg hlt])
    have HL := Lib.hid (show lcg hh = wrap64 (wrap64 (hh * 6364136223846793005) + 1442695040888963407) from rfl)
    have hrd : RdB w B 1 (.slice A code.length cp) code.length (bytesV code) := ⟨_, _, rfl, hnc, by unfold maxLen; exact hcm, hrs⟩
    have HRD := Lib.hid hrd
    clear hrd hrs
    go_enter Try.func115, Try.ntmps115
    go_wp2
    generalize hL : wrap64 (wrap64 (hh * 6364136223846793005) + 1442695040888963407) = h1
    have HL1 := Lib.hid (HL.out.trans hL)
    clear hL HL
    have hblk1 : Blk (w.setCell ⟨g, 2, none⟩ (.int .i64 h1)) g 99 #[.slice A code.length cp, .int .i64 i, .int .i64 h1] := hblk.set_ 2 _
    have hg1 : w.grownBy (w.setCell ⟨g, 2, none⟩ (.int .i64 h1)) (some g) := only_setCell (World.grownBy.refl _ _) (.inl rfl) _
    generalize w.setCell ⟨g, 2, none⟩ (.int .i64 h1) = W at *
    have HG1 := Lib.hid hg1
    have d0 := hblk1.cell 0
    have d1 := hblk1.cell 1
    have d2 := hblk1.cell 2
    simp only [List.getElem?_toArray, List.getElem?_cons_succ, List.getElem?_cons_zero] at d0 d1 d2
    have hgW := hblk1.lt
    have HBLK1 := Lib.hid hblk1
    have hie : i = code.length := by omega
    subst hie
    have hi1 : ¬ (code.length : Int) < (code.length : Int) := by omega
    have hi0 : (0 : Int) ≤ (code.length : Int) := by omega
    have HH := Lib.hid (show hashB h1 = bits .and .i64 (bits .xor .i64 (h1 / 8589934592) (h1 / 35184372088832)) 255 from rfl)
    clear c0 c1 c2 f1 f2 hblk hblk1 hg1 hlt
    first | refine wp_region_calm_on (by kernel_rfl) (by kernel_rfl) ?_ | refine wp_region_calm_lit (by kernel_rfl) (by kernel_rfl) ?_
    repeat (go_big_quiet_step (fail))
    refine wpQuiet_nil ?_
    intro _ hw'
    obtain ⟨k1, hw''⟩ := hw'
    subst hw''
    go_wp2
    first | refine wp_region_calm_on (by kernel_rfl) (by kernel_rfl) ?_ | refine wp_region_calm_lit (by kernel_rfl) (by kernel_rfl) ?_
    repeat (go_big_quiet_step (fail))
    refine wpQuiet_nil ?_
    intro _ hw'
    obtain ⟨k2, hw''⟩ := hw'
    subst hw''
    go_wp2
    go_ret
    rw [← HH.out]
    have hgs := only_below HG1.out k2.below
    refine ⟨ret_int (by rw [HB.out, HL1.out]), ?_, hgs⟩
    rw [HB.out, HL1.out]
    exact ⟨HBLK1.out.below k2.below hgW, HRD.out.below (grown_below hgs (by intro k hk; injection hk with hk; omega) (by omega)), by show code.length ≤ _; omega, hlen, hbase⟩

/-- What a new cursor is. -/
def NewCur (w0 : World) (v : Value) (code : List UInt8) (e : Ending) (w' : World) : Prop := ∃ g, e = .returned (.pointer (some ⟨g, 0, none⟩)) ∧ CurAt w' w0.heap.size g v code (newC code) ∧ Below w0.heap.size w0 w'

set_option maxRecDepth 100000 in
theorem l01New_any (w : World) (v : Value) (code : List UInt8) (h : Rd w 1 v code.length (bytesV code)) (hn : code.length ≤ 1048576) : Calls Try.prog 59 #[v] w (NewCur w v code) := by
  obtain ⟨A, cp, rfl, hnc, hcm⟩ := h.shape
  unfold maxLen at hcm
  go_enter Try.func59, Try.ntmps59
  go_wp2
  go_loop [3, 4] (fun q i => ∃ k : Nat, k ≤ code.length ∧ k ≤ 4000 ∧ i = .int .i64 k ∧ q = .int .i64 (newTo code k)) (fun _ i => code.length - (intOf i).toNat)
  case atStart => exact ⟨0, by omega, by omega, rfl, rfl⟩
  case round =>
    obtain ⟨k, hk, hk4, rfl, rfl⟩ := hrel
    have hbd := newTo_bd code hn k
    by_cases hlt : k < code.length
    · by_cases h4 : k < 4000
      · obtain ⟨b, off, c', hv, _, _, hbl, hc⟩ := h.form (by omega) (by omega)
        have hcell := hc k (.int .u8 (code[k].toNat : Int)) (by simp [bytesV, hlt])
        have hA : A = some ⟨b, off, none⟩ := by injection hv
        subst hA
        have hS : newTo code (k + 1) = bits .and .i64 (newTo code k * 131 + (code[k].toNat : Int) + 7) 1073741823 := by
          rw [newTo]
          simp [List.getD, hlt]
        have hx : code[k].toNat < 256 := UInt8.toNat_lt _
        obtain ⟨x, hxx⟩ : ∃ x, x = code[k].toNat := ⟨_, rfl⟩
        obtain ⟨q, hqq⟩ : ∃ q, q = newTo code k := ⟨_, rfl⟩
        rw [← hxx] at hcell hS hx
        rw [← hqq] at hS hbd ⊢
        have HS := Lib.hid hS
        clear hxx hqq hS hv hc
        go_wp2
        go_round
        case rel => exact ⟨k + 1, by omega, by omega, by go_num, by rw [HS.out]⟩
        case measure => simp [intOf]; omega
      · have hkk : k = 4000 := by omega
        have HN := Lib.hid (show newC code = (0, newTo code k) by rw [newC, show min code.length 4000 = k by omega])
        have hk5 : ¬ (k : Int) < 4000 := by omega
        obtain ⟨q, hqq⟩ : ∃ q, q = newTo code k := ⟨_, rfl⟩
        rw [← hqq] at HN hbd ⊢
        clear hqq hkk
        go_wp2
        go_ret
        exact ⟨w.heap.size, rfl, ⟨by rw [HN.out]; exact Blk.new _ _ _, (RdB.of h).below ((Below.refl _ _).alloc (Nat.le_refl _) _), by rw [HN.out]; exact Nat.zero_le _, hn, Nat.le_refl _⟩, (Below.refl _ _).alloc (Nat.le_refl _) _⟩
    · have HN := Lib.hid (show newC code = (0, newTo code k) by rw [newC, show min code.length 4000 = k by omega])
      obtain ⟨q, hqq⟩ : ∃ q, q = newTo code k := ⟨_, rfl⟩
      rw [← hqq] at HN hbd ⊢
      clear hqq
      go_wp2
      go_ret
      exact ⟨w.heap.size, rfl, ⟨by rw [HN.out]; exact Blk.new _ _ _, (RdB.of h).below ((Below.refl _ _).alloc (Nat.le_refl _) _), by rw [HN.out]; exact Nat.zero_le _, hn, Nat.le_refl _⟩, (Below.refl _ _).alloc (Nat.le_refl _) _⟩

set_option maxRecDepth 100000 in
theorem l01Below_any (w : World) (B g : Nat) (v : Value) (code : List UInt8) (c : Nat × Int) (n : Int) (h : CurAt w B g v code c) (hn : n ≤ 1000000000000) :
    Calls Try.prog 98 #[.pointer (some ⟨g, 0, none⟩), .int .i64 n] w (Drew w B g v code (curBelow code n c)) := by
  by_cases h0 : n ≤ 0
  · have HR := Lib.hid (show curBelow code n c = (0, c) by rw [curBelow, if_pos h0])
    have H := Lib.hid h
    clear h
    go_enter Try.func98, Try.ntmps98
    go_wp2
    go_ret
    exact ⟨ret_int (by rw [HR.out]), by rw [HR.out]; exact H.out, World.grownBy.refl _ _⟩
  · by_cases h1 : n ≤ 256
    · have HR := Lib.hid (show curBelow code n c = ((curByte code c).1 % n, (curByte code c).2) by rw [curBelow, if_neg h0, if_pos h1])
      have CB := Lib.hid (l01Byte_any w B g v code c h)
      have hb := curByte_bd code c
      obtain ⟨x, c1⟩ := curByte code c
      clear h
      go_enter Try.func98, Try.ntmps98
      go_wp2_with (go_at_call 115; refine CB.out.mono ?_; rintro e w1 ⟨rfl, hc1, hg1⟩; have HC1 := Lib.hid hc1; clear hc1)
      go_ret
      exact ⟨ret_int (by rw [HR.out]), by rw [HR.out]; exact HC1.out, hg1⟩
    · have HR := Lib.hid (show curBelow code n c = ((cur4 code c).1 % n, (cur4 code c).2) by rw [curBelow, if_neg h0, if_neg h1])
      have h4 : cur4 code c = cur4 code c := rfl
      unfold cur4 at HR
      have CB := Lib.hid (fun w c h => l01Byte_any w B g v code c h)
      have hb0 := curByte_bd code c
      have hb1 := curByte_bd code (curByte code c).2
      have hb2 := curByte_bd code (curByte code (curByte code c).2).2
      have hb3 := curByte_bd code (curByte code (curByte code (curByte code c).2).2).2
      have H := Lib.hid h
      clear h h4
      go_enter Try.func98, Try.ntmps98
      go_wp2_with fail
      refine (CB.out _ _ H.out).mono ?_
      rintro e w1 ⟨rfl, hc1, hg1⟩
      have HC1 := Lib.hid hc1
      clear hc1
      go_wp2_with fail
      refine (CB.out _ _ HC1.out).mono ?_
      rintro e w2 ⟨rfl, hc2, hg2⟩
      have HC2 := Lib.hid hc2
      clear hc2
      go_wp2_with fail
      refine (CB.out _ _ HC2.out).mono ?_
      rintro e w3 ⟨rfl, hc3, hg3⟩
      have HC3 := Lib.hid hc3
      clear hc3
      go_wp2_with fail
      refine (CB.out _ _ HC3.out).mono ?_
      rintro e w4 ⟨rfl, hc4, hg4⟩
      have HC4 := Lib.hid hc4
      clear hc4
      go_wp2_with fail
      go_ret
      exact ⟨ret_int (by rw [HR.out]), by rw [HR.out]; exact HC4.out, only_trans (only_trans (only_trans hg1 hg2) hg3) hg4⟩
end Go.Proofs.Ytbbjkldkjndfaaa

/- PartsOf, the program's and the reference's: both return the parts of the line. -/
import Derived.Test.YtfcgijhiedlfgaaDoorPartsP
import Derived.Test.YtfcgijhiedlfgaaDoorStrS
namespace Go.Proofs.YtfcgijhiedlfgaaDoor
set_option linter.unusedSimpArgs false
set_option linter.unusedVariables false
open Go.RowKit Go.ChangeShapes Go.Deep

def IsParts (s : ByteArray) (w0 : World) (e : Ending) (w' : World) : Prop := ∃ u, e = .returned (.tuple #[u, .bool (partsB s.data.toList)]) ∧ w'.ownsRow w0.heap.size 9 1 u (partsS s).length (strV (partsS s)) ∧ Below w0.heap.size w0 w'
theorem isParts_no {s : ByteArray} {w w' : World} {u : Value} (h : partsB s.data.toList = false) (ho : w'.ownsRow w.heap.size 9 1 u 0 []) (hb : Below w.heap.size w w') : IsParts s w (.returned (.tuple #[u, .bool false])) w' := by
  refine ⟨u, by rw [h], ?_, hb⟩
  rw [partsS_no h]
  exact ho
theorem isParts_yes {s : ByteArray} {w w' : World} {u : Value} {n : Nat} {xs : List Value} (h : partsB s.data.toList = true) (hn : n = (Lib.fields s.data.toList).length) (hx : xs = strV ((Lib.fields s.data.toList).map strL)) (ho : w'.ownsRow w.heap.size 9 1 u n xs) (hb : Below w.heap.size w w') : IsParts s w (.returned (.tuple #[u, .bool true])) w' := by
  refine ⟨u, by rw [h], ?_, hb⟩
  rw [partsS_yes h, List.length_map, ← hn, ← hx]
  exact ho
/-- The table that strings.Fields reads, where the row lays it. -/
def TabSp (w : World) : Prop := Lib.TabIs Tryd.prog w "strings.asciiSpace" .u8 Lib.asciiSpaceTab
theorem tabSp_below {w w' : World} (h : TabSp w) (hb : Below w.heap.size w w') : TabSp w' := Go.Joins.var_stays (g := 0) (by kernel_rfl) h hb (Nat.le_refl _)
theorem withinD (n lo hi : Int) (w : World) : Calls Tryd.prog 23 #[.int .i64 n, .int .i64 lo, .int .i64 hi] w fun e w' => e = .returned (.bool (decide (lo ≤ n ∧ n ≤ hi))) ∧ w = w' := by
  by_cases h : lo ≤ n ∧ n ≤ hi
  · rw [decide_eq_true h]; exact within_t n lo hi w h.1 h.2
  · rw [decide_eq_false h]; exact within_f n lo hi w (by omega)

theorem cntF_le : ∀ (l : List UInt8) (b : Bool), Lib.cntF b l ≤ l.length
  | [], _ => Nat.le_refl _
  | c :: l, b => by
    have := cntF_le l (Lib.isSp c)
    rw [Lib.cntF, List.length_cons]
    split <;> omega
theorem fields_le (l : List UInt8) : (Lib.fields l).length ≤ l.length := by rw [Lib.fields_length]; exact cntF_le l true
theorem own_fields (F : List (List UInt8)) (w : World) (h : F.length ≤ maxLen) : (w.alloc (.cells (F.map fun l => Value.string ⟨l.toArray⟩).toArray 9)).ownsRow w.heap.size 9 1 (.slice (some ⟨w.heap.size, 0, none⟩) F.length F.length) F.length (strV (F.map strL)) := by
  refine ⟨by simp [strV], .inr ⟨w.heap.size, F.length, (F.map fun l => Value.string ⟨l.toArray⟩).toArray, rfl, Nat.le_refl _, heap_alloc_new w _, Nat.le_refl _, h, by simp, ?_⟩⟩
  rw [List.toList_toArray, List.take_of_length_le (by simp)]
  simp [strV, strL]
set_option maxHeartbeats 4000000 in
set_option maxRecDepth 100000 in
theorem partsOf_impl (s : ByteArray) (w : World) (hs : s.size ≤ 281474976710656) (hT : TabSp w) : Calls Tryd.prog 10 #[.string s] w (IsParts s w) := by
  have hsl : s.data.toList.length = s.size := by rw [Array.length_toList]; rfl
  by_cases hlong : 600 < s.size
  · have HR := Lib.hid (show partsB s.data.toList = false from partsB_no fun h => by omega)
    have t0 : decide ((600 : Int) < (s.size : Int)) = true := decide_eq_true (by omega)
    clear hlong hsl
    go_enter Tryd.func10, Tryd.ntmps10
    go_wp2_with fail
    go_ret2
    exact isParts_no HR.out (World.ownsRow_nil _ _ _ _) (Below.refl _ _)
  · have t0 : decide ((600 : Int) < (s.size : Int)) = false := decide_eq_false (by omega)
    have hs6 : s.size ≤ 600 := by omega
    have HSL := Lib.hid hsl
    have HT := Lib.hid hT
    clear hlong hsl hT
    go_enter Tryd.func10, Tryd.ntmps10
    go_wp2_with fail
    clear t0
    go_loop [4] (fun a => ∃ k : Nat, k ≤ s.size ∧ a = .int .i64 k ∧ Hid (goodL (s.data.toList.take k))) (fun a => s.size - (intOf a).toNat)
    case atStart => exact ⟨0, Nat.zero_le _, rfl, Lib.hid (fun _ h => by cases h)⟩
    case round =>
      obtain ⟨k, hk, rfl, HG⟩ := hrel
      by_cases hlt : k < s.size
      · obtain ⟨c, hc⟩ : ∃ c, c = s[k] := ⟨_, rfl⟩
        obtain ⟨y, hy⟩ : ∃ y : Nat, y = c.toNat := ⟨_, rfl⟩
        have hts := take_snoc s k hlt
        rw [← hc] at hts
        have hmem : c ∈ s.data.toList := List.mem_of_mem_take (i := k + 1) (by rw [hts]; simp)
        have hcy : (s[k].toNat : Int) = (y : Int) := by rw [hy, hc]
        have hy1 : y < 256 := by rw [hy]; exact c.toNat_lt
        have CW := Lib.hid (fun W => withinD (y : Int) 32 126 W)
        by_cases hd : 32 ≤ y ∧ y ≤ 126
        · rw [decide_eq_true (show (32 : Int) ≤ (y : Int) ∧ (y : Int) ≤ 126 by omega)] at CW
          have HG2 := Lib.hid (show goodL (s.data.toList.take (k + 1)) from fun x hx => by
            rw [hts] at hx
            rcases List.mem_append.1 hx with hx | hx
            · exact HG.out x hx
            · rw [List.mem_singleton.1 hx]; unfold goodC; omega)
          clear hts hmem hy hc HG hd
          go_wp2_with fail
          refine (CW.out _).mono ?_
          rintro e w2 ⟨rfl, rfl⟩
          go_wp2_with fail
          go_round
          case rel => exact ⟨k + 1, hlt, by go_num, HG2⟩
          case measure => simp [intOf]; omega
        · rw [decide_eq_false (show ¬ ((32 : Int) ≤ (y : Int) ∧ (y : Int) ≤ 126) by omega)] at CW
          have HR := Lib.hid (show partsB s.data.toList = false from partsB_no fun h => by have := h.2.1 c hmem; unfold goodC at this; omega)
          clear hts hmem hy hc HG hd
          go_wp2_with fail
          refine (CW.out _).mono ?_
          rintro e w2 ⟨rfl, rfl⟩
          go_wp2_with fail
          go_ret2
          exact isParts_no HR.out (World.ownsRow_nil _ _ _ _) (Below.refl _ _)
      · obtain rfl : k = s.size := by omega
        have hgood := HG.out
        rw [take_all s] at hgood
        have CF := Lib.hid (Tryd.strings_Fields_laid s w (by omega) (fun j b hj => by
          have := hgood b (List.mem_of_getElem? hj)
          unfold goodC at this
          omega) HT.out)
        have HGL := Lib.hid hgood
        obtain ⟨F, hF⟩ : ∃ F, F = Lib.fields s.data.toList := ⟨_, rfl⟩
        rw [← hF] at CF
        have HF := Lib.hid hF
        clear hF hgood HG
        go_wp2_with fail
        refine CF.out.mono ?_
        rintro e w2 ⟨rfl, rfl⟩
        have hFl : F.length ≤ 600 := by have h1 := fields_le s.data.toList; rw [← HF.out, HSL.out] at h1; omega
        have HOW := Lib.hid (show (w.alloc (.cells (F.map fun l => Value.string ⟨l.toArray⟩).toArray 9)).ownsRow w.heap.size 9 1 (.slice (some ⟨w.heap.size, 0, none⟩) F.length F.length) F.length (strV (F.map strL)) from own_fields F w (by unfold maxLen; omega))
        have hbw : Below w.heap.size w (w.alloc (.cells (F.map fun l => Value.string ⟨l.toArray⟩).toArray 9)) := (Below.refl _ _).alloc (Nat.le_refl _) _
        by_cases h12 : 12 < F.length
        · have HR := Lib.hid (show partsB s.data.toList = false from partsB_no fun h => by rw [← HF.out] at h; omega)
          have t1 : decide ((12 : Int) < (F.length : Int)) = true := decide_eq_true (by omega)
          have t2 : decide (12 < F.length) = true := decide_eq_true h12
          clear h12
          go_wp2_with fail
          go_ret2
          exact isParts_no HR.out (World.ownsRow_nil _ _ _ _) hbw
        · have HR := Lib.hid (show partsB s.data.toList = true from partsB_yes ⟨by rw [HSL.out]; exact hs6, HGL.out, by rw [← HF.out]; omega⟩)
          have t1 : decide ((12 : Int) < (F.length : Int)) = false := decide_eq_false (by omega)
          have t2 : decide (12 < F.length) = false := decide_eq_false h12
          clear h12
          go_wp2_with fail
          go_ret2
          exact isParts_yes HR.out (by rw [← HF.out]) (by rw [← HF.out]) HOW.out hbw
theorem strV_snoc (a : List (List UInt8)) (c : List UInt8) : strV ((a ++ [c]).map strL) = strV (a.map strL) ++ [.string (strL c)] := by simp [strV]
theorem own_none (w : World) : (w.alloc (.cells #[] 9)).ownsRow w.heap.size 9 1 (.slice (some ⟨w.heap.size, 0, none⟩) 0 0) 0 [] := World.ownsRow_made _ #[] 0 (Nat.le_refl _) (by decide) rfl
theorem own_more0 {w w' : World} {u : Value} {b : Nat} (h : w'.ownsRow b 9 1 u 0 []) (hb : w.heap.size ≤ b) : w'.ownsRow w.heap.size 9 1 u 0 [] := own_more h hb

set_option maxHeartbeats 8000000 in
set_option maxRecDepth 100000 in
theorem partsOf_spec (s : ByteArray) (w : World) (hs : s.size ≤ 281474976710656) : Calls Tryd.prog 9 #[.string s] w (IsParts s w) := by
  obtain ⟨i0, hi, hz0, hz1, hz2⟩ := info_parts Tryd.infoStr
  have hsl : s.data.toList.length = s.size := by rw [Array.length_toList]; rfl
  by_cases hlong : 600 < s.size
  · have HR := Lib.hid (show partsB s.data.toList = false from partsB_no fun h => by omega)
    have t0 : decide ((600 : Int) < (s.size : Int)) = true := decide_eq_true (by omega)
    clear hlong hsl
    go_enter Tryd.func9, Tryd.ntmps9
    go_wp2_with fail
    go_ret2
    exact isParts_no HR.out (own_none w) ((Below.refl _ _).alloc (Nat.le_refl _) _)
  · have t0 : decide ((600 : Int) < (s.size : Int)) = false := decide_eq_false (by omega)
    have hs6 : s.size ≤ 600 := by omega
    have HSL := Lib.hid hsl
    clear hlong hsl
    go_enter Tryd.func9, Tryd.ntmps9
    go_wp2_with fail
    clear t0
    go_loopw [4, 5, 6] (fun u4 u5 u6 wr => ∃ (k b : Nat) (out : List (List UInt8)), k ≤ s.size + 1 ∧ b ≤ k ∧ out.length ≤ k ∧ u5 = .int .i64 b ∧ u6 = .int .i64 k ∧ Hid (PInv s.data.toList k b out) ∧ Hid (goodL (s.data.toList.take k)) ∧ Hid (wr.ownsRow w.heap.size 9 1 u4 out.length (strV (out.map strL))) ∧ Hid (Below w.heap.size w wr)) (fun _ _ u6 _ => s.size + 1 - (intOf u6).toNat)
    case atStart => exact ⟨0, 0, [], Nat.zero_le _, Nat.le_refl _, Nat.le_refl _, rfl, rfl, Lib.hid (pinv_start _), Lib.hid (fun _ h => by cases h), Lib.hid (own_none w), Lib.hid ((Below.refl _ _).alloc (Nat.le_refl _) _)⟩
    case round =>
      obtain ⟨k, b, out, hk, hbk, hol, rfl, rfl, HI, HG, HO, HB⟩ := hrel
      have hown := HO.out
      have hbw := HB.out
      have hbs := hbw.size
      by_cases hlt : k < s.size
      · have hltd : k < s.data.toList.length := by rw [HSL.out]; exact hlt
        obtain ⟨c, hc⟩ : ∃ c, c = s[k] := ⟨_, rfl⟩
        have hcd : c = s.data.toList[k] := hc
        obtain ⟨y, hy⟩ : ∃ y : Nat, y = c.toNat := ⟨_, rfl⟩
        have hts := take_snoc s k hlt
        rw [← hc] at hts
        have hmem : c ∈ s.data.toList := List.mem_of_mem_take (i := k + 1) (by rw [hts]; simp)
        have hcy : (s[k].toNat : Int) = (y : Int) := by rw [hy, hc]
        have hy1 : y < 256 := by rw [hy]; exact c.toNat_lt
        by_cases hd : 32 ≤ y ∧ y ≤ 126
        · have t1 : decide ((y : Int) < 32) = false := decide_eq_false (by omega)
          have t2 : decide ((126 : Int) < (y : Int)) = false := decide_eq_false (by omega)
          have t3 : decide (126 < y) = false := decide_eq_false (by omega)
          have t4 : decide (y < 32) = false := decide_eq_false (by omega)
          have hgc : goodC c := by unfold goodC; omega
          have HG2 := Lib.hid (show goodL (s.data.toList.take (k + 1)) from fun x hx => by
            rw [hts] at hx
            rcases List.mem_append.1 hx with hx | hx
            · exact HG.out x hx
            · rw [List.mem_singleton.1 hx]; exact hgc)
          by_cases h32 : y = 32
          · have t5 : ((y : Int) == 32) = true := by simp [h32]
            have t6 : ((y : Int) != 32) = false := by simp [h32]
            have hsp := sp_yes (show c.toNat = 32 by omega)
            rw [hcd] at hsp
            by_cases hlb : b < k
            · have HI2 := Lib.hid (pinv_cut HI.out hlb hltd hsp)
              have HM := Lib.hid (mid_str (s := s) (b := b) (k := k))
              clear hts hmem hy hc hcd hgc hd h32 hsp HG HI
              go_wp2_with (at_builtin; refine wpList_append_new rfl _ _ _ rfl w.heap.size _ i0 _ 1 16 Tryd.underlying24 hi hz0 hz1 hz2 rfl (by decide) u4 out.length _ rfl hown hbw hbs _ 1 1 rfl rfl (by intro u hu; simp at hu; subst hu; rfl) ⟨by omega, by omega⟩ ?_; intro v2 w2 hown2 hb2 hg2 hat2; have HO2 := Lib.hid hown2; have HB2 := Lib.hid hb2; clear hown2 hb2 hg2 hat2)
              go_roundw
              case rel => exact ⟨k + 1, k + 1, out ++ [mid s.data.toList b k], by omega, Nat.le_refl _, by rw [List.length_append, List.length_singleton]; omega, by go_num, by go_num, HI2, HG2, Lib.hid (by rw [List.length_append, List.length_singleton, strV_snoc, HM.out]; exact HO2.out), HB2⟩
              case measure => simp [intOf]; omega
            · obtain rfl : b = k := by omega
              have HI2 := Lib.hid (pinv_skip HI.out hltd hsp)
              clear hts hmem hy hc hcd hgc hd h32 hsp HG HI
              go_wp2_with fail
              go_roundw
              case rel => exact ⟨b + 1, b + 1, out, by omega, Nat.le_refl _, by omega, by go_num, by go_num, HI2, HG2, HO, HB⟩
              case measure => simp [intOf]; omega
          · have t5 : ((y : Int) == 32) = false := by simp; omega
            have t6 : ((y : Int) != 32) = true := by simp; omega
            have hsp := sp_no hgc (by omega)
            rw [hcd] at hsp
            have HI2 := Lib.hid (pinv_on HI.out hbk hltd hsp)
            clear hts hmem hy hc hcd hgc hd h32 hsp HG HI
            go_wp2_with fail
            go_roundw
            case rel => exact ⟨k + 1, b, out, by omega, by omega, by omega, rfl, by go_num, HI2, HG2, HO, HB⟩
            case measure => simp [intOf]; omega
        · have HR := Lib.hid (show partsB s.data.toList = false from partsB_no fun h => by have := h.2.1 c hmem; unfold goodC at this; omega)
          by_cases hlo : y < 32
          · have t1 : decide ((y : Int) < 32) = true := decide_eq_true (by omega)
            have t4 : decide (y < 32) = true := decide_eq_true (by omega)
            clear hts hmem hy hc hcd hd hlo HG HI
            go_wp2_with fail
            go_ret2
            exact isParts_no HR.out (own_more0 (own_none wr) hbs) (hbw.alloc hbs _)
          · have t1 : decide ((y : Int) < 32) = false := decide_eq_false (by omega)
            have t2 : decide ((126 : Int) < (y : Int)) = true := decide_eq_true (by omega)
            have t3 : decide (126 < y) = true := decide_eq_true (by omega)
            have t4 : decide (y < 32) = false := decide_eq_false (by omega)
            clear hts hmem hy hc hcd hd hlo HG HI
            go_wp2_with fail
            go_ret2
            exact isParts_no HR.out (own_more0 (own_none wr) hbs) (hbw.alloc hbs _)
      · by_cases hend : k = s.size
        · subst hend
          by_cases hlb : b < s.size
          · have HI2 := Lib.hid (pinv_end HI.out hlb HSL.out.symm)
            have HM := Lib.hid (mid_str (s := s) (b := b) (k := s.size))
            have HG2 := Lib.hid (show goodL (s.data.toList.take (s.size + 1)) by rw [List.take_of_length_le (by rw [HSL.out]; omega)]; have h := HG.out; rw [take_all s] at h; exact h)
            clear HG HI
            go_wp2_with (at_builtin; refine wpList_append_new rfl _ _ _ rfl w.heap.size _ i0 _ 1 16 Tryd.underlying24 hi hz0 hz1 hz2 rfl (by decide) u4 out.length _ rfl hown hbw hbs _ 1 1 rfl rfl (by intro u hu; simp at hu; subst hu; rfl) ⟨by omega, by omega⟩ ?_; intro v2 w2 hown2 hb2 hg2 hat2; have HO2 := Lib.hid hown2; have HB2 := Lib.hid hb2; clear hown2 hb2 hg2 hat2)
            go_roundw
            case rel => exact ⟨s.size + 1, s.size + 1, out ++ [mid s.data.toList b s.size], by omega, Nat.le_refl _, by rw [List.length_append, List.length_singleton]; omega, by go_num, by go_num, HI2, HG2, Lib.hid (by rw [List.length_append, List.length_singleton, strV_snoc, HM.out]; exact HO2.out), HB2⟩
            case measure => simp [intOf]
          · obtain rfl : b = s.size := by omega
            have HI2 := Lib.hid (pinv_last HI.out HSL.out.symm)
            have HG2 := Lib.hid (show goodL (s.data.toList.take (s.size + 1)) by rw [List.take_of_length_le (by rw [HSL.out]; omega)]; have h := HG.out; rw [take_all s] at h; exact h)
            clear HG HI
            go_wp2_with fail
            go_roundw
            case rel => exact ⟨s.size + 1, s.size + 1, out, by omega, Nat.le_refl _, by omega, by go_num, by go_num, HI2, HG2, HO, HB⟩
            case measure => simp [intOf]
        · obtain rfl : k = s.size + 1 := by omega
          have HF := Lib.hid (HI.out.off (by rw [HSL.out]))
          have HGL := Lib.hid (show goodL s.data.toList by have h := HG.out; rw [List.take_of_length_le (by rw [HSL.out]; omega)] at h; exact h)
          obtain ⟨A4, c4, rfl, hnc4, hcm4⟩ := (Rd.of_own hown).shape
          unfold maxLen at hcm4
          by_cases h12 : 12 < out.length
          · have HR := Lib.hid (show partsB s.data.toList = false from partsB_no fun h => by rw [HF.out] at h; omega)
            have t1 : decide ((12 : Int) < (out.length : Int)) = true := decide_eq_true (by omega)
            have t2 : decide (12 < out.length) = true := decide_eq_true h12
            clear h12 HG HI
            go_wp2_with fail
            go_ret2
            exact isParts_no HR.out (own_more0 (own_none wr) hbs) (hbw.alloc hbs _)
          · have HR := Lib.hid (show partsB s.data.toList = true from partsB_yes ⟨by rw [HSL.out]; exact hs6, HGL.out, by rw [HF.out]; omega⟩)
            have t1 : decide ((12 : Int) < (out.length : Int)) = false := decide_eq_false (by omega)
            have t2 : decide (12 < out.length) = false := decide_eq_false h12
            clear h12 HG HI
            go_wp2_with fail
            go_ret2
            exact isParts_yes HR.out (by rw [HF.out]) (by rw [HF.out]) HO.out HB.out
end Go.Proofs.YtfcgijhiedlfgaaDoor

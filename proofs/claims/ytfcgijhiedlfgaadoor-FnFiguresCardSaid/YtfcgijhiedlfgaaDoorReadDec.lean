/- ReadDecimal, the program's and the reference's: both return the number whose numeral the text is. -/
import Derived.Test.YtfcgijhiedlfgaaDoorItoa
namespace Go.Proofs.YtfcgijhiedlfgaaDoor
set_option linter.unusedSimpArgs false
set_option linter.unusedVariables false
open Go.RowKit Go.ChangeShapes Go.Deep Go.Sort

theorem strD_eq {a b : ByteArray} (h : a = b) : (a.toList == b.toList) = true ∧ (a.toList != b.toList) = false := by rw [h]; simp
theorem strD_ne {a b : ByteArray} (h : ¬ a = b) : (a.toList == b.toList) = false ∧ (a.toList != b.toList) = true := by
  have : ¬ a.toList = b.toList := fun e => h (str_inj e)
  exact ⟨by simpa using this, by simpa using this⟩
theorem strL_eq {s : ByteArray} {l : List UInt8} : strL l = s ↔ l = s.data.toList := by
  constructor
  · rintro rfl; simp [strL]
  · rintro rfl; simp [strL]
/-- The two errors' variables, where the row lays them. -/
structure Errs (w : World) : Prop where
  tab : Tab10 w
  syn : ∃ te pe, w.var? Tryd.prog "strconv.ErrSyntax" = some #[.iface te pe]
  ran : ∃ te pe, w.var? Tryd.prog "strconv.ErrRange" = some #[.iface te pe]
theorem Errs.below {w w' : World} (h : Errs w) (hb : Below w.heap.size w w') : Errs w' := by
  obtain ⟨h1, ⟨te, pe, h2⟩, ⟨tr, pr, h3⟩⟩ := h
  exact ⟨tab10_below h1 hb, ⟨te, pe, Go.Joins.var_stays (g := 2) (by kernel_rfl) h2 hb (Nat.le_refl _)⟩, ⟨tr, pr, Go.Joins.var_stays (g := 3) (by kernel_rfl) h3 hb (Nat.le_refl _)⟩⟩
/-- How Atoi ends. -/
def AtoiEnd (s : ByteArray) (w0 : World) (e : Ending) (w' : World) : Prop :=
  (∃ v : Int, Lib.atoiAll s.data.toList = .ok v ∧ e = .returned (.tuple #[.int .i64 v, .nilIface]) ∧ Below w0.heap.size w0 w') ∨
  (∃ (v : Int) (N : Nat), (∀ u, Lib.atoiAll s.data.toList ≠ .ok u) ∧ e = .returned (.tuple #[.int .i64 v, .iface 68 (.pointer (some ⟨N, 0, none⟩))]) ∧ Below w0.heap.size w0 w')
theorem atoi_any (s : ByteArray) (w : World) (hs : s.size ≤ 281474976710656) (hE : Errs w) : Calls Tryd.prog 26 #[.string s] w (AtoiEnd s w) := by
  obtain ⟨te, pe, hsy⟩ := hE.syn
  obtain ⟨tr, pr, hra⟩ := hE.ran
  rcases hA : Lib.atoiAll s.data.toList with v | _ | _
  · refine (Tryd.strconv_Atoi_ok s (by omega) v hA w).mono ?_
    rintro e w' ⟨he, hw⟩
    refine .inl ⟨v, hA, he, ?_⟩
    rcases hw with rfl | ⟨t, rfl⟩
    · exact Below.refl _ _
    · exact Go.Joins.below_bytesWorld _ _ _ _ (Nat.le_refl _)
  · refine (Any.strconv_Atoi_syntax_var Tryd.laysC172 s hs hA te pe w hsy).mono ?_
    rintro e w' ⟨N, he, -, -, hb⟩
    exact .inr ⟨_, N, by rw [hA]; simp, he, hb⟩
  · refine (Any.strconv_Atoi_range_var Tryd.laysC172 s hs hA tr pr w hra).mono ?_
    rintro e w' ⟨N, he, -, -, hb⟩
    exact .inr ⟨_, N, by rw [hA]; simp, he, hb⟩
def IsRead (s : ByteArray) (w0 : World) (e : Ending) (w' : World) : Prop := e = .returned (.tuple #[.int .i64 (readDecR0 s.data.toList), .bool (readDecR1 s.data.toList)]) ∧ Below w0.heap.size w0 w'
theorem isRead_no {s : ByteArray} {w w' : World} (h : readNum s.data.toList = none) (hb : Below w.heap.size w w') : IsRead s w (.returned (.tuple #[.int .i64 0, .bool false])) w' := by
  refine ⟨?_, hb⟩
  rw [r0_none h, r1_none h]
theorem isRead_yes {s : ByteArray} {w w' : World} {n : Nat} (h : readNum s.data.toList = some n) (hb : Below w.heap.size w w') : IsRead s w (.returned (.tuple #[.int .i64 n, .bool true])) w' := by
  refine ⟨?_, hb⟩
  rw [r0_some h, r1_some h]
theorem within_b (n lo hi : Int) (w : World) : Calls Tryd.prog 23 #[.int .i64 n, .int .i64 lo, .int .i64 hi] w fun e w' => e = .returned (.bool (decide (lo ≤ n ∧ n ≤ hi))) ∧ w = w' := by
  by_cases h : lo ≤ n ∧ n ≤ hi
  · rw [decide_eq_true h]; exact within_t n lo hi w h.1 h.2
  · rw [decide_eq_false h]; exact within_f n lo hi w (by omega)

theorem atoi_bd {l : List UInt8} {v : Int} (h : Lib.atoiAll l = .ok v) : -9223372036854775808 ≤ v ∧ v ≤ 9223372036854775807 := by
  unfold Lib.atoiAll at h
  split at h
  · cases h
  · simp only at h
    split at h
    · cases h
    · cases h
    · split at h
      · cases h
      · split at h
        · cases h
        · injection h with h
          split at h <;> omega
theorem itoa_at {v : Int} {n : Nat} (h : Lib.itoa v = Lib.decDigits n) : v = (n : Int) := by
  unfold Lib.itoa at h
  split at h
  · have h1 := (dec_spell n n (Nat.le_refl _)).2 45 (by rw [← h]; exact List.mem_cons_self ..)
    exact absurd h1.1 (by decide)
  · have := dec_inj h
    omega
set_option maxHeartbeats 4000000 in
set_option maxRecDepth 100000 in
theorem readDecimal_impl (s : ByteArray) (w : World) (hs : s.size ≤ 281474976710656) (hE : Errs w) : Calls Tryd.prog 15 #[.string s] w (IsRead s w) := by
  have CA := Lib.hid (atoi_any s w hs hE)
  have HE := Lib.hid hE
  clear hE
  go_enter Tryd.func15, Tryd.ntmps15
  go_wp2_with fail
  refine CA.out.mono ?_
  rintro e w1 (⟨v, hA, rfl, hb1⟩ | ⟨v, N, hA, rfl, hb1⟩)
  · have hvb : -9223372036854775808 ≤ v ∧ v ≤ 9223372036854775807 := atoi_bd hA
    have CD := Lib.hid (decimal_impl v hvb.1 hvb.2 w1 (HE.out.below hb1).tab)
    have CW := Lib.hid (fun W => within_b v 0 1000000000 W)
    obtain ⟨d, hd⟩ : ∃ d : ByteArray, d = ⟨(Lib.itoa v).toArray⟩ := ⟨_, rfl⟩
    rw [← hd] at CD
    by_cases hds : d = s
    · obtain ⟨t1, t2⟩ := strD_eq hds
      by_cases hin : 0 ≤ v ∧ v ≤ 1000000000
      · rw [decide_eq_true hin] at CW
        obtain ⟨m, rfl⟩ : ∃ m : Nat, v = m := ⟨v.toNat, by omega⟩
        have HR := Lib.hid (show readNum s.data.toList = some m from read_it (by omega) (by rw [← hds, hd, itoa_nat]))
        clear hd hds hin hA hvb
        go_wp2_with fail
        refine CD.out.mono ?_
        rintro e w2 ⟨rfl, hb2⟩
        go_wp2_with fail
        refine (CW.out _).mono ?_
        rintro e w3 ⟨rfl, rfl⟩
        go_wp2_with fail
        go_ret2
        exact isRead_yes HR.out (hb1.trans (hb2.mono hb1.size))
      · rw [decide_eq_false hin] at CW
        have HR := Lib.hid (show readNum s.data.toList = none from readNum_none fun n hn e => hin (by
          have h1 : Lib.itoa v = Lib.decDigits n := by rw [e, ← hds, hd]
          have h2 := itoa_at h1
          omega))
        clear hd hds hin hA hvb
        go_wp2_with fail
        refine CD.out.mono ?_
        rintro e w2 ⟨rfl, hb2⟩
        go_wp2_with fail
        refine (CW.out _).mono ?_
        rintro e w3 ⟨rfl, rfl⟩
        go_wp2_with fail
        go_ret2
        exact isRead_no HR.out (hb1.trans (hb2.mono hb1.size))
    · obtain ⟨t1, t2⟩ := strD_ne hds
      have HR := Lib.hid (show readNum s.data.toList = none from readNum_none fun n hn e => hds (by
        have h1 := atoi_dec hn
        rw [e, hA] at h1
        have h2 : v = (n : Int) := by injection h1
        rw [hd, h2, itoa_nat, e]))
      clear hd hds hA hvb CW
      go_wp2_with fail
      refine CD.out.mono ?_
      rintro e w2 ⟨rfl, hb2⟩
      go_wp2_with fail
      go_ret2
      exact isRead_no HR.out (hb1.trans (hb2.mono hb1.size))
  · have HR := Lib.hid (show readNum s.data.toList = none from readNum_none fun n hn e => hA n (by rw [← e]; exact atoi_dec hn))
    clear hA
    go_wp2_with fail
    go_ret2
    exact isRead_no HR.out hb1

set_option maxHeartbeats 4000000 in
set_option maxRecDepth 100000 in
theorem readDecimal_spec (s : ByteArray) (w : World) (hs : s.size ≤ 281474976710656) : Calls Tryd.prog 14 #[.string s] w (IsRead s w) := by
  have hsl : s.data.toList.length = s.size := by rw [Array.length_toList]; rfl
  by_cases hlong : 10 < s.size
  · have HR := Lib.hid (show readNum s.data.toList = none from read_long (by omega))
    have t0 : decide ((10 : Int) < (s.size : Int)) = true := decide_eq_true (by omega)
    clear hlong hsl
    go_enter Tryd.func14, Tryd.ntmps14
    go_wp2_with fail
    go_ret2
    exact isRead_no HR.out (Below.refl _ _)
  · have t0 : decide ((10 : Int) < (s.size : Int)) = false := decide_eq_false (by omega)
    have hs10 : s.size ≤ 10 := by omega
    have HSL := Lib.hid hsl
    clear hlong hsl
    go_enter Tryd.func14, Tryd.ntmps14
    go_wp2_with fail
    clear t0
    go_loop [4, 5] (fun a b => ∃ (k n : Nat), k ≤ s.size ∧ n ≤ 9999999999 ∧ a = .int .i64 n ∧ b = .int .i64 k ∧ Hid (spell 0 (s.data.toList.take k) = n) ∧ Hid (IsDig (s.data.toList.take k))) (fun _ b => s.size - (intOf b).toNat)
    case atStart => exact ⟨0, 0, Nat.zero_le _, by omega, rfl, rfl, Lib.hid rfl, Lib.hid (fun _ h => by cases h)⟩
    case round =>
      obtain ⟨k, n, hk, hn, rfl, rfl, H1, H2⟩ := hrel
      by_cases hlt : k < s.size
      · obtain ⟨c, hc⟩ : ∃ c, c = s[k] := ⟨_, rfl⟩
        obtain ⟨y, hy⟩ : ∃ y : Nat, y = c.toNat := ⟨_, rfl⟩
        have hts := take_snoc s k hlt
        rw [← hc] at hts
        have hmem : c ∈ s.data.toList := List.mem_of_mem_take (i := k + 1) (by rw [hts]; simp)
        have hcy : (s[k].toNat : Int) = (y : Int) := by rw [hy, hc]
        have hy0 : (0 : Int) ≤ (y : Int) := by omega
        have hy1 : y < 256 := by rw [hy]; exact c.toNat_lt
        by_cases hd : 48 ≤ y ∧ y ≤ 57
        · have t1 : decide ((y : Int) < 48) = false := decide_eq_false (by omega)
          have t2 : decide ((57 : Int) < (y : Int)) = false := decide_eq_false (by omega)
          have t3 : decide (57 < y) = false := decide_eq_false (by omega)
          have t4 : decide (y < 48) = false := decide_eq_false (by omega)
          have H3 := Lib.hid (show spell 0 (s.data.toList.take (k + 1)) = 10 * n + (y - 48) by rw [hts, spell_snoc, H1.out, hy])
          have hdig : IsDig (s.data.toList.take (k + 1)) := fun x hx => by
            rw [hts] at hx
            rcases List.mem_append.1 hx with hx | hx
            · exact H2.out x hx
            · rw [List.mem_singleton.1 hx]; omega
          have H4 := Lib.hid hdig
          have hsp := spell_lt (k + 1) (s.data.toList.take (k + 1)) (by rw [List.length_take]; omega) hdig
          have hpw : 10 ^ (s.data.toList.take (k + 1)).length ≤ 10 ^ 10 := Nat.pow_le_pow_right (by omega) (by rw [List.length_take]; omega)
          have hnew : 10 * n + (y - 48) ≤ 9999999999 := by rw [H3.out] at hsp; omega
          have HV := Lib.hid (show 10 * (n : Int) + (y : Int) - 48 = ((10 * n + (y - 48) : Nat) : Int) by omega)
          clear hts hmem hy hc hdig hsp hpw H1 H2
          go_wp2_with fail
          go_round
          case rel => exact ⟨k + 1, 10 * n + (y - 48), hlt, hnew, by rw [← HV.out], by go_num, H3, H4⟩
          case measure => simp [intOf]; omega
        · have HR := Lib.hid (show readNum s.data.toList = none from read_bad hmem (by omega))
          clear hts hmem hy hc H1 H2
          by_cases hlo : y < 48
          · have t1 : decide ((y : Int) < 48) = true := decide_eq_true (by omega)
            have t4 : decide (y < 48) = true := decide_eq_true (by omega)
            clear hd hlo
            go_wp2_with fail
            go_ret2
            exact isRead_no HR.out (Below.refl _ _)
          · have t1 : decide ((y : Int) < 48) = false := decide_eq_false (by omega)
            have t2 : decide ((57 : Int) < (y : Int)) = true := decide_eq_true (by omega)
            have t3 : decide (57 < y) = true := decide_eq_true (by omega)
            have t4 : decide (y < 48) = false := decide_eq_false (by omega)
            clear hd hlo
            go_wp2_with fail
            go_ret2
            exact isRead_no HR.out (Below.refl _ _)
      · obtain rfl : k = s.size := by omega
        have hall : s.data.toList.take s.size = s.data.toList := take_all s
        rw [hall] at H1 H2
        by_cases hbig : 1000000000 < n
        · have HR := Lib.hid (show readNum s.data.toList = none from read_big H1.out hbig)
          have t1 : decide ((1000000000 : Int) < (n : Int)) = true := decide_eq_true (by omega)
          have t2 : decide (1000000000 < n) = true := decide_eq_true (by omega)
          clear hall H1 H2 hbig
          go_wp2_with fail
          go_ret2
          exact isRead_no HR.out (Below.refl _ _)
        · have t1 : decide ((1000000000 : Int) < (n : Int)) = false := decide_eq_false (by omega)
          have t2 : decide (1000000000 < n) = false := decide_eq_false (by omega)
          have CD := Lib.hid (decimal_spec (n : Int) w (by omega) (by omega))
          unfold IsDec at CD
          obtain ⟨d, hd⟩ : ∃ d : ByteArray, d = ⟨(Lib.itoa (n : Int)).toArray⟩ := ⟨_, rfl⟩
          rw [← hd] at CD
          rw [itoa_nat] at hd
          by_cases hds : d = s
          · obtain ⟨t3, t4⟩ := strD_eq hds
            have HR := Lib.hid (show readNum s.data.toList = some n from read_it (by omega) (by rw [← hds, hd]))
            clear hall H1 H2 hbig hd hds
            go_wp2_with fail
            refine CD.out.mono ?_
            rintro e w2 ⟨rfl, hb2⟩
            go_wp2_with fail
            go_ret2
            exact isRead_yes HR.out hb2
          · obtain ⟨t3, t4⟩ := strD_ne hds
            have HR := Lib.hid (show readNum s.data.toList = none from read_other H1.out (fun e => hds (by rw [hd, e])))
            clear hall H1 H2 hbig hd hds
            go_wp2_with fail
            refine CD.out.mono ?_
            rintro e w2 ⟨rfl, hb2⟩
            go_wp2_with fail
            go_ret2
            exact isRead_no HR.out hb2
end Go.Proofs.YtfcgijhiedlfgaaDoor

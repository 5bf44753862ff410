/- The walks of FrameAt, the program's and the reference's. -/
import Derived.Test.YthjkmefbjbfonaaFrame
namespace Go.Proofs.Ythjkmefbjbfonaa
open Go.RowKit Go.ChangeShapes

theorem vaGo_bd (s : ByteArray) (p : Nat) : ∀ r k, (vaGo s p r k).2 = -1 ∨ ((p : Int) < (vaGo s p r k).2 ∧ (vaGo s p r k).2 ≤ (s.size : Int) ∧ 0 ≤ (vaGo s p r k).1)
  | 0, _ => .inl rfl
  | r + 1, k => by
    rw [vaGo]
    by_cases h : p + k < s.size
    · rw [if_pos h]
      by_cases hb : byteAt s (p + k) < 128
      · rw [if_pos hb]
        by_cases hv : (varText (vacc s p (k + 1))).size = k + 1
        · rw [if_pos hv]
          right
          exact ⟨by show (p : Int) < ((p + k + 1 : Nat) : Int); omega, by show ((p + k + 1 : Nat) : Int) ≤ _; omega, by show (0 : Int) ≤ ((vacc s p (k + 1) : Nat) : Int); omega⟩
        · rw [if_neg hv]
          exact .inl rfl
      · rw [if_neg hb]
        exact vaGo_bd s p r (k + 1)
    · rw [if_neg h]
      exact .inl rfl
theorem varAt_bd (s : ByteArray) (p : Int) : varAtE s p = -1 ∨ (0 ≤ p ∧ p < varAtE s p ∧ varAtE s p ≤ (s.size : Int) ∧ 0 ≤ varAtN s p) := by
  unfold varAtE varAtN varAt
  by_cases h : 0 ≤ p
  · rw [if_pos h]
    rcases vaGo_bd s p.toNat 5 0 with h1 | ⟨h1, h2, h3⟩
    · exact .inl h1
    · exact .inr ⟨h, by omega, h2, h3⟩
  · rw [if_neg h]
    exact .inl rfl

/-- The tests ahead of a frame's body. -/
def frameNo (s : ByteArray) (p : Int) : Prop := varAtE s p < 0 ∨ varAtN s p < 1 ∨ 400 < varAtN s p ∨ (s.size : Int) - varAtE s p - 4 < varAtN s p
instance frameNo_dec (s : ByteArray) (p : Int) : Decidable (frameNo s p) := by unfold frameNo; infer_instance
def frameBody (s : ByteArray) (p : Int) : ByteArray := s.extract ((varAtE s p).toNat + 4) ((varAtE s p).toNat + 4 + (varAtN s p).toNat)
def frameAt (s : ByteArray) (p : Int) : ByteArray × Int :=
  if frameNo s p then (⟨#[]⟩, -1) else if ((sumOf (frameBody s p) : Nat) : Int) = fourAtN s (varAtE s p) then (frameBody s p, varAtE s p + 4 + varAtN s p) else (⟨#[]⟩, -1)
def frameAtB (s : ByteArray) (p : Int) : ByteArray := (frameAt s p).1
def frameAtE (s : ByteArray) (p : Int) : Int := (frameAt s p).2
theorem ret2_si {a b : ByteArray} {c d : Int} (h1 : a = b) (h2 : c = d) : Ending.returned (.tuple #[.string a, .int .i64 c]) = .returned (.tuple #[.string b, .int .i64 d]) := by rw [h1, h2]
theorem fourAtN_bd (s : ByteArray) (p : Int) : 0 ≤ fourAtN s p ∧ fourAtN s p < 4294967296 := by
  unfold fourAtN
  by_cases h : 0 ≤ p ∧ p ≤ (s.size : Int) - 4
  · rw [if_pos h, ← fourTo_four]
    have := fourTo_bd s p.toNat 4
    omega
  · rw [if_neg h]; omega

set_option maxHeartbeats 1000000 in
set_option maxRecDepth 100000 in
theorem frameAt_impl_any (s : ByteArray) (p : Int) (w : World) (hs : s.size ≤ 1048576) :
    Calls Try.prog 17 #[.string s, .int .i64 p] w fun e w' => e = .returned (.tuple #[.string (frameAtB s p), .int .i64 (frameAtE s p)]) ∧ Below w.heap.size w w' := by
  have hbd := varAt_bd s p
  have CV := Lib.hid (fun w => varAt_impl_any s p w hs)
  by_cases hno : frameNo s p
  · have HR := Lib.hid (show frameAt s p = (⟨#[]⟩, -1) by rw [frameAt, if_pos hno])
    unfold frameNo at hno
    have CF := Lib.hid (fun w => fourAt_impl_any s (varAtE s p) w hs)
    have hfb := fourAtN_bd s (varAtE s p)
    obtain ⟨n, hn⟩ : ∃ n, n = varAtN s p := ⟨_, rfl⟩
    obtain ⟨t, ht⟩ : ∃ t, t = varAtE s p := ⟨_, rfl⟩
    rw [← hn, ← ht] at hbd hno CV
    rw [← ht] at CF hfb
    clear hn ht
    by_cases c1 : t < 0
    · have t1 : decide (t < 0) = true := by simp; omega
      clear hno hbd
      go_enter Try.func17, Try.ntmps17
      go_wp2_with (first | (go_at_call 58; refine (CV.out _).mono ?_; rintro e w1 ⟨rfl, hb1⟩))
      go_ret2
      exact ⟨ret2_si (congrArg Prod.fst HR.out).symm (congrArg Prod.snd HR.out).symm, hb1⟩
    · have t1 : decide (t < 0) = false := by simp; omega
      have ht1 : t ≤ (s.size : Int) := by omega
      clear hbd
      by_cases c2 : n < 1
      · have HN := Lib.hid (show n < 1 ∨ 400 < n from .inl c2)
        have t2 : decide (n < 1) = true := by simp; omega
        clear hno c2
        go_enter Try.func17, Try.ntmps17
        go_wp2_with (first | (go_at_call 54; refine (within_f _ _ _ _ HN.out).mono ?_; rintro e w' ⟨rfl, rfl⟩) | (go_at_call 58; refine (CV.out _).mono ?_; rintro e w1 ⟨rfl, hb1⟩))
        go_ret2
        exact ⟨ret2_si (congrArg Prod.fst HR.out).symm (congrArg Prod.snd HR.out).symm, hb1⟩
      · by_cases c3 : 400 < n
        · have HN := Lib.hid (show n < 1 ∨ 400 < n from .inr c3)
          have t2 : decide (n < 1) = false := by simp; omega
          have t3 : decide (400 < n) = true := by simp; omega
          clear hno c2
          go_enter Try.func17, Try.ntmps17
          go_wp2_with (first | (go_at_call 54; refine (within_f _ _ _ _ HN.out).mono ?_; rintro e w' ⟨rfl, rfl⟩) | (go_at_call 58; refine (CV.out _).mono ?_; rintro e w1 ⟨rfl, hb1⟩))
          go_ret2
          exact ⟨ret2_si (congrArg Prod.fst HR.out).symm (congrArg Prod.snd HR.out).symm, hb1⟩
        · have t4 : decide ((s.size : Int) - t - 4 < n) = true := by simp; omega
          clear hno
          go_enter Try.func17, Try.ntmps17
          go_wp2_with (first | (go_at_call 54; refine (within_t _ _ _ _ (by omega) (by omega)).mono ?_; rintro e w' ⟨rfl, rfl⟩) | (go_at_call 58; refine (CV.out _).mono ?_; rintro e w1 ⟨rfl, hb1⟩))
          go_ret2
          exact ⟨ret2_si (congrArg Prod.fst HR.out).symm (congrArg Prod.snd HR.out).symm, hb1⟩
  · have HR := Lib.hid (show frameAt s p = if ((sumOf (frameBody s p) : Nat) : Int) = fourAtN s (varAtE s p) then (frameBody s p, varAtE s p + 4 + varAtN s p) else (⟨#[]⟩, -1) by rw [frameAt, if_neg hno])
    unfold frameNo at hno
    have hok : fourAtOk s (varAtE s p) = true := by unfold fourAtOk; exact decide_eq_true (by omega)
    have cf := fun w => fourAt_impl_any s (varAtE s p) w hs
    rw [hok] at cf
    have CF := Lib.hid cf
    clear cf hok
    have hfb := fourAtN_bd s (varAtE s p)
    have HB := Lib.hid (show frameBody s p = s.extract ((varAtE s p).toNat + 4) ((varAtE s p).toNat + 4 + (varAtN s p).toNat) from rfl)
    obtain ⟨f, hf⟩ : ∃ f, f = fourAtN s (varAtE s p) := ⟨_, rfl⟩
    rw [← hf] at HR CF hfb
    obtain ⟨n, hn⟩ : ∃ n, n = varAtN s p := ⟨_, rfl⟩
    obtain ⟨t, ht⟩ : ∃ t, t = varAtE s p := ⟨_, rfl⟩
    obtain ⟨b, hb⟩ : ∃ b, b = frameBody s p := ⟨_, rfl⟩
    rw [← hb] at HR HB
    rw [← hn, ← ht] at hbd hno CV HR HB
    rw [← ht] at CF
    clear hn ht hf hb
    have hn1 : 1 ≤ n := by omega
    have hn2 : n ≤ 400 := by omega
    have ht0 : 0 ≤ t := by omega
    have ht1 : n ≤ (s.size : Int) - t - 4 := by omega
    have t1 : decide (t < 0) = false := by simp; omega
    have t2 : decide (n < 1) = false := by simp; omega
    have t3 : decide (400 < n) = false := by simp; omega
    have t4 : decide ((s.size : Int) - t - 4 < n) = false := by simp; omega
    have hsl : ∀ w : World, (Instr.slice 9 (.string s) (some (.int .i64 (t + 4))) (some (.int .i64 (t + 4 + n))) none).run Try.prog w = .ok (.string b) w := by
      intro w
      rw [run_slice_string (P := Try.prog) w _ s _ _ _ _ Try.underlying9 (by omega) (by omega) (by omega), HB.out, show (t + 4).toNat = t.toNat + 4 by omega, show (t + 4 + n).toNat = t.toNat + 4 + n.toNat by omega]
    have CS := Lib.hid (fun w => sumOf_impl b w (by rw [HB.out]; rw [size_extract' (by omega)]; omega))
    clear hno hbd
    by_cases hq : ((sumOf b : Nat) : Int) = f
    · have HR2 := Lib.hid (HR.out.trans (if_pos hq))
      obtain ⟨u, hu⟩ : ∃ u : Int, u = ((sumOf b : Nat) : Int) := ⟨_, rfl⟩
      rw [← hu] at CS hq
      have t5 : (u != f) = false := by rw [bne_eq_false_iff_eq]; omega
      clear hu hq HR
      go_enter Try.func17, Try.ntmps17
      go_wp2_with (first | (go_at_call 54; refine (within_t _ _ _ _ (by omega) (by omega)).mono ?_; rintro e w' ⟨rfl, rfl⟩) | (go_at_call 58; refine (CV.out _).mono ?_; rintro e w1 ⟨rfl, hb1⟩) | (go_at_call 59; refine (CF.out _).mono ?_; rintro e w2 ⟨rfl, hb2⟩) | (go_at_call 57; refine (CS.out _).mono ?_; rintro e w' ⟨rfl, rfl⟩))
      go_ret2
      exact ⟨ret2_si (congrArg Prod.fst HR2.out).symm (congrArg Prod.snd HR2.out).symm, hb1.trans (hb2.mono hb1.size)⟩
    · have HR2 := Lib.hid (HR.out.trans (if_neg hq))
      obtain ⟨u, hu⟩ : ∃ u : Int, u = ((sumOf b : Nat) : Int) := ⟨_, rfl⟩
      rw [← hu] at CS hq
      have t5 : (u != f) = true := by rw [bne_iff_ne]; omega
      clear hu hq HR
      go_enter Try.func17, Try.ntmps17
      go_wp2_with (first | (go_at_call 54; refine (within_t _ _ _ _ (by omega) (by omega)).mono ?_; rintro e w' ⟨rfl, rfl⟩) | (go_at_call 58; refine (CV.out _).mono ?_; rintro e w1 ⟨rfl, hb1⟩) | (go_at_call 59; refine (CF.out _).mono ?_; rintro e w2 ⟨rfl, hb2⟩) | (go_at_call 57; refine (CS.out _).mono ?_; rintro e w' ⟨rfl, rfl⟩))
      go_ret2
      exact ⟨ret2_si (congrArg Prod.fst HR2.out).symm (congrArg Prod.snd HR2.out).symm, hb1.trans (hb2.mono hb1.size)⟩

end Go.Proofs.Ythjkmefbjbfonaa

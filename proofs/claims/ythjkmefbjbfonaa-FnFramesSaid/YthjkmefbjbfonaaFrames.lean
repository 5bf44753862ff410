/- The walks of FramesOf and ScanOf, the program's and the reference's. -/
import Derived.Test.YthjkmefbjbfonaaFramesPlain
namespace Go.Proofs.Ythjkmefbjbfonaa
open Go.RowKit Go.ChangeShapes

set_option maxHeartbeats 1000000 in
set_option maxRecDepth 100000 in
theorem framesOf_impl (v : Value) (l : List ByteArray) (w : World) (h : Rd w 1 v l.length (strV l)) (hn : l.length ≤ 1048576) (hsz : ∀ b ∈ l, b.size ≤ 1048576) :
    Calls Try.prog 13 #[v] w fun e w' => e = .returned (.string (framesOf l)) ∧ Below w.heap.size w w' := by
  obtain ⟨i0, hi, hz0, hz1, hz2⟩ := info_parts Try.infoU8
  obtain ⟨A, c, rfl, hnc, hcm⟩ := h.shape
  unfold maxLen at hcm
  go_enter Try.func13, Try.ntmps13
  go_wp2
  go_loopw [3, 5, 6, 9] (fun v _ _ i wr => ∃ (k : Nat) (acc : List UInt8), k ≤ l.length ∧ i = .int .i64 k ∧ acc.length ≤ 60000 ∧ Hid (framesOf l = framesGo (l.drop k) acc) ∧ wr.ownsRow w.heap.size 5 1 v acc.length (bytesV acc) ∧ Below w.heap.size w wr) (fun _ _ _ i _ => l.length - (intOf i).toNat)
  case atStart => exact ⟨0, [], Nat.zero_le _, rfl, by simp, Lib.hid rfl, World.ownsRow_nil _ _ _ _, Below.refl _ _⟩
  case round =>
    obtain ⟨k, acc, hk, rfl, hal, hgo, hown, hb⟩ := hrel
    by_cases hlt : k < l.length
    · obtain ⟨b, off, c', hv, _, _, hbl, hc⟩ := h.form (by omega) (by omega)
      have hcell := (hb.cell (p := ⟨b, off + k, none⟩) hbl).trans (hc k _ (strV_at hlt))
      have hA : A = some ⟨b, off, none⟩ := by injection hv
      subst hA
      have HD := Lib.hid (show l.drop k = l[k] :: l.drop (k + 1) from List.drop_eq_getElem_cons hlt)
      have hxs := hsz l[k] (List.getElem_mem hlt)
      obtain ⟨x, hx⟩ : ∃ x, x = l[k] := ⟨_, rfl⟩
      rw [← hx] at hcell HD hxs
      clear hx hv hc
      obtain ⟨sA, sC, hsh, _, _⟩ := (Rd.of_own hown).shape
      have CF := Lib.hid (fun w => frameOf_impl_any x w hxs)
      have hfs := frameOf_size x
      have HG := Lib.hid (show framesOf l = if (frameOf x).toList = [] ∨ 60000 < acc.length + (frameOf x).size then ⟨#[]⟩ else framesGo (l.drop (k + 1)) (acc ++ (frameOf x).data.toList) by rw [hgo.out, HD.out, framesGo])
      obtain ⟨z, hz⟩ : ∃ z, z = frameOf x := ⟨_, rfl⟩
      rw [← hz] at CF hfs HG
      clear hz hgo
      by_cases he : z.toList = []
      · have HR := Lib.hid (show framesOf l = ⟨#[]⟩ by rw [HG.out, if_pos (.inl he)])
        have t1 : z.toList.isEmpty = true := by rw [he]; rfl
        clear he HG
        subst hsh
        go_wp2_with (go_at_call 16; refine (CF.out _).mono ?_; rintro e w1 ⟨rfl, hb1⟩)
        go_ret
        exact ⟨ret_str HR.out.symm, hb.trans (hb1.mono hb.size)⟩
      · have t1 : z.toList.isEmpty = false := by
          cases hl : z.toList with
          | nil => exact absurd hl he
          | cons a b => rfl
        by_cases hbig : 60000 < acc.length + z.size
        · have HR := Lib.hid (show framesOf l = ⟨#[]⟩ by rw [HG.out, if_pos (.inr hbig)])
          have t2 : decide ((60000 : Int) < (acc.length : Int) + (z.size : Int)) = true := by simp; omega
          clear he HG
          subst hsh
          go_wp2_with (go_at_call 16; refine (CF.out _).mono ?_; rintro e w1 ⟨rfl, hb1⟩)
          go_ret
          exact ⟨ret_str HR.out.symm, hb.trans (hb1.mono hb.size)⟩
        · have HR := Lib.hid (show framesOf l = framesGo (l.drop (k + 1)) (acc ++ z.data.toList) by rw [HG.out, if_neg (by rintro (h | h) <;> contradiction)])
          have t2 : decide ((60000 : Int) < (acc.length : Int) + (z.size : Int)) = false := by simp; omega
          have hbig' : acc.length + z.size ≤ 60000 := by omega
          have HL := Lib.hid (show (acc ++ z.data.toList).length = acc.length + z.size by rw [List.length_append, Array.length_toList]; rfl)
          clear he HG hbig
          subst hsh
          go_wp2_with (first | (go_at_call 16; refine (CF.out _).mono ?_; rintro e w1 ⟨rfl, hb1⟩; have hown1 := own_below hown hb1; have hbb := hb.trans (hb1.mono hb.size)) | (at_builtin; refine wpList_append_str rfl _ _ _ _ rfl w.heap.size _ i0 Try.underlying22 Try.underlying9 hi hz0 hz1 hz2 _ acc.length _ rfl hown1 hbb hbb.size z rfl (by omega) ?_; intro v2 w2 hown2 hb2 hg2))
          go_roundw
          case rel => exact ⟨k + 1, acc ++ z.data.toList, by omega, by go_num, by rw [HL.out]; omega, HR, by rw [HL.out, bytesV_append]; exact hown2, hb2⟩
          case measure => simp [intOf]; omega
    · have HR := Lib.hid (show framesOf l = ⟨acc.toArray⟩ by rw [hgo.out, List.drop_of_length_le (by omega)]; rfl)
      have hcv := run_string_own (dst := 9) Try.underlying22 Try.underlying5 Try.underlying9 hown
      clear hown hgo
      go_wp2
      go_ret
      exact ⟨ret_str HR.out.symm, hb⟩

/-- What ScanOf leaves. -/
def MadeRowI (w0 : World) (e : TypeId) (size n : Nat) (xs : List Value) (x : Int) (r : Ending) (w' : World) : Prop := ∃ u, r = .returned (.tuple #[u, .int .i64 x]) ∧ w'.ownsRow w0.heap.size e size u n xs ∧ Below w0.heap.size w0 w'
theorem scan_big {s : ByteArray} (h : ¬ s.size ≤ 60000) : scanL s = [] ∧ scanE s = 0 := ⟨by rw [scanL, if_neg h], by rw [scanE, if_neg h]⟩
theorem scan_from {s : ByteArray} (h : s.size ≤ 60000) : scanL s = (scanGo s (s.size + 1) 0).1 ∧ scanE s = (scanGo s (s.size + 1) 0).2 := ⟨by rw [scanL, if_pos h], by rw [scanE, if_pos h]⟩
theorem scanGo_stop {s : ByteArray} {f : Nat} {p : Int} (h : frameAtE s p < 0) : scanGo s f p = ([], p) := by cases f <;> simp [scanGo, h]
theorem scanGo_on {s : ByteArray} {f : Nat} {p : Int} (h : ¬ frameAtE s p < 0) : scanGo s (f + 1) p = (frameAtB s p :: (scanGo s f (frameAtE s p)).1, (scanGo s f (frameAtE s p)).2) := by rw [scanGo, if_neg h]
theorem strV_append (a b : List ByteArray) : strV (a ++ b) = strV a ++ strV b := by simp [strV]

set_option maxRecDepth 100000 in
theorem scanOf_impl (s : ByteArray) (w : World) (hs : s.size ≤ 1048576) : Calls Try.prog 14 #[.string s] w (MadeRowI w 9 1 (scanL s).length (strV (scanL s)) (scanE s)) := by
  obtain ⟨i0, hi, hz0, hz1, hz2⟩ := info_parts Try.infoStr
  by_cases hbig : s.size ≤ 60000
  · obtain ⟨hL, hE⟩ := scan_from hbig
    have HL := Lib.hid hL
    have HE := Lib.hid hE
    have t0 : decide ((60000 : Int) < s.size) = false := by simp; omega
    clear hL hE
    go_enter Try.func14, Try.ntmps14
    go_wp2
    clear t0
    go_loopw [4, 5, 6, 7] (fun v p _ _ wr => ∃ (f : Nat) (q : Int) (acc : List ByteArray), p = .int .i64 q ∧ 0 ≤ q ∧ q ≤ s.size ∧ (s.size : Int) + 1 ≤ q + f ∧ (acc.length : Int) ≤ q ∧ Hid ((scanGo s (s.size + 1) 0).1 = acc ++ (scanGo s f q).1 ∧ (scanGo s (s.size + 1) 0).2 = (scanGo s f q).2) ∧
        wr.ownsRow w.heap.size 9 1 v acc.length (strV acc) ∧ Below w.heap.size w wr) (fun _ p _ _ _ => s.size + 1 - (intOf p).toNat)
    case atStart => exact ⟨s.size + 1, 0, [], rfl, by omega, by omega, by omega, by simp, Lib.hid ⟨rfl, rfl⟩, World.ownsRow_nil _ _ _ _, Below.refl _ _⟩
    case round =>
      obtain ⟨f, q, acc, rfl, hq0, hq1, hf, hal, hgo, hown, hb⟩ := hrel
      have CF := Lib.hid (fun w => frameAt_impl_any s q w hs)
      have hbd := frameAt_bd s q
      have HS := Lib.hid (fun f => scanGo_stop (s := s) (f := f) (p := q))
      have HO := Lib.hid (fun f => scanGo_on (s := s) (f := f) (p := q))
      obtain ⟨t, ht⟩ : ∃ t, t = frameAtE s q := ⟨_, rfl⟩
      obtain ⟨b, hbb⟩ : ∃ b, b = frameAtB s q := ⟨_, rfl⟩
      rw [← ht, ← hbb] at CF hbd HO
      rw [← ht] at HS
      clear ht hbb
      by_cases hneg : t < 0
      · have HR := Lib.hid (show scanL s = acc ∧ scanE s = q by rw [HL.out, HE.out, hgo.out.1, hgo.out.2, HS.out f hneg]; simp)
        have t1 : decide (t < 0) = true := by simp; omega
        clear hbd hgo
        go_wp2_with (go_at_call 17; refine (CF.out _).mono ?_; rintro e w1 ⟨rfl, hb1⟩; have hown1 := own_below hown hb1)
        go_ret2
        exact ⟨u4, by rw [HR.out.2]; rfl, by rw [HR.out.1]; exact hown1, hb.trans (hb1.mono hb.size)⟩
      · obtain ⟨f, rfl⟩ : ∃ g, f = g + 1 := ⟨f - 1, by omega⟩
        have HR := Lib.hid (show (scanGo s (s.size + 1) 0).1 = (acc ++ [b]) ++ (scanGo s f t).1 ∧ (scanGo s (s.size + 1) 0).2 = (scanGo s f t).2 by rw [hgo.out.1, hgo.out.2, HO.out f hneg]; simp)
        have t1 : decide (t < 0) = false := by simp; omega
        have ht1 : q < t := by omega
        have ht2 : t ≤ (s.size : Int) := by omega
        clear hbd hgo
        go_wp2_with (first | (go_at_call 17; refine (CF.out _).mono ?_; rintro e w1 ⟨rfl, hb1⟩; have hown1 := own_below hown hb1; have hbq := hb.trans (hb1.mono hb.size)) | (at_builtin; refine wpList_append_new rfl _ _ _ rfl w.heap.size _ i0 _ 1 16 Try.underlying24 hi hz0 hz1 hz2 rfl (by decide) u4 acc.length _ rfl hown1 hbq hbq.size _ 1 1 rfl rfl (by intro u hu; simp at hu; subst hu; rfl) ⟨by omega, by omega⟩ ?_; intro v2 w2 hown2 hb2 hg2 hat2))
        go_roundw
        case rel => exact ⟨f, t, acc ++ [b], rfl, by omega, by omega, by omega, by simp; omega, HR, by rw [strV_append]; simpa [strV] using hown2, hb2⟩
        case measure => simp [intOf]; omega
  · obtain ⟨hL, hE⟩ := scan_big hbig
    rw [hL, hE]
    have t0 : decide ((60000 : Int) < s.size) = true := by simp; omega
    clear hL hE
    go_enter Try.func14, Try.ntmps14
    go_wp2
    go_ret2
    exact ⟨.slice none 0 0, rfl, World.ownsRow_nil _ _ _ _, Below.refl _ _⟩

end Go.Proofs.Ythjkmefbjbfonaa

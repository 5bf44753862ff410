/- slices.Delete of one file. -/
import Derived.Test.YthjkmefbjbfonaaRowF
import Derived.Test.YthjkmefbjbfonaaCopyRow
import Derived.Deep.RegionLaw
import Derived.Shelf.RegionOpenPlain
namespace Go.Proofs.Ythjkmefbjbfonaa
set_option linter.unusedSimpArgs false
set_option linter.unusedVariables false
open Go.RowKit Go.ChangeShapes Go.Deep

theorem row_setCells {b : Nat} {t : TypeId} {n : Nat} : ∀ (vs : List Value) (o : Nat) (w : World) (f : Nat → Value), w.rowIs b t n f → (w.setCells b o vs).rowIs b t n (overF f o vs)
  | [], o, w, f, h => h.congr (fun j _ => by unfold overF; rw [if_neg (by simp)])
  | v :: r, o, w, f, h => by
    have ih := row_setCells r (o + 1) _ _ (h.set o v)
    refine ih.congr (fun j _ => ?_)
    unfold overF
    dsimp only
    by_cases h1 : j = o
    · subst h1
      rw [if_neg (by omega), if_pos rfl, if_pos (by simp), Nat.sub_self]
      rfl
    · by_cases h2 : o + 1 ≤ j ∧ j < o + 1 + r.length
      · rw [if_pos h2, if_pos (by simp; omega), show j - o = (j - (o + 1)) + 1 by omega, List.getD_cons_succ]
      · rw [if_neg h2, if_neg h1, if_neg (by simp; omega)]
theorem grown_setCells {b : Nat} : ∀ (vs : List Value) (o : Nat) (w0 w : World), w0.grownBy w (some b) → w0.grownBy (w.setCells b o vs) (some b)
  | [], _, _, _, h => h
  | v :: r, o, w0, w, h => grown_setCells r (o + 1) w0 _ (only_setCell h (.inl rfl) v)
theorem filV_drop (l : List Fil) : ∀ {k : Nat}, k ≤ l.length → (filV l).drop (k * 3) = filV (l.drop k) := by
  induction l with
  | nil => intro k _; simp [filV]
  | cons x l ih =>
    intro k hk
    cases k with
    | zero => rfl
    | succ k =>
      rw [show (k + 1) * 3 = k * 3 + 3 by omega, ← List.drop_drop]
      show List.drop 3 ((x.cs ++ filV l).drop (k * 3)) = _
      rw [List.drop_drop, show k * 3 + 3 = 3 + k * 3 by omega, ← List.drop_drop]
      show ((x.cs ++ filV l).drop 3).drop (k * 3) = _
      rw [show (x.cs ++ filV l).drop 3 = filV l from rfl, ih (by simpa using hk)]
      rfl
theorem eraseIdx_at {l : List Fil} {k j : Nat} (hk : k < l.length) (hj : j < (l.length - 1) * 3) : (filV (l.eraseIdx k))[j]? = (filV l)[if j < k * 3 then j else j + 3]? := by
  have hl : (l.eraseIdx k).length = l.length - 1 := List.length_eraseIdx_of_lt hk
  have hq : j = j / 3 * 3 + j % 3 := by omega
  by_cases h : j < k * 3
  · rw [if_pos h]
    conv => lhs; rw [hq]
    conv => rhs; rw [hq]
    rw [filV_at (by omega) (j % 3) (by omega), filV_at (by omega) (j % 3) (by omega)]
    have : (l.eraseIdx k)[j / 3]'(by omega) = l[j / 3]'(by omega) := by
      rw [List.getElem_eraseIdx]
      rw [dif_pos (by omega)]
    rw [this]
  · rw [if_neg h, show j + 3 = (j / 3 + 1) * 3 + j % 3 by omega]
    conv => lhs; rw [hq]
    rw [filV_at (by omega) (j % 3) (by omega), filV_at (by omega) (j % 3) (by omega)]
    have : (l.eraseIdx k)[j / 3]'(by omega) = l[j / 3 + 1]'(by omega) := by
      rw [List.getElem_eraseIdx]
      rw [dif_neg (by omega)]
    rw [this]

theorem run_clear_one (w : World) (t e ty : TypeId) (z : Value) (ht : Try.prog.underlying t = some (.slice e)) (hv : ∀ w, (zeroValue e).run Try.prog w = .ok z w) (b o c : Nat) (h1 : ∀ v ∈ z.cells.toList, v.oneCell' = true) (hz : (Builtin.zeroCells z.cells 1).toList = z.cells.toList)
    (hc : ∀ j, j < z.cells.size → (w.cell? ⟨b, o + j, none⟩).isSome = true) (hf : ∀ j, j < z.cells.size → w.frozen? ⟨b, o + j, none⟩ = false) :
    (Builtin.clear_ #[t] ty #[.slice (some ⟨b, o, none⟩) 1 c]).run Try.prog w = .ok (.tuple #[]) (w.setCells b o z.cells.toList) := by
  have hst := run_storeCells_cells (P := Try.prog) b o z.cells.toList 0 w (by simpa using hc) (by simpa using hf) h1
  simp only [Nat.add_zero] at hst
  simp [Builtin.clear_, run_underlying ht, hv, hz, hst]

set_option maxHeartbeats 4000000 in
set_option maxRecDepth 1000000 in
theorem delete_any (l : List Fil) (k : Nat) (w : World) (g cap : Nat) (h : RowFil w g cap l) (hk : k < l.length) (hcm : cap ≤ maxLen) (hn : l.length ≤ 1000) :
    Calls Try.prog 79 #[.slice (some ⟨g, 0, none⟩) l.length cap, .int .i64 (k : Int), .int .i64 ((k : Int) + 1)] w fun e w' =>
      e = .returned (.slice (some ⟨g, 0, none⟩) (l.length - 1) cap) ∧ RowFil w' g cap (l.eraseIdx k) ∧ w.grownBy w' (some g) := by
  obtain ⟨i0, hi, hz0, hz1, hz2⟩ := info_parts Try.infoFil
  obtain ⟨F, hrow, hcap, hF⟩ := h
  obtain ⟨n, hnn⟩ : ∃ n, n = l.length := ⟨_, rfl⟩
  have HN := Lib.hid hnn
  rw [← hnn] at hF hk hcap hn ⊢
  obtain ⟨news, hnews⟩ : ∃ news, news = filV (l.drop (k + 1)) := ⟨_, rfl⟩
  have hlen : news.length = (n - (k + 1)) * 3 := by rw [hnews, filV_length, List.length_drop, hnn]
  have hget : ∀ t, t < (n - (k + 1)) * 3 → news[t]? = some (F ((k + 1) * 3 + t)) := fun t ht => by
    rw [hnews, ← filV_drop l (by omega), List.getElem?_drop]
    exact hF _ (by omega)
  obtain ⟨A, hA, hsrc⟩ : ∃ A : Addr, (if cap = k + 1 then some (⟨g, 0, none⟩ : Addr) else some ⟨g, (k + 1) * 3, none⟩) = some A ∧ Hid (∀ t u, news[t]? = some u → w.drew.cell? (A.add t) = some u) := by
    by_cases hc : cap = k + 1
    · refine ⟨_, if_pos hc, Lib.hid fun t u hu => ?_⟩
      have h0 : news.length = 0 := by rw [hlen]; omega
      rw [List.length_eq_zero_iff.1 h0] at hu
      simp at hu
    · refine ⟨_, if_neg hc, Lib.hid fun t u hu => ?_⟩
      have ht : t < (n - (k + 1)) * 3 := by
        have := (List.getElem?_eq_some_iff.1 hu).1
        rwa [hlen] at this
      rw [hget t ht] at hu
      rw [addr_add]
      exact (hrow.cell (by omega)).trans hu
  have s1 := Lib.hid hlen
  have s2 : Hid (∀ u ∈ news, u.oneCell' = true) := Lib.hid (by rw [hnews]; exact filV_one _)
  have s3 : Hid (∀ t, t < news.length → (w.drew.cell? ⟨g, 0 + k * 3 + t, none⟩).isSome = true ∧ w.drew.frozen? ⟨g, 0 + k * 3 + t, none⟩ = false) := Lib.hid fun t ht => by
    rw [hlen] at ht
    refine ⟨?_, hrow.frozen _⟩
    show (w.cell? _).isSome = true
    rw [hrow.cell (by omega)]
    rfl
  obtain ⟨W1, hW1⟩ : ∃ W1, W1 = w.drew.setCells g (0 + k * 3) news := ⟨_, rfl⟩
  have hR1 : W1.rowIs g 44 (cap * 3) (overF F (k * 3) news) := by
    rw [hW1, Nat.zero_add]
    exact row_setCells news (k * 3) _ F hrow
  have hG1 : w.grownBy W1 (some g) := by rw [hW1]; exact grown_setCells news _ _ _ (show w.grownBy w.drew (some g) from ⟨rfl, rfl, rfl, Nat.le_refl _, fun _ _ _ => rfl⟩)
  have hcl : ∀ ty, (Builtin.clear_ #[35] ty #[.slice (some ⟨g, (n - 1) * 3, none⟩) 1 (cap - (n - 1))]).run Try.prog W1 = .ok (.tuple #[]) (W1.setCells g ((n - 1) * 3) [.string ⟨#[]⟩, .string ⟨#[]⟩, .int .i64 0]) :=
    fun ty => run_clear_one W1 _ _ ty Try.underlying35 (z := .agg #[.string ⟨#[]⟩, .string ⟨#[]⟩, .int .i64 0]) (fun W => by simp [zeroValue, typeInfo, hi, hz0]) g _ _ (by decide) (by simp [Builtin.zeroCells, Value.cells]; rfl) (fun j hj => by rw [hR1.cell (by simp [Value.cells] at hj; omega)]; rfl) (fun j _ => hR1.frozen _)
  have hcl' : ∀ ty, (Builtin.clear_ #[35] ty #[.slice (some ⟨g, (k + (n - (k + 1))) * 3, none⟩) (n - (k + (n - (k + 1)))) (cap - (k + (n - (k + 1))))]).run Try.prog W1 = .ok (.tuple #[]) (W1.setCells g ((n - 1) * 3) [.string ⟨#[]⟩, .string ⟨#[]⟩, .int .i64 0]) := fun ty => by
    rw [show k + (n - (k + 1)) = n - 1 by omega, show n - (n - 1) = 1 by omega]
    exact hcl ty
  clear hcl
  obtain ⟨W2, hW2⟩ : ∃ W2, W2 = W1.setCells g ((n - 1) * 3) [.string ⟨#[]⟩, .string ⟨#[]⟩, .int .i64 0] := ⟨_, rfl⟩
  rw [← hW2] at hcl'
  have HW2 := Lib.hid hW2
  clear hW2
  have mixed : Try.prog.follows Departure.mixedOrders = true := by kernel_rfl
  have hs1 : ∀ W, (Instr.slice 35 (.slice (some ⟨g, 0, none⟩) n cap) none (some (.int .i64 (k : Int))) none).run Try.prog W = .ok (.slice (some ⟨g, 0, none⟩) k cap) W := fun W =>
    run_cut_h' (P := Try.prog) Try.underlying35 hi g 0 n cap .i64 k (by omega) W
  have hs2 : ∀ W, (Instr.slice 35 (.slice (some ⟨g, 0, none⟩) n cap) (some (.int .i64 ((k : Int) + 1))) none none).run Try.prog W = .ok (.slice (some A) (n - (k + 1)) (cap - (k + 1))) W := fun W => by
    have := run_cut_l (P := Try.prog) Try.underlying35 hi (some ⟨g, 0, none⟩) n cap .i64 (k + 1) (by omega) W
    rw [show ((k + 1 : Nat) : Int) = (k : Int) + 1 by omega] at this
    rw [this, cutAt, hz1, ← hA]
    congr 2
    by_cases hc : cap = k + 1
    · rw [if_pos hc, if_pos (by omega)]
    · rw [if_neg hc, if_neg (by omega)]
      simp [Option.map_some, addr_add]
  have HR1 := Lib.hid hR1
  have HG1 := Lib.hid hG1
  have hW : Hid (W1 = w.drew.setCells g (0 + k * 3) news) := Lib.hid hW1
  have HGET := Lib.hid hget
  have HF := Lib.hid hF
  have HLEN := Lib.hid hlen
  clear hW1 hR1 hG1 hget hlen hrow hF hnews hnn
  go_enter Try.func79, Try.ntmps79
  go_wp2_with fail
  go_region_law_o (refine step_append_room rfl (.tmp 22) (.tmp 25) 35 rfl 44 i0 3 Try.underlying35 hi hz1 g 0 k cap (by simp [Act.eval, Act.put]) A (n - (k + 1)) (cap - (k + 1)) news (by simp [Act.eval, Act.put]) s1.out hsrc.out s2.out (by omega) s3.out ?_; rw [← hW.out])
  go_wp2_with fail
  go_ret
  have hR2 : W2.rowIs g 44 (cap * 3) (overF (overF F (k * 3) news) ((n - 1) * 3) [.string ⟨#[]⟩, .string ⟨#[]⟩, .int .i64 0]) := by rw [HW2.out]; exact row_setCells _ _ _ _ HR1.out
  have hG2 : w.grownBy W2 (some g) := by rw [HW2.out]; exact grown_setCells _ _ _ _ HG1.out
  have hl : (l.eraseIdx k).length = n - 1 := by rw [List.length_eraseIdx_of_lt (by rw [← HN.out]; exact hk), ← HN.out]
  refine ⟨?_, ⟨_, hR2, by omega, fun j hj => ?_⟩, hG2⟩
  · rw [show k + (n - (k + 1)) = n - 1 by omega]
    rfl
  · rw [hl] at hj
    rw [eraseIdx_at (by rw [← HN.out]; exact hk) (by rw [← HN.out]; exact hj)]
    have hL := HLEN.out
    have e2 : overF (overF F (k * 3) news) ((n - 1) * 3) [.string ⟨#[]⟩, .string ⟨#[]⟩, .int .i64 0] j = overF F (k * 3) news j := by
      rw [overF, if_neg (by omega)]
    rw [e2]
    by_cases h1 : j < k * 3
    · rw [if_pos h1, overF, if_neg (by omega)]
      exact HF.out j (by omega)
    · rw [if_neg h1, overF, if_pos (by omega), List.getD_eq_getElem?_getD, HGET.out _ (by omega), HF.out (j + 3) (by omega), show (k + 1) * 3 + (j - k * 3) = j + 3 by omega]
      rfl
end Go.Proofs.Ythjkmefbjbfonaa

/- copyEntries, HalfOf and TakeEntry, the program's and the reference's. -/
import Derived.Test.YthjkmefbjbfonaaEntK
import Derived.Test.YthjkmefbjbfonaaCut
import Derived.Test.YthjkmefbjbfonaaSchedT
namespace Go.Proofs.Ythjkmefbjbfonaa
set_option linter.unusedSimpArgs false
open Go.RowKit Go.ChangeShapes Go.Deep

theorem entV_one (l : List Ent) : ∀ u ∈ entV l, u.oneCell' = true := by
  intro u hu
  obtain ⟨e, _, he⟩ := List.mem_flatMap.1 hu
  simp only [Ent.cs, List.mem_cons, List.not_mem_nil, or_false] at he
  rcases he with rfl | rfl | rfl | rfl <;> rfl
theorem entV_append (a b : List Ent) : entV (a ++ b) = entV a ++ entV b := List.flatMap_append
theorem entV_split (l : List Ent) (k : Nat) : entV l = entV (l.take k) ++ entV (l.drop k) := by rw [← entV_append, List.take_append_drop]
theorem entV_take (l : List Ent) {k : Nat} (hk : k ≤ l.length) : (entV l).take (k * 4) = entV (l.take k) := by
  rw [entV_split l k, List.take_left' (by rw [entV_length, List.length_take, Nat.min_eq_left hk])]
theorem entV_drop (l : List Ent) {k : Nat} (hk : k ≤ l.length) : (entV l).drop (k * 4) = entV (l.drop k) := by
  rw [entV_split l k, List.drop_left' (by rw [entV_length, List.length_take, Nat.min_eq_left hk])]
/-- A cut, with a name of its own. -/
theorem cut_hi {w : World} {A : Option Addr} {c : Nat} {l : List Ent} (h : Rd_entries w (.slice A l.length c) l) {k : Nat} (hk : k ≤ l.length) :
    ∃ u, (∀ W, (Instr.slice 58 (.slice A l.length c) none (some (.int .i64 (k : Int))) none).run Try.prog W = .ok u W) ∧ Rd_entries w u (l.take k) := by
  obtain ⟨i0, hi, hz0, hz1, hz2⟩ := info_parts Try.infoEnt
  obtain ⟨A1, c1, he, h1, h2, h3⟩ := id h
  injection he with hA hn hc
  subst hA hc
  refine ⟨cutAt A 0 k c 4, fun W => ?_, ?_⟩
  · have := run_cut_h (P := Try.prog) Try.underlying58 hi A l.length c .i64 k (by omega) W
    rwa [hz1] at this
  · have := Rd.take h hk
    unfold Rd_entries
    rw [List.length_take, Nat.min_eq_left hk, ← entV_take l hk]
    exact this
theorem cut_lo {w : World} {A : Option Addr} {c : Nat} {l : List Ent} (h : Rd_entries w (.slice A l.length c) l) {k : Nat} (hk : k ≤ l.length) :
    ∃ u, (∀ W, (Instr.slice 58 (.slice A l.length c) (some (.int .i64 (k : Int))) none none).run Try.prog W = .ok u W) ∧ Rd_entries w u (l.drop k) := by
  obtain ⟨i0, hi, hz0, hz1, hz2⟩ := info_parts Try.infoEnt
  refine ⟨cutAt A k l.length c 4, fun W => ?_, ?_⟩
  · have := run_cut_l (P := Try.prog) Try.underlying58 hi A l.length c .i64 k hk W
    rwa [hz1] at this
  · have := Rd.drop h hk
    unfold Rd_entries
    rw [List.length_drop, ← entV_drop l hk]
    exact this

set_option maxRecDepth 100000 in
theorem copyEntries_any (v : Value) (l : List Ent) (w : World) (h : Rd_entries w v l) (hn : l.length ≤ 2000000) :
    Calls Try.prog 85 #[v] w (Gives1 (Own_entries · · · · l) w) := by
  obtain ⟨A, c, rfl, hnc, hcm, hr⟩ := h
  obtain ⟨i0, hi, hz0, hz1, hz2⟩ := info_parts Try.infoEnt
  unfold maxLen at hcm
  have h1 := entV_one l
  go_enter Try.func85, Try.ntmps85
  go_wp2_with (at_builtin; refine wpList_append_any _ rfl _ _ _ rfl w.heap.size _ i0 _ 4 32 Try.underlying58 hi hz0 hz1 hz2 rfl (by decide) (.slice none 0 0) 0 [] rfl ⟨(by simp), .inl ⟨rfl, rfl⟩⟩ w.heap.size A l.length c (entV l) rfl hr h1 (by unfold maxLen; omega) (by omega) (Nat.le_refl _) ?_; intro v1 w1 ho1 hg1 hat1; have hk1 := (Below.refl w.heap.size _).grown hg1 (by simp; try omega) (by simp [Value.ownBlock]))
  go_ret
  rw [Nat.zero_add, List.nil_append] at ho1
  exact ⟨v1, rfl, OwnS.of_own ho1, (Below.refl _ _).grown hg1 (Nat.le_refl _) (by simp [Value.ownBlock])⟩

def halfOfR0 (l : List Ent) : List Ent := l.take ((l.length + 1) / 2)
def halfOfR1 (l : List Ent) : List Ent := l.drop ((l.length + 1) / 2)
set_option maxHeartbeats 1000000 in
set_option maxRecDepth 100000 in
theorem halfOf_impl (v : Value) (l : List Ent) (w : World) (h : Rd_entries w v l) (hn : cost_entries l ≤ 1048576) :
    Calls Try.prog 43 #[v] w (Gives2 (Own_entries · · · · (halfOfR0 l)) (Own_entries · · · · (halfOfR1 l)) w) := by
  unfold cost_entries at hn
  obtain ⟨A, c, rfl, hnc, hcm⟩ := Rd.shape h
  unfold maxLen at hcm
  obtain ⟨k, hk⟩ : ∃ k, k = (l.length + 1) / 2 := ⟨_, rfl⟩
  have hkl : k ≤ l.length := by omega
  obtain ⟨u0, hs0, r0⟩ := cut_hi h hkl
  obtain ⟨u1, hs1, r1⟩ := cut_lo h hkl
  have H0 := Lib.hid (show halfOfR0 l = l.take k by rw [halfOfR0, hk])
  have H1 := Lib.hid (show halfOfR1 l = l.drop k by rw [halfOfR1, hk])
  have hkk : ((l.length : Int) + 1) / 2 = (k : Int) := by omega
  have l0 : (l.take k).length ≤ 2000000 := by rw [List.length_take]; omega
  have l1 : (l.drop k).length ≤ 2000000 := by rw [List.length_drop]; omega
  clear hk h
  go_enter Try.func43, Try.ntmps43
  go_wp2
  refine wp_region_sched [(0, true), (1, true), (2, true), (4, true), (5, true), (6, true), (3, false), (7, false), (8, true), (9, true)] [(true, _), (true, _), (true, _), (true, _), (true, _), (true, _), (false, _), (false, _), (true, _), (true, _)] rfl (by kernel_rfl) (by kernel_rfl) (KeptS _ none) (KeptS.refl _ _).drew ?_
  try simp only [List.getElem_toArray, List.getElem_cons_succ, List.getElem_cons_zero]
  (refine wpS_held (by rfl) ?_ (fun W hW => ?_) ?_; rotate_left; (· (obtain ⟨kq, rfl⟩ := hW; go_simp; try with_reducible rfl)); try simp only [Act.put, List.setIfInBounds_toArray, List.set_cons_succ, List.set_cons_zero])
  (refine wpS_held (by rfl) ?_ (fun W hW => ?_) ?_; rotate_left; (· (obtain ⟨kq, rfl⟩ := hW; go_simp; try with_reducible rfl)); try simp only [Act.put, List.setIfInBounds_toArray, List.set_cons_succ, List.set_cons_zero])
  (refine wpS_held (by rfl) ?_ (fun W hW => ?_) ?_; rotate_left; (· (obtain ⟨kq, rfl⟩ := hW; go_simp; try with_reducible rfl)); try simp only [Act.put, List.setIfInBounds_toArray, List.set_cons_succ, List.set_cons_zero])
  (refine wpS_held (by rfl) ?_ (fun W hW => ?_) ?_; rotate_left; (· (obtain ⟨kq, rfl⟩ := hW; go_simp; try with_reducible rfl)); try simp only [Act.put, List.setIfInBounds_toArray, List.set_cons_succ, List.set_cons_zero])
  (refine wpS_held (by rfl) ?_ (fun W hW => ?_) ?_; rotate_left; (· (obtain ⟨kq, rfl⟩ := hW; go_simp; try with_reducible rfl)); try simp only [Act.put, List.setIfInBounds_toArray, List.set_cons_succ, List.set_cons_zero])
  (refine wpS_held (by rfl) ?_ (fun W hW => ?_) ?_; rotate_left; (· (obtain ⟨kq, rfl⟩ := hW; go_simp; try with_reducible rfl)); try simp only [Act.put, List.setIfInBounds_toArray, List.set_cons_succ, List.set_cons_zero])
  (refine wpS_call 85 (by rfl) (by rfl) Try.func85 (by kernel_rfl) (by rfl) (by rfl) ?_; (conv => arg 3; simp [Act.eval]); (first | ((with_reducible refine (copyEntries_any u0 _ _ (Rd_entries.below r0 (Below.refl _ _).drew) l0).mono ?_); rintro e w1 ⟨a1, rfl, o1, hb1⟩) | ((with_reducible refine (copyEntries_any u1 _ _ (Rd_entries.below (Rd_entries.below r1 (Below.refl _ _).drew) hb1) l1).mono ?_); rintro e w2 ⟨a2, rfl, o2, hb2⟩)); refine ⟨_, rfl, ?_, ?_⟩; (· (repeat first | exact KeptS.refl _ _ | exact KeptS.of (only_of_below (by assumption) _) | assumption | refine KeptS.drew ?_ | refine KeptS.alloc ?_ _ | refine KeptS.grown ?_ (by assumption) | refine KeptS.below ?_ (by assumption) | refine KeptS.belowAt ?_ (by assumption) | refine KeptS.setRow ?_ (by simp; done) _ | refine KeptS.setNew ?_ (by simp) _)); try simp only [Act.put, List.setIfInBounds_toArray, List.set_cons_succ, List.set_cons_zero])
  (refine wpS_call 85 (by rfl) (by rfl) Try.func85 (by kernel_rfl) (by rfl) (by rfl) ?_; (conv => arg 3; simp [Act.eval]); (first | ((with_reducible refine (copyEntries_any u0 _ _ (Rd_entries.below r0 (Below.refl _ _).drew) l0).mono ?_); rintro e w1 ⟨a1, rfl, o1, hb1⟩) | ((with_reducible refine (copyEntries_any u1 _ _ (Rd_entries.below (Rd_entries.below r1 (Below.refl _ _).drew) hb1) l1).mono ?_); rintro e w2 ⟨a2, rfl, o2, hb2⟩)); refine ⟨_, rfl, ?_, ?_⟩; (· (repeat first | exact KeptS.refl _ _ | exact KeptS.of (only_of_below (by assumption) _) | assumption | refine KeptS.drew ?_ | refine KeptS.alloc ?_ _ | refine KeptS.grown ?_ (by assumption) | refine KeptS.below ?_ (by assumption) | refine KeptS.belowAt ?_ (by assumption) | refine KeptS.setRow ?_ (by simp; done) _ | refine KeptS.setNew ?_ (by simp) _)); try simp only [Act.put, List.setIfInBounds_toArray, List.set_cons_succ, List.set_cons_zero])
  (refine wpS_held (by rfl) ?_ (fun W hW => ?_) ?_; rotate_left; (· (obtain ⟨kq, rfl⟩ := hW; go_simp; try with_reducible rfl)); try simp only [Act.put, List.setIfInBounds_toArray, List.set_cons_succ, List.set_cons_zero])
  (refine wpS_held (by rfl) ?_ (fun W hW => ?_) ?_; rotate_left; (· (obtain ⟨kq, rfl⟩ := hW; go_simp; try with_reducible rfl)); try simp only [Act.put, List.setIfInBounds_toArray, List.set_cons_succ, List.set_cons_zero])
  refine wpS_nil ?_
  try simp only [List.getElem_toArray, List.getElem_cons_succ, List.getElem_cons_zero]
  go_wp2
  go_ret2
  have hd : Below w.heap.size w w.drew := (Below.refl _ _).drew
  have hw1 := hd.trans (hb1.mono (Nat.le_refl _))
  rw [H0.out, H1.out]
  exact ⟨a1, a2, w1.heap.size, rfl, Own_entries.below o1 hb2, o2, ⟨hb1.size, hb2.size⟩, hw1.trans (hb2.mono hw1.size)⟩

end Go.Proofs.Ythjkmefbjbfonaa

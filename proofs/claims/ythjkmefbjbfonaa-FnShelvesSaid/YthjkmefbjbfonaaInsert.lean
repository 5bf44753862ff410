/- slices.Insert of one entry, onto a row of the call's own. -/
import Derived.Test.YthjkmefbjbfonaaHalf
import Derived.Test.YthjkmefbjbfonaaCopyRow
import Derived.Lib.AppendZerosOnto
import Derived.Lib.Overlaps
import Derived.Laws.Externs
namespace Go.Proofs.Ythjkmefbjbfonaa
set_option linter.unusedSimpArgs false
open Go.RowKit Go.ChangeShapes Go.Deep

def insAt (l : List Ent) (k : Nat) (x : Ent) : List Ent := l.take k ++ x :: l.drop k
theorem insAt_length (l : List Ent) {k : Nat} (x : Ent) (hk : k ≤ l.length) : (insAt l k x).length = l.length + 1 := by simp [insAt]; omega
theorem entV_ins (l : List Ent) (k : Nat) (x : Ent) : entV (insAt l k x) = entV (l.take k) ++ (x.cs ++ entV (l.drop k)) := by rw [insAt, entV_append]; rfl
/-- What Insert leaves. -/
def InsPost (lo : Nat) (l : List Ent) (k : Nat) (x : Ent) (v : Value) (w0 : World) (e : Ending) (w' : World) : Prop :=
  ∃ u, e = .returned u ∧ w'.ownsRow lo 61 4 u (l.length + 1) (entV (insAt l k x)) ∧ w0.grownBy w' v.ownBlock
theorem reads_one {w : World} {gv : Nat} {t : TypeId} {x : Ent} (hv : Blk w gv t x.cs.toArray) : Reads w (gv + 1) 4 (some ⟨gv, 0, none⟩) 1 x.cs :=
  ⟨by simp [Ent.cs], fun _ => ⟨_, rfl, Nat.lt_succ_self _, fun j u hj => by rw [addr_add, Nat.zero_add, hv.cell]; simpa using hj⟩⟩
theorem cs_one (x : Ent) : ∀ u ∈ x.cs, u.oneCell' = true := by
  intro u hu
  simp only [Ent.cs, List.mem_cons, List.not_mem_nil, or_false] at hu
  rcases hu with rfl | rfl | rfl | rfl <;> rfl
theorem cs_length (x : Ent) : x.cs.length = 4 := rfl

set_option maxHeartbeats 1000000 in
set_option maxRecDepth 100000 in
theorem insert_end (v : Value) (l : List Ent) (x : Ent) (w : World) (lo gv : Nat) (h : w.ownsRow lo 61 4 v l.length (entV l)) (hn : l.length ≤ 1048577) (hlo : lo ≤ w.heap.size) (hv : Blk w gv 61 x.cs.toArray) :
    Calls Try.prog 84 #[v, .int .i64 (l.length : Int), .slice (some ⟨gv, 0, none⟩) 1 1] w (InsPost lo l l.length x v w) := by
  obtain ⟨i0, hi, hz0, hz1, hz2⟩ := info_parts Try.infoEnt
  obtain ⟨A, c, rfl, hnc, hcm⟩ := (Rd.of_own h).shape
  obtain ⟨u, hs, -⟩ := cut_lo (show Rd_entries w (.slice A l.length c) l from Rd.of_own h) (Nat.le_refl _)
  unfold maxLen at hcm
  have hr := reads_one hv
  have h1 := cs_one x
  have HE := Lib.hid (show entV (insAt l l.length x) = entV l ++ x.cs by rw [entV_ins, List.take_length, List.drop_length]; simp [entV])
  have H := Lib.hid h
  clear h hv
  go_enter Try.func84, Try.ntmps84
  go_wp2_with (at_builtin; refine wpList_append_any _ rfl _ _ _ rfl lo _ i0 _ 4 32 Try.underlying58 hi hz0 hz1 hz2 rfl (by decide) (.slice A l.length c) l.length (entV l) rfl H.out (gv + 1) (some ⟨gv, 0, none⟩) 1 1 x.cs rfl hr h1 (by unfold maxLen; omega) (by omega) hlo ?_; intro v1 w1 ho1 hg1 hat1)
  go_ret
  exact ⟨v1, rfl, by rw [HE.out]; exact ho1, hg1⟩

theorem ins_fun {l : List Ent} {k : Nat} {x : Ent} {f : Nat → Value} (hk : k < l.length) (h1 : ∀ j u, j < k * 4 → (entV l)[j]? = some u → f j = u) (h2 : ∀ j u, j < 4 → x.cs[j]? = some u → f (k * 4 + j) = u)
    (h3 : ∀ j u, (entV (l.drop k))[j]? = some u → f ((k + 1) * 4 + j) = u) : ∀ j u, (entV (insAt l k x))[j]? = some u → f j = u := by
  intro j u hj
  have hl : (entV (l.take k)).length = k * 4 := by rw [entV_length, List.length_take, Nat.min_eq_left (by omega)]
  rw [entV_ins] at hj
  by_cases a : j < k * 4
  · rw [List.getElem?_append_left (by omega), ← entV_take l (by omega), List.getElem?_take_of_lt a] at hj
    exact h1 j u a hj
  · rw [List.getElem?_append_right (by omega), hl] at hj
    by_cases b : j - k * 4 < 4
    · rw [List.getElem?_append_left (by rw [cs_length]; exact b)] at hj
      have := h2 (j - k * 4) u b hj
      rwa [show k * 4 + (j - k * 4) = j by omega] at this
    · rw [List.getElem?_append_right (by rw [cs_length]; omega), cs_length] at hj
      have := h3 _ u hj
      rwa [show (k + 1) * 4 + (j - k * 4 - 4) = j by omega] at this

set_option maxHeartbeats 2000000 in
set_option maxRecDepth 100000 in
theorem insert_room (l : List Ent) (k : Nat) (x : Ent) (w : World) (lo gv g cap : Nat) (f : Nat → Value) (hrow : w.rowIs g 61 (cap * 4) f) (hf : ∀ j, j < l.length * 4 → (entV l)[j]? = some (f j)) (hlg : lo ≤ g) (hcm : cap ≤ maxLen)
    (hk : k < l.length) (hroom : l.length + 1 ≤ cap) (hn : l.length ≤ 1048577) (hv : Blk w gv 61 x.cs.toArray) (hne : gv ≠ g) :
    Calls Try.prog 84 #[.slice (some ⟨g, 0, none⟩) l.length cap, .int .i64 (k : Int), .slice (some ⟨gv, 0, none⟩) 1 1] w (InsPost lo l k x (.slice (some ⟨g, 0, none⟩) l.length cap) w) := by
  obtain ⟨i0, hi, hz0, hz1, hz2⟩ := info_parts Try.infoEnt
  have HEV := Lib.hid hf
  obtain ⟨n, hnn⟩ : ∃ n, n = l.length := ⟨_, rfl⟩
  have HN := Lib.hid hnn
  rw [← hnn] at hf hk hroom hn ⊢
  have hs1 : ∀ W, (Instr.slice 58 (.slice (some ⟨g, 0, none⟩) n cap) (some (.int .i64 (k : Int))) none none).run Try.prog W = .ok (.slice (some ⟨g, k * 4, none⟩) (n - k) (cap - k)) W := fun W => by
    have := run_cut_l' (P := Try.prog) Try.underlying58 hi g 0 n cap .i64 k (by omega) (by omega) W
    rwa [hz1, Nat.zero_add] at this
  have hs2 : ∀ W, (Instr.slice 58 (.slice (some ⟨g, 0, none⟩) n cap) none (some (.int .i64 ((n : Int) + 1))) none).run Try.prog W = .ok (.slice (some ⟨g, 0, none⟩) (n + 1) cap) W := fun W =>
    run_cut_h' (P := Try.prog) Try.underlying58 hi g 0 n cap .i64 (n + 1) (by omega) W
  have hs3 : ∀ W, (Instr.slice 58 (.slice (some ⟨g, 0, none⟩) (n + 1) cap) (some (.int .i64 ((k : Int) + 1))) none none).run Try.prog W = .ok (.slice (some ⟨g, (k + 1) * 4, none⟩) (n - k) (cap - (k + 1))) W := fun W => by
    have := run_cut_l' (P := Try.prog) Try.underlying58 hi g 0 (n + 1) cap .i64 (k + 1) (by omega) (by omega) W
    rwa [hz1, Nat.zero_add, show n + 1 - (k + 1) = n - k by omega] at this
  have hs4 : ∀ W, (Instr.slice 58 (.slice (some ⟨g, 0, none⟩) (n + 1) cap) (some (.int .i64 (k : Int))) none none).run Try.prog W = .ok (.slice (some ⟨g, k * 4, none⟩) (n + 1 - k) (cap - k)) W := fun W => by
    have := run_cut_l' (P := Try.prog) Try.underlying58 hi g 0 (n + 1) cap .i64 k (by omega) (by omega) W
    rwa [hz1, Nat.zero_add] at this
  have hlt : g < w.heap.size := hrow.lt
  have hov : (callFunc 99 #[.slice (some ⟨gv, 0, none⟩) 1 1, .slice (some ⟨g, (k + 1) * 4, none⟩) (n - k) (cap - (k + 1))]).run Try.prog w = .ok (.value (.bool false)) w := by
    obtain ⟨cur, hgc, hsz, _⟩ := hrow
    rw [run_callFunc_extern (f := 99) Try.func99 (by kernel_rfl) (by kernel_rfl) (by kernel_rfl) (e := Extern.SlicesOverlaps.overlaps #[58, 58] #[4]) (by kernel_rfl),
      Lib.run_overlaps_apart w 58 4 61 Try.underlying58 4 (fun W => by simp [sizeOf, typeInfo, hi, hz1]) ⟨gv, 0, none⟩ ⟨g, (k + 1) * 4, none⟩ 1 1 (n - k) (cap - (k + 1)) hne 61 61 4 cur.size
        (by unfold Blk at hv; simp [World.shape?, hv, Ent.cs]) (by simp [World.shape?, hgc]) (by omega) (hv.frozen 0) (hv.frozen 4)]
    rfl
  have hdl : (entV (l.drop k)).length = (n - k) * 4 := by rw [entV_length, List.length_drop, hnn]
  have hmin1 : (entV (l.drop k)).length = Nat.min (n + 1 - k) (n - k) * i0.size := by rw [hdl, hz1, show Nat.min (n + 1 - k) (n - k) = n - k from Nat.min_eq_right (by omega)]
  have hmin2 : x.cs.length = Nat.min 1 (n + 1 - k) * i0.size := by rw [cs_length, hz1, show Nat.min 1 (n + 1 - k) = 1 from Nat.min_eq_left (by omega)]
  have hsrc1 : ∀ W : World, W.rowIs g 61 (cap * 4) f → ∀ j u, (entV (l.drop k))[j]? = some u → W.cell? ((⟨g, k * 4, none⟩ : Addr).add j) = some u := fun W hW j u hj => by
    have hjl : j < (n - k) * 4 := by rw [← hdl]; exact (List.getElem?_eq_some_iff.1 hj).1
    rw [addr_add, hW.cell (by omega), ← hj, ← entV_drop l (by omega), List.getElem?_drop]
    exact (hf (k * 4 + j) (by omega)).symm
  have h1d := entV_one (l.drop k)
  have h1x := cs_one x
  have y1 : IntKind.i64.wrap ((k : Int) + 1) = (k : Int) + 1 := IntWalk.i64_in _ (by omega)
  have HR := Lib.hid (show w.drew.rowIs g 61 (cap * 4) f from hrow)
  have HV := Lib.hid hv
  have HF := Lib.hid hf
  have HS := Lib.hid hsrc1
  have b1 : (0 : Int) ≤ (k : Int) + 1 := by omega
  clear hnn hrow hv hf hsrc1
  have e0 : ((k : Int) == (n : Int)) = false := by simp; omega
  go_enter Try.func84, Try.ntmps84
  go_wp2_with (simp only [hov])
  refine wp_region_sched [(0, true), (1, true), (2, true), (3, true), (4, true), (5, true), (6, true), (7, true), (8, false)] [(true, _), (true, _), (true, _), (true, _), (true, _), (true, _), (true, _), (true, _), (false, _)] rfl (by kernel_rfl) (by kernel_rfl) (KeptS _ (some g)) (KeptS.refl _ _).drew ?_
  try simp only [List.getElem_toArray, List.getElem_cons_succ, List.getElem_cons_zero]
  (refine wpS_held (by rfl) ?_ (fun W hW => ?_) ?_; rotate_left; (· (obtain ⟨kq, rfl⟩ := hW; go_simp; try with_reducible rfl)); try simp only [Act.put, List.setIfInBounds_toArray, List.set_cons_succ, List.set_cons_zero])
  (refine wpS_held (by rfl) ?_ (fun W hW => ?_) ?_; rotate_left; (· (obtain ⟨kq, rfl⟩ := hW; go_simp; try with_reducible rfl)); try simp only [Act.put, List.setIfInBounds_toArray, List.set_cons_succ, List.set_cons_zero])
  (refine wpS_held (by rfl) ?_ (fun W hW => ?_) ?_; rotate_left; (· (obtain ⟨kq, rfl⟩ := hW; go_simp; try with_reducible rfl)); try simp only [Act.put, List.setIfInBounds_toArray, List.set_cons_succ, List.set_cons_zero])
  (refine wpS_held (by rfl) ?_ (fun W hW => ?_) ?_; rotate_left; (· (obtain ⟨kq, rfl⟩ := hW; go_simp; try with_reducible rfl)); try simp only [Act.put, List.setIfInBounds_toArray, List.set_cons_succ, List.set_cons_zero])
  (refine wpS_held (by rfl) ?_ (fun W hW => ?_) ?_; rotate_left; (· (obtain ⟨kq, rfl⟩ := hW; go_simp; try with_reducible rfl)); try simp only [Act.put, List.setIfInBounds_toArray, List.set_cons_succ, List.set_cons_zero])
  (refine wpS_held (by rfl) ?_ (fun W hW => ?_) ?_; rotate_left; (· (obtain ⟨kq, rfl⟩ := hW; go_simp; try with_reducible rfl)); try simp only [Act.put, List.setIfInBounds_toArray, List.set_cons_succ, List.set_cons_zero])
  (refine wpS_held (by rfl) ?_ (fun W hW => ?_) ?_; rotate_left; (· (obtain ⟨kq, rfl⟩ := hW; go_simp; try with_reducible rfl)); try simp only [Act.put, List.setIfInBounds_toArray, List.set_cons_succ, List.set_cons_zero])
  (refine wpS_held (by rfl) ?_ (fun W hW => ?_) ?_; rotate_left; (· (obtain ⟨kq, rfl⟩ := hW; go_simp; try with_reducible rfl)); try simp only [Act.put, List.setIfInBounds_toArray, List.set_cons_succ, List.set_cons_zero])
  (refine wpS_step (by rfl) (fun K hK => ?_); (first | ((refine wp_copy_rowK _ _ _ _ _ (by rfl) 61 i0 Try.underlying58 hi g ((k + 1) * 4) (n - k) (cap - (k + 1)) (by simp [Act.eval]) ⟨g, k * 4, none⟩ (n + 1 - k) (cap - k) (by simp [Act.eval]) (cap * 4) _ f HR.out (entV (l.drop k)) hmin1 (HS.out _ HR.out) (by omega) h1d ?_); intro w1 hr1 hg1) | (go_simp; (first | ((refine wp_copy_rowK _ _ _ _ _ (by rfl) 61 i0 Try.underlying58 hi g ((k + 1) * 4) (n - k) (cap - (k + 1)) (by simp [Act.eval]) ⟨g, k * 4, none⟩ (n + 1 - k) (cap - k) (by simp [Act.eval]) (cap * 4) _ f HR.out (entV (l.drop k)) hmin1 (HS.out _ HR.out) (by omega) h1d ?_); intro w1 hr1 hg1) | skip))); (try dsimp only); refine hK.out _ _ ?_ ?_; (· (repeat first | exact KeptS.refl _ _ | exact KeptS.of (only_of_below (by assumption) _) | assumption | refine KeptS.drew ?_ | refine KeptS.alloc ?_ _ | refine KeptS.grown ?_ (by assumption) | refine KeptS.below ?_ (by assumption) | refine KeptS.belowAt ?_ (by assumption) | refine KeptS.setRow ?_ (by simp; done) _ | refine KeptS.setNew ?_ (by simp) _)); clear hK K; try simp only [Act.put, List.setIfInBounds_toArray, List.set_cons_succ, List.set_cons_zero])
  refine wpS_nil ?_
  try simp only [List.getElem_toArray, List.getElem_cons_succ, List.getElem_cons_zero]
  have hv1 : Blk w1 gv 61 x.cs.toArray := (show Blk w.drew gv 61 x.cs.toArray from HV.out).grown hg1 (by simp; exact hne)
  have HS2 := Lib.hid (show ∀ j u, x.cs[j]? = some u → w1.cell? ((⟨gv, 0, none⟩ : Addr).add j) = some u from fun j u hj => by rw [addr_add, Nat.zero_add, hv1.cell]; simpa using hj)
  have HR1 := Lib.hid hr1
  clear hv1 hr1
  go_wp2_with (refine wpList_copy_rowK _ (by rfl) _ _ 58 58 (by rfl) 61 i0 Try.underlying58 hi g (k * 4) (n + 1 - k) (cap - k) (by rfl) ⟨gv, 0, none⟩ 1 1 (by rfl) (cap * 4) 61 _ HR1.out x.cs hmin2 HS2.out (by rw [cs_length]; omega) h1x ?_; intro w2 hr2 hg2)
  go_ret
  have hg : w.grownBy w2 (some g) := only_trans (show w.grownBy w1 (some g) from ⟨hg1.os, hg1.tape, hg1.output, hg1.size, hg1.block⟩) hg2
  have hN := HN.out
  refine ⟨.slice (some ⟨g, 0, none⟩) (n + 1) cap, rfl, ?_, hg⟩
  rw [← hN]
  refine own_of_fun hr2 hlg hroom hcm (by rw [entV_length, insAt_length l x (by omega), ← hN]) (ins_fun (by omega) (fun j u hj hu => ?_) (fun j u hj hu => ?_) (fun j u hu => ?_))
  · have h0 := HF.out j (by omega)
    rw [hu] at h0
    unfold overF
    rw [if_neg (by omega), if_neg (by omega)]
    exact (Option.some.inj h0).symm
  · unfold overF
    rw [if_pos ⟨by omega, by rw [cs_length]; omega⟩, List.getD_eq_getElem?_getD, show k * 4 + j - k * 4 = j by omega, hu]
    rfl
  · have hj := (List.getElem?_eq_some_iff.1 hu).1
    unfold overF
    rw [if_neg (by rw [cs_length]; omega), if_pos ⟨by omega, by omega⟩, List.getD_eq_getElem?_getD, show (k + 1) * 4 + j - (k + 1) * 4 = j by omega, hu]
    rfl

set_option maxHeartbeats 2000000 in
set_option maxRecDepth 100000 in
theorem insert_grow (l : List Ent) (k : Nat) (x : Ent) (w : World) (lo gv g : Nat) (f : Nat → Value) (hrow : w.rowIs g 61 (l.length * 4) f) (hf : ∀ j, j < l.length * 4 → (entV l)[j]? = some (f j)) (hlo : lo ≤ w.heap.size)
    (hk : k < l.length) (hn : l.length ≤ 1048577) (hv : Blk w gv 61 x.cs.toArray) :
    Calls Try.prog 84 #[.slice (some ⟨g, 0, none⟩) l.length l.length, .int .i64 (k : Int), .slice (some ⟨gv, 0, none⟩) 1 1] w (InsPost lo l k x (.slice (some ⟨g, 0, none⟩) l.length l.length) w) := by
  obtain ⟨i0, hi, hz0, hz1, hz2⟩ := info_parts Try.infoEnt
  obtain ⟨n, hnn⟩ : ∃ n, n = l.length := ⟨_, rfl⟩
  have HN := Lib.hid hnn
  rw [← hnn] at hf hk hn hrow ⊢
  have hgl : g < w.heap.size := hrow.lt
  have hvl : gv < w.heap.size := hv.lt
  have hs1 : ∀ W, (Instr.slice 58 (.slice (some ⟨g, 0, none⟩) n n) (some (.int .i64 (k : Int))) none none).run Try.prog W = .ok (.slice (some ⟨g, k * 4, none⟩) (n - k) (n - k)) W := fun W => by
    have := run_cut_l' (P := Try.prog) Try.underlying58 hi g 0 n n .i64 k (by omega) (by omega) W
    rwa [hz1, Nat.zero_add] at this
  have hs2 : ∀ W, (Instr.slice 58 (.slice (some ⟨g, 0, none⟩) n n) none (some (.int .i64 (k : Int))) none).run Try.prog W = .ok (.slice (some ⟨g, 0, none⟩) k n) W := fun W =>
    run_cut_h' (P := Try.prog) Try.underlying58 hi g 0 n n .i64 k (by omega) W
  obtain ⟨G, hG⟩ : ∃ G, G = grownCap w (n + 1) n 61 := ⟨_, rfl⟩
  have hG1 : n + 1 ≤ G := by rw [hG]; exact grownCap_ge _ _ _ _
  have hG2 : G ≤ maxLen := by rw [hG]; exact grownCap_le_maxLen _ _ _ _ (by unfold maxLen; omega)
  have hs5 : ∀ W h, (Instr.slice 58 (.slice (some ⟨h, 0, none⟩) (n + 1) G) (some (.int .i64 (k : Int))) none none).run Try.prog W = .ok (.slice (some ⟨h, k * 4, none⟩) (n + 1 - k) (G - k)) W := fun W h => by
    have := run_cut_l' (P := Try.prog) Try.underlying58 hi h 0 (n + 1) G .i64 k (by omega) (by omega) W
    rwa [hz1, Nat.zero_add] at this
  have hs6 : ∀ W h, (Instr.slice 58 (.slice (some ⟨h, 0, none⟩) (n + 1) G) (some (.int .i64 ((k : Int) + 1))) none none).run Try.prog W = .ok (.slice (some ⟨h, (k + 1) * 4, none⟩) (n - k) (G - (k + 1))) W := fun W h => by
    have := run_cut_l' (P := Try.prog) Try.underlying58 hi h 0 (n + 1) G .i64 (k + 1) (by omega) (by omega) W
    rwa [hz1, Nat.zero_add, show n + 1 - (k + 1) = n - k by omega] at this
  have hsrc0 : ∀ W : World, W.rowIs g 61 (n * 4) f → ∀ j u, ((entV l).take (k * 4))[j]? = some u → W.cell? ((⟨g, 0, none⟩ : Addr).add j) = some u := fun W hW j u hj => by
    rw [List.getElem?_take] at hj
    split at hj
    · rw [addr_add, Nat.zero_add, hW.cell (by omega), ← hj]
      exact (hf j (by omega)).symm
    · cases hj
  have htl : ((entV l).take (k * 4)).length = k * 4 := by rw [List.length_take, entV_length, ← hnn]; omega
  obtain ⟨R0, hR0⟩ : ∃ R0 : Array Value, R0 = ((entV l).take (k * 4)).toArray ++ Builtin.zeroCells (Value.cells (.agg #[.int .i64 0, .int .i64 0, .int .i64 0, .int .i64 0])) (n + 1 - k) ++ Builtin.zeroCells (Value.cells (.agg #[.int .i64 0, .int .i64 0, .int .i64 0, .int .i64 0])) (G - (n + 1)) := ⟨_, rfl⟩
  have hR0s : R0.size = G * 4 := by
    rw [hR0, Array.size_append, Array.size_append, size_zeroCells, size_zeroCells, List.size_toArray, htl, show (Value.cells (.agg #[.int .i64 0, .int .i64 0, .int .i64 0, .int .i64 0])).size = 4 from rfl]
    omega
  have hrz : ∀ ty, (Builtin.append_ #[58, 3] ty #[.slice (some ⟨g, 0, none⟩) k n, .int .i64 ((n : Int) + 1 - (k : Int))]).run Try.prog w = .ok (.slice (some ⟨w.heap.size, 0, none⟩) (n + 1) G) (w.drew.alloc (.cells R0 61)) := fun ty => by
    have h := Lib.run_append_grow_zeros (P := Try.prog) w 58 3 ty 61 i0 _ .i64 .i64 Try.underlying58 Try.underlying3 hi hz0 (some ⟨g, 0, none⟩) k n ((entV l).take (k * 4))
      (run_firstCells_some w.drew i0.size k ⟨g, 0, none⟩ k n _ (by rw [htl, hz1]) (hsrc0 w.drew hrow)) (n + 1 - k) (by omega) (by omega) (by omega) (by omega) (by rw [hz2]; omega) (by rw [hz2]; exact growslice_fits (by omega) (by omega))
    rw [show k + (n + 1 - k) = n + 1 by omega, ← hG, show ((n + 1 - k : Nat) : Int) = (n : Int) + 1 - (k : Int) by omega, ← hR0] at h
    exact h
  have hdl : (entV (l.drop k)).length = (n - k) * 4 := by rw [entV_length, List.length_drop, hnn]
  have hmin1 : (entV (l.drop k)).length = Nat.min (n - k) (n - k) * i0.size := by rw [hdl, hz1, show Nat.min (n - k) (n - k) = n - k from Nat.min_self _]
  have hmin2 : x.cs.length = Nat.min 1 (n + 1 - k) * i0.size := by rw [cs_length, hz1, show Nat.min 1 (n + 1 - k) = 1 from Nat.min_eq_left (by omega)]
  have hsrc1 : ∀ W : World, W.rowIs g 61 (n * 4) f → ∀ j u, (entV (l.drop k))[j]? = some u → W.cell? ((⟨g, k * 4, none⟩ : Addr).add j) = some u := fun W hW j u hj => by
    have hjl : j < (n - k) * 4 := by rw [← hdl]; exact (List.getElem?_eq_some_iff.1 hj).1
    rw [addr_add, hW.cell (by omega), ← hj, ← entV_drop l (by omega), List.getElem?_drop]
    exact (hf (k * 4 + j) (by omega)).symm
  obtain ⟨W1, hW1⟩ : ∃ W1, W1 = w.drew.alloc (.cells R0 61) := ⟨_, rfl⟩
  have hw1 : w.grownBy W1 none := by rw [hW1]; exact ⟨rfl, rfl, rfl, by simp, fun i hi _ => Below.heap_alloc w.drew _ i hi⟩
  have hrow1 : W1.rowIs g 61 (n * 4) f := by
    obtain ⟨c, h1, h2⟩ := hrow
    exact ⟨c, (hw1.block g hgl (by simp)).trans h1, h2⟩
  have hnew : W1.rowIs w.heap.size 61 (G * 4) (fun j => R0.getD j undef) := by
    rw [hW1, ← hR0s]
    exact World.rowIs_alloc w.drew R0 61 _ (fun i hi => by simp [Array.getD, hi])
  have hv1 := hv.grown hw1 (by simp)
  have HS2 := Lib.hid (show ∀ j u, x.cs[j]? = some u → W1.cell? ((⟨gv, 0, none⟩ : Addr).add j) = some u from fun j u hj => by rw [addr_add, Nat.zero_add, hv1.cell]; simpa using hj)
  rw [← hW1] at hrz
  have hR0f : ∀ j u, j < k * 4 → (entV l)[j]? = some u → R0.getD j undef = u := fun j u hj hu => by
    have : R0[j]? = some u := by
      rw [hR0, Array.getElem?_append_left (by rw [Array.size_append, List.size_toArray, htl]; omega), Array.getElem?_append_left (by rw [List.size_toArray, htl]; exact hj), List.getElem?_toArray, List.getElem?_take_of_lt hj]
      exact hu
    rw [Array.getD_eq_getD_getElem?, this]
    rfl
  have h1d := entV_one (l.drop k)
  have h1x := cs_one x
  have y1 : IntKind.i64.wrap ((k : Int) + 1) = (k : Int) + 1 := IntWalk.i64_in _ (by omega)
  have b1 : (0 : Int) ≤ (k : Int) + 1 := by omega
  have e0 : ((k : Int) == (n : Int)) = false := by simp; omega
  have HROW := Lib.hid hrow1
  have HNEW := Lib.hid hnew
  have HS := Lib.hid hsrc1
  have HF := Lib.hid hR0f
  have HW := Lib.hid hw1
  have hh : g ≠ w.heap.size := by omega
  clear hnn hrow hv hf hsrc1 hsrc0 hrow1 hnew hv1 hR0f hw1 hW1 hR0 hR0s htl hG hz0
  go_enter Try.func84, Try.ntmps84
  go_wp2_with (first | (at_builtin; refine Lib.wpList_append_run _ (by rfl) _ _ _ _ (by rfl) _ _ (by rfl) (by rfl) _ _ (hrz _) ?_) | (refine wpList_copy_rowK _ (by rfl) _ _ 58 58 (by rfl) 61 i0 Try.underlying58 hi w.heap.size (k * 4) (n + 1 - k) (G - k) (by rfl) ⟨gv, 0, none⟩ 1 1 (by rfl) (G * 4) 61 _ HNEW.out x.cs hmin2 HS2.out (by rw [cs_length]; omega) h1x ?_; intro w2 hr2 hg2))
  have HR2 := Lib.hid (show w2.drew.rowIs w.heap.size 61 (G * 4) _ from hr2)
  have hrw : w2.drew.rowIs g 61 (n * 4) f := by
    obtain ⟨c, h1, h2⟩ := HROW.out
    have hW := HW.out
    exact ⟨c, (hg2.block g (by have := hW.size; omega) (by simp; exact hh)).trans h1, h2⟩
  have HS3 := Lib.hid (HS.out _ hrw)
  clear hr2 hrw
  refine wp_region_sched [(0, true), (1, true), (2, true), (3, true), (4, true), (5, true), (6, true), (7, true), (8, false)] [(true, _), (true, _), (true, _), (true, _), (true, _), (true, _), (true, _), (true, _), (false, _)] rfl (by kernel_rfl) (by kernel_rfl) (KeptS _ (some w.heap.size)) (KeptS.refl _ _).drew ?_
  try simp only [List.getElem_toArray, List.getElem_cons_succ, List.getElem_cons_zero]
  (refine wpS_held (by rfl) ?_ (fun W hW => ?_) ?_; rotate_left; (· (obtain ⟨kq, rfl⟩ := hW; go_simp; try with_reducible rfl)); try simp only [Act.put, List.setIfInBounds_toArray, List.set_cons_succ, List.set_cons_zero])
  (refine wpS_held (by rfl) ?_ (fun W hW => ?_) ?_; rotate_left; (· (obtain ⟨kq, rfl⟩ := hW; go_simp; try with_reducible rfl)); try simp only [Act.put, List.setIfInBounds_toArray, List.set_cons_succ, List.set_cons_zero])
  (refine wpS_held (by rfl) ?_ (fun W hW => ?_) ?_; rotate_left; (· (obtain ⟨kq, rfl⟩ := hW; go_simp; try with_reducible rfl)); try simp only [Act.put, List.setIfInBounds_toArray, List.set_cons_succ, List.set_cons_zero])
  (refine wpS_held (by rfl) ?_ (fun W hW => ?_) ?_; rotate_left; (· (obtain ⟨kq, rfl⟩ := hW; go_simp; try with_reducible rfl)); try simp only [Act.put, List.setIfInBounds_toArray, List.set_cons_succ, List.set_cons_zero])
  (refine wpS_held (by rfl) ?_ (fun W hW => ?_) ?_; rotate_left; (· (obtain ⟨kq, rfl⟩ := hW; go_simp; try with_reducible rfl)); try simp only [Act.put, List.setIfInBounds_toArray, List.set_cons_succ, List.set_cons_zero])
  (refine wpS_held (by rfl) ?_ (fun W hW => ?_) ?_; rotate_left; (· (obtain ⟨kq, rfl⟩ := hW; go_simp; try with_reducible rfl)); try simp only [Act.put, List.setIfInBounds_toArray, List.set_cons_succ, List.set_cons_zero])
  (refine wpS_held (by rfl) ?_ (fun W hW => ?_) ?_; rotate_left; (· (obtain ⟨kq, rfl⟩ := hW; go_simp; try with_reducible rfl)); try simp only [Act.put, List.setIfInBounds_toArray, List.set_cons_succ, List.set_cons_zero])
  (refine wpS_held (by rfl) ?_ (fun W hW => ?_) ?_; rotate_left; (· (obtain ⟨kq, rfl⟩ := hW; go_simp; try with_reducible rfl)); try simp only [Act.put, List.setIfInBounds_toArray, List.set_cons_succ, List.set_cons_zero])
  (refine wpS_step (by rfl) (fun K hK => ?_); (first | ((refine wp_copy_rowK _ _ _ _ _ (by rfl) 61 i0 Try.underlying58 hi w.heap.size ((k + 1) * 4) (n - k) (G - (k + 1)) (by simp [Act.eval]) ⟨g, k * 4, none⟩ (n - k) (n - k) (by simp [Act.eval]) (G * 4) _ _ HR2.out (entV (l.drop k)) hmin1 HS3.out (by omega) h1d ?_); intro w3 hr3 hg3) | (go_simp; (first | ((refine wp_copy_rowK _ _ _ _ _ (by rfl) 61 i0 Try.underlying58 hi w.heap.size ((k + 1) * 4) (n - k) (G - (k + 1)) (by simp [Act.eval]) ⟨g, k * 4, none⟩ (n - k) (n - k) (by simp [Act.eval]) (G * 4) _ _ HR2.out (entV (l.drop k)) hmin1 HS3.out (by omega) h1d ?_); intro w3 hr3 hg3) | skip))); (try dsimp only); refine hK.out _ _ ?_ ?_; (· (repeat first | exact KeptS.refl _ _ | exact KeptS.of (only_of_below (by assumption) _) | assumption | refine KeptS.drew ?_ | refine KeptS.alloc ?_ _ | refine KeptS.grown ?_ (by assumption) | refine KeptS.below ?_ (by assumption) | refine KeptS.belowAt ?_ (by assumption) | refine KeptS.setRow ?_ (by simp; done) _ | refine KeptS.setNew ?_ (by simp) _)); clear hK K; try simp only [Act.put, List.setIfInBounds_toArray, List.set_cons_succ, List.set_cons_zero])
  refine wpS_nil ?_
  try simp only [List.getElem_toArray, List.getElem_cons_succ, List.getElem_cons_zero]
  go_wp2
  go_ret
  have hg : w.grownBy w3 (some g) := by
    have hW := HW.out
    refine ⟨hg3.os.trans (hg2.os.trans hW.os), hg3.tape.trans (hg2.tape.trans hW.tape), hg3.output.trans (hg2.output.trans hW.output), Nat.le_trans hW.size (Nat.le_trans hg2.size hg3.size), fun j hj _ => ?_⟩
    exact (hg3.block j (Nat.lt_of_lt_of_le (Nat.lt_of_lt_of_le hj hW.size) hg2.size) (by simp; omega)).trans ((hg2.block j (Nat.lt_of_lt_of_le hj hW.size) (by simp; omega)).trans (hW.block j hj (by simp)))
  have hN := HN.out
  refine ⟨.slice (some ⟨w.heap.size, 0, none⟩) (n + 1) G, rfl, ?_, hg⟩
  rw [← hN]
  refine own_of_fun hr3 hlo hG1 hG2 (by rw [entV_length, insAt_length l x (by omega), ← hN]) (ins_fun (by omega) (fun j u hj hu => ?_) (fun j u hj hu => ?_) (fun j u hu => ?_))
  · unfold overF
    rw [if_neg (by omega), if_neg (by omega)]
    exact HF.out j u hj hu
  · unfold overF
    rw [if_neg (by omega), if_pos ⟨by omega, by rw [cs_length]; omega⟩, List.getD_eq_getElem?_getD, show k * 4 + j - k * 4 = j by omega, hu]
    rfl
  · have hj := (List.getElem?_eq_some_iff.1 hu).1
    unfold overF
    rw [if_pos ⟨by omega, by omega⟩, List.getD_eq_getElem?_getD, show (k + 1) * 4 + j - (k + 1) * 4 = j by omega, hu]
    rfl

/-- slices.Insert of one entry. -/
theorem insert_any (v : Value) (l : List Ent) (k : Nat) (x : Ent) (w : World) (lo gv : Nat) (h : w.ownsRow lo 61 4 v l.length (entV l)) (hlo : lo ≤ w.heap.size) (hk : k ≤ l.length) (hn : l.length ≤ 1048577) (hv : Blk w gv 61 x.cs.toArray) (hne : v.ownBlock ≠ some gv) :
    Calls Try.prog 84 #[v, .int .i64 (k : Int), .slice (some ⟨gv, 0, none⟩) 1 1] w (InsPost lo l k x v w) := by
  rcases Nat.lt_or_ge k l.length with hlt | hge
  · obtain ⟨g, cap, f, rfl, hlg, hcap, hcm, hrow, hf⟩ := rowIs_of_own h (by omega)
    by_cases hroom : l.length + 1 ≤ cap
    · exact insert_room l k x w lo gv g cap f hrow hf hlg hcm hlt hroom hn hv (fun e => hne (by simp [Value.ownBlock, e]))
    · obtain rfl : cap = l.length := by omega
      exact insert_grow l k x w lo gv g f hrow hf hlo hlt hn hv
  · obtain rfl : k = l.length := by omega
    exact insert_end v l x w lo gv h hn hlo hv
end Go.Proofs.Ythjkmefbjbfonaa

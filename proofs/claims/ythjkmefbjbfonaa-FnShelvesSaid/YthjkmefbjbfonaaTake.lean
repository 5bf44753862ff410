/- TakeEntry, the program's and the reference's. -/
import Derived.Test.YthjkmefbjbfonaaHalf
import Derived.Test.YthjkmefbjbfonaaShelfOk
namespace Go.Proofs.Ythjkmefbjbfonaa
set_option linter.unusedSimpArgs false
open Go.RowKit Go.ChangeShapes Go.Deep

def noEnt : Ent := ⟨0, 0, 0, 0⟩
def takeEntryR0 (l : List Ent) : Ent := l.headD noEnt
def takeEntryR1 (l : List Ent) : List Ent := l.tail
def takeEntryR2 (l : List Ent) : Bool := !l.isEmpty
/-- What TakeEntry leaves. -/
def GivesTake (l : List Ent) (w0 : World) (e : Ending) (w' : World) : Prop :=
  ∃ u, e = .returned (.tuple #[.agg #[.int .i64 (takeEntryR0 l).prio, .int .i64 (takeEntryR0 l).seq, .int .i64 (takeEntryR0 l).run, .int .i64 (takeEntryR0 l).task], u, .bool (takeEntryR2 l)]) ∧ Own_entries w' w0.heap.size w'.heap.size u (takeEntryR1 l) ∧ Below w0.heap.size w0 w'

set_option maxHeartbeats 2000000 in
set_option maxRecDepth 100000 in
theorem takeEntry_impl (v : Value) (l : List Ent) (w : World) (h : Rd_entries w v l) (hn : cost_entries l ≤ 1048576) :
    Calls Try.prog 41 #[v] w (GivesTake l w) := by
  unfold cost_entries at hn
  obtain ⟨A, c, rfl, hnc, hcm⟩ := Rd.shape h
  unfold maxLen at hcm
  cases l with
  | nil =>
    clear h
    go_enter Try.func41, Try.ntmps41
    go_wp2
    exact bodyPost_ret (v := .tuple #[noEnt.v, .slice none 0 0, .bool false]) (by simp [results, Try.results41, go_sem, noEnt, Ent.v]) rfl ⟨_, rfl, OwnS.mono (OwnS.nil (lo := w.heap.size) (Nat.le_refl _)) (Nat.le_refl _) (Nat.le_refl _) (Nat.le_refl _), (by repeat first | exact Below.refl _ _ | assumption | refine Below.drew ?_ | refine below_drewN ?_ _ | refine Below.calm ?_ (by first | exact Nat.le_refl _ | (simp; done) | (simp; omega) | omega) | refine Below.alloc ?_ (by first | exact Nat.le_refl _ | (simp; done) | (simp; omega) | omega) _ | refine Below.setCell ?_ (by first | exact Nat.le_refl _ | (simp; done) | (simp; omega) | omega) _)⟩
  | cons x r =>
    obtain ⟨u1, hs1, r1⟩ := cut_lo h (k := 1) (by simp)
    obtain ⟨b, off, c', hv, _, _, hbl, hc⟩ := Rd.form h (by simp) (by omega)
    have hA : A = some ⟨b, off, none⟩ := by injection hv
    subst hA
    obtain ⟨d0, d1, d2, d3⟩ := ent_cells (Below.refl _ _) hbl hc (k := 0) (by simp) x rfl
    simp only [Nat.zero_mul, Nat.add_zero] at d0 d1 d2 d3
    have l1 : r.length ≤ 2000000 := by simp at hn; omega
    obtain ⟨n, hnn⟩ : ∃ n, n = (x :: r).length := ⟨_, rfl⟩
    have hn0 : 0 < n := by rw [hnn]; simp
    rw [← hnn] at hs1 hnc ⊢
    replace hs1 : ∀ W, (Instr.slice 58 (.slice (some ⟨b, off, none⟩) n c) (some (.int .i64 1)) none none).run Try.prog W = .ok u1 W := hs1
    have hn1 : (1 : Int) ≤ (n : Int) := by omega
    have hb1 : b < w.heap.size + 1 := by omega
    have hbn : ¬ b = w.heap.size := by omega
    have r1' : Rd_entries w u1 r := r1
    obtain ⟨xp, xs, xr, xt⟩ := x
    simp only at d0 d1 d2 d3
    clear hv hc h r1 hnn hn
    go_enter Try.func41, Try.ntmps41
    go_wp2
    refine wp_region_sched [(0, true), (1, true), (2, true), (3, true), (4, true), (5, false), (6, false), (7, true), (8, true)] [(true, _), (true, _), (true, _), (true, _), (true, _), (false, _), (false, _), (true, _), (true, _)] rfl (by kernel_rfl) (by kernel_rfl) (KeptS _ (some w.heap.size)) (KeptS.refl _ _).drew ?_
    try simp only [List.getElem_toArray, List.getElem_cons_succ, List.getElem_cons_zero]
    (refine wpS_held (by rfl) ?_ (fun W hW => ?_) ?_; rotate_left; (· (obtain ⟨kq, rfl⟩ := hW; go_simp; try with_reducible rfl)); try simp only [Act.put, List.setIfInBounds_toArray, List.set_cons_succ, List.set_cons_zero])
    (refine wpS_held (by rfl) ?_ (fun W hW => ?_) ?_; rotate_left; (· (obtain ⟨kq, rfl⟩ := hW; go_simp; try with_reducible rfl)); try simp only [Act.put, List.setIfInBounds_toArray, List.set_cons_succ, List.set_cons_zero])
    (refine wpS_held (by rfl) ?_ (fun W hW => ?_) ?_; rotate_left; (· (obtain ⟨kq, rfl⟩ := hW; go_simp; try with_reducible rfl)); try simp only [Act.put, List.setIfInBounds_toArray, List.set_cons_succ, List.set_cons_zero])
    (refine wpS_held (by rfl) ?_ (fun W hW => ?_) ?_; rotate_left; (· (obtain ⟨kq, rfl⟩ := hW; go_simp; try with_reducible rfl)); try simp only [Act.put, List.setIfInBounds_toArray, List.set_cons_succ, List.set_cons_zero])
    (refine wpS_held (by rfl) ?_ (fun W hW => ?_) ?_; rotate_left; (· (obtain ⟨kq, rfl⟩ := hW; go_simp; try with_reducible rfl)); try simp only [Act.put, List.setIfInBounds_toArray, List.set_cons_succ, List.set_cons_zero])
    (refine wpS_call 85 (by rfl) (by rfl) Try.func85 (by kernel_rfl) (by rfl) (by rfl) ?_; (conv => arg 3; simp [Act.eval]); ((with_reducible refine (copyEntries_any u1 _ _ (Rd_entries.below r1' (by exact (by repeat first | exact Below.refl _ _ | assumption | refine Below.drew ?_ | refine below_drewN ?_ _ | refine Below.calm ?_ (by first | exact Nat.le_refl _ | (simp; done) | (simp; omega) | omega) | refine Below.alloc ?_ (by first | exact Nat.le_refl _ | (simp; done) | (simp; omega) | omega) _ | refine Below.setCell ?_ (by first | exact Nat.le_refl _ | (simp; done) | (simp; omega) | omega) _))) l1).mono ?_); rintro e w1 ⟨a1, rfl, o1, hb1⟩; obtain ⟨hcc, hff⟩ := bcell hb1); refine ⟨_, rfl, ?_, ?_⟩; (· (repeat first | exact KeptS.refl _ _ | exact KeptS.of (only_of_below (by assumption) _) | assumption | refine KeptS.drew ?_ | refine KeptS.alloc ?_ _ | refine KeptS.grown ?_ (by assumption) | refine KeptS.below ?_ (by assumption) | refine KeptS.belowAt ?_ (by assumption) | refine KeptS.setRow ?_ (by simp; done) _ | refine KeptS.setNew ?_ (by simp) _)); try simp only [Act.put, List.setIfInBounds_toArray, List.set_cons_succ, List.set_cons_zero])
    (refine wpS_step (by rfl) (fun K hK => ?_); go_simp; refine hK.out _ _ ?_ ?_; (· (repeat first | exact KeptS.refl _ _ | exact KeptS.of (only_of_below (by assumption) _) | assumption | refine KeptS.drew ?_ | refine KeptS.alloc ?_ _ | refine KeptS.grown ?_ (by assumption) | refine KeptS.below ?_ (by assumption) | refine KeptS.belowAt ?_ (by assumption) | refine KeptS.setRow ?_ (by simp; done) _ | refine KeptS.setNew ?_ (by simp) _)); clear hK K; try simp only [Act.put])
    (refine wpS_held (by rfl) ?_ (fun W hW => ?_) ?_; rotate_left; (· (obtain ⟨kq, rfl⟩ := hW; go_simp; try with_reducible rfl)); try simp only [Act.put, List.setIfInBounds_toArray, List.set_cons_succ, List.set_cons_zero])
    (refine wpS_held (by rfl) ?_ (fun W hW => ?_) ?_; rotate_left; (· (obtain ⟨kq, rfl⟩ := hW; go_simp; try with_reducible rfl)); try simp only [Act.put, List.setIfInBounds_toArray, List.set_cons_succ, List.set_cons_zero])
    refine wpS_nil ?_
    try simp only [List.getElem_toArray, List.getElem_cons_succ, List.getElem_cons_zero]
    go_wp2
    have hw1 : Below w.heap.size w w1 := (show Below w.heap.size w (w.alloc (.cells #[.int .i64 0, .int .i64 0, .int .i64 0, .int .i64 0] 61)).drew from (by repeat first | exact Below.refl _ _ | assumption | refine Below.drew ?_ | refine below_drewN ?_ _ | refine Below.calm ?_ (by first | exact Nat.le_refl _ | (simp; done) | (simp; omega) | omega) | refine Below.alloc ?_ (by first | exact Nat.le_refl _ | (simp; done) | (simp; omega) | omega) _ | refine Below.setCell ?_ (by first | exact Nat.le_refl _ | (simp; done) | (simp; omega) | omega) _)).trans (hb1.mono (by simp))
    have hp := ((((Part.refl w.heap.size (w.heap.size + 1) w1).setCell (p := ⟨w.heap.size, 0, none⟩) ⟨Nat.le_refl _, Nat.lt_succ_self _⟩ (.int .i64 xp)).setCell (p := ⟨w.heap.size, 1, none⟩) ⟨Nat.le_refl _, Nat.lt_succ_self _⟩ (.int .i64 xs)).setCell (p := ⟨w.heap.size, 2, none⟩) ⟨Nat.le_refl _, Nat.lt_succ_self _⟩ (.int .i64 xr)).setCell (p := ⟨w.heap.size, 3, none⟩) ⟨Nat.le_refl _, Nat.lt_succ_self _⟩ (.int .i64 xt)
    refine bodyPost_ret (v := .tuple #[.agg #[.int .i64 xp, .int .i64 xs, .int .i64 xr, .int .i64 xt], a1, .bool true]) (by simp [results, Try.results41, go_sem, hcc]) rfl ⟨a1, rfl, ?_, (by repeat first | exact Below.refl _ _ | assumption | refine Below.drew ?_ | refine below_drewN ?_ _ | refine Below.calm ?_ (by first | exact Nat.le_refl _ | (simp; done) | (simp; omega) | omega) | refine Below.alloc ?_ (by first | exact Nat.le_refl _ | (simp; done) | (simp; omega) | omega) _ | refine Below.setCell ?_ (by first | exact Nat.le_refl _ | (simp; done) | (simp; omega) | omega) _)⟩
    exact OwnS.mono (OwnS.keep o1 hp (.inr (by simp))) (by simp) (by simp [World.setCell]) (Nat.le_refl _)
end Go.Proofs.Ythjkmefbjbfonaa

/- Disks: copies and comparisons of the laws. -/
import Derived.Test.YthjkmefbjbfonaaFil
namespace Go.Proofs.Ythjkmefbjbfonaa
open Go.RowKit Go.ChangeShapes Go.Deep

/-- What a call leaves that hands back a disk of its own; one with a bool. -/
def GivesD (d : List Fil) (w0 : World) (e : Ending) (w' : World) : Prop := ∃ u, e = .returned (.agg #[u]) ∧ Own_disk w' w0.heap.size w'.heap.size u d ∧ Below w0.heap.size w0 w'
def GivesDB (d : List Fil) (b : Bool) (w0 : World) (e : Ending) (w' : World) : Prop := ∃ u, e = .returned (.tuple #[.agg #[u], .bool b]) ∧ Own_disk w' w0.heap.size w'.heap.size u d ∧ Below w0.heap.size w0 w'

set_option maxHeartbeats 1000000 in
set_option maxRecDepth 100000 in
theorem to_disk (v : Value) (d : List Fil) (w : World) (h : Rd_disk w v d) (hn : cost_disk d ≤ 1048576) :
    Calls Try.prog 26 #[.agg #[v]] w (GivesD d w) := by
  unfold cost_disk at hn
  obtain ⟨h, hok⟩ := h
  have H := Lib.hid h
  have HO := Lib.hid hok
  clear h hok
  go_enter Try.func26, Try.ntmps26
  go_wp2_with fail
  refine (toFileS_any v d _ (H.out.below (by exact (by repeat first | exact Below.refl _ _ | assumption | refine Below.drew ?_ | refine below_drewN ?_ _ | refine Below.calm ?_ (by first | exact Nat.le_refl _ | (simp; done) | (simp; omega) | omega) | refine Below.alloc ?_ (by first | exact Nat.le_refl _ | (simp; done) | (simp; omega) | omega) _ | refine Below.setCell ?_ (by first | exact Nat.le_refl _ | (simp; done) | (simp; omega) | omega) _))) (by omega)).mono ?_
  rintro e w1 ⟨u, rfl, ho, hb1⟩
  obtain ⟨A2, c2, rfl, -, -⟩ := (Rd.of_own ho).shape
  obtain ⟨hcc, hff⟩ := bcell hb1
  have HW := Lib.hid ho
  have hbs := hb1.size
  simp at hbs
  clear ho
  go_wp2_with fail
  have hw1 : Below w.heap.size w w1 := Below.trans (by exact (by repeat first | exact Below.refl _ _ | assumption | refine Below.drew ?_ | refine below_drewN ?_ _ | refine Below.calm ?_ (by first | exact Nat.le_refl _ | (simp; done) | (simp; omega) | omega) | refine Below.alloc ?_ (by first | exact Nat.le_refl _ | (simp; done) | (simp; omega) | omega) _ | refine Below.setCell ?_ (by first | exact Nat.le_refl _ | (simp; done) | (simp; omega) | omega) _)) (hb1.mono (by simp; omega))
  refine bodyPost_ret (v := .agg #[.slice A2 d.length c2]) (by simp [results, Try.results26, go_sem, hcc]) rfl ⟨_, rfl, ⟨?_, HO.out⟩, (by repeat first | exact Below.refl _ _ | assumption | refine Below.drew ?_ | refine below_drewN ?_ _ | refine Below.calm ?_ (by first | exact Nat.le_refl _ | (simp; done) | (simp; omega) | omega) | refine Below.alloc ?_ (by first | exact Nat.le_refl _ | (simp; done) | (simp; omega) | omega) _ | refine Below.setCell ?_ (by first | exact Nat.le_refl _ | (simp; done) | (simp; omega) | omega) _)⟩
  exact OwnS.mono (OwnS.keep (OwnS.of_own HW.out) (((Part.refl (w.heap.size + 1) (w.heap.size + 3) w1).setCell (by simp) _).setCell (by simp) _) (.inr (by simp))) (by simp; try omega) (by simp [World.setCell]) (Nat.le_refl _)

theorem Own_disk.form {w : World} {lo hi : Nat} {v : Value} {d : List Fil} (h : Own_disk w lo hi v d) : ∃ A c, v = .slice A d.length c := by
  obtain ⟨A, c, h, -, -⟩ := h.1.rd.shape
  exact ⟨A, c, h⟩

set_option maxHeartbeats 1000000 in
set_option maxRecDepth 100000 in
theorem eq_disk (v u : Value) (d : List Fil) (w : World) (h1 : Rd_disk w v d) (h2 : Rd_disk w u d) :
    Calls Try.prog 28 #[.agg #[v], .agg #[u]] w fun e w' => e = .returned (.bool true) ∧ Below w.heap.size w w' := by
  have H1 := Lib.hid h1.1
  have H2 := Lib.hid h2.1
  clear h1 h2
  go_enter Try.func28, Try.ntmps28
  go_wp2_with fail
  refine (eqFileS_any v u d _ (H1.out.below (by exact (by repeat first | exact Below.refl _ _ | assumption | refine Below.drew ?_ | refine below_drewN ?_ _ | refine Below.calm ?_ (by first | exact Nat.le_refl _ | (simp; done) | (simp; omega) | omega) | refine Below.alloc ?_ (by first | exact Nat.le_refl _ | (simp; done) | (simp; omega) | omega) _ | refine Below.setCell ?_ (by first | exact Nat.le_refl _ | (simp; done) | (simp; omega) | omega) _))) (H2.out.below (by exact (by repeat first | exact Below.refl _ _ | assumption | refine Below.drew ?_ | refine below_drewN ?_ _ | refine Below.calm ?_ (by first | exact Nat.le_refl _ | (simp; done) | (simp; omega) | omega) | refine Below.alloc ?_ (by first | exact Nat.le_refl _ | (simp; done) | (simp; omega) | omega) _ | refine Below.setCell ?_ (by first | exact Nat.le_refl _ | (simp; done) | (simp; omega) | omega) _)))).mono ?_
  rintro e w1 ⟨rfl, hb1⟩
  go_wp2_with fail
  go_ret
  exact ⟨rfl, Below.trans (by exact (by repeat first | exact Below.refl _ _ | assumption | refine Below.drew ?_ | refine below_drewN ?_ _ | refine Below.calm ?_ (by first | exact Nat.le_refl _ | (simp; done) | (simp; omega) | omega) | refine Below.alloc ?_ (by first | exact Nat.le_refl _ | (simp; done) | (simp; omega) | omega) _ | refine Below.setCell ?_ (by first | exact Nat.le_refl _ | (simp; done) | (simp; omega) | omega) _)) (hb1.mono (by simp; omega))⟩
end Go.Proofs.Ythjkmefbjbfonaa

/- Copies of disks, the program's and the reference's. -/
import Derived.Test.YthjkmefbjbfonaaDiskK
namespace Go.Proofs.Ythjkmefbjbfonaa
open Go.RowKit Go.ChangeShapes Go.Deep

set_option maxHeartbeats 1000000 in
set_option maxRecDepth 100000 in
theorem copyDisk_any (v : Value) (d : List Fil) (w : World) (h : Rd_disk w v d) (hn : d.length ≤ 2000000) :
    Calls Try.prog 62 #[.agg #[v]] w (GivesD d w) := by
  obtain ⟨h, hok⟩ := h
  obtain ⟨A, c, rfl, hnc, hcm, hr⟩ := h
  obtain ⟨i0, hi, hz0, hz1, hz2⟩ := info_parts Try.infoFil
  unfold maxLen at hcm
  have HO := Lib.hid hok
  have h1 := filV_one d
  have HR := Lib.hid hr
  clear hok hr
  go_enter Try.func62, Try.ntmps62
  go_wp2_with (at_builtin; refine wpList_append_any _ rfl _ _ _ rfl w.heap.size _ i0 _ 3 40 Try.underlying35 hi hz0 hz1 hz2 rfl (by decide) (.slice none 0 0) 0 [] rfl ⟨by simp, .inl ⟨rfl, rfl⟩⟩ w.heap.size A d.length c (filV d) rfl (Reads.below HR.out (by exact (by repeat first | exact Below.refl _ _ | assumption | refine Below.drew ?_ | refine below_drewN ?_ _ | refine Below.calm ?_ (by first | exact Nat.le_refl _ | (simp; done) | (simp; omega) | omega) | refine Below.alloc ?_ (by first | exact Nat.le_refl _ | (simp; done) | (simp; omega) | omega) _ | refine Below.setCell ?_ (by first | exact Nat.le_refl _ | (simp; done) | (simp; omega) | omega) _))) h1 (by unfold maxLen; omega) (by omega) (by simp; try omega) ?_; intro v1 w1 ho1 hg1 hat1; rw [Nat.zero_add, List.nil_append] at ho1; obtain ⟨A2, c2, rfl, -, -⟩ := (Rd.of_own ho1).shape; have hk1 := (Below.refl (w.heap.size + 2) _).grown hg1 (by simp; try omega) (by simp [Value.ownBlock]); have hb1 := (Below.refl w.heap.size _).grown hg1 (by simp; try omega) (by simp [Value.ownBlock]); have q0 := hk1.cell (p := ⟨w.heap.size + 1, 0, none⟩) (by simp); have q1 := hk1.frozen (p := ⟨w.heap.size + 1, 0, none⟩) (by simp); have hsz := hg1.size; simp at q0 q1 hsz; have HOW := Lib.hid ho1; have HAT := Lib.hid hat1; clear ho1 hat1)
  have hw1 : Below w.heap.size w w1 := Below.trans (by exact (by repeat first | exact Below.refl _ _ | assumption | refine Below.drew ?_ | refine below_drewN ?_ _ | refine Below.calm ?_ (by first | exact Nat.le_refl _ | (simp; done) | (simp; omega) | omega) | refine Below.alloc ?_ (by first | exact Nat.le_refl _ | (simp; done) | (simp; omega) | omega) _ | refine Below.setCell ?_ (by first | exact Nat.le_refl _ | (simp; done) | (simp; omega) | omega) _)) hb1
  have hlo : ∀ g, (Value.slice A2 d.length c2).ownBlock = some g → w.heap.size + 2 ≤ g + 0 ∧ g < w1.heap.size := fun g hg => by
    have hlt := HOW.out.lt g hg
    rcases HAT.out with e | e
    · rw [hg] at e
      simp [Value.ownBlock] at e
    · rw [hg] at e
      injection e with e
      simp at e
      omega
  refine bodyPost_ret (v := .agg #[.slice A2 d.length c2]) (by simp [results, Try.results62, go_sem, q0]) rfl ⟨_, rfl, ⟨?_, HO.out⟩, hw1.setCell (by simp) _⟩
  have ho : w1.ownsRow (w.heap.size + 2) 44 3 (.slice A2 d.length c2) d.length (filV d) := by
    obtain ⟨e1, e2⟩ := HOW.out
    refine ⟨e1, e2.imp id ?_⟩
    rintro ⟨g, cap, cur, e, hb, hr⟩
    exact ⟨g, cap, cur, e, by have := (hlo g (by rw [e]; rfl)).1; omega, hr⟩
  exact OwnS.mono (OwnS.keep (OwnS.of_own ho) ((Part.refl (w.heap.size + 1) (w.heap.size + 2) w1).setCell (by simp) _) (.inr (by simp))) (by omega) (by simp [World.setCell]) (Nat.le_refl _)

set_option maxHeartbeats 1000000 in
set_option maxRecDepth 100000 in
theorem l04Copy_any (v : Value) (d : List Fil) (w : World) (h : Rd_disk w v d) (hn : d.length ≤ 2000000) :
    Calls Try.prog 65 #[.agg #[v]] w (GivesD d w) := by
  obtain ⟨h, hok⟩ := h
  obtain ⟨A, c, rfl, hnc, hcm, hr⟩ := h
  obtain ⟨i0, hi, hz0, hz1, hz2⟩ := info_parts Try.infoFil
  unfold maxLen at hcm
  have HO := Lib.hid hok
  have h1 := filV_one d
  have HR := Lib.hid hr
  clear hok hr
  go_enter Try.func65, Try.ntmps65
  go_wp2_with (at_builtin; refine wpList_append_any _ rfl _ _ _ rfl w.heap.size _ i0 _ 3 40 Try.underlying35 hi hz0 hz1 hz2 rfl (by decide) (.slice (some ⟨w.heap.size + 1 + 1, 0, none⟩) 0 0) 0 [] (by rfl) (made0 (by simp) (by omega)) w.heap.size A d.length c (filV d) rfl (Reads.below HR.out (by exact (by repeat first | exact Below.refl _ _ | assumption | refine Below.drew ?_ | refine below_drewN ?_ _ | refine Below.calm ?_ (by first | exact Nat.le_refl _ | (simp; done) | (simp; omega) | omega) | refine Below.alloc ?_ (by first | exact Nat.le_refl _ | (simp; done) | (simp; omega) | omega) _ | refine Below.setCell ?_ (by first | exact Nat.le_refl _ | (simp; done) | (simp; omega) | omega) _))) h1 (by unfold maxLen; omega) (by omega) (by simp; try omega) ?_; intro v1 w1 ho1 hg1 hat1; rw [Nat.zero_add, List.nil_append] at ho1; obtain ⟨A2, c2, rfl, -, -⟩ := (Rd.of_own ho1).shape; have hk1 := (Below.refl (w.heap.size + 2) _).grown hg1 (by simp; try omega) (fun g hg => by cases hg; simp; try omega); have hb1 := (Below.refl w.heap.size _).grown hg1 (by simp; try omega) (fun g hg => by cases hg; simp; try omega); have q0 := hk1.cell (p := ⟨w.heap.size + 1, 0, none⟩) (by simp); have q1 := hk1.frozen (p := ⟨w.heap.size + 1, 0, none⟩) (by simp); have hsz := hg1.size; simp at q0 q1 hsz; have HOW := Lib.hid ho1; have HAT := Lib.hid hat1; clear ho1 hat1)
  have hw1 : Below w.heap.size w w1 := Below.trans (by exact (by repeat first | exact Below.refl _ _ | assumption | refine Below.drew ?_ | refine below_drewN ?_ _ | refine Below.calm ?_ (by first | exact Nat.le_refl _ | (simp; done) | (simp; omega) | omega) | refine Below.alloc ?_ (by first | exact Nat.le_refl _ | (simp; done) | (simp; omega) | omega) _ | refine Below.setCell ?_ (by first | exact Nat.le_refl _ | (simp; done) | (simp; omega) | omega) _)) hb1
  have hlo : ∀ g, (Value.slice A2 d.length c2).ownBlock = some g → w.heap.size + 3 ≤ g + 1 ∧ g < w1.heap.size := fun g hg => by
    have hlt := HOW.out.lt g hg
    rcases HAT.out with e | e
    · rw [hg] at e
      injection e with e; simp at e; omega
    · rw [hg] at e
      injection e with e
      simp at e
      omega
  refine bodyPost_ret (v := .agg #[.slice A2 d.length c2]) (by simp [results, Try.results65, go_sem, q0]) rfl ⟨_, rfl, ⟨?_, HO.out⟩, hw1.setCell (by simp) _⟩
  have ho : w1.ownsRow (w.heap.size + 2) 44 3 (.slice A2 d.length c2) d.length (filV d) := by
    obtain ⟨e1, e2⟩ := HOW.out
    refine ⟨e1, e2.imp id ?_⟩
    rintro ⟨g, cap, cur, e, hb, hr⟩
    exact ⟨g, cap, cur, e, by have := (hlo g (by rw [e]; rfl)).1; omega, hr⟩
  exact OwnS.mono (OwnS.keep (OwnS.of_own ho) ((Part.refl (w.heap.size + 1) (w.heap.size + 2) w1).setCell (by simp) _) (.inr (by simp))) (by omega) (by simp [World.setCell]) (Nat.le_refl _)
end Go.Proofs.Ythjkmefbjbfonaa

/- Drawn disks: the walks of the reference's draws. -/
import Derived.Test.YthjkmefbjbfonaaDrawFP
import Derived.Test.YthjkmefbjbfonaaStrS
import Derived.Test.YthjkmefbjbfonaaWrite
import Derived.Test.YthjkmefbjbfonaaIntsK
import Derived.Test.YthjkmefbjbfonaaSchedT
namespace Go.Proofs.Ythjkmefbjbfonaa
set_option linter.unusedSimpArgs false
set_option linter.unusedSimpArgs false
set_option linter.unusedVariables false
open Go.RowKit Go.ChangeShapes Go.Deep

def DrewB (w0 : World) (B g : Nat) (v : Value) (code : List UInt8) (b : Bool) (c : Cur) (e : Ending) (w' : World) : Prop :=
  e = .returned (.bool b) ∧ CurAt w' B g v code c ∧ w0.grownBy w' (some g)
set_option maxRecDepth 100000 in
theorem l01Once_any (w : World) (B g : Nat) (v : Value) (code : List UInt8) (c : Cur) (n : Int) (h : CurAt w B g v code c) (hn : n ≤ 1000000000000) :
    Calls Try.prog 87 #[.pointer (some ⟨g, 0, none⟩), .int .i64 n] w (DrewB w B g v code ((curBelow code n c).1 == 0) (curBelow code n c).2) := by
  have CB := Lib.hid (l01Below_any w B g v code c n h hn)
  obtain ⟨r, hr⟩ : ∃ r, r = curBelow code n c := ⟨_, rfl⟩
  rw [← hr] at CB ⊢
  obtain ⟨x, c1⟩ := r
  clear h hr
  go_enter Try.func87, Try.ntmps87
  go_wp2_with fail
  refine CB.out.mono ?_
  rintro e w1 ⟨rfl, hc1, hg1⟩
  have HC1 := Lib.hid hc1
  clear hc1 CB
  go_wp2_with fail
  go_ret
  exact ⟨rfl, HC1.out, hg1⟩

theorem Blk.new' {w : World} {t : TypeId} {cs : Array Value} {g : Nat} (hg : g = w.heap.size) : Blk (w.alloc (.cells cs t)) g t cs := by subst hg; exact Blk.new _ _ _
/-- What the draw of a disk holds in hand: the files so far, its variables, the cursor. -/
structure DiskSt (w : World) (B g : Nat) (v : Value) (code : List UInt8) (l : List Fil) (A : Option Addr) (cc : Nat) (d : Cur) (wr : World) : Prop where
  own : wr.ownsRow (w.heap.size + 3) 44 3 (.slice A l.length cc) l.length (filV l)
  kd : Blk wr (w.heap.size + 1) 37 #[.slice A l.length cc]
  kr : Blk wr w.heap.size 37 #[.slice none 0 0]
  kn : Blk wr (w.heap.size + 2) 9 #[.string ⟨#[108, 111, 103]⟩, .string ⟨#[109, 97, 114, 107]⟩, .string ⟨#[110, 101, 120, 116]⟩, .string ⟨#[120]⟩]
  cur : CurAt wr B g v code d
  gw : w.grownBy wr (some g)
  gl : g < w.heap.size
section
variable {w wr w3 : World} {B g : Nat} {v : Value} {code : List UInt8} {l : List Fil} {A : Option Addr} {cc : Nat} {d d3 : Cur}
theorem DiskSt.draw (h : DiskSt w B g v code l A cc d wr) (hc : CurAt w3 B g v code d3) (hg : wr.grownBy w3 (some g)) : DiskSt w B g v code l A cc d3 w3 :=
  ⟨own_grown h.own hg (own_old h.own (by have := h.gl; omega)), h.kd.grown hg (by have := h.gl; simp; omega), h.kr.grown hg (by have := h.gl; simp; omega), h.kn.grown hg (by have := h.gl; simp; omega), hc, only_trans h.gw hg, h.gl⟩
theorem DiskSt.below (h : DiskSt w B g v code l A cc d wr) (hb : Below wr.heap.size wr w3) : DiskSt w B g v code l A cc d w3 :=
  h.draw (h.cur.below hb) (only_of_below hb _)
theorem DiskSt.size (h : DiskSt w B g v code l A cc d wr) : w.heap.size + 2 < wr.heap.size := h.kn.lt
theorem names_cell {b : Nat} (h : Blk wr b 9 #[.string ⟨#[108, 111, 103]⟩, .string ⟨#[109, 97, 114, 107]⟩, .string ⟨#[110, 101, 120, 116]⟩, .string ⟨#[120]⟩]) {k : Nat} (hk : k ≤ 3) : wr.cell? ⟨b, k, none⟩ = some (.string (names4.getD k txLog)) := by
  rw [h.cell k]
  match k, hk with
  | 0, _ => rfl
  | 1, _ => rfl
  | 2, _ => rfl
  | 3, _ => rfl
end
def DrewF (w0 : World) (B g : Nat) (v : Value) (code : List UInt8) (r : List Fil × Cur) (e : Ending) (w' : World) : Prop :=
  ∃ A c, e = .returned (.agg #[.slice A r.1.length c]) ∧ w'.ownsRow w0.heap.size 44 3 (.slice A r.1.length c) r.1.length (filV r.1) ∧ CurAt w' B g v code r.2 ∧ w0.grownBy w' (some g)

set_option maxHeartbeats 8000000 in
set_option maxRecDepth 100000 in
theorem l04Disk_any (w : World) (B g : Nat) (v : Value) (code : List UInt8) (c : Cur) (h : CurAt w B g v code c) :
    Calls Try.prog 60 #[.pointer (some ⟨g, 0, none⟩)] w (DrewF w B g v code (diskGo code 5 0 [] c)) := by
  obtain ⟨i0, hii, hz0, hz1, hz2⟩ := info_parts Try.infoFil
  have hgl := h.blk.lt
  have hBg := h.base
  have H := Lib.hid h
  obtain ⟨R, hR⟩ : ∃ R, R = diskGo code 5 0 [] c := ⟨_, rfl⟩
  have HRR := Lib.hid hR
  rw [← hR]
  clear h hR
  go_enter Try.func60, Try.ntmps60
  go_wp2_with fail
  go_loopw [5] (fun i wr => ∃ (k : Nat) (l : List Fil) (d : Cur) (A : Option Addr) (cc : Nat), k ≤ 4 ∧ l.length ≤ k ∧ i = .int .i64 k ∧ Hid (R = diskGo code (5 - k) k l d) ∧ Hid (DiskSt w B g v code l A cc d wr)) (fun i _ => 5 - (intOf i).toNat)
  case atStart =>
    refine ⟨0, [], c, none, 0, by omega, by simp, rfl, HRR, Lib.hid ⟨World.ownsRow_nil _ _ _ _, ?_, ?_, ?_, ?_, ?_, hgl⟩⟩
    · exact (Blk.new' (by simp)).alloc _
    · exact ((Blk.new' rfl).alloc _).alloc _
    · exact Blk.new' (by simp)
    · exact H.out.below ((((Below.refl _ _).alloc (Nat.le_refl _) _).alloc (by simp) _).alloc (by simp; omega) _)
    · exact only_of_below ((((Below.refl _ _).alloc (Nat.le_refl _) _).alloc (by simp) _).alloc (by simp; omega) _) _
  case round =>
    obtain ⟨k, l, d, A, cc, hk, hlk, rfl, HG, HS⟩ := hrel
    have hbd := curBelow_bd code 5 d (by omega)
    have CB := Lib.hid (l01Below_any _ _ _ _ _ _ 5 HS.out.cur (by omega))
    obtain ⟨m, d1, hr⟩ : ∃ x c', curBelow code 5 d = (x, c') := ⟨_, _, rfl⟩
    have HR1 := Lib.hid hr
    rw [hr] at CB hbd
    simp only at hbd
    clear hr
    go_wp2_with fail
    refine CB.out.mono ?_
    rintro e w3 ⟨rfl, hc3, hg3⟩
    have HS3 := Lib.hid (HS.out.draw hc3 hg3)
    clear CB hc3 hg3
    by_cases hlt : (k : Int) < m
    · have hk3 : k ≤ 3 := by omega
      have CB := Lib.hid (l01Once_any _ _ _ _ _ _ 5 HS3.out.cur (by omega))
      obtain ⟨m2, d2, hr⟩ : ∃ x c', curBelow code 5 d1 = (x, c') := ⟨_, _, rfl⟩
      have HR2 := Lib.hid hr
      rw [hr] at CB
      simp only at CB
      clear hr
      cases hm2 : m2 == 0 with
      | true =>
        have HN := Lib.hid (show R = diskGo code (5 - (k + 1)) (k + 1) l d2 by
          rw [HG.out, show 5 - k = (5 - (k + 1)) + 1 by omega, diskGo, HR1.out]
          dsimp only
          rw [if_pos hlt, HR2.out]
          dsimp only
          rw [if_pos (by simpa using hm2)])
        rw [hm2] at CB
        clear hm2
        go_wp2_with fail
        refine CB.out.mono ?_
        rintro e w4 ⟨rfl, hc4, hg4⟩
        have HS4 := Lib.hid (HS3.out.draw hc4 hg4)
        clear CB hc4 hg4
        go_wp2_with fail
        go_roundw
        case rel => exact ⟨k + 1, l, d2, A, cc, by omega, by omega, by go_num, HN, HS4⟩
        case measure => simp [intOf]; omega
      | false =>
        have HN := Lib.hid (show R = diskGo code (5 - (k + 1)) (k + 1) (l ++ [(fileD code (names4.getD k txLog) d2).1]) (fileD code (names4.getD k txLog) d2).2 by
          rw [HG.out, show 5 - k = (5 - (k + 1)) + 1 by omega, diskGo, HR1.out]
          dsimp only
          rw [if_pos hlt, HR2.out]
          dsimp only
          rw [if_neg (by simpa using hm2)])
        rw [hm2] at CB
        obtain ⟨nm, hnm⟩ : ∃ nm, nm = names4.getD k txLog := ⟨_, rfl⟩
        have HNM := Lib.hid hnm
        rw [← hnm] at HN
        clear hm2
        have hbd9 := curBelow_bd code 9 d2 (by omega)
        obtain ⟨m9, d3, hr9⟩ : ∃ x c', curBelow code 9 d2 = (x, c') := ⟨_, _, rfl⟩
        have hts := textD_size code m9 d3
        obtain ⟨t, d4, hrt⟩ : ∃ x c', textD code m9 d3 = (x, c') := ⟨_, _, rfl⟩
        rw [hrt] at hts
        simp only at hts
        have hbdp := curBelow_bd code ((t.size : Int) + 1) d4 (by omega)
        obtain ⟨p, d5, hrp⟩ : ∃ x c', curBelow code ((t.size : Int) + 1) d4 = (x, c') := ⟨_, _, rfl⟩
        obtain ⟨q, d6, hrq⟩ : ∃ x c', curBelow code 3 d5 = (x, c') := ⟨_, _, rfl⟩
        have HF := Lib.hid (show fileD code nm d2 = (⟨nm, t, if q = 0 then (t.size : Int) else p⟩, d6) by
          unfold fileD
          simp only [hr9, hrt, hrp, hrq])
        rw [hr9] at hbd9
        rw [hrp] at hbdp
        simp only at hbd9 hbdp
        have CB9 := Lib.hid (fun W (hW : CurAt W B g v code d2) => by have := l01Below_any W B g v code d2 9 hW (by omega); rw [hr9] at this; exact this)
        have CT := Lib.hid (fun W (hW : CurAt W B g v code d3) => by have := l01Text_any W B g v code d3 m9 hW (by omega) (by omega); rw [hrt] at this; exact this)
        have CBP := Lib.hid (fun W (hW : CurAt W B g v code d4) => by have := l01Below_any W B g v code d4 ((t.size : Int) + 1) hW (by omega); rw [hrp] at this; exact this)
        have CBQ := Lib.hid (fun W (hW : CurAt W B g v code d5) => by have := l01Once_any W B g v code d5 3 hW (by omega); rw [hrq] at this; exact this)
        have hts8 : t.size ≤ 8 := by omega
        clear hr9 hrt hrp hrq hnm hts
        go_wp2_with fail
        refine CB.out.mono ?_
        rintro e w4 ⟨rfl, hc4, hg4⟩
        have HS4 := Lib.hid (HS3.out.draw hc4 hg4)
        have hs4 := HS4.out.size
        have hk0 : (0 : Int) ≤ (k : Int) := by omega
        have hk4 : (k : Int) < 4 := by omega
        have GN : ∀ kk : Kept w4 (some g), kk.w.cell? ⟨w.heap.size + 2, k, none⟩ = some (.string nm) := fun kk => by
          rw [HNM.out]
          exact names_cell (HS4.out.kn.grown kk.2 (by simp; omega)) hk3
        clear CB hc4 hg4
        go_wp2_with fail
        refine wp_region_tree (.held 0 (.held 1 (.held 2 (.held 3 (.held 4 (.held 5 (.two 6 9 (.two 7 9 (.held 8 (.step 9 (.step 10 .nil))) (.step 7 (.held 8 (.step 10 .nil)))) (.step 6 (.step 7 (.held 8 (.step 10 .nil))))))))))) (by kernel_rfl) (by kernel_rfl) (KeptS _ (some g)) (KeptS.refl _ _).drew ?_
        (refine wpT_held (by rfl) (by rfl) ?_ (fun W hW => ?_) ?_; rotate_left; (· (obtain ⟨kq, rfl⟩ := hW; go_simp; try with_reducible rfl)); try simp only [Act.put, List.setIfInBounds_toArray, List.set_cons_succ, List.set_cons_zero])
        (refine wpT_held (by rfl) (by rfl) ?_ (fun W hW => ?_) ?_; rotate_left; (· (obtain ⟨kq, rfl⟩ := hW; go_simp; try with_reducible rfl)); try simp only [Act.put, List.setIfInBounds_toArray, List.set_cons_succ, List.set_cons_zero])
        (refine wpT_held (by rfl) (by rfl) ?_ (fun W hW => ?_) ?_; rotate_left; (· (obtain ⟨kq, rfl⟩ := hW; go_simp; try with_reducible rfl)); try simp only [Act.put, List.setIfInBounds_toArray, List.set_cons_succ, List.set_cons_zero])
        (refine wpT_held (by rfl) (by rfl) ?_ (fun W hW => ?_) ?_; rotate_left; (· (obtain ⟨kq, rfl⟩ := hW; go_simp; try with_reducible rfl)); try simp only [Act.put, List.setIfInBounds_toArray, List.set_cons_succ, List.set_cons_zero])
        (refine wpT_held (by rfl) (by rfl) ?_ (fun W hW => ?_) ?_; rotate_left; (· (obtain ⟨kq, rfl⟩ := hW; go_simp; try with_reducible rfl)); try simp only [Act.put, List.setIfInBounds_toArray, List.set_cons_succ, List.set_cons_zero])
        (refine wpT_held (by rfl) (by rfl) ?_ (fun W hW => ?_) ?_; rotate_left; (· (obtain ⟨kq, rfl⟩ := hW; go_simp; try with_reducible rfl)); try simp only [Act.put, List.setIfInBounds_toArray, List.set_cons_succ, List.set_cons_zero])
        refine wpT_two ?glx1 ?grx1
        case' glx1 =>
          (refine wpT_call 53 (by rfl) (by rfl) (by rfl) Try.func53 (by kernel_rfl) (by rfl) (by rfl) ?_; (conv => arg 3; simp [Act.eval]); (first | ((with_reducible refine (CB9.out _ (HS4.out.cur.below (by exact (by repeat first | exact Below.refl _ _ | assumption | refine Below.drew ?_ | refine below_drewN ?_ _ | refine Below.calm ?_ (by first | exact Nat.le_refl _ | (simp; done) | (simp; omega) | omega) | refine Below.alloc ?_ (by first | exact Nat.le_refl _ | (simp; done) | (simp; omega) | omega) _ | refine Below.setCell ?_ (by first | exact Nat.le_refl _ | (simp; done) | (simp; omega) | omega) _)))).mono ?_); rintro e w5 ⟨rfl, hc5, hg5⟩; have hz5 : w4.heap.size ≤ w5.heap.size := (by have := hg5.size; (try simp at this); omega); try (have y5 : Blk w5 w4.heap.size 44 #[.string ⟨#[]⟩, .string ⟨#[]⟩, .int .i64 0] := Blk.grown (Blk.drew (Blk.new' rfl)) hg5 (by simp; omega))) | ((with_reducible refine (CT.out _ (hc5.below (by exact (by repeat first | exact Below.refl _ _ | assumption | refine Below.drew ?_ | refine below_drewN ?_ _ | refine Below.calm ?_ (by first | exact Nat.le_refl _ | (simp; done) | (simp; omega) | omega) | refine Below.alloc ?_ (by first | exact Nat.le_refl _ | (simp; done) | (simp; omega) | omega) _ | refine Below.setCell ?_ (by first | exact Nat.le_refl _ | (simp; done) | (simp; omega) | omega) _)))).mono ?_); rintro e w6 ⟨rfl, hc6, hg6⟩; have hz6 : w5.heap.size ≤ w6.heap.size := (by have := hg6.size; (try simp at this); omega); first | (have y6 : Blk w6 w5.heap.size 44 #[.string ⟨#[]⟩, .string ⟨#[]⟩, .int .i64 0] := Blk.grown (Blk.new' rfl) hg6 (by simp; omega); have s0 := y6.cell 0; have s1 := y6.cell 1; have s2 := y6.cell 2; simp only [List.getElem?_toArray, List.getElem?_cons_succ, List.getElem?_cons_zero] at s0 s1 s2; have f0 := y6.frozen 0; have f1 := y6.frozen 1; have f2 := y6.frozen 2; have yl := y6.lt; have HY6 := Lib.hid y6; clear y6) | (have y6 : Blk w6 w4.heap.size 44 #[.string ⟨#[]⟩, .string ⟨#[]⟩, .int .i64 0] := Blk.grown y5 hg6 (by simp; omega); have s0 := y6.cell 0; have s1 := y6.cell 1; have s2 := y6.cell 2; simp only [List.getElem?_toArray, List.getElem?_cons_succ, List.getElem?_cons_zero] at s0 s1 s2; have f0 := y6.frozen 0; have f1 := y6.frozen 1; have f2 := y6.frozen 2; have yl := y6.lt; have HY6 := Lib.hid y6; clear y6) | skip)); refine ⟨_, rfl, ?_, ?_⟩; (· (repeat first | exact KeptS.refl _ _ | exact KeptS.of (only_of_below (by assumption) _) | assumption | refine KeptS.drew ?_ | refine KeptS.alloc ?_ _ | refine KeptS.grown ?_ (by assumption) | refine KeptS.below ?_ (by assumption) | refine KeptS.belowAt ?_ (by assumption) | (refine KeptS.setNew ?_ ?_ _; rotate_left; (· (first | (simp; done) | (simp; omega) | omega))) | (refine KeptS.setRow ?_ ?_ _; rotate_left; (· (simp; done))))); try simp only [Act.put, List.setIfInBounds_toArray, List.set_cons_succ, List.set_cons_zero])
          refine wpT_two ?glx1l ?grx1l
          case' glx1l =>
            (refine wpT_call 86 (by rfl) (by rfl) (by rfl) Try.func86 (by kernel_rfl) (by rfl) (by rfl) ?_; (conv => arg 3; simp [Act.eval]); (first | ((with_reducible refine (CB9.out _ (HS4.out.cur.below (by exact (by repeat first | exact Below.refl _ _ | assumption | refine Below.drew ?_ | refine below_drewN ?_ _ | refine Below.calm ?_ (by first | exact Nat.le_refl _ | (simp; done) | (simp; omega) | omega) | refine Below.alloc ?_ (by first | exact Nat.le_refl _ | (simp; done) | (simp; omega) | omega) _ | refine Below.setCell ?_ (by first | exact Nat.le_refl _ | (simp; done) | (simp; omega) | omega) _)))).mono ?_); rintro e w5 ⟨rfl, hc5, hg5⟩; have hz5 : w4.heap.size ≤ w5.heap.size := (by have := hg5.size; (try simp at this); omega); try (have y5 : Blk w5 w4.heap.size 44 #[.string ⟨#[]⟩, .string ⟨#[]⟩, .int .i64 0] := Blk.grown (Blk.drew (Blk.new' rfl)) hg5 (by simp; omega))) | ((with_reducible refine (CT.out _ (hc5.below (by exact (by repeat first | exact Below.refl _ _ | assumption | refine Below.drew ?_ | refine below_drewN ?_ _ | refine Below.calm ?_ (by first | exact Nat.le_refl _ | (simp; done) | (simp; omega) | omega) | refine Below.alloc ?_ (by first | exact Nat.le_refl _ | (simp; done) | (simp; omega) | omega) _ | refine Below.setCell ?_ (by first | exact Nat.le_refl _ | (simp; done) | (simp; omega) | omega) _)))).mono ?_); rintro e w6 ⟨rfl, hc6, hg6⟩; have hz6 : w5.heap.size ≤ w6.heap.size := (by have := hg6.size; (try simp at this); omega); first | (have y6 : Blk w6 w5.heap.size 44 #[.string ⟨#[]⟩, .string ⟨#[]⟩, .int .i64 0] := Blk.grown (Blk.new' rfl) hg6 (by simp; omega); have s0 := y6.cell 0; have s1 := y6.cell 1; have s2 := y6.cell 2; simp only [List.getElem?_toArray, List.getElem?_cons_succ, List.getElem?_cons_zero] at s0 s1 s2; have f0 := y6.frozen 0; have f1 := y6.frozen 1; have f2 := y6.frozen 2; have yl := y6.lt; have HY6 := Lib.hid y6; clear y6) | (have y6 : Blk w6 w4.heap.size 44 #[.string ⟨#[]⟩, .string ⟨#[]⟩, .int .i64 0] := Blk.grown y5 hg6 (by simp; omega); have s0 := y6.cell 0; have s1 := y6.cell 1; have s2 := y6.cell 2; simp only [List.getElem?_toArray, List.getElem?_cons_succ, List.getElem?_cons_zero] at s0 s1 s2; have f0 := y6.frozen 0; have f1 := y6.frozen 1; have f2 := y6.frozen 2; have yl := y6.lt; have HY6 := Lib.hid y6; clear y6) | skip)); refine ⟨_, rfl, ?_, ?_⟩; (· (repeat first | exact KeptS.refl _ _ | exact KeptS.of (only_of_below (by assumption) _) | assumption | refine KeptS.drew ?_ | refine KeptS.alloc ?_ _ | refine KeptS.grown ?_ (by assumption) | refine KeptS.below ?_ (by assumption) | refine KeptS.belowAt ?_ (by assumption) | (refine KeptS.setNew ?_ ?_ _; rotate_left; (· (first | (simp; done) | (simp; omega) | omega))) | (refine KeptS.setRow ?_ ?_ _; rotate_left; (· (simp; done))))); try simp only [Act.put, List.setIfInBounds_toArray, List.set_cons_succ, List.set_cons_zero])
            (refine wpT_held (by rfl) (by rfl) ?_ (fun W hW => ?_) ?_; rotate_left; (· (obtain ⟨kq, rfl⟩ := hW; go_simp; try with_reducible rfl)); try simp only [Act.put, List.setIfInBounds_toArray, List.set_cons_succ, List.set_cons_zero])
            (refine wpT_step (by rfl) (by rfl) (fun K hK => ?_); go_simp; refine hK.out _ _ ?_ ?_; (· (repeat first | exact KeptS.refl _ _ | exact KeptS.of (only_of_below (by assumption) _) | assumption | refine KeptS.drew ?_ | refine KeptS.alloc ?_ _ | refine KeptS.grown ?_ (by assumption) | refine KeptS.below ?_ (by assumption) | refine KeptS.belowAt ?_ (by assumption) | (refine KeptS.setNew ?_ ?_ _; rotate_left; (· (first | (simp; done) | (simp; omega) | omega))) | (refine KeptS.setRow ?_ ?_ _; rotate_left; (· (simp; done))))); clear hK K; try simp only [Act.put, List.setIfInBounds_toArray, List.set_cons_succ, List.set_cons_zero])
            (refine wpT_step (by rfl) (by rfl) (fun K hK => ?_); go_simp; refine hK.out _ _ ?_ ?_; (· (repeat first | exact KeptS.refl _ _ | exact KeptS.of (only_of_below (by assumption) _) | assumption | refine KeptS.drew ?_ | refine KeptS.alloc ?_ _ | refine KeptS.grown ?_ (by assumption) | refine KeptS.below ?_ (by assumption) | refine KeptS.belowAt ?_ (by assumption) | (refine KeptS.setNew ?_ ?_ _; rotate_left; (· (first | (simp; done) | (simp; omega) | omega))) | (refine KeptS.setRow ?_ ?_ _; rotate_left; (· (simp; done))))); clear hK K; try simp only [Act.put])
            refine wpT_nil ?_
            try simp only [List.getElem_toArray, List.getElem_cons_succ, List.getElem_cons_zero]
          case' grx1l =>
            (refine wpT_step (by rfl) (by rfl) (fun K hK => ?_); go_simp; refine hK.out _ _ ?_ ?_; (· (repeat first | exact KeptS.refl _ _ | exact KeptS.of (only_of_below (by assumption) _) | assumption | refine KeptS.drew ?_ | refine KeptS.alloc ?_ _ | refine KeptS.grown ?_ (by assumption) | refine KeptS.below ?_ (by assumption) | refine KeptS.belowAt ?_ (by assumption) | (refine KeptS.setNew ?_ ?_ _; rotate_left; (· (first | (simp; done) | (simp; omega) | omega))) | (refine KeptS.setRow ?_ ?_ _; rotate_left; (· (simp; done))))); clear hK K; try simp only [Act.put, List.setIfInBounds_toArray, List.set_cons_succ, List.set_cons_zero])
            (refine wpT_call 86 (by rfl) (by rfl) (by rfl) Try.func86 (by kernel_rfl) (by rfl) (by rfl) ?_; (conv => arg 3; simp [Act.eval]); (first | ((with_reducible refine (CB9.out _ (HS4.out.cur.below (by exact (by repeat first | exact Below.refl _ _ | assumption | refine Below.drew ?_ | refine below_drewN ?_ _ | refine Below.calm ?_ (by first | exact Nat.le_refl _ | (simp; done) | (simp; omega) | omega) | refine Below.alloc ?_ (by first | exact Nat.le_refl _ | (simp; done) | (simp; omega) | omega) _ | refine Below.setCell ?_ (by first | exact Nat.le_refl _ | (simp; done) | (simp; omega) | omega) _)))).mono ?_); rintro e w5 ⟨rfl, hc5, hg5⟩; have hz5 : w4.heap.size ≤ w5.heap.size := (by have := hg5.size; (try simp at this); omega); try (have y5 : Blk w5 w4.heap.size 44 #[.string ⟨#[]⟩, .string ⟨#[]⟩, .int .i64 0] := Blk.grown (Blk.drew (Blk.new' rfl)) hg5 (by simp; omega))) | ((with_reducible refine (CT.out _ (hc5.below (by exact (by repeat first | exact Below.refl _ _ | assumption | refine Below.drew ?_ | refine below_drewN ?_ _ | refine Below.calm ?_ (by first | exact Nat.le_refl _ | (simp; done) | (simp; omega) | omega) | refine Below.alloc ?_ (by first | exact Nat.le_refl _ | (simp; done) | (simp; omega) | omega) _ | refine Below.setCell ?_ (by first | exact Nat.le_refl _ | (simp; done) | (simp; omega) | omega) _)))).mono ?_); rintro e w6 ⟨rfl, hc6, hg6⟩; have hz6 : w5.heap.size ≤ w6.heap.size := (by have := hg6.size; (try simp at this); omega); first | (have y6 : Blk w6 w5.heap.size 44 #[.string ⟨#[]⟩, .string ⟨#[]⟩, .int .i64 0] := Blk.grown (Blk.new' rfl) hg6 (by simp; omega); have s0 := y6.cell 0; have s1 := y6.cell 1; have s2 := y6.cell 2; simp only [List.getElem?_toArray, List.getElem?_cons_succ, List.getElem?_cons_zero] at s0 s1 s2; have f0 := y6.frozen 0; have f1 := y6.frozen 1; have f2 := y6.frozen 2; have yl := y6.lt; have HY6 := Lib.hid y6; clear y6) | (have y6 : Blk w6 w4.heap.size 44 #[.string ⟨#[]⟩, .string ⟨#[]⟩, .int .i64 0] := Blk.grown y5 hg6 (by simp; omega); have s0 := y6.cell 0; have s1 := y6.cell 1; have s2 := y6.cell 2; simp only [List.getElem?_toArray, List.getElem?_cons_succ, List.getElem?_cons_zero] at s0 s1 s2; have f0 := y6.frozen 0; have f1 := y6.frozen 1; have f2 := y6.frozen 2; have yl := y6.lt; have HY6 := Lib.hid y6; clear y6) | skip)); refine ⟨_, rfl, ?_, ?_⟩; (· (repeat first | exact KeptS.refl _ _ | exact KeptS.of (only_of_below (by assumption) _) | assumption | refine KeptS.drew ?_ | refine KeptS.alloc ?_ _ | refine KeptS.grown ?_ (by assumption) | refine KeptS.below ?_ (by assumption) | refine KeptS.belowAt ?_ (by assumption) | (refine KeptS.setNew ?_ ?_ _; rotate_left; (· (first | (simp; done) | (simp; omega) | omega))) | (refine KeptS.setRow ?_ ?_ _; rotate_left; (· (simp; done))))); try simp only [Act.put, List.setIfInBounds_toArray, List.set_cons_succ, List.set_cons_zero])
            (refine wpT_held (by rfl) (by rfl) ?_ (fun W hW => ?_) ?_; rotate_left; (· (obtain ⟨kq, rfl⟩ := hW; go_simp; try with_reducible rfl)); try simp only [Act.put, List.setIfInBounds_toArray, List.set_cons_succ, List.set_cons_zero])
            (refine wpT_step (by rfl) (by rfl) (fun K hK => ?_); go_simp; refine hK.out _ _ ?_ ?_; (· (repeat first | exact KeptS.refl _ _ | exact KeptS.of (only_of_below (by assumption) _) | assumption | refine KeptS.drew ?_ | refine KeptS.alloc ?_ _ | refine KeptS.grown ?_ (by assumption) | refine KeptS.below ?_ (by assumption) | refine KeptS.belowAt ?_ (by assumption) | (refine KeptS.setNew ?_ ?_ _; rotate_left; (· (first | (simp; done) | (simp; omega) | omega))) | (refine KeptS.setRow ?_ ?_ _; rotate_left; (· (simp; done))))); clear hK K; try simp only [Act.put])
            refine wpT_nil ?_
            try simp only [List.getElem_toArray, List.getElem_cons_succ, List.getElem_cons_zero]
        case' grx1 =>
          (refine wpT_step (by rfl) (by rfl) (fun K hK => ?_); go_simp; refine hK.out _ _ ?_ ?_; (· (repeat first | exact KeptS.refl _ _ | exact KeptS.of (only_of_below (by assumption) _) | assumption | refine KeptS.drew ?_ | refine KeptS.alloc ?_ _ | refine KeptS.grown ?_ (by assumption) | refine KeptS.below ?_ (by assumption) | refine KeptS.belowAt ?_ (by assumption) | (refine KeptS.setNew ?_ ?_ _; rotate_left; (· (first | (simp; done) | (simp; omega) | omega))) | (refine KeptS.setRow ?_ ?_ _; rotate_left; (· (simp; done))))); clear hK K; try simp only [Act.put, List.setIfInBounds_toArray, List.set_cons_succ, List.set_cons_zero])
          (refine wpT_call 53 (by rfl) (by rfl) (by rfl) Try.func53 (by kernel_rfl) (by rfl) (by rfl) ?_; (conv => arg 3; simp [Act.eval]); (first | ((with_reducible refine (CB9.out _ (HS4.out.cur.below (by exact (by repeat first | exact Below.refl _ _ | assumption | refine Below.drew ?_ | refine below_drewN ?_ _ | refine Below.calm ?_ (by first | exact Nat.le_refl _ | (simp; done) | (simp; omega) | omega) | refine Below.alloc ?_ (by first | exact Nat.le_refl _ | (simp; done) | (simp; omega) | omega) _ | refine Below.setCell ?_ (by first | exact Nat.le_refl _ | (simp; done) | (simp; omega) | omega) _)))).mono ?_); rintro e w5 ⟨rfl, hc5, hg5⟩; have hz5 : w4.heap.size ≤ w5.heap.size := (by have := hg5.size; (try simp at this); omega); try (have y5 : Blk w5 w4.heap.size 44 #[.string ⟨#[]⟩, .string ⟨#[]⟩, .int .i64 0] := Blk.grown (Blk.drew (Blk.new' rfl)) hg5 (by simp; omega))) | ((with_reducible refine (CT.out _ (hc5.below (by exact (by repeat first | exact Below.refl _ _ | assumption | refine Below.drew ?_ | refine below_drewN ?_ _ | refine Below.calm ?_ (by first | exact Nat.le_refl _ | (simp; done) | (simp; omega) | omega) | refine Below.alloc ?_ (by first | exact Nat.le_refl _ | (simp; done) | (simp; omega) | omega) _ | refine Below.setCell ?_ (by first | exact Nat.le_refl _ | (simp; done) | (simp; omega) | omega) _)))).mono ?_); rintro e w6 ⟨rfl, hc6, hg6⟩; have hz6 : w5.heap.size ≤ w6.heap.size := (by have := hg6.size; (try simp at this); omega); first | (have y6 : Blk w6 w5.heap.size 44 #[.string ⟨#[]⟩, .string ⟨#[]⟩, .int .i64 0] := Blk.grown (Blk.new' rfl) hg6 (by simp; omega); have s0 := y6.cell 0; have s1 := y6.cell 1; have s2 := y6.cell 2; simp only [List.getElem?_toArray, List.getElem?_cons_succ, List.getElem?_cons_zero] at s0 s1 s2; have f0 := y6.frozen 0; have f1 := y6.frozen 1; have f2 := y6.frozen 2; have yl := y6.lt; have HY6 := Lib.hid y6; clear y6) | (have y6 : Blk w6 w4.heap.size 44 #[.string ⟨#[]⟩, .string ⟨#[]⟩, .int .i64 0] := Blk.grown y5 hg6 (by simp; omega); have s0 := y6.cell 0; have s1 := y6.cell 1; have s2 := y6.cell 2; simp only [List.getElem?_toArray, List.getElem?_cons_succ, List.getElem?_cons_zero] at s0 s1 s2; have f0 := y6.frozen 0; have f1 := y6.frozen 1; have f2 := y6.frozen 2; have yl := y6.lt; have HY6 := Lib.hid y6; clear y6) | skip)); refine ⟨_, rfl, ?_, ?_⟩; (· (repeat first | exact KeptS.refl _ _ | exact KeptS.of (only_of_below (by assumption) _) | assumption | refine KeptS.drew ?_ | refine KeptS.alloc ?_ _ | refine KeptS.grown ?_ (by assumption) | refine KeptS.below ?_ (by assumption) | refine KeptS.belowAt ?_ (by assumption) | (refine KeptS.setNew ?_ ?_ _; rotate_left; (· (first | (simp; done) | (simp; omega) | omega))) | (refine KeptS.setRow ?_ ?_ _; rotate_left; (· (simp; done))))); try simp only [Act.put, List.setIfInBounds_toArray, List.set_cons_succ, List.set_cons_zero])
          (refine wpT_call 86 (by rfl) (by rfl) (by rfl) Try.func86 (by kernel_rfl) (by rfl) (by rfl) ?_; (conv => arg 3; simp [Act.eval]); (first | ((with_reducible refine (CB9.out _ (HS4.out.cur.below (by exact (by repeat first | exact Below.refl _ _ | assumption | refine Below.drew ?_ | refine below_drewN ?_ _ | refine Below.calm ?_ (by first | exact Nat.le_refl _ | (simp; done) | (simp; omega) | omega) | refine Below.alloc ?_ (by first | exact Nat.le_refl _ | (simp; done) | (simp; omega) | omega) _ | refine Below.setCell ?_ (by first | exact Nat.le_refl _ | (simp; done) | (simp; omega) | omega) _)))).mono ?_); rintro e w5 ⟨rfl, hc5, hg5⟩; have hz5 : w4.heap.size ≤ w5.heap.size := (by have := hg5.size; (try simp at this); omega); try (have y5 : Blk w5 w4.heap.size 44 #[.string ⟨#[]⟩, .string ⟨#[]⟩, .int .i64 0] := Blk.grown (Blk.drew (Blk.new' rfl)) hg5 (by simp; omega))) | ((with_reducible refine (CT.out _ (hc5.below (by exact (by repeat first | exact Below.refl _ _ | assumption | refine Below.drew ?_ | refine below_drewN ?_ _ | refine Below.calm ?_ (by first | exact Nat.le_refl _ | (simp; done) | (simp; omega) | omega) | refine Below.alloc ?_ (by first | exact Nat.le_refl _ | (simp; done) | (simp; omega) | omega) _ | refine Below.setCell ?_ (by first | exact Nat.le_refl _ | (simp; done) | (simp; omega) | omega) _)))).mono ?_); rintro e w6 ⟨rfl, hc6, hg6⟩; have hz6 : w5.heap.size ≤ w6.heap.size := (by have := hg6.size; (try simp at this); omega); first | (have y6 : Blk w6 w5.heap.size 44 #[.string ⟨#[]⟩, .string ⟨#[]⟩, .int .i64 0] := Blk.grown (Blk.new' rfl) hg6 (by simp; omega); have s0 := y6.cell 0; have s1 := y6.cell 1; have s2 := y6.cell 2; simp only [List.getElem?_toArray, List.getElem?_cons_succ, List.getElem?_cons_zero] at s0 s1 s2; have f0 := y6.frozen 0; have f1 := y6.frozen 1; have f2 := y6.frozen 2; have yl := y6.lt; have HY6 := Lib.hid y6; clear y6) | (have y6 : Blk w6 w4.heap.size 44 #[.string ⟨#[]⟩, .string ⟨#[]⟩, .int .i64 0] := Blk.grown y5 hg6 (by simp; omega); have s0 := y6.cell 0; have s1 := y6.cell 1; have s2 := y6.cell 2; simp only [List.getElem?_toArray, List.getElem?_cons_succ, List.getElem?_cons_zero] at s0 s1 s2; have f0 := y6.frozen 0; have f1 := y6.frozen 1; have f2 := y6.frozen 2; have yl := y6.lt; have HY6 := Lib.hid y6; clear y6) | skip)); refine ⟨_, rfl, ?_, ?_⟩; (· (repeat first | exact KeptS.refl _ _ | exact KeptS.of (only_of_below (by assumption) _) | assumption | refine KeptS.drew ?_ | refine KeptS.alloc ?_ _ | refine KeptS.grown ?_ (by assumption) | refine KeptS.below ?_ (by assumption) | refine KeptS.belowAt ?_ (by assumption) | (refine KeptS.setNew ?_ ?_ _; rotate_left; (· (first | (simp; done) | (simp; omega) | omega))) | (refine KeptS.setRow ?_ ?_ _; rotate_left; (· (simp; done))))); try simp only [Act.put, List.setIfInBounds_toArray, List.set_cons_succ, List.set_cons_zero])
          (refine wpT_held (by rfl) (by rfl) ?_ (fun W hW => ?_) ?_; rotate_left; (· (obtain ⟨kq, rfl⟩ := hW; go_simp; try with_reducible rfl)); try simp only [Act.put, List.setIfInBounds_toArray, List.set_cons_succ, List.set_cons_zero])
          (refine wpT_step (by rfl) (by rfl) (fun K hK => ?_); go_simp; refine hK.out _ _ ?_ ?_; (· (repeat first | exact KeptS.refl _ _ | exact KeptS.of (only_of_below (by assumption) _) | assumption | refine KeptS.drew ?_ | refine KeptS.alloc ?_ _ | refine KeptS.grown ?_ (by assumption) | refine KeptS.below ?_ (by assumption) | refine KeptS.belowAt ?_ (by assumption) | (refine KeptS.setNew ?_ ?_ _; rotate_left; (· (first | (simp; done) | (simp; omega) | omega))) | (refine KeptS.setRow ?_ ?_ _; rotate_left; (· (simp; done))))); clear hK K; try simp only [Act.put])
          refine wpT_nil ?_
          try simp only [List.getElem_toArray, List.getElem_cons_succ, List.getElem_cons_zero]
        all_goals first
          | (obtain ⟨W7, hW7⟩ : ∃ W7, W7 = w6.alloc (.cells #[.string nm, .string t, .int .i64 0] 44) := ⟨_, rfl⟩
             rw [← hW7]
             have hgw7 : w4.grownBy W7 (some g) := (by rw [hW7]; exact only_alloc (only_trans (only_trans (only_drew (World.grownBy.refl w4 _)) hg5) hg6) _)
             have hc7 : CurAt W7 B g v code d4 := (by rw [hW7]; exact hc6.below ((Below.refl _ _).alloc (Nat.le_refl _) _))
             have y7 : Blk W7 w6.heap.size 44 #[.string nm, .string t, .int .i64 0] := (by rw [hW7]; exact Blk.new' rfl)
             obtain ⟨sb, hsb⟩ : ∃ sb, sb = w6.heap.size := ⟨_, rfl⟩
             rw [← hsb] at y7 ⊢
             have hsb4 : w4.heap.size ≤ sb := (by omega)
             have HC7 := Lib.hid hc7
             have HG7 := Lib.hid hgw7
             have HY7 := Lib.hid y7
             clear hW7 hgw7 hc7 y7 hsb hc5 hg5 hc6 hg6 hz5 hz6)
          | (obtain ⟨W7, hW7⟩ : ∃ W7, W7 = ((w6.setCell ⟨w5.heap.size, 0, none⟩ (.string nm)).setCell ⟨w5.heap.size, 1, none⟩ (.string t)).setCell ⟨w5.heap.size, 2, none⟩ (.int .i64 0) := ⟨_, rfl⟩
             rw [← hW7]
             have hg0 : w4.grownBy w6 (some g) := only_trans (only_alloc (only_trans (only_drew (World.grownBy.refl w4 _)) hg5) _) hg6
             have hgw7 : w4.grownBy W7 (some g) := (by rw [hW7]; exact only_setCell (only_setCell (only_setCell hg0 (.inr hz5) _) (.inr hz5) _) (.inr hz5) _)
             have hc7 : CurAt W7 B g v code d4 := (by rw [hW7]; exact hc6.keep (row := some w5.heap.size) (only_setCell (only_setCell (only_setCell (World.grownBy.refl w6 (some w5.heap.size)) (.inl rfl) _) (.inl rfl) _) (.inl rfl) _) (fun j hj => by cases hj; omega) (by simp; omega))
             have y7 : Blk W7 w5.heap.size 44 #[.string nm, .string t, .int .i64 0] := (by rw [hW7]; exact ((HY6.out.set_ 0 _).set_ 1 _).set_ 2 _)
             obtain ⟨sb, hsb⟩ : ∃ sb, sb = w5.heap.size := ⟨_, rfl⟩
             rw [← hsb] at y7 ⊢
             have hsb4 : w4.heap.size ≤ sb := (by omega)
             have HC7 := Lib.hid hc7
             have HG7 := Lib.hid hgw7
             have HY7 := Lib.hid y7
             clear hW7 hg0 hgw7 hc7 y7 hsb hc5 hg5 hc6 hg6 hz5 hz6 s0 s1 s2 f0 f1 f2 yl HY6)
          | (obtain ⟨W7, hW7⟩ : ∃ W7, W7 = ((w6.setCell ⟨w4.heap.size, 0, none⟩ (.string nm)).setCell ⟨w4.heap.size, 1, none⟩ (.string t)).setCell ⟨w4.heap.size, 2, none⟩ (.int .i64 0) := ⟨_, rfl⟩
             rw [← hW7]
             have hg0 : w4.grownBy w6 (some g) := only_trans (only_trans (only_drew (only_alloc (World.grownBy.refl w4 _) _)) hg5) hg6
             have hgw7 : w4.grownBy W7 (some g) := (by rw [hW7]; exact only_setCell (only_setCell (only_setCell hg0 (.inr (Nat.le_refl _)) _) (.inr (Nat.le_refl _)) _) (.inr (Nat.le_refl _)) _)
             have hc7 : CurAt W7 B g v code d4 := (by rw [hW7]; exact hc6.keep (row := some w4.heap.size) (only_setCell (only_setCell (only_setCell (World.grownBy.refl w6 (some w4.heap.size)) (.inl rfl) _) (.inl rfl) _) (.inl rfl) _) (fun j hj => by cases hj; omega) (by simp; omega))
             have y7 : Blk W7 w4.heap.size 44 #[.string nm, .string t, .int .i64 0] := (by rw [hW7]; exact ((HY6.out.set_ 0 _).set_ 1 _).set_ 2 _)
             obtain ⟨sb, hsb⟩ : ∃ sb, sb = w4.heap.size := ⟨_, rfl⟩
             rw [← hsb] at y7 ⊢
             have hsb4 : w4.heap.size ≤ sb := (by omega)
             have HC7 := Lib.hid hc7
             have HG7 := Lib.hid hgw7
             have HY7 := Lib.hid y7
             clear hW7 hg0 hgw7 hc7 y7 hsb hc5 hg5 hc6 hg6 hz5 hz6 s0 s1 s2 f0 f1 f2 yl HY6)
        all_goals
          have t1c := HY7.out.cell 1
          simp only [List.getElem?_toArray, List.getElem?_cons_succ, List.getElem?_cons_zero] at t1c
          have tl := HY7.out.lt
          go_wp2_with fail
          refine (CBP.out _ HC7.out).mono ?_
          rintro e w8 ⟨rfl, hc8, hg8⟩
          have y8 := HY7.out.grown hg8 (by simp; omega)
          have s1 := y8.cell 1
          have s2 := y8.cell 2
          simp only [List.getElem?_toArray, List.getElem?_cons_succ, List.getElem?_cons_zero] at s1 s2
          have f2 := y8.frozen 2
          have yl := y8.lt
          have HY8 := Lib.hid y8
          have HG8 := Lib.hid (only_trans HG7.out hg8)
          have HC8 := Lib.hid hc8
          clear t1c tl hc8 hg8 y8
          go_upto_region 9 with (fail)
          obtain ⟨W9, hW9⟩ : ∃ W9, W9 = w8.setCell ⟨sb, 2, none⟩ (.int .i64 p) := ⟨_, rfl⟩
          rw [← hW9]
          have HY9 := Lib.hid (show Blk W9 sb 44 #[.string nm, .string t, .int .i64 p] by rw [hW9]; exact HY8.out.set_ 2 _)
          have HC9 := Lib.hid (show CurAt W9 B g v code d5 by rw [hW9]; exact HC8.out.keep (row := some sb) (only_setCell (World.grownBy.refl w8 (some sb)) (.inl rfl) _) (fun j hj => by cases hj; omega) (by simp; omega))
          have HG9 := Lib.hid (show w4.grownBy W9 (some g) by rw [hW9]; exact only_setCell HG8.out (.inr hsb4) _)
          clear hW9 s1 s2 f2 yl HY8 HG8 HC8
          cases hq : q == 0 with
          | true =>
            have HFF := Lib.hid (show fileD code nm d2 = (⟨nm, t, (t.size : Int)⟩, d6) by rw [HF.out, if_pos (by simpa using hq)])
            have CQ := Lib.hid (CBQ.out _ HC9.out)
            try simp only at CQ
            rw [hq] at CQ
            clear hq
            go_wp2_with fail
            refine CQ.out.mono ?_
            rintro e w10 ⟨rfl, hc10, hg10⟩
            have y10 := HY9.out.grown hg10 (by simp; omega)
            have s0 := y10.cell 0
            have s1 := y10.cell 1
            have s2 := y10.cell 2
            simp only [List.getElem?_toArray, List.getElem?_cons_succ, List.getElem?_cons_zero] at s0 s1 s2
            have f2 := y10.frozen 2
            have yl := y10.lt
            have HY10 := Lib.hid y10
            have HG10 := Lib.hid (only_trans HG9.out hg10)
            have HC10 := Lib.hid hc10
            have HS10 := HS4.out.draw hc10 (only_trans HG9.out hg10)
            have o10 := HS10.kd.cell 0
            have o10l := HS10.kd.lt
            simp only [List.getElem?_toArray, List.getElem?_cons_succ, List.getElem?_cons_zero] at o10
            clear hc10 hg10 y10 CQ HS10
            go_upto_region 11 with (fail)
            obtain ⟨W11, hW11⟩ : ∃ W11, W11 = w10.setCell ⟨sb, 2, none⟩ (.int .i64 (t.size : Int)) := ⟨_, rfl⟩
            rw [← hW11]
            have y11 : Blk W11 sb 44 #[.string nm, .string t, .int .i64 (t.size : Int)] := by rw [hW11]; exact HY10.out.set_ 2 _
            have hc11 : CurAt W11 B g v code d6 := by rw [hW11]; exact HC10.out.keep (row := some sb) (only_setCell (World.grownBy.refl w10 (some sb)) (.inl rfl) _) (fun j hj => by cases hj; omega) (by simp; omega)
            have hgw11 : w4.grownBy W11 (some g) := by rw [hW11]; exact only_setCell HG10.out (.inr hsb4) _
            clear hW11 s0 s1 s2 f2 yl o10 o10l
            have s0 := y11.cell 0
            have s1 := y11.cell 1
            have s2 := y11.cell 2
            simp only [List.getElem?_toArray, List.getElem?_cons_succ, List.getElem?_cons_zero] at s0 s1 s2
            have yl := y11.lt
            have HS11 := Lib.hid (HS4.out.draw hc11 hgw11)
            have o11 := HS11.out.kd.cell 0
            have o11l := HS11.out.kd.lt
            simp only [List.getElem?_toArray, List.getElem?_cons_succ, List.getElem?_cons_zero] at o11
            clear y11 hc11 hgw11
            have hbs11 : w.heap.size + 3 ≤ W11.heap.size := by have := HS11.out.size; omega
            go_wp2_with (at_builtin; refine wpList_append_new rfl _ _ _ rfl (w.heap.size + 3) _ i0 _ 3 40 Try.underlying35 hii hz0 hz1 hz2 rfl (by decide) (.slice A l.length cc) l.length _ rfl HS11.out.own (Below.refl _ _) hbs11 _ 1 1 (by first | rfl | (refine slice_at_eq ?_; simp [World.setCell]; done)) rfl (fun u hu => filV_one [⟨nm, t, (t.size : Int)⟩] u hu) ⟨by omega, by omega⟩ ?_; intro v1 w12 hown12 hb12 hg12 hat12; obtain ⟨A6, c6, rfl, -, -⟩ := (Rd.of_own hown12).shape; have kd12 := (HS11.out.kd.alloc (.cells #[.string nm, .string t, .int .i64 (t.size : Int)] 44)).grown hg12 (Ne.symm (own_blk_ne (HS11.out.own.alloc (.cells #[.string nm, .string t, .int .i64 (t.size : Int)] 44)) (HS11.out.kd.alloc _) (by decide))); have kr12 := (HS11.out.kr.alloc (.cells #[.string nm, .string t, .int .i64 (t.size : Int)] 44)).grown hg12 (Ne.symm (own_blk_ne (HS11.out.own.alloc (.cells #[.string nm, .string t, .int .i64 (t.size : Int)] 44)) (HS11.out.kr.alloc _) (by decide))); have kn12 := (HS11.out.kn.alloc (.cells #[.string nm, .string t, .int .i64 (t.size : Int)] 44)).grown hg12 (Ne.symm (own_blk_ne (HS11.out.own.alloc (.cells #[.string nm, .string t, .int .i64 (t.size : Int)] 44)) (HS11.out.kn.alloc _) (by decide))); have hc12 := (HS11.out.cur.below ((Below.refl _ _).alloc (Nat.le_refl _) (.cells #[.string nm, .string t, .int .i64 (t.size : Int)] 44))).keep hg12 (fun j hj => by have := (HS11.out.own.lt j hj).1; omega) (fun e => by have := (HS11.out.own.lt g e.symm).1; omega); have g7 := kd12.cell 0; have gz7 := kd12.frozen 0; simp only [List.getElem?_toArray, List.getElem?_cons_zero] at g7; have g7l := kd12.lt; have HKD := Lib.hid kd12; have HKR := Lib.hid kr12; have HKN := Lib.hid kn12; have HC12 := Lib.hid hc12; have HO12 := Lib.hid hown12; have HG12 := Lib.hid hg12; clear hown12 hb12 hg12 hat12 kd12 kr12 kn12 hc12)
            have hgw12 : w.grownBy w12 (some g) := by
              have h1 := HS11.out.gw
              have h2 := HG12.out
              refine ⟨h2.os.trans h1.os, h2.tape.trans h1.tape, h2.output.trans h1.output, ?_, fun j hj hn => ?_⟩
              · have := h2.size; have := h1.size; simp at *; omega
              · have hz := h1.size
                exact (h2.block j (by simp; omega) (fun he => by have := (HS11.out.own.lt j he.symm).1; omega)).trans ((Below.heap_alloc _ _ j (by omega)).trans (h1.block j hj hn))
            have HGW := Lib.hid hgw12
            clear hgw12
            go_roundw
            case rel =>
              have hgo : w12.grownBy (w12.setCell ⟨w.heap.size + 1, 0, none⟩ (.slice A6 (l.length + 1) c6)) (some (w.heap.size + 1)) := only_setCell (World.grownBy.refl w12 _) (.inl rfl) _
              have hll : (l ++ [(⟨nm, t, (t.size : Int)⟩ : Fil)]).length = l.length + 1 := by simp
              refine ⟨k + 1, l ++ [⟨nm, t, (t.size : Int)⟩], d6, A6, c6, by omega, by rw [hll]; omega, by go_num, Lib.hid ?_, Lib.hid ⟨?_, ?_, ?_, ?_, ?_, ?_, hgl⟩⟩
              · rw [HN.out, HFF.out]
              · rw [hll, filV_append]
                exact own_grown HO12.out hgo (.inr (own_blk_ne HO12.out HKD.out (by decide)))
              · rw [hll]; exact HKD.out.set_ 0 _
              · exact HKR.out.far (show w.heap.size ≠ w.heap.size + 1 by omega) _
              · exact HKN.out.far (show w.heap.size + 2 ≠ w.heap.size + 1 by omega) _
              · exact HC12.out.keep hgo (fun j hj => by cases hj; omega) (by simp; omega)
              · exact only_setCell HGW.out (.inr (by simp)) _
            case measure => simp [intOf]; omega
          | false =>
            have HFF := Lib.hid (show fileD code nm d2 = (⟨nm, t, p⟩, d6) by rw [HF.out, if_neg (by simpa using hq)])
            have CQ := Lib.hid (CBQ.out _ HC9.out)
            try simp only at CQ
            rw [hq] at CQ
            clear hq
            go_wp2_with fail
            refine CQ.out.mono ?_
            rintro e w10 ⟨rfl, hc10, hg10⟩
            have y10 := HY9.out.grown hg10 (by simp; omega)
            have s0 := y10.cell 0
            have s1 := y10.cell 1
            have s2 := y10.cell 2
            simp only [List.getElem?_toArray, List.getElem?_cons_succ, List.getElem?_cons_zero] at s0 s1 s2
            have f2 := y10.frozen 2
            have yl := y10.lt
            have HY10 := Lib.hid y10
            have HG10 := Lib.hid (only_trans HG9.out hg10)
            have HC10 := Lib.hid hc10
            have HS10 := HS4.out.draw hc10 (only_trans HG9.out hg10)
            have o10 := HS10.kd.cell 0
            have o10l := HS10.kd.lt
            simp only [List.getElem?_toArray, List.getElem?_cons_succ, List.getElem?_cons_zero] at o10
            clear hc10 hg10 y10 CQ HS10
            have HS11 := Lib.hid (HS4.out.draw HC10.out HG10.out)
            have o11 := o10
            have o11l := o10l
            clear o10 o10l f2
            have hw11 : w10 = w10 := rfl
            have hbs11 : w.heap.size + 3 ≤ w10.heap.size := by have := HS11.out.size; omega
            go_wp2_with (at_builtin; refine wpList_append_new rfl _ _ _ rfl (w.heap.size + 3) _ i0 _ 3 40 Try.underlying35 hii hz0 hz1 hz2 rfl (by decide) (.slice A l.length cc) l.length _ rfl HS11.out.own (Below.refl _ _) hbs11 _ 1 1 (by first | rfl | (refine slice_at_eq ?_; simp [World.setCell]; done)) rfl (fun u hu => filV_one [⟨nm, t, p⟩] u hu) ⟨by omega, by omega⟩ ?_; intro v1 w12 hown12 hb12 hg12 hat12; obtain ⟨A6, c6, rfl, -, -⟩ := (Rd.of_own hown12).shape; have kd12 := (HS11.out.kd.alloc (.cells #[.string nm, .string t, .int .i64 p] 44)).grown hg12 (Ne.symm (own_blk_ne (HS11.out.own.alloc (.cells #[.string nm, .string t, .int .i64 p] 44)) (HS11.out.kd.alloc _) (by decide))); have kr12 := (HS11.out.kr.alloc (.cells #[.string nm, .string t, .int .i64 p] 44)).grown hg12 (Ne.symm (own_blk_ne (HS11.out.own.alloc (.cells #[.string nm, .string t, .int .i64 p] 44)) (HS11.out.kr.alloc _) (by decide))); have kn12 := (HS11.out.kn.alloc (.cells #[.string nm, .string t, .int .i64 p] 44)).grown hg12 (Ne.symm (own_blk_ne (HS11.out.own.alloc (.cells #[.string nm, .string t, .int .i64 p] 44)) (HS11.out.kn.alloc _) (by decide))); have hc12 := (HS11.out.cur.below ((Below.refl _ _).alloc (Nat.le_refl _) (.cells #[.string nm, .string t, .int .i64 p] 44))).keep hg12 (fun j hj => by have := (HS11.out.own.lt j hj).1; omega) (fun e => by have := (HS11.out.own.lt g e.symm).1; omega); have g7 := kd12.cell 0; have gz7 := kd12.frozen 0; simp only [List.getElem?_toArray, List.getElem?_cons_zero] at g7; have g7l := kd12.lt; have HKD := Lib.hid kd12; have HKR := Lib.hid kr12; have HKN := Lib.hid kn12; have HC12 := Lib.hid hc12; have HO12 := Lib.hid hown12; have HG12 := Lib.hid hg12; clear hown12 hb12 hg12 hat12 kd12 kr12 kn12 hc12)
            have hgw12 : w.grownBy w12 (some g) := by
              have h1 := HS11.out.gw
              have h2 := HG12.out
              refine ⟨h2.os.trans h1.os, h2.tape.trans h1.tape, h2.output.trans h1.output, ?_, fun j hj hn => ?_⟩
              · have := h2.size; have := h1.size; simp at *; omega
              · have hz := h1.size
                exact (h2.block j (by simp; omega) (fun he => by have := (HS11.out.own.lt j he.symm).1; omega)).trans ((Below.heap_alloc _ _ j (by omega)).trans (h1.block j hj hn))
            have HGW := Lib.hid hgw12
            clear hgw12
            go_roundw
            case rel =>
              have hgo : w12.grownBy (w12.setCell ⟨w.heap.size + 1, 0, none⟩ (.slice A6 (l.length + 1) c6)) (some (w.heap.size + 1)) := only_setCell (World.grownBy.refl w12 _) (.inl rfl) _
              have hll : (l ++ [(⟨nm, t, p⟩ : Fil)]).length = l.length + 1 := by simp
              refine ⟨k + 1, l ++ [⟨nm, t, p⟩], d6, A6, c6, by omega, by rw [hll]; omega, by go_num, Lib.hid ?_, Lib.hid ⟨?_, ?_, ?_, ?_, ?_, ?_, hgl⟩⟩
              · rw [HN.out, HFF.out]
              · rw [hll, filV_append]
                exact own_grown HO12.out hgo (.inr (own_blk_ne HO12.out HKD.out (by decide)))
              · rw [hll]; exact HKD.out.set_ 0 _
              · exact HKR.out.far (show w.heap.size ≠ w.heap.size + 1 by omega) _
              · exact HKN.out.far (show w.heap.size + 2 ≠ w.heap.size + 1 by omega) _
              · exact HC12.out.keep hgo (fun j hj => by cases hj; omega) (by simp; omega)
              · exact only_setCell HGW.out (.inr (by simp)) _
            case measure => simp [intOf]; omega
    · have HN := Lib.hid (show R = (l, d1) by
        rw [HG.out, show 5 - k = (4 - k) + 1 by omega, diskGo, HR1.out]
        dsimp only
        rw [if_neg hlt])
      have r0 := HS3.out.kr.cell 0
      have r1 := HS3.out.kr.frozen 0
      have rl := HS3.out.kr.lt
      have o3 := HS3.out.kd.cell 0
      have ol3 := HS3.out.kd.lt
      simp only [List.getElem?_toArray, List.getElem?_cons_succ, List.getElem?_cons_zero] at r0 o3
      go_wp2_with fail
      refine bodyPost_ret (v := .agg #[.slice A l.length cc]) (by simp [results, Try.results60, go_sem, r0, r1, o3]) rfl ?_
      have hgo : w3.grownBy (w3.setCell ⟨w.heap.size, 0, none⟩ (.slice A l.length cc)) (some w.heap.size) := only_setCell (World.grownBy.refl w3 _) (.inl rfl) _
      rw [HN.out]
      exact ⟨A, cc, rfl, own_more (own_grown HS3.out.own hgo (.inr (own_blk_ne HS3.out.own HS3.out.kr (by decide)))) (by omega), HS3.out.cur.keep hgo (fun j hj => by cases hj; omega) (by simp; omega), only_setCell HS3.out.gw (.inr (Nat.le_refl _)) _⟩
end Go.Proofs.Ythjkmefbjbfonaa

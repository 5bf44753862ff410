/- PutEntry, the program's and the reference's. -/
import Derived.Test.YthjkmefbjbfonaaInsert
import Derived.Test.YthjkmefbjbfonaaShelfOk
namespace Go.Proofs.Ythjkmefbjbfonaa
set_option linter.unusedSimpArgs false
open Go.RowKit Go.ChangeShapes Go.Deep

/-- The place at which e is put. -/
def putIdx (e : Ent) : List Ent → Nat
  | [] => 0
  | x :: r => if x.ahead e then putIdx e r + 1 else 0
theorem putIdx_le (e : Ent) : ∀ l : List Ent, putIdx e l ≤ l.length
  | [] => Nat.le_refl _
  | x :: r => by
    rw [putIdx]
    split
    · have := putIdx_le e r; simp; omega
    · exact Nat.zero_le _
def putEntryR (l : List Ent) (e : Ent) : List Ent := insAt l (putIdx e l) e
theorem putEntryR_length (l : List Ent) (e : Ent) : (putEntryR l e).length = l.length + 1 := insAt_length l e (putIdx_le e l)
def putRes (e : Ent) (l : List Ent) : Int := if putIdx e l < l.length then (putIdx e l : Int) else -1
theorem putIdx_drop {e : Ent} {l : List Ent} {k : Nat} (h : k < l.length) : putIdx e (l.drop k) = if l[k].ahead e then putIdx e (l.drop (k + 1)) + 1 else 0 := by
  rw [List.drop_eq_getElem_cons h, putIdx]

set_option maxHeartbeats 1000000 in
set_option maxRecDepth 100000 in
theorem putFunc_any (x e : Ent) (ge : Nat) (w : World) (he : Blk w ge 61 e.cs.toArray) :
    Calls Try.prog 83 #[(.agg #[.int .i64 x.prio, .int .i64 x.seq, .int .i64 x.run, .int .i64 x.task]), .pointer (some ⟨ge, 0, none⟩)] w fun r w' => r = .returned (.bool (!(x.ahead e))) ∧ Below w.heap.size w w' := by
  obtain ⟨ep, es, er, et⟩ := e
  obtain ⟨xp, xs, xr, xt⟩ := x
  have CE := Lib.hid (fun w => ahead_impl xp xs xr xt ep es er et w)
  have HA := Lib.hid (show (Ent.ahead ⟨xp, xs, xr, xt⟩ ⟨ep, es, er, et⟩) = aheadB xp xs ep es from rfl)
  have c0 := he.cell 0
  have c1 := he.cell 1
  have c2 := he.cell 2
  have c3 := he.cell 3
  simp only [Ent.cs, List.getElem?_toArray, List.getElem?_cons_zero, List.getElem?_cons_succ] at c0 c1 c2 c3
  have hl := he.lt
  rw [HA.out]
  clear he HA
  obtain ⟨r, hr⟩ : ∃ r, r = aheadB xp xs ep es := ⟨_, rfl⟩
  rw [← hr] at CE ⊢
  clear hr
  go_enter Try.func83, Try.ntmps83
  go_wp2_with fail
  refine (CE.out _).mono ?_
  rintro e w1 ⟨rfl, hb1⟩
  go_wp2_with fail
  go_ret
  exact ⟨rfl, Below.trans (by exact (by repeat first | exact Below.refl _ _ | assumption | refine Below.drew ?_ | refine below_drewN ?_ _ | refine Below.calm ?_ (by first | exact Nat.le_refl _ | (simp; done) | (simp; omega) | omega) | refine Below.alloc ?_ (by first | exact Nat.le_refl _ | (simp; done) | (simp; omega) | omega) _ | refine Below.setCell ?_ (by first | exact Nat.le_refl _ | (simp; done) | (simp; omega) | omega) _)) (hb1.mono (by simp))⟩

set_option maxHeartbeats 1000000 in
set_option maxRecDepth 100000 in
theorem indexFunc_any (v : Value) (l : List Ent) (e : Ent) (ge : Nat) (w : World) (h : Rd_entries w v l) (hn : l.length ≤ 2000000) (he : Blk w ge 61 e.cs.toArray) :
    Calls Try.prog 82 #[v, .func (Fn.func 83) #[] #[.pointer (some ⟨ge, 0, none⟩)]] w fun r w' => r = .returned (.int .i64 (putRes e l)) ∧ Below w.heap.size w w' := by
  obtain ⟨A1, c1, rfl, hnc1, hcm1⟩ := Rd.shape h
  unfold maxLen at hcm1
  have HE := Lib.hid he
  have hge := he.lt
  clear he
  go_enter Try.func82, Try.ntmps82
  go_wp2
  go_loopw [8] (fun u8 wr => ∃ k : Nat, k ≤ l.length ∧ u8 = .int .i64 k ∧ Hid (putIdx e l = k + putIdx e (l.drop k)) ∧ Below w.heap.size w wr) (fun u8 _ => l.length - (intOf u8).toNat)
  case atStart => exact ⟨0, Nat.zero_le _, rfl, Lib.hid (by simp), Below.refl _ _⟩
  case round =>
    obtain ⟨k, hk, rfl, hgo, hb⟩ := hrel
    by_cases hlt : k < l.length
    · obtain ⟨b1, o1, _, hv1, _, _, hl1, hc1⟩ := Rd.form h (by omega) (by omega)
      have hA1 : A1 = some ⟨b1, o1, none⟩ := by injection hv1
      subst hA1
      obtain ⟨x, hx⟩ : ∃ x, x = l[k] := ⟨_, rfl⟩
      obtain ⟨d0, d1, d2, d3⟩ := ent_cells hb hl1 hc1 hlt x hx
      have HD := Lib.hid (show putIdx e l = k + if x.ahead e then putIdx e (l.drop (k + 1)) + 1 else 0 by rw [hgo.out, putIdx_drop hlt, ← hx])
      have CP := Lib.hid (fun W (hW : Blk W ge 61 e.cs.toArray) => putFunc_any x e ge W hW)
      have HW := Lib.hid (HE.out.below hb hge)
      have hk0 : (0 : Int) ≤ (k : Int) := by omega
      have hk1 : (k : Int) < (l.length : Int) := by omega
      obtain ⟨r, hr⟩ : ∃ r, r = x.ahead e := ⟨_, rfl⟩
      rw [← hr] at HD CP
      clear hgo hx hv1 hc1 hr
      cases r with
      | true =>
        have HG := Lib.hid (show putIdx e l = (k + 1) + putIdx e (l.drop (k + 1)) by rw [HD.out, if_pos rfl]; omega)
        clear HD
        go_wp2_with fail
        refine (CP.out _ HW.out).mono ?_
        rintro e1 w1 ⟨rfl, hb1⟩
        go_wp2_with fail
        go_roundw
        case rel => exact ⟨k + 1, by omega, by go_num, HG, hb.trans (hb1.mono hb.size)⟩
        case measure => simp [intOf]; omega
      | false =>
        have HG := Lib.hid (show putRes e l = (k : Int) by
          have h0 : putIdx e l = k := by rw [HD.out, if_neg (by simp)]; rfl
          rw [putRes, h0, if_pos hlt])
        clear HD
        go_wp2_with fail
        refine (CP.out _ HW.out).mono ?_
        rintro e1 w1 ⟨rfl, hb1⟩
        go_wp2_with fail
        go_ret
        exact ⟨ret_int HG.out.symm, hb.trans (hb1.mono hb.size)⟩
    · have HG := Lib.hid (show putRes e l = -1 by
        have h0 : putIdx e l = k := by rw [hgo.out, List.drop_of_length_le (by omega)]; rfl
        rw [putRes, h0, if_neg hlt])
      clear hgo
      go_wp2_with fail
      go_ret
      exact ⟨ret_int HG.out.symm, hb⟩

set_option maxHeartbeats 2000000 in
set_option maxRecDepth 100000 in
theorem putEntry_impl (v : Value) (l : List Ent) (x : Ent) (w : World) (h : Rd_entries w v l) (hn : cost_entries l ≤ 1048576) :
    Calls Try.prog 40 #[v, (.agg #[.int .i64 x.prio, .int .i64 x.seq, .int .i64 x.run, .int .i64 x.task])] w (Gives1 (Own_entries · · · · (putEntryR l x)) w) := by
  unfold cost_entries at hn
  obtain ⟨A1, c1, rfl, hnc1, hcm1⟩ := Rd.shape h
  unfold maxLen at hcm1
  have H := Lib.hid h
  have hp := putIdx_le x l
  obtain ⟨p, hpp⟩ : ∃ p, p = putIdx x l := ⟨_, rfl⟩
  have HP := Lib.hid (show putEntryR l x = insAt l p x by rw [hpp]; rfl)
  have HRES := Lib.hid (show putRes x l = if p < l.length then (p : Int) else -1 by rw [hpp]; rfl)
  rw [← hpp] at hp
  clear h hpp
  obtain ⟨r, hr⟩ : ∃ r, r = putRes x l := ⟨_, rfl⟩
  obtain ⟨W0, hW0⟩ : ∃ W0, W0 = w.alloc (.cells #[.int .i64 x.prio, .int .i64 x.seq, .int .i64 x.run, .int .i64 x.task] 61) := ⟨_, rfl⟩
  have hk0 : Blk W0 w.heap.size 61 x.cs.toArray := by rw [hW0]; exact Blk.new _ _ _
  have hw0 : Below w.heap.size w W0 := by rw [hW0]; exact (Below.refl _ _).alloc (Nat.le_refl _) _
  have hl0 := hk0.lt
  have CI := Lib.hid (indexFunc_any _ l x w.heap.size W0 (Rd_entries.below H.out hw0) (by omega) hk0)
  rw [← hr] at CI
  have HK0 := Lib.hid hk0
  clear hk0
  have HRR := Lib.hid hr
  clear hr
  have key : ∀ W : World, Below W0.heap.size W0 W → ∃ c0 c1 c2 c3 : Value, c0 = .int .i64 x.prio ∧ c1 = .int .i64 x.seq ∧ c2 = .int .i64 x.run ∧ c3 = .int .i64 x.task ∧ W.cell? ⟨w.heap.size, 0, none⟩ = some c0 ∧ W.cell? ⟨w.heap.size, 1, none⟩ = some c1 ∧ W.cell? ⟨w.heap.size, 2, none⟩ = some c2 ∧ W.cell? ⟨w.heap.size, 3, none⟩ = some c3 := fun W hW => by
    have hk := HK0.out.below hW hl0
    have q0 := hk.cell 0
    have q1 := hk.cell 1
    have q2 := hk.cell 2
    have q3 := hk.cell 3
    simp only [Ent.cs, List.getElem?_toArray, List.getElem?_cons_zero, List.getElem?_cons_succ] at q0 q1 q2 q3
    exact ⟨_, _, _, _, rfl, rfl, rfl, rfl, q0, q1, q2, q3⟩
  have HKEY := Lib.hid key
  clear key
  by_cases hlt : p < l.length
  · have hrv : r = _ := HRR.out.trans HRES.out
    rw [if_pos hlt] at hrv
    subst hrv
    go_enter Try.func40, Try.ntmps40
    go_wp2_with fail
    rw [← hW0]
    refine CI.out.mono ?_
    rintro e w1 ⟨rfl, hb1⟩
    obtain ⟨c0, c1', c2, c3, e0, e1, e2, e3, q0, q1, q2, q3⟩ := HKEY.out w1 hb1
    subst e0 e1 e2 e3
    have hlw := hb1.size
    have hlz : w.heap.size < w1.heap.size := by omega
    have HL := Lib.hid (Rd_entries.below H.out (hw0.trans (hb1.mono hw0.size)))
    go_wp2_with fail
    refine wp_region_tree (.held 0 (.held 2 (.held 3 (.two 1 4 (.step 4 (.step 5 (.held 6 .nil))) (.step 1 (.step 5 (.held 6 .nil))))))) (by kernel_rfl) (by kernel_rfl) (KeptS _ none) (KeptS.refl _ _).drew ?_
    (refine wpT_held (by rfl) (by rfl) ?_ (fun W hW => ?_) ?_; rotate_left; (· (obtain ⟨kq, rfl⟩ := hW; go_simp; try with_reducible rfl)); try simp only [Act.put, List.setIfInBounds_toArray, List.set_cons_succ, List.set_cons_zero])
    (refine wpT_held (by rfl) (by rfl) ?_ (fun W hW => ?_) ?_; rotate_left; (· (obtain ⟨kq, rfl⟩ := hW; go_simp; try with_reducible rfl)); try simp only [Act.put, List.setIfInBounds_toArray, List.set_cons_succ, List.set_cons_zero])
    (refine wpT_held (by rfl) (by rfl) ?_ (fun W hW => ?_) ?_; rotate_left; (· (obtain ⟨kq, rfl⟩ := hW; go_simp; try with_reducible rfl)); try simp only [Act.put, List.setIfInBounds_toArray, List.set_cons_succ, List.set_cons_zero])
    refine wpT_two ?glx4 ?grx4
    case' glx4 =>
      (refine wpT_call 85 (by rfl) (by rfl) (by rfl) Try.func85 (by kernel_rfl) (by rfl) (by rfl) ?_; (conv => arg 3; simp [Act.eval]); (first | ((with_reducible refine (copyEntries_any (.slice A1 l.length c1) l _ (Rd_entries.below HL.out (by exact (by repeat first | exact Below.refl _ _ | assumption | refine Below.drew ?_ | refine below_drewN ?_ _ | refine Below.calm ?_ (by first | exact Nat.le_refl _ | (simp; done) | (simp; omega) | omega) | refine Below.alloc ?_ (by first | exact Nat.le_refl _ | (simp; done) | (simp; omega) | omega) _ | refine Below.setCell ?_ (by first | exact Nat.le_refl _ | (simp; done) | (simp; omega) | omega) _))) (by omega)).mono ?_); rintro e2 w2 ⟨a2, rfl, ⟨ho2, hz2, hy2⟩, hb2⟩) | ((with_reducible refine (insert_any a2 l p x _ w1.heap.size w1.heap.size (own_more ho2 (by simp; done)) (by have := hb2.size; simp at this ⊢; omega) (by omega) (by omega) (Blk.belowV (show Blk (w1.alloc (.cells #[.int .i64 x.prio, .int .i64 x.seq, .int .i64 x.run, .int .i64 x.task] 61)).drew w1.heap.size 61 x.cs.toArray from Blk.drew (Blk.new w1 _ _)) hb2) (fun e => by have := (ho2.lt _ e).1; simp at this; omega)).mono ?_); rintro e3 w3 ⟨a3, rfl, ho3, hg3⟩; have hk3 := (Below.refl w1.heap.size _).grown hg3 (by have := hb2.size; simp at this ⊢; omega) (fun g hg => by have := (ho2.lt g hg).1; simp at this; omega)) | ((with_reducible refine (insert_any a2 l p x _ w1.heap.size w2.heap.size (own_more (World.ownsRow.alloc ho2 _) (show w1.heap.size ≤ w1.drew.heap.size from Nat.le_refl _)) (by have := hb2.size; simp at this ⊢; omega) (by omega) (by omega) (show Blk (w2.alloc (.cells #[.int .i64 x.prio, .int .i64 x.seq, .int .i64 x.run, .int .i64 x.task] 61)) w2.heap.size 61 x.cs.toArray from Blk.new w2 _ _) (fun e => by have := (ho2.lt _ e).2; omega)).mono ?_); rintro e3 w3 ⟨a3, rfl, ho3, hg3⟩; have hk3 := (Below.refl w1.heap.size _).grown hg3 (by have := hb2.size; simp at this ⊢; omega) (fun g hg => by have := (ho2.lt g hg).1; simp at this; omega))); refine ⟨_, rfl, ?_, ?_⟩; (· (repeat first | exact KeptS.refl _ _ | exact KeptS.of (only_of_below (by assumption) _) | assumption | refine KeptS.drew ?_ | refine KeptS.alloc ?_ _ | refine KeptS.grown ?_ (by assumption) | refine KeptS.below ?_ (by assumption) | refine KeptS.belowAt ?_ (by assumption) | refine KeptS.setRow ?_ (by simp; done) _ | refine KeptS.setNew ?_ (by simp) _)); try simp only [Act.put, List.setIfInBounds_toArray, List.set_cons_succ, List.set_cons_zero])
      (refine wpT_step (by rfl) (by rfl) (fun K hK => ?_); go_simp; refine hK.out _ _ ?_ ?_; (· (repeat first | exact KeptS.refl _ _ | exact KeptS.of (only_of_below (by assumption) _) | assumption | refine KeptS.drew ?_ | refine KeptS.alloc ?_ _ | refine KeptS.grown ?_ (by assumption) | refine KeptS.below ?_ (by assumption) | refine KeptS.belowAt ?_ (by assumption) | refine KeptS.setRow ?_ (by simp; done) _ | refine KeptS.setNew ?_ (by simp) _)); clear hK K; try simp only [Act.put, List.setIfInBounds_toArray, List.set_cons_succ, List.set_cons_zero])
      (refine wpT_call 84 (by rfl) (by rfl) (by rfl) Try.func84 (by kernel_rfl) (by rfl) (by rfl) ?_; (conv => arg 3; simp [Act.eval]); (first | ((with_reducible refine (copyEntries_any (.slice A1 l.length c1) l _ (Rd_entries.below HL.out (by exact (by repeat first | exact Below.refl _ _ | assumption | refine Below.drew ?_ | refine below_drewN ?_ _ | refine Below.calm ?_ (by first | exact Nat.le_refl _ | (simp; done) | (simp; omega) | omega) | refine Below.alloc ?_ (by first | exact Nat.le_refl _ | (simp; done) | (simp; omega) | omega) _ | refine Below.setCell ?_ (by first | exact Nat.le_refl _ | (simp; done) | (simp; omega) | omega) _))) (by omega)).mono ?_); rintro e2 w2 ⟨a2, rfl, ⟨ho2, hz2, hy2⟩, hb2⟩) | ((with_reducible refine (insert_any a2 l p x _ w1.heap.size w1.heap.size (own_more ho2 (by simp; done)) (by have := hb2.size; simp at this ⊢; omega) (by omega) (by omega) (Blk.belowV (show Blk (w1.alloc (.cells #[.int .i64 x.prio, .int .i64 x.seq, .int .i64 x.run, .int .i64 x.task] 61)).drew w1.heap.size 61 x.cs.toArray from Blk.drew (Blk.new w1 _ _)) hb2) (fun e => by have := (ho2.lt _ e).1; simp at this; omega)).mono ?_); rintro e3 w3 ⟨a3, rfl, ho3, hg3⟩; have hk3 := (Below.refl w1.heap.size _).grown hg3 (by have := hb2.size; simp at this ⊢; omega) (fun g hg => by have := (ho2.lt g hg).1; simp at this; omega)) | ((with_reducible refine (insert_any a2 l p x _ w1.heap.size w2.heap.size (own_more (World.ownsRow.alloc ho2 _) (show w1.heap.size ≤ w1.drew.heap.size from Nat.le_refl _)) (by have := hb2.size; simp at this ⊢; omega) (by omega) (by omega) (show Blk (w2.alloc (.cells #[.int .i64 x.prio, .int .i64 x.seq, .int .i64 x.run, .int .i64 x.task] 61)) w2.heap.size 61 x.cs.toArray from Blk.new w2 _ _) (fun e => by have := (ho2.lt _ e).2; omega)).mono ?_); rintro e3 w3 ⟨a3, rfl, ho3, hg3⟩; have hk3 := (Below.refl w1.heap.size _).grown hg3 (by have := hb2.size; simp at this ⊢; omega) (fun g hg => by have := (ho2.lt g hg).1; simp at this; omega))); refine ⟨_, rfl, ?_, ?_⟩; (· (repeat first | exact KeptS.refl _ _ | exact KeptS.of (only_of_below (by assumption) _) | assumption | refine KeptS.drew ?_ | refine KeptS.alloc ?_ _ | refine KeptS.grown ?_ (by assumption) | refine KeptS.below ?_ (by assumption) | refine KeptS.belowAt ?_ (by assumption) | refine KeptS.setRow ?_ (by simp; done) _ | refine KeptS.setNew ?_ (by simp) _)); try simp only [Act.put, List.setIfInBounds_toArray, List.set_cons_succ, List.set_cons_zero])
      (refine wpT_held (by rfl) (by rfl) ?_ (fun W hW => ?_) ?_; rotate_left; (· (obtain ⟨kq, rfl⟩ := hW; go_simp; try with_reducible rfl)); try simp only [Act.put, List.setIfInBounds_toArray, List.set_cons_succ, List.set_cons_zero])
      refine wpT_nil ?_
      try simp only [List.getElem_toArray, List.getElem_cons_succ, List.getElem_cons_zero]
    case' grx4 =>
      (refine wpT_step (by rfl) (by rfl) (fun K hK => ?_); go_simp; refine hK.out _ _ ?_ ?_; (· (repeat first | exact KeptS.refl _ _ | exact KeptS.of (only_of_below (by assumption) _) | assumption | refine KeptS.drew ?_ | refine KeptS.alloc ?_ _ | refine KeptS.grown ?_ (by assumption) | refine KeptS.below ?_ (by assumption) | refine KeptS.belowAt ?_ (by assumption) | refine KeptS.setRow ?_ (by simp; done) _ | refine KeptS.setNew ?_ (by simp) _)); clear hK K; try simp only [Act.put, List.setIfInBounds_toArray, List.set_cons_succ, List.set_cons_zero])
      (refine wpT_call 85 (by rfl) (by rfl) (by rfl) Try.func85 (by kernel_rfl) (by rfl) (by rfl) ?_; (conv => arg 3; simp [Act.eval]); (first | ((with_reducible refine (copyEntries_any (.slice A1 l.length c1) l _ (Rd_entries.below HL.out (by exact (by repeat first | exact Below.refl _ _ | assumption | refine Below.drew ?_ | refine below_drewN ?_ _ | refine Below.calm ?_ (by first | exact Nat.le_refl _ | (simp; done) | (simp; omega) | omega) | refine Below.alloc ?_ (by first | exact Nat.le_refl _ | (simp; done) | (simp; omega) | omega) _ | refine Below.setCell ?_ (by first | exact Nat.le_refl _ | (simp; done) | (simp; omega) | omega) _))) (by omega)).mono ?_); rintro e2 w2 ⟨a2, rfl, ⟨ho2, hz2, hy2⟩, hb2⟩) | ((with_reducible refine (insert_any a2 l p x _ w1.heap.size w1.heap.size (own_more ho2 (by simp; done)) (by have := hb2.size; simp at this ⊢; omega) (by omega) (by omega) (Blk.belowV (show Blk (w1.alloc (.cells #[.int .i64 x.prio, .int .i64 x.seq, .int .i64 x.run, .int .i64 x.task] 61)).drew w1.heap.size 61 x.cs.toArray from Blk.drew (Blk.new w1 _ _)) hb2) (fun e => by have := (ho2.lt _ e).1; simp at this; omega)).mono ?_); rintro e3 w3 ⟨a3, rfl, ho3, hg3⟩; have hk3 := (Below.refl w1.heap.size _).grown hg3 (by have := hb2.size; simp at this ⊢; omega) (fun g hg => by have := (ho2.lt g hg).1; simp at this; omega)) | ((with_reducible refine (insert_any a2 l p x _ w1.heap.size w2.heap.size (own_more (World.ownsRow.alloc ho2 _) (show w1.heap.size ≤ w1.drew.heap.size from Nat.le_refl _)) (by have := hb2.size; simp at this ⊢; omega) (by omega) (by omega) (show Blk (w2.alloc (.cells #[.int .i64 x.prio, .int .i64 x.seq, .int .i64 x.run, .int .i64 x.task] 61)) w2.heap.size 61 x.cs.toArray from Blk.new w2 _ _) (fun e => by have := (ho2.lt _ e).2; omega)).mono ?_); rintro e3 w3 ⟨a3, rfl, ho3, hg3⟩; have hk3 := (Below.refl w1.heap.size _).grown hg3 (by have := hb2.size; simp at this ⊢; omega) (fun g hg => by have := (ho2.lt g hg).1; simp at this; omega))); refine ⟨_, rfl, ?_, ?_⟩; (· (repeat first | exact KeptS.refl _ _ | exact KeptS.of (only_of_below (by assumption) _) | assumption | refine KeptS.drew ?_ | refine KeptS.alloc ?_ _ | refine KeptS.grown ?_ (by assumption) | refine KeptS.below ?_ (by assumption) | refine KeptS.belowAt ?_ (by assumption) | refine KeptS.setRow ?_ (by simp; done) _ | refine KeptS.setNew ?_ (by simp) _)); try simp only [Act.put, List.setIfInBounds_toArray, List.set_cons_succ, List.set_cons_zero])
      (refine wpT_call 84 (by rfl) (by rfl) (by rfl) Try.func84 (by kernel_rfl) (by rfl) (by rfl) ?_; (conv => arg 3; simp [Act.eval]); (first | ((with_reducible refine (copyEntries_any (.slice A1 l.length c1) l _ (Rd_entries.below HL.out (by exact (by repeat first | exact Below.refl _ _ | assumption | refine Below.drew ?_ | refine below_drewN ?_ _ | refine Below.calm ?_ (by first | exact Nat.le_refl _ | (simp; done) | (simp; omega) | omega) | refine Below.alloc ?_ (by first | exact Nat.le_refl _ | (simp; done) | (simp; omega) | omega) _ | refine Below.setCell ?_ (by first | exact Nat.le_refl _ | (simp; done) | (simp; omega) | omega) _))) (by omega)).mono ?_); rintro e2 w2 ⟨a2, rfl, ⟨ho2, hz2, hy2⟩, hb2⟩) | ((with_reducible refine (insert_any a2 l p x _ w1.heap.size w1.heap.size (own_more ho2 (by simp; done)) (by have := hb2.size; simp at this ⊢; omega) (by omega) (by omega) (Blk.belowV (show Blk (w1.alloc (.cells #[.int .i64 x.prio, .int .i64 x.seq, .int .i64 x.run, .int .i64 x.task] 61)).drew w1.heap.size 61 x.cs.toArray from Blk.drew (Blk.new w1 _ _)) hb2) (fun e => by have := (ho2.lt _ e).1; simp at this; omega)).mono ?_); rintro e3 w3 ⟨a3, rfl, ho3, hg3⟩; have hk3 := (Below.refl w1.heap.size _).grown hg3 (by have := hb2.size; simp at this ⊢; omega) (fun g hg => by have := (ho2.lt g hg).1; simp at this; omega)) | ((with_reducible refine (insert_any a2 l p x _ w1.heap.size w2.heap.size (own_more (World.ownsRow.alloc ho2 _) (show w1.heap.size ≤ w1.drew.heap.size from Nat.le_refl _)) (by have := hb2.size; simp at this ⊢; omega) (by omega) (by omega) (show Blk (w2.alloc (.cells #[.int .i64 x.prio, .int .i64 x.seq, .int .i64 x.run, .int .i64 x.task] 61)) w2.heap.size 61 x.cs.toArray from Blk.new w2 _ _) (fun e => by have := (ho2.lt _ e).2; omega)).mono ?_); rintro e3 w3 ⟨a3, rfl, ho3, hg3⟩; have hk3 := (Below.refl w1.heap.size _).grown hg3 (by have := hb2.size; simp at this ⊢; omega) (fun g hg => by have := (ho2.lt g hg).1; simp at this; omega))); refine ⟨_, rfl, ?_, ?_⟩; (· (repeat first | exact KeptS.refl _ _ | exact KeptS.of (only_of_below (by assumption) _) | assumption | refine KeptS.drew ?_ | refine KeptS.alloc ?_ _ | refine KeptS.grown ?_ (by assumption) | refine KeptS.below ?_ (by assumption) | refine KeptS.belowAt ?_ (by assumption) | refine KeptS.setRow ?_ (by simp; done) _ | refine KeptS.setNew ?_ (by simp) _)); try simp only [Act.put, List.setIfInBounds_toArray, List.set_cons_succ, List.set_cons_zero])
      (refine wpT_held (by rfl) (by rfl) ?_ (fun W hW => ?_) ?_; rotate_left; (· (obtain ⟨kq, rfl⟩ := hW; go_simp; try with_reducible rfl)); try simp only [Act.put, List.setIfInBounds_toArray, List.set_cons_succ, List.set_cons_zero])
      refine wpT_nil ?_
      try simp only [List.getElem_toArray, List.getElem_cons_succ, List.getElem_cons_zero]
    all_goals
      go_wp2_with fail
      go_ret
      have hw1 : Below w.heap.size w w1 := hw0.trans (hb1.mono hw0.size)
      have hw3 : Below w.heap.size w w3 := by
        refine Below.trans ?_ (hk3.mono hw1.size)
        first
          | exact hw1.drew.trans (hb2.mono hw1.size)
          | exact (hw1.drew.trans (hb2.mono hw1.size)).alloc (Nat.le_trans hw1.size hb2.size) _
          | exact ((hw1.alloc hw1.size _).drew).trans (hb2.mono (by have := hw1.size; simp; omega))
      rw [HP.out]
      refine ⟨a3, rfl, ?_, hw3⟩
      have hl := insAt_length l x hp
      unfold Own_entries
      rw [hl]
      exact OwnS.mono (OwnS.of_own ho3) hw1.size (Nat.le_refl _) (Nat.le_refl _)
  · have hrv : r = _ := HRR.out.trans HRES.out
    rw [if_neg hlt] at hrv
    subst hrv
    obtain rfl : p = l.length := by omega
    go_enter Try.func40, Try.ntmps40
    go_wp2_with fail
    rw [← hW0]
    refine CI.out.mono ?_
    rintro e w1 ⟨rfl, hb1⟩
    obtain ⟨c0, c1', c2, c3, e0, e1, e2, e3, q0, q1, q2, q3⟩ := HKEY.out w1 hb1
    subst e0 e1 e2 e3
    have hlw := hb1.size
    have hlz : w.heap.size < w1.heap.size := by omega
    have HL := Lib.hid (Rd_entries.below H.out (hw0.trans (hb1.mono hw0.size)))
    go_wp2_with fail
    refine wp_region_tree (.held 0 (.held 2 (.held 3 (.two 1 4 (.step 4 (.step 5 (.held 6 .nil))) (.step 1 (.step 5 (.held 6 .nil))))))) (by kernel_rfl) (by kernel_rfl) (KeptS _ none) (KeptS.refl _ _).drew ?_
    (refine wpT_held (by rfl) (by rfl) ?_ (fun W hW => ?_) ?_; rotate_left; (· (obtain ⟨kq, rfl⟩ := hW; go_simp; try with_reducible rfl)); try simp only [Act.put, List.setIfInBounds_toArray, List.set_cons_succ, List.set_cons_zero])
    (refine wpT_held (by rfl) (by rfl) ?_ (fun W hW => ?_) ?_; rotate_left; (· (obtain ⟨kq, rfl⟩ := hW; go_simp; try with_reducible rfl)); try simp only [Act.put, List.setIfInBounds_toArray, List.set_cons_succ, List.set_cons_zero])
    (refine wpT_held (by rfl) (by rfl) ?_ (fun W hW => ?_) ?_; rotate_left; (· (obtain ⟨kq, rfl⟩ := hW; go_simp; try with_reducible rfl)); try simp only [Act.put, List.setIfInBounds_toArray, List.set_cons_succ, List.set_cons_zero])
    refine wpT_two ?glx5 ?grx5
    case' glx5 =>
      (refine wpT_call 85 (by rfl) (by rfl) (by rfl) Try.func85 (by kernel_rfl) (by rfl) (by rfl) ?_; (conv => arg 3; simp [Act.eval]); (first | ((with_reducible refine (copyEntries_any (.slice A1 l.length c1) l _ (Rd_entries.below HL.out (by exact (by repeat first | exact Below.refl _ _ | assumption | refine Below.drew ?_ | refine below_drewN ?_ _ | refine Below.calm ?_ (by first | exact Nat.le_refl _ | (simp; done) | (simp; omega) | omega) | refine Below.alloc ?_ (by first | exact Nat.le_refl _ | (simp; done) | (simp; omega) | omega) _ | refine Below.setCell ?_ (by first | exact Nat.le_refl _ | (simp; done) | (simp; omega) | omega) _))) (by omega)).mono ?_); rintro e2 w2 ⟨a2, rfl, ⟨ho2, hz2, hy2⟩, hb2⟩) | ((with_reducible refine (insert_any a2 l l.length x _ w1.heap.size w1.heap.size (own_more ho2 (by simp; done)) (by have := hb2.size; simp at this ⊢; omega) (by omega) (by omega) (Blk.belowV (show Blk (w1.alloc (.cells #[.int .i64 x.prio, .int .i64 x.seq, .int .i64 x.run, .int .i64 x.task] 61)).drew w1.heap.size 61 x.cs.toArray from Blk.drew (Blk.new w1 _ _)) hb2) (fun e => by have := (ho2.lt _ e).1; simp at this; omega)).mono ?_); rintro e3 w3 ⟨a3, rfl, ho3, hg3⟩; have hk3 := (Below.refl w1.heap.size _).grown hg3 (by have := hb2.size; simp at this ⊢; omega) (fun g hg => by have := (ho2.lt g hg).1; simp at this; omega)) | ((with_reducible refine (insert_any a2 l l.length x _ w1.heap.size w2.heap.size (own_more (World.ownsRow.alloc ho2 _) (show w1.heap.size ≤ w1.drew.heap.size from Nat.le_refl _)) (by have := hb2.size; simp at this ⊢; omega) (by omega) (by omega) (show Blk (w2.alloc (.cells #[.int .i64 x.prio, .int .i64 x.seq, .int .i64 x.run, .int .i64 x.task] 61)) w2.heap.size 61 x.cs.toArray from Blk.new w2 _ _) (fun e => by have := (ho2.lt _ e).2; omega)).mono ?_); rintro e3 w3 ⟨a3, rfl, ho3, hg3⟩; have hk3 := (Below.refl w1.heap.size _).grown hg3 (by have := hb2.size; simp at this ⊢; omega) (fun g hg => by have := (ho2.lt g hg).1; simp at this; omega))); refine ⟨_, rfl, ?_, ?_⟩; (· (repeat first | exact KeptS.refl _ _ | exact KeptS.of (only_of_below (by assumption) _) | assumption | refine KeptS.drew ?_ | refine KeptS.alloc ?_ _ | refine KeptS.grown ?_ (by assumption) | refine KeptS.below ?_ (by assumption) | refine KeptS.belowAt ?_ (by assumption) | refine KeptS.setRow ?_ (by simp; done) _ | refine KeptS.setNew ?_ (by simp) _)); try simp only [Act.put, List.setIfInBounds_toArray, List.set_cons_succ, List.set_cons_zero])
      (refine wpT_step (by rfl) (by rfl) (fun K hK => ?_); go_simp; refine hK.out _ _ ?_ ?_; (· (repeat first | exact KeptS.refl _ _ | exact KeptS.of (only_of_below (by assumption) _) | assumption | refine KeptS.drew ?_ | refine KeptS.alloc ?_ _ | refine KeptS.grown ?_ (by assumption) | refine KeptS.below ?_ (by assumption) | refine KeptS.belowAt ?_ (by assumption) | refine KeptS.setRow ?_ (by simp; done) _ | refine KeptS.setNew ?_ (by simp) _)); clear hK K; try simp only [Act.put, List.setIfInBounds_toArray, List.set_cons_succ, List.set_cons_zero])
      (refine wpT_call 84 (by rfl) (by rfl) (by rfl) Try.func84 (by kernel_rfl) (by rfl) (by rfl) ?_; (conv => arg 3; simp [Act.eval]); (first | ((with_reducible refine (copyEntries_any (.slice A1 l.length c1) l _ (Rd_entries.below HL.out (by exact (by repeat first | exact Below.refl _ _ | assumption | refine Below.drew ?_ | refine below_drewN ?_ _ | refine Below.calm ?_ (by first | exact Nat.le_refl _ | (simp; done) | (simp; omega) | omega) | refine Below.alloc ?_ (by first | exact Nat.le_refl _ | (simp; done) | (simp; omega) | omega) _ | refine Below.setCell ?_ (by first | exact Nat.le_refl _ | (simp; done) | (simp; omega) | omega) _))) (by omega)).mono ?_); rintro e2 w2 ⟨a2, rfl, ⟨ho2, hz2, hy2⟩, hb2⟩) | ((with_reducible refine (insert_any a2 l l.length x _ w1.heap.size w1.heap.size (own_more ho2 (by simp; done)) (by have := hb2.size; simp at this ⊢; omega) (by omega) (by omega) (Blk.belowV (show Blk (w1.alloc (.cells #[.int .i64 x.prio, .int .i64 x.seq, .int .i64 x.run, .int .i64 x.task] 61)).drew w1.heap.size 61 x.cs.toArray from Blk.drew (Blk.new w1 _ _)) hb2) (fun e => by have := (ho2.lt _ e).1; simp at this; omega)).mono ?_); rintro e3 w3 ⟨a3, rfl, ho3, hg3⟩; have hk3 := (Below.refl w1.heap.size _).grown hg3 (by have := hb2.size; simp at this ⊢; omega) (fun g hg => by have := (ho2.lt g hg).1; simp at this; omega)) | ((with_reducible refine (insert_any a2 l l.length x _ w1.heap.size w2.heap.size (own_more (World.ownsRow.alloc ho2 _) (show w1.heap.size ≤ w1.drew.heap.size from Nat.le_refl _)) (by have := hb2.size; simp at this ⊢; omega) (by omega) (by omega) (show Blk (w2.alloc (.cells #[.int .i64 x.prio, .int .i64 x.seq, .int .i64 x.run, .int .i64 x.task] 61)) w2.heap.size 61 x.cs.toArray from Blk.new w2 _ _) (fun e => by have := (ho2.lt _ e).2; omega)).mono ?_); rintro e3 w3 ⟨a3, rfl, ho3, hg3⟩; have hk3 := (Below.refl w1.heap.size _).grown hg3 (by have := hb2.size; simp at this ⊢; omega) (fun g hg => by have := (ho2.lt g hg).1; simp at this; omega))); refine ⟨_, rfl, ?_, ?_⟩; (· (repeat first | exact KeptS.refl _ _ | exact KeptS.of (only_of_below (by assumption) _) | assumption | refine KeptS.drew ?_ | refine KeptS.alloc ?_ _ | refine KeptS.grown ?_ (by assumption) | refine KeptS.below ?_ (by assumption) | refine KeptS.belowAt ?_ (by assumption) | refine KeptS.setRow ?_ (by simp; done) _ | refine KeptS.setNew ?_ (by simp) _)); try simp only [Act.put, List.setIfInBounds_toArray, List.set_cons_succ, List.set_cons_zero])
      (refine wpT_held (by rfl) (by rfl) ?_ (fun W hW => ?_) ?_; rotate_left; (· (obtain ⟨kq, rfl⟩ := hW; go_simp; try with_reducible rfl)); try simp only [Act.put, List.setIfInBounds_toArray, List.set_cons_succ, List.set_cons_zero])
      refine wpT_nil ?_
      try simp only [List.getElem_toArray, List.getElem_cons_succ, List.getElem_cons_zero]
    case' grx5 =>
      (refine wpT_step (by rfl) (by rfl) (fun K hK => ?_); go_simp; refine hK.out _ _ ?_ ?_; (· (repeat first | exact KeptS.refl _ _ | exact KeptS.of (only_of_below (by assumption) _) | assumption | refine KeptS.drew ?_ | refine KeptS.alloc ?_ _ | refine KeptS.grown ?_ (by assumption) | refine KeptS.below ?_ (by assumption) | refine KeptS.belowAt ?_ (by assumption) | refine KeptS.setRow ?_ (by simp; done) _ | refine KeptS.setNew ?_ (by simp) _)); clear hK K; try simp only [Act.put, List.setIfInBounds_toArray, List.set_cons_succ, List.set_cons_zero])
      (refine wpT_call 85 (by rfl) (by rfl) (by rfl) Try.func85 (by kernel_rfl) (by rfl) (by rfl) ?_; (conv => arg 3; simp [Act.eval]); (first | ((with_reducible refine (copyEntries_any (.slice A1 l.length c1) l _ (Rd_entries.below HL.out (by exact (by repeat first | exact Below.refl _ _ | assumption | refine Below.drew ?_ | refine below_drewN ?_ _ | refine Below.calm ?_ (by first | exact Nat.le_refl _ | (simp; done) | (simp; omega) | omega) | refine Below.alloc ?_ (by first | exact Nat.le_refl _ | (simp; done) | (simp; omega) | omega) _ | refine Below.setCell ?_ (by first | exact Nat.le_refl _ | (simp; done) | (simp; omega) | omega) _))) (by omega)).mono ?_); rintro e2 w2 ⟨a2, rfl, ⟨ho2, hz2, hy2⟩, hb2⟩) | ((with_reducible refine (insert_any a2 l l.length x _ w1.heap.size w1.heap.size (own_more ho2 (by simp; done)) (by have := hb2.size; simp at this ⊢; omega) (by omega) (by omega) (Blk.belowV (show Blk (w1.alloc (.cells #[.int .i64 x.prio, .int .i64 x.seq, .int .i64 x.run, .int .i64 x.task] 61)).drew w1.heap.size 61 x.cs.toArray from Blk.drew (Blk.new w1 _ _)) hb2) (fun e => by have := (ho2.lt _ e).1; simp at this; omega)).mono ?_); rintro e3 w3 ⟨a3, rfl, ho3, hg3⟩; have hk3 := (Below.refl w1.heap.size _).grown hg3 (by have := hb2.size; simp at this ⊢; omega) (fun g hg => by have := (ho2.lt g hg).1; simp at this; omega)) | ((with_reducible refine (insert_any a2 l l.length x _ w1.heap.size w2.heap.size (own_more (World.ownsRow.alloc ho2 _) (show w1.heap.size ≤ w1.drew.heap.size from Nat.le_refl _)) (by have := hb2.size; simp at this ⊢; omega) (by omega) (by omega) (show Blk (w2.alloc (.cells #[.int .i64 x.prio, .int .i64 x.seq, .int .i64 x.run, .int .i64 x.task] 61)) w2.heap.size 61 x.cs.toArray from Blk.new w2 _ _) (fun e => by have := (ho2.lt _ e).2; omega)).mono ?_); rintro e3 w3 ⟨a3, rfl, ho3, hg3⟩; have hk3 := (Below.refl w1.heap.size _).grown hg3 (by have := hb2.size; simp at this ⊢; omega) (fun g hg => by have := (ho2.lt g hg).1; simp at this; omega))); refine ⟨_, rfl, ?_, ?_⟩; (· (repeat first | exact KeptS.refl _ _ | exact KeptS.of (only_of_below (by assumption) _) | assumption | refine KeptS.drew ?_ | refine KeptS.alloc ?_ _ | refine KeptS.grown ?_ (by assumption) | refine KeptS.below ?_ (by assumption) | refine KeptS.belowAt ?_ (by assumption) | refine KeptS.setRow ?_ (by simp; done) _ | refine KeptS.setNew ?_ (by simp) _)); try simp only [Act.put, List.setIfInBounds_toArray, List.set_cons_succ, List.set_cons_zero])
      (refine wpT_call 84 (by rfl) (by rfl) (by rfl) Try.func84 (by kernel_rfl) (by rfl) (by rfl) ?_; (conv => arg 3; simp [Act.eval]); (first | ((with_reducible refine (copyEntries_any (.slice A1 l.length c1) l _ (Rd_entries.below HL.out (by exact (by repeat first | exact Below.refl _ _ | assumption | refine Below.drew ?_ | refine below_drewN ?_ _ | refine Below.calm ?_ (by first | exact Nat.le_refl _ | (simp; done) | (simp; omega) | omega) | refine Below.alloc ?_ (by first | exact Nat.le_refl _ | (simp; done) | (simp; omega) | omega) _ | refine Below.setCell ?_ (by first | exact Nat.le_refl _ | (simp; done) | (simp; omega) | omega) _))) (by omega)).mono ?_); rintro e2 w2 ⟨a2, rfl, ⟨ho2, hz2, hy2⟩, hb2⟩) | ((with_reducible refine (insert_any a2 l l.length x _ w1.heap.size w1.heap.size (own_more ho2 (by simp; done)) (by have := hb2.size; simp at this ⊢; omega) (by omega) (by omega) (Blk.belowV (show Blk (w1.alloc (.cells #[.int .i64 x.prio, .int .i64 x.seq, .int .i64 x.run, .int .i64 x.task] 61)).drew w1.heap.size 61 x.cs.toArray from Blk.drew (Blk.new w1 _ _)) hb2) (fun e => by have := (ho2.lt _ e).1; simp at this; omega)).mono ?_); rintro e3 w3 ⟨a3, rfl, ho3, hg3⟩; have hk3 := (Below.refl w1.heap.size _).grown hg3 (by have := hb2.size; simp at this ⊢; omega) (fun g hg => by have := (ho2.lt g hg).1; simp at this; omega)) | ((with_reducible refine (insert_any a2 l l.length x _ w1.heap.size w2.heap.size (own_more (World.ownsRow.alloc ho2 _) (show w1.heap.size ≤ w1.drew.heap.size from Nat.le_refl _)) (by have := hb2.size; simp at this ⊢; omega) (by omega) (by omega) (show Blk (w2.alloc (.cells #[.int .i64 x.prio, .int .i64 x.seq, .int .i64 x.run, .int .i64 x.task] 61)) w2.heap.size 61 x.cs.toArray from Blk.new w2 _ _) (fun e => by have := (ho2.lt _ e).2; omega)).mono ?_); rintro e3 w3 ⟨a3, rfl, ho3, hg3⟩; have hk3 := (Below.refl w1.heap.size _).grown hg3 (by have := hb2.size; simp at this ⊢; omega) (fun g hg => by have := (ho2.lt g hg).1; simp at this; omega))); refine ⟨_, rfl, ?_, ?_⟩; (· (repeat first | exact KeptS.refl _ _ | exact KeptS.of (only_of_below (by assumption) _) | assumption | refine KeptS.drew ?_ | refine KeptS.alloc ?_ _ | refine KeptS.grown ?_ (by assumption) | refine KeptS.below ?_ (by assumption) | refine KeptS.belowAt ?_ (by assumption) | refine KeptS.setRow ?_ (by simp; done) _ | refine KeptS.setNew ?_ (by simp) _)); try simp only [Act.put, List.setIfInBounds_toArray, List.set_cons_succ, List.set_cons_zero])
      (refine wpT_held (by rfl) (by rfl) ?_ (fun W hW => ?_) ?_; rotate_left; (· (obtain ⟨kq, rfl⟩ := hW; go_simp; try with_reducible rfl)); try simp only [Act.put, List.setIfInBounds_toArray, List.set_cons_succ, List.set_cons_zero])
      refine wpT_nil ?_
      try simp only [List.getElem_toArray, List.getElem_cons_succ, List.getElem_cons_zero]
    all_goals
      go_wp2_with fail
      go_ret
      have hw1 : Below w.heap.size w w1 := hw0.trans (hb1.mono hw0.size)
      have hw3 : Below w.heap.size w w3 := by
        refine Below.trans ?_ (hk3.mono hw1.size)
        first
          | exact hw1.drew.trans (hb2.mono hw1.size)
          | exact (hw1.drew.trans (hb2.mono hw1.size)).alloc (Nat.le_trans hw1.size hb2.size) _
          | exact ((hw1.alloc hw1.size _).drew).trans (hb2.mono (by have := hw1.size; simp; omega))
      rw [HP.out]
      refine ⟨a3, rfl, ?_, hw3⟩
      have hl := insAt_length l x hp
      unfold Own_entries
      rw [hl]
      exact OwnS.mono (OwnS.of_own ho3) hw1.size (Nat.le_refl _) (Nat.le_refl _)
end Go.Proofs.Ythjkmefbjbfonaa

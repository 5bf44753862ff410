/- Merged, the program's and the reference's. -/
import Derived.Test.YthjkmefbjbfonaaPutS
namespace Go.Proofs.Ythjkmefbjbfonaa
open Go.RowKit Go.ChangeShapes Go.Deep

def mergedR (a b : List Ent) : List Ent := if 80 < a.length + b.length then a else b.foldl putEntryR a
theorem foldl_put_length : ∀ (b a : List Ent), (b.foldl putEntryR a).length = a.length + b.length
  | [], a => by simp
  | y :: b, a => by rw [List.foldl_cons, foldl_put_length b, putEntryR_length, List.length_cons]; omega
theorem mergedR_length (a b : List Ent) : (mergedR a b).length ≤ a.length + b.length := by
  unfold mergedR
  split
  · omega
  · rw [foldl_put_length]; omega

set_option maxHeartbeats 2000000 in
set_option maxRecDepth 100000 in
theorem merged_impl (v : Value) (a : List Ent) (v' : Value) (b : List Ent) (w : World) (ha : Rd_entries w v a) (hb0 : Rd_entries w v' b) (hna : cost_entries a ≤ 1048576) (hnb : cost_entries b ≤ 1048576) :
    Calls Try.prog 46 #[v, v'] w (Gives1 (Own_entries · · · · (mergedR a b)) w) := by
  unfold cost_entries at hna hnb
  obtain ⟨A1, c1, rfl, hnc1, hcm1⟩ := Rd.shape ha
  obtain ⟨A2, c2, rfl, hnc2, hcm2⟩ := Rd.shape hb0
  unfold maxLen at hcm1 hcm2
  have HA := Lib.hid ha
  have HB := Lib.hid hb0
  clear ha hb0
  by_cases h80 : 80 < a.length + b.length
  · have HR := Lib.hid (show mergedR a b = a by rw [mergedR, if_pos h80])
    go_enter Try.func46, Try.ntmps46
    go_wp2_with fail
    refine (copyEntries_any _ a _ HA.out (by omega)).mono ?_
    rintro e w1 ⟨u1, rfl, ⟨ho1, hz1, hy1⟩, hb1⟩
    have HO := Lib.hid ho1
    clear ho1
    go_wp2_with fail
    go_ret
    rw [HR.out]
    exact ⟨u1, rfl, OwnS.of_own HO.out, hb1⟩
  · have HR := Lib.hid (show mergedR a b = b.foldl putEntryR a by rw [mergedR, if_neg h80])
    go_enter Try.func46, Try.ntmps46
    go_wp2_with fail
    refine (copyEntries_any _ a _ HA.out (by omega)).mono ?_
    rintro e w1 ⟨u1, rfl, ⟨ho1, hz1, hy1⟩, hb1⟩
    have HO := Lib.hid ho1
    clear ho1
    go_wp2_with fail
    go_loopw [19, 5] (fun u19 u5 wr => ∃ (k : Nat) (q : List Ent), k ≤ b.length ∧ u19 = .int .i64 k ∧ Hid (b.foldl putEntryR a = (b.drop k).foldl putEntryR q) ∧ q.length = a.length + k ∧ Hid (wr.ownsRow w.heap.size 61 4 u5 q.length (entV q)) ∧ Below w.heap.size w wr) (fun u19 u5 _ => b.length - (intOf u19).toNat)
    case atStart => exact ⟨0, a, Nat.zero_le _, rfl, Lib.hid rfl, rfl, HO, hb1⟩
    case round =>
      obtain ⟨k, q, hk, rfl, hgo, hql, HQ, hb⟩ := hrel
      by_cases hlt : k < b.length
      · obtain ⟨bb, o1, _, hv1, _, _, hl1, hc1⟩ := Rd.form HB.out (by omega) (by omega)
        have hA2 : A2 = some ⟨bb, o1, none⟩ := by injection hv1
        subst hA2
        obtain ⟨y, hy⟩ : ∃ y, y = b[k] := ⟨_, rfl⟩
        obtain ⟨d0, d1, d2, d3⟩ := ent_cells hb hl1 hc1 hlt y hy
        have HG := Lib.hid (show b.foldl putEntryR a = (b.drop (k + 1)).foldl putEntryR (putEntryR q y) by rw [hgo.out, List.drop_eq_getElem_cons hlt, List.foldl_cons, ← hy])
        have hk0 : (0 : Int) ≤ (k : Int) := by omega
        have hk1 : (k : Int) < (b.length : Int) := by omega
        have hq80 : q.length ≤ 1048576 := by omega
        have HQL := Lib.hid (show (putEntryR q y).length = a.length + (k + 1) by rw [putEntryR_length]; omega)
        clear hgo hy hv1 hc1 hql
        have hbs := hb.size
        go_wp2_with fail
        refine (putEntry_impl u5 q y _ (Rd.of_own (HQ.out.alloc _)) hq80).mono ?_
        rintro e w2 ⟨u2, rfl, ⟨ho2, hz2, hy2⟩, hb2⟩
        go_wp2_with fail
        go_roundw
        case rel => exact ⟨k + 1, putEntryR q y, by omega, by go_num, HG, HQL.out, Lib.hid (own_more ho2 (by have := hb.size; simp; try omega)), Below.trans (by exact (by repeat first | exact Below.refl _ _ | assumption | refine Below.drew ?_ | refine below_drewN ?_ _ | refine Below.calm ?_ (by first | exact Nat.le_refl _ | (simp; done) | (simp; omega) | omega) | refine Below.alloc ?_ (by first | exact Nat.le_refl _ | (simp; done) | (simp; omega) | omega) _ | refine Below.setCell ?_ (by first | exact Nat.le_refl _ | (simp; done) | (simp; omega) | omega) _)) (hb2.mono (by have := hb.size; simp; try omega))⟩
        case measure => simp [intOf]; omega
      · have HE := Lib.hid (show mergedR a b = q by rw [HR.out, hgo.out, List.drop_of_length_le (by omega)]; rfl)
        clear hgo
        go_wp2_with fail
        go_ret
        rw [HE.out]
        exact ⟨u5, rfl, OwnS.of_own HQ.out, hb⟩

end Go.Proofs.Ythjkmefbjbfonaa

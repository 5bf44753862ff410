/- Entries: the law's own functions on slices of them. -/
import Derived.Test.YtngoagjnaphmhaaSlices
import Derived.Test.YtngoagjnaphmhaaAhead
import Derived.Deep.MidRow
namespace Go.Proofs.Ytngoagjnaphmhaa
open Go.RowKit Go.ChangeShapes Go.Deep

structure Ent where
  prio : Int
  seq : Int
  run : Int
  task : Int
def Ent.v (e : Ent) : Value := .agg #[.int .i64 e.prio, .int .i64 e.seq, .int .i64 e.run, .int .i64 e.task]
def Ent.cs (e : Ent) : List Value := [.int .i64 e.prio, .int .i64 e.seq, .int .i64 e.run, .int .i64 e.task]
def entV (l : List Ent) : List Value := l.flatMap Ent.cs
theorem entV_length (l : List Ent) : (entV l).length = l.length * 4 := flat_length Ent.cs 4 (fun _ => rfl) l
theorem entV_at {l : List Ent} {k : Nat} (h : k < l.length) (f : Nat) (hf : f < 4) : (entV l)[k * 4 + f]? = (l[k].cs)[f]? := flat_at Ent.cs 4 (fun _ => rfl) l k h f hf
theorem Try.infoEnt : (Try.prog.info? 33).map (fun i => (i.zero, i.size, i.bytes)) = some (some (.agg #[.int .i64 0, .int .i64 0, .int .i64 0, .int .i64 0]), 4, 32) := by kernel_rfl

theorem Ent.v_cs (e : Ent) : Value.agg e.cs.toArray = e.v := rfl
theorem rowIs_madeN (w : World) (z : Array Value) (n : Nat) (t : TypeId) : (w.alloc (.cells (madeCells z n) t)).rowIs w.heap.size t n (fun j => z[j % z.size]!) :=
  ⟨_, blk_alloc_new _ _, size_madeCells _ _, fun i hi => by simp [madeCells, hi]⟩
theorem rangeAt_ent {w : World} {b o k : Nat} {l : List Ent} (hk : k < l.length) (h : ∀ j u, (entV l)[j]? = some u → w.cell? ⟨b, o + j, none⟩ = some u) : w.rangeAt b (o + k * 4) l[k].cs := fun j v hv => by
  have hj : j < 4 := (List.getElem?_eq_some_iff.1 hv).1
  rw [Nat.add_assoc]
  exact h _ _ (by rw [entV_at hk j hj]; exact hv)
set_option maxRecDepth 100000 in
theorem eqEntry_any (x : Ent) (w : World) : Calls Try.prog 20 #[x.v, x.v] w fun e w' => e = .returned (.bool true) ∧ Below w.heap.size w w' := by
  obtain ⟨p, s, r, t⟩ := x
  unfold Ent.v
  go_enter Try.func20, Try.ntmps20
  go_wp2
  go_ret
  exact ⟨rfl, ((Below.refl _ _).alloc (Nat.le_refl _) _).alloc (by simp) _⟩

set_option maxRecDepth 100000 in
theorem szEntryS_any (v : Value) (l : List Ent) (left : Int) (w : World) (h : Rd w 4 v l.length (entV l)) (h0 : 0 ≤ left) (h1 : left ≤ 1048576) :
    Calls Try.prog 9 #[v, .int .i64 left] w fun e w' => e = .returned (.int .i64 (if left - l.length < 0 then -1 else left - l.length)) ∧ w = w' := by
  obtain ⟨A, c, rfl, hnc, hcm⟩ := h.shape
  unfold maxLen at hcm
  by_cases hneg : left - l.length < 0
  · rw [if_pos hneg]
    go_enter Try.func9, Try.ntmps9
    go_wp2
    go_ret
    exact ⟨rfl, rfl⟩
  · rw [if_neg hneg]
    go_enter Try.func9, Try.ntmps9
    go_wp2
    go_ret
    exact ⟨rfl, rfl⟩
theorem fill4 {w : World} {g n : Nat} {t : TypeId} {z : Value} {l : List Ent} {k : Nat} (hk : k < l.length) (x : Ent) (hx : x = l[k]) (h : w.rowIs g t n (fun j => if j < k * 4 then (entV l).getD j z else z)) :
    ((((w.setCell ⟨g, k * 4, none⟩ (.int .i64 x.prio)).setCell ⟨g, k * 4 + 1, none⟩ (.int .i64 x.seq)).setCell ⟨g, k * 4 + 2, none⟩ (.int .i64 x.run)).setCell ⟨g, k * 4 + 3, none⟩ (.int .i64 x.task)).rowIs g t n (fun j => if j < (k + 1) * 4 then (entV l).getD j z else z) :=
  ((((h.set (k * 4) _).set (k * 4 + 1) _).set (k * 4 + 2) _).set (k * 4 + 3) _).congr (fun j _ => by
    have e := fun f hf => entV_at hk f hf
    rw [← hx] at e
    by_cases h3 : j = k * 4 + 3
    · subst h3; rw [if_pos rfl, if_pos (by omega), List.getD_eq_getElem?_getD, e 3 (by decide)]; rfl
    rw [if_neg h3]
    by_cases h2 : j = k * 4 + 2
    · subst h2; rw [if_pos rfl, if_pos (by omega), List.getD_eq_getElem?_getD, e 2 (by decide)]; rfl
    rw [if_neg h2]
    by_cases h1 : j = k * 4 + 1
    · subst h1; rw [if_pos rfl, if_pos (by omega), List.getD_eq_getElem?_getD, e 1 (by decide)]; rfl
    rw [if_neg h1]
    by_cases h0 : j = k * 4
    · subst h0; rw [if_pos rfl, if_pos (by omega), List.getD_eq_getElem?_getD]; have := e 0 (by decide); rw [Nat.add_zero] at this; rw [this]; rfl
    rw [if_neg h0]
    by_cases hb : j < k * 4
    · rw [if_pos hb, if_pos (by omega)]
    · rw [if_neg hb, if_neg (by omega)])

set_option maxRecDepth 100000 in
theorem toEntryS_any (v : Value) (l : List Ent) (w : World) (h : Rd w 4 v l.length (entV l)) (hn : l.length ≤ 1048576) :
    Calls Try.prog 11 #[v] w (MadeRow w 33 4 l.length (entV l)) := by
  obtain ⟨A, c, rfl, hnc, hcm⟩ := h.shape
  obtain ⟨i0, hi, hz0, hz1, hz2⟩ := info_parts Try.infoEnt
  unfold maxLen at hcm
  have hmk := fun W => run_make_rowN (P := Try.prog) 25 33 i0 _ Try.underlying25 hi hz0 .i64 .i64 l.length l.length (Nat.le_refl _) (by rw [hz2]; omega) (by omega) W
  rw [hz1] at hmk
  go_enter Try.func11, Try.ntmps11
  go_wp2
  clear hmk
  go_loopw [4] (fun u4 wr => ∃ k : Nat, k ≤ l.length ∧ u4 = .int .i64 k ∧ wr.rowIs w.heap.size 33 (l.length * 4) (fun j => if j < k * 4 then (entV l).getD j (.int .i64 0) else .int .i64 0) ∧ Below w.heap.size w wr) (fun u4 _ => l.length - (intOf u4).toNat)
  case atStart => exact ⟨0, Nat.zero_le _, rfl, (rowIs_madeN _ _ _ _).congr (fun j _ => by
      rw [if_neg (by omega)]
      have : j % 4 = 0 ∨ j % 4 = 1 ∨ j % 4 = 2 ∨ j % 4 = 3 := by omega
      show #[Value.int .i64 0, Value.int .i64 0, Value.int .i64 0, Value.int .i64 0][j % 4]! = _
      rcases this with h | h | h | h <;> rw [h] <;> rfl), (Below.refl _ _).alloc (Nat.le_refl _) _⟩
  case round =>
    obtain ⟨k, hk, rfl, hrow, hb⟩ := hrel
    by_cases hlt : k < l.length
    · obtain ⟨b, off, c', hv, _, _, hbl, hc⟩ := h.form (by omega) (by omega)
      have hA : A = some ⟨b, off, none⟩ := by injection hv
      subst hA
      have hcs := fun f hf => (hb.cell (p := ⟨b, off + (k * 4 + f), none⟩) hbl).trans (hc (k * 4 + f) _ ((entV_at hlt f hf).trans (List.getElem?_eq_getElem hf)))
      obtain ⟨x, hx⟩ : ∃ x, x = l[k] := ⟨_, rfl⟩
      obtain ⟨xp, xs, xr, xt⟩ := x
      rw [← hx] at hcs
      have d0 : wr.cell? ⟨b, off + k * 4, none⟩ = some (.int .i64 xp) := hcs 0 (by decide)
      have d1 : wr.cell? ⟨b, off + k * 4 + 1, none⟩ = some (.int .i64 xs) := hcs 1 (by decide)
      have d2 : wr.cell? ⟨b, off + k * 4 + 2, none⟩ = some (.int .i64 xr) := hcs 2 (by decide)
      have d3 : wr.cell? ⟨b, off + k * 4 + 3, none⟩ = some (.int .i64 xt) := hcs 3 (by decide)
      have HF := Lib.hid (fun (W : World) (hr : W.rowIs w.heap.size 33 (l.length * 4) (fun j => if j < k * 4 then (entV l).getD j (.int .i64 0) else .int .i64 0)) => fill4 hlt _ hx hr)
      clear hv hc hcs hx
      have CT := Lib.hid (fun w => toEntry_any xp xs xr xt w)
      have HROW := Lib.hid hrow
      clear hrow
      go_wp2_with (go_at_call 22; refine (CT.out _).mono ?_; rintro e w1 ⟨rfl, hb1⟩; have hrow1 := HROW.out.of_block (hb1.block _ HROW.out.lt); have s0 := hrow1.cell (i := k * 4) (by omega); have s1 := hrow1.cell (i := k * 4 + 1) (by omega); have s2 := hrow1.cell (i := k * 4 + 2) (by omega); have s3 := hrow1.cell (i := k * 4 + 3) (by omega); have z0 := hrow1.frozen (k * 4); have z1 := hrow1.frozen (k * 4 + 1); have z2 := hrow1.frozen (k * 4 + 2); have z3 := hrow1.frozen (k * 4 + 3); have HR1 := Lib.hid hrow1; clear hrow1)
      go_roundw
      case rel => exact ⟨k + 1, by omega, by go_num, HF.out _ HR1.out, ((((hb.trans (hb1.mono hb.size)).setCell (Nat.le_refl _) _).setCell (Nat.le_refl _) _).setCell (Nat.le_refl _) _).setCell (Nat.le_refl _) _⟩
      case measure => simp [intOf]; omega
    · obtain rfl : k = l.length := by omega
      have HO := Lib.hid (own_of_rowIs (base := w.heap.size) (size := 4) (n := l.length) hrow (Nat.le_refl _) (by unfold maxLen; omega))
      have HX := Lib.hid (show (List.range (l.length * 4)).map (fun j => if j < l.length * 4 then (entV l).getD j (.int .i64 0) else .int .i64 0) = entV l by
        apply List.ext_getElem
        · rw [List.length_map, List.length_range, entV_length]
        · intro i h1 h2
          have hi : i < l.length * 4 := by simpa using h1
          rw [List.getElem_map, List.getElem_range, if_pos hi, List.getD_eq_getElem?_getD, List.getElem?_eq_getElem h2]
          rfl)
      clear hrow
      go_wp2
      go_ret
      exact ⟨_, rfl, by rw [← HX.out]; exact HO.out, hb⟩
end Go.Proofs.Ytngoagjnaphmhaa

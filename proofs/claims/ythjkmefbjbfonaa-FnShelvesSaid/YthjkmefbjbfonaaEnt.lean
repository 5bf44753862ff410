/- Entries: the law's own functions on slices of them. -/
import Derived.Test.YthjkmefbjbfonaaSlices
import Derived.Test.YthjkmefbjbfonaaAhead
import Derived.Deep.MidRow
namespace Go.Proofs.Ythjkmefbjbfonaa
open Go.RowKit Go.ChangeShapes Go.Deep

structure Ent where
  prio : Int
  seq : Int
  run : Int
  task : Int
def Ent.v (e : Ent) : Value := .agg #[.int .i64 e.prio, .int .i64 e.seq, .int .i64 e.run, .int .i64 e.task]
def Ent.cs (e : Ent) : List Value := [.int .i64 e.prio, .int .i64 e.seq, .int .i64 e.run, .int .i64 e.task]
def entV (l : List Ent) : List Value := l.flatMap Ent.cs
theorem entV_length (l : List Ent) : (entV l).length = l.length * 4 := flat_length Ent.cs 4 (fun _ => rfl) l
theorem entV_at {l : List Ent} {k : Nat} (h : k < l.length) (f : Nat) (hf : f < 4) : (entV l)[k * 4 + f]? = (l[k].cs)[f]? := flat_at Ent.cs 4 (fun _ => rfl) l k h f hf
theorem Try.infoEnt : (Try.prog.info? 61).map (fun i => (i.zero, i.size, i.bytes)) = some (some (.agg #[.int .i64 0, .int .i64 0, .int .i64 0, .int .i64 0]), 4, 32) := by kernel_rfl

theorem Ent.v_cs (e : Ent) : Value.agg e.cs.toArray = e.v := rfl
theorem rowIs_madeN (w : World) (z : Array Value) (n : Nat) (t : TypeId) : (w.alloc (.cells (madeCells z n) t)).rowIs w.heap.size t n (fun j => z[j % z.size]!) :=
  ⟨_, blk_alloc_new _ _, size_madeCells _ _, fun i hi => by simp [madeCells, hi]⟩
theorem rangeAt_ent {w : World} {b o k : Nat} {l : List Ent} (hk : k < l.length) (h : ∀ j u, (entV l)[j]? = some u → w.cell? ⟨b, o + j, none⟩ = some u) : w.rangeAt b (o + k * 4) l[k].cs := fun j v hv => by
  have hj : j < 4 := (List.getElem?_eq_some_iff.1 hv).1
  rw [Nat.add_assoc]
  exact h _ _ (by rw [entV_at hk j hj]; exact hv)
theorem fill4 {w : World} {g n : Nat} {t : TypeId} {z : Value} {l : List Ent} {k : Nat} (hk : k < l.length) (x : Ent) (hx : x = l[k]) (h : w.rowIs g t n (fun j => if j < k * 4 then (entV l).getD j z else z)) :
    ((((w.setCell ⟨g, k * 4, none⟩ (.int .i64 x.prio)).setCell ⟨g, k * 4 + 1, none⟩ (.int .i64 x.seq)).setCell ⟨g, k * 4 + 2, none⟩ (.int .i64 x.run)).setCell ⟨g, k * 4 + 3, none⟩ (.int .i64 x.task)).rowIs g t n (fun j => if j < (k + 1) * 4 then (entV l).getD j z else z) :=
  ((((h.set (k * 4) _).set (k * 4 + 1) _).set (k * 4 + 2) _).set (k * 4 + 3) _).congr (fun j _ => by
    have e := fun f hf => entV_at hk f hf
    rw [← hx] at e
    by_cases h3 : j = k * 4 + 3
    · subst h3; rw [if_pos rfl, if_pos (by omega), List.getD_eq_getElem?_getD, e 3 (by decide)]; rfl
    rw [if_neg h3]
    by_cases h2 : j = k * 4 + 2
    · subst h2; rw [if_pos rfl, if_pos (by omega), List.getD_eq_getElem?_getD, e 2 (by decide)]; rfl
    rw [if_neg h2]
    by_cases h1 : j = k * 4 + 1
    · subst h1; rw [if_pos rfl, if_pos (by omega), List.getD_eq_getElem?_getD, e 1 (by decide)]; rfl
    rw [if_neg h1]
    by_cases h0 : j = k * 4
    · subst h0; rw [if_pos rfl, if_pos (by omega), List.getD_eq_getElem?_getD]; have := e 0 (by decide); rw [Nat.add_zero] at this; rw [this]; rfl
    rw [if_neg h0]
    by_cases hb : j < k * 4
    · rw [if_pos hb, if_pos (by omega)]
    · rw [if_neg hb, if_neg (by omega)])

end Go.Proofs.Ythjkmefbjbfonaa

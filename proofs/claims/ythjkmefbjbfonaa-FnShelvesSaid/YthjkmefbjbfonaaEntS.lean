/- Entries: eq, marks and what is held. -/
import Derived.Test.YthjkmefbjbfonaaEnt
namespace Go.Proofs.Ythjkmefbjbfonaa
open Go.RowKit Go.ChangeShapes Go.Deep

/-- The marks of entries: numbers. -/
def mInt (k : Int) : Value := .int .i64 k
theorem mark4 {w : World} {g n : Nat} {t : TypeId} {k0 : Int} {f : Nat → Value} {k : Nat} (q : Int) (hq : q = k0 + ((k * 4 : Nat) : Int)) (h : w.rowIs g t n (fun j => if j < k * 4 then mInt (k0 + j) else f j)) :
    ((((w.setCell ⟨g, k * 4, none⟩ (.int .i64 q)).setCell ⟨g, k * 4 + 1, none⟩ (.int .i64 (q + 1))).setCell ⟨g, k * 4 + 2, none⟩ (.int .i64 (q + 1 + 1))).setCell ⟨g, k * 4 + 3, none⟩ (.int .i64 (q + 1 + 1 + 1))).rowIs g t n (fun j => if j < (k + 1) * 4 then mInt (k0 + j) else f j) :=
  ((((h.set (k * 4) _).set (k * 4 + 1) _).set (k * 4 + 2) _).set (k * 4 + 3) _).congr (fun j _ => by
    subst hq
    by_cases h3 : j = k * 4 + 3
    · subst h3; rw [if_pos rfl, if_pos (by omega)]; show Value.int .i64 _ = .int .i64 _; congr 1; omega
    rw [if_neg h3]
    by_cases h2 : j = k * 4 + 2
    · subst h2; rw [if_pos rfl, if_pos (by omega)]; show Value.int .i64 _ = .int .i64 _; congr 1; omega
    rw [if_neg h2]
    by_cases h1 : j = k * 4 + 1
    · subst h1; rw [if_pos rfl, if_pos (by omega)]; show Value.int .i64 _ = .int .i64 _; congr 1; omega
    rw [if_neg h1]
    by_cases h0 : j = k * 4
    · subst h0; rw [if_pos rfl, if_pos (by omega)]; rfl
    rw [if_neg h0]
    by_cases hb : j < k * 4
    · rw [if_pos hb, if_pos (by omega)]
    · rw [if_neg hb, if_neg (by omega)])

end Go.Proofs.Ythjkmefbjbfonaa

/- A row of files that is written cell by cell. -/
import Derived.Test.YthjkmefbjbfonaaSync
namespace Go.Proofs.Ythjkmefbjbfonaa
set_option linter.unusedSimpArgs false
open Go.RowKit Go.ChangeShapes Go.Deep

/-- Block g holds the files l, and room for some. -/
def RowFil (w : World) (g cap : Nat) (l : List Fil) : Prop := ∃ f, w.rowIs g 44 (cap * 3) f ∧ l.length ≤ cap ∧ ∀ j, j < l.length * 3 → (filV l)[j]? = some (f j)
theorem filV_setE {d : List Fil} {k : Nat} (y : Fil) {j : Nat} (hj : j < d.length * 3) : (filV (d.set k y))[j]? = if j / 3 = k then y.cs[j % 3]? else (filV d)[j]? := by
  have hq : j = j / 3 * 3 + j % 3 := by omega
  have hi : j / 3 < (d.set k y).length := by rw [List.length_set]; omega
  have hi' : j / 3 < d.length := by omega
  by_cases e : j / 3 = k
  · rw [if_pos e]
    conv => lhs; rw [hq]
    rw [filV_at hi (j % 3) (by omega)]
    have : (d.set k y)[j / 3] = y := by simp [e]
    rw [this]
  · rw [if_neg e]
    conv => lhs; rw [hq]
    conv => rhs; rw [hq]
    rw [filV_at hi (j % 3) (by omega), filV_at hi' (j % 3) (by omega)]
    have : (d.set k y)[j / 3] = d[j / 3] := by simp [Ne.symm e]
    rw [this]
theorem RowFil.put {w : World} {g cap : Nat} {l : List Fil} (h : RowFil w g cap l) {k : Nat} (hk : k < l.length) (f : Nat) (hf : f < 3) (y : Fil) (u : Value) (hy : y.cs[f]? = some u) (ho : ∀ i, i < 3 → i ≠ f → y.cs[i]? = (l[k].cs)[i]?) :
    RowFil (w.setCell ⟨g, k * 3 + f, none⟩ u) g cap (l.set k y) := by
  obtain ⟨F, h1, h2, h3⟩ := h
  refine ⟨_, h1.set (k * 3 + f) u, by rw [List.length_set]; exact h2, fun j hj => ?_⟩
  rw [List.length_set] at hj
  rw [filV_setE y hj]
  by_cases e : j = k * 3 + f
  · rw [if_pos e, if_pos (by omega), show j % 3 = f by omega, hy]
  · rw [if_neg e]
    by_cases e2 : j / 3 = k
    · rw [if_pos e2, ho _ (by omega) (by omega), ← h3 j hj, ← filV_at hk (j % 3) (by omega)]
      congr 1
      omega
    · rw [if_neg e2]; exact h3 j hj
theorem RowFil.cell {w : World} {g cap : Nat} {l : List Fil} (h : RowFil w g cap l) {k : Nat} (hk : k < l.length) (x : Fil) (hx : x = l[k]) :
    w.cell? ⟨g, k * 3, none⟩ = some (.string x.name) ∧ w.cell? ⟨g, k * 3 + 1, none⟩ = some (.string x.data) ∧ w.cell? ⟨g, k * 3 + 2, none⟩ = some (.int .i64 x.safe) := by
  obtain ⟨F, h1, h2, h3⟩ := h
  have key : ∀ f, f < 3 → ∀ u, (l[k].cs)[f]? = some u → w.cell? ⟨g, k * 3 + f, none⟩ = some u := fun f hf u hu => by
    have e := h3 (k * 3 + f) (by omega)
    rw [filV_at hk f hf, hu] at e
    rw [h1.cell (by omega), ← Option.some.inj e]
  subst hx
  exact ⟨key 0 (by omega) _ rfl, key 1 (by omega) _ rfl, key 2 (by omega) _ rfl⟩
theorem RowFil.frozen {w : World} {g cap : Nat} {l : List Fil} (h : RowFil w g cap l) (i : Nat) : w.frozen? ⟨g, i, none⟩ = false := by obtain ⟨F, h1, _⟩ := h; exact h1.frozen i
theorem RowFil.lt {w : World} {g cap : Nat} {l : List Fil} (h : RowFil w g cap l) : g < w.heap.size := by obtain ⟨F, h1, _⟩ := h; exact h1.lt
theorem RowFil.of_block {w w' : World} {g cap : Nat} {l : List Fil} (h : RowFil w g cap l) (e : w'.heap[g]? = w.heap[g]?) : RowFil w' g cap l := by obtain ⟨F, h1, h2⟩ := h; exact ⟨F, h1.of_block e, h2⟩
theorem RowFil.far {w : World} {g cap : Nat} {l : List Fil} (h : RowFil w g cap l) {p : Addr} (hp : g ≠ p.block) (u : Value) : RowFil (w.setCell p u) g cap l := by obtain ⟨F, h1, h2⟩ := h; exact ⟨F, h1.setOther hp u, h2⟩
theorem RowFil.belowV {w w' : World} {g cap : Nat} {l : List Fil} (h : RowFil w g cap l) (hb : Below w.heap.size w w') : RowFil w' g cap l := h.of_block (hb.block g h.lt)
theorem RowFil.keepV {w w' : World} {g cap lo hi : Nat} {l : List Fil} (h : RowFil w g cap l) (k : Part lo hi w w') (ha : g < lo ∨ hi ≤ g) : RowFil w' g cap l := h.of_block (k.block g h.lt ha)
theorem RowFil.own {w : World} {g cap : Nat} {l : List Fil} (h : RowFil w g cap l) {base : Nat} (hb : base ≤ g) (hm : cap ≤ maxLen) : w.ownsRow base 44 3 (.slice (some ⟨g, 0, none⟩) l.length cap) l.length (filV l) := by
  obtain ⟨F, h1, h2, h3⟩ := h
  refine own_of_fun h1 hb h2 hm (filV_length l) fun j u hu => ?_
  have hj : j < l.length * 3 := by
    have := (List.getElem?_eq_some_iff.1 hu).1
    rwa [filV_length] at this
  rw [h3 j hj] at hu
  exact Option.some.inj hu
theorem RowFil.of_own {w : World} {base : Nat} {v : Value} {l : List Fil} (h : w.ownsRow base 44 3 v l.length (filV l)) (hl : 0 < l.length) : ∃ g cap, v = .slice (some ⟨g, 0, none⟩) l.length cap ∧ base ≤ g ∧ cap ≤ maxLen ∧ l.length ≤ cap ∧ RowFil w g cap l := by
  obtain ⟨g, cap, f, he, hlg, hcap, hcm, hrow, hf⟩ := rowIs_of_own h hl
  exact ⟨g, cap, he, hlg, hcm, hcap, f, hrow, hcap, hf⟩
end Go.Proofs.Ythjkmefbjbfonaa

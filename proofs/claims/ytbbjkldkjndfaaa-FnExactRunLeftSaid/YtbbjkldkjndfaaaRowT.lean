/- A row of tasks that is written cell by cell. -/
import Derived.Test.YtbbjkldkjndfaaaTskK
import Derived.Test.YtbbjkldkjndfaaaCopyRow
namespace Go.Proofs.Ytbbjkldkjndfaaa
set_option linter.unusedSimpArgs false
open Go.RowKit Go.ChangeShapes Go.Deep

/-- Block g holds the tasks l, and room for some. -/
def RowTsk (w : World) (g cap : Nat) (l : List Tsk) : Prop := ∃ f, w.rowIs g 61 (cap * 4) f ∧ l.length ≤ cap ∧ ∀ j, j < l.length * 4 → (tskV l)[j]? = some (f j)
theorem tskV_set {d : List Tsk} {k : Nat} (y : Tsk) {j : Nat} (hj : j < d.length * 4) : (tskV (d.set k y))[j]? = if j / 4 = k then y.cs[j % 4]? else (tskV d)[j]? := by
  have hq : j = j / 4 * 4 + j % 4 := by omega
  have hi : j / 4 < (d.set k y).length := by rw [List.length_set]; omega
  have hi' : j / 4 < d.length := by omega
  by_cases e : j / 4 = k
  · rw [if_pos e]
    conv => lhs; rw [hq]
    rw [tskV_at hi (j % 4) (by omega)]
    have : (d.set k y)[j / 4] = y := by simp [e]
    rw [this]
  · rw [if_neg e]
    conv => lhs; rw [hq]
    conv => rhs; rw [hq]
    rw [tskV_at hi (j % 4) (by omega), tskV_at hi' (j % 4) (by omega)]
    have : (d.set k y)[j / 4] = d[j / 4] := by simp [Ne.symm e]
    rw [this]
theorem RowTsk.put {w : World} {g cap : Nat} {l : List Tsk} (h : RowTsk w g cap l) {k : Nat} (hk : k < l.length) (f : Nat) (hf : f < 4) (y : Tsk) (u : Value) (hy : y.cs[f]? = some u) (ho : ∀ i, i < 4 → i ≠ f → y.cs[i]? = (l[k].cs)[i]?) :
    RowTsk (w.setCell ⟨g, k * 4 + f, none⟩ u) g cap (l.set k y) := by
  obtain ⟨F, h1, h2, h3⟩ := h
  refine ⟨_, h1.set (k * 4 + f) u, by rw [List.length_set]; exact h2, fun j hj => ?_⟩
  rw [List.length_set] at hj
  rw [tskV_set y hj]
  by_cases e : j = k * 4 + f
  · rw [if_pos e, if_pos (by omega), show j % 4 = f by omega, hy]
  · rw [if_neg e]
    by_cases e2 : j / 4 = k
    · rw [if_pos e2, ho _ (by omega) (by omega), ← h3 j hj, ← tskV_at hk (j % 4) (by omega)]
      congr 1
      omega
    · rw [if_neg e2]; exact h3 j hj
theorem RowTsk.cell {w : World} {g cap : Nat} {l : List Tsk} (h : RowTsk w g cap l) {k : Nat} (hk : k < l.length) (x : Tsk) (hx : x = l[k]) :
    w.cell? ⟨g, k * 4, none⟩ = some (.int .i64 x.state) ∧ w.cell? ⟨g, k * 4 + 1, none⟩ = some (.int .i64 x.need) ∧ w.cell? ⟨g, k * 4 + 2, none⟩ = some (.int .i64 x.try_) ∧ w.cell? ⟨g, k * 4 + 3, none⟩ = some (.int .i64 x.until_) := by
  obtain ⟨F, h1, h2, h3⟩ := h
  have key : ∀ f, f < 4 → ∀ u, (l[k].cs)[f]? = some u → w.cell? ⟨g, k * 4 + f, none⟩ = some u := fun f hf u hu => by
    have e := h3 (k * 4 + f) (by omega)
    rw [tskV_at hk f hf, hu] at e
    rw [h1.cell (by omega), ← Option.some.inj e]
  subst hx
  exact ⟨key 0 (by omega) _ rfl, key 1 (by omega) _ rfl, key 2 (by omega) _ rfl, key 3 (by omega) _ rfl⟩
theorem RowTsk.frozen {w : World} {g cap : Nat} {l : List Tsk} (h : RowTsk w g cap l) (i : Nat) : w.frozen? ⟨g, i, none⟩ = false := by obtain ⟨F, h1, _⟩ := h; exact h1.frozen i
theorem RowTsk.lt {w : World} {g cap : Nat} {l : List Tsk} (h : RowTsk w g cap l) : g < w.heap.size := by obtain ⟨F, h1, _⟩ := h; exact h1.lt
theorem RowTsk.of_block {w w' : World} {g cap : Nat} {l : List Tsk} (h : RowTsk w g cap l) (e : w'.heap[g]? = w.heap[g]?) : RowTsk w' g cap l := by obtain ⟨F, h1, h2⟩ := h; exact ⟨F, h1.of_block e, h2⟩
theorem RowTsk.far {w : World} {g cap : Nat} {l : List Tsk} (h : RowTsk w g cap l) {p : Addr} (hp : g ≠ p.block) (u : Value) : RowTsk (w.setCell p u) g cap l := by obtain ⟨F, h1, h2⟩ := h; exact ⟨F, h1.setOther hp u, h2⟩
theorem RowTsk.belowV {w w' : World} {g cap : Nat} {l : List Tsk} (h : RowTsk w g cap l) (hb : Below w.heap.size w w') : RowTsk w' g cap l := h.of_block (hb.block g h.lt)
theorem RowTsk.keepV {w w' : World} {g cap lo hi : Nat} {l : List Tsk} (h : RowTsk w g cap l) (k : Part lo hi w w') (ha : g < lo ∨ hi ≤ g) : RowTsk w' g cap l := h.of_block (k.block g h.lt ha)
theorem RowTsk.own {w : World} {g cap : Nat} {l : List Tsk} (h : RowTsk w g cap l) {base : Nat} (hb : base ≤ g) (hm : cap ≤ maxLen) : w.ownsRow base 61 4 (.slice (some ⟨g, 0, none⟩) l.length cap) l.length (tskV l) := by
  obtain ⟨F, h1, h2, h3⟩ := h
  refine own_of_fun h1 hb h2 hm (tskV_length l) fun j u hu => ?_
  have hj : j < l.length * 4 := by
    have := (List.getElem?_eq_some_iff.1 hu).1
    rwa [tskV_length] at this
  rw [h3 j hj] at hu
  exact Option.some.inj hu
theorem RowTsk.of_own {w : World} {base : Nat} {v : Value} {l : List Tsk} (h : w.ownsRow base 61 4 v l.length (tskV l)) (hl : 0 < l.length) : ∃ g cap, v = .slice (some ⟨g, 0, none⟩) l.length cap ∧ base ≤ g ∧ cap ≤ maxLen ∧ l.length ≤ cap ∧ RowTsk w g cap l := by
  obtain ⟨g, cap, f, he, hlg, hcap, hcm, hrow, hf⟩ := rowIs_of_own h hl
  exact ⟨g, cap, he, hlg, hcm, hcap, f, hrow, hcap, hf⟩
end Go.Proofs.Ytbbjkldkjndfaaa

/- A run of which all is left. Plain. -/
import Derived.Test.YtbbjkldkjndfaaaRunP
namespace Go.Proofs.Ytbbjkldkjndfaaa
set_option linter.unusedSimpArgs false

/-- The first k tasks turned. -/
def mapTo (f : Nat → Tsk → Tsk) (l : List Tsk) : Nat → List Tsk
  | 0 => l
  | k + 1 => (mapTo f l k).set k (f k (l.getD k zeroT))
theorem mapTo_length (f : Nat → Tsk → Tsk) (l : List Tsk) : ∀ k, (mapTo f l k).length = l.length
  | 0 => rfl
  | k + 1 => by rw [mapTo, List.length_set, mapTo_length f l k]
theorem mapTo_getD (f : Nat → Tsk → Tsk) (l : List Tsk) : ∀ (m k : Nat), (mapTo f l m).getD k zeroT = if k < m ∧ k < l.length then f k (l.getD k zeroT) else l.getD k zeroT
  | 0, k => by simp [mapTo]
  | m + 1, k => by
    rw [mapTo, List.getD_eq_getElem?_getD, List.getElem?_set, mapTo_length]
    by_cases e : m = k
    · subst e
      by_cases hl : m < l.length
      · rw [if_pos rfl, if_pos hl, if_pos ⟨by omega, hl⟩]; rfl
      · rw [if_pos rfl, if_neg hl, if_neg (by omega), List.getD_eq_getElem?_getD, List.getElem?_eq_none (by omega)]
    · rw [if_neg e, ← List.getD_eq_getElem?_getD, mapTo_getD f l m k]
      by_cases hl : k < m ∧ k < l.length
      · rw [if_pos hl, if_pos ⟨by omega, hl.2⟩]
      · rw [if_neg hl, if_neg (by omega)]
theorem mapTo_at (f : Nat → Tsk → Tsk) (l : List Tsk) {k : Nat} (h : k < (mapTo f l k).length) : (mapTo f l k)[k] = l.getD k zeroT := by
  have := mapTo_getD f l k k
  rw [if_neg (by omega), List.getD_eq_getElem?_getD, List.getElem?_eq_getElem h] at this
  exact this
theorem mapTo_congr {f g : Nat → Tsk → Tsk} {l : List Tsk} : ∀ {m : Nat}, (∀ k, k < m → f k (l.getD k zeroT) = g k (l.getD k zeroT)) → mapTo f l m = mapTo g l m
  | 0, _ => rfl
  | m + 1, h => by rw [mapTo, mapTo, mapTo_congr (fun k hk => h k (by omega)), h m (by omega)]
def leftT (t : Tsk) : Tsk := ⟨6, t.need, t.try_, 0⟩
def leaveAt (but : Int) (k : Nat) (t : Tsk) : Tsk := if (k : Int) = but then t else if t.state = 4 then t else leftT t
def leaveSAt (_ : Nat) (t : Tsk) : Tsk := if t.state = 4 then t else if t.state = 5 then t else leftT t
noncomputable def runLeftR (x : Rn) : Rn := if runOkR x = true ∧ x.state = 1 then ⟨x.id, x.plan, 4, mapTo (leaveAt (-1)) x.tasks x.tasks.length⟩ else x
theorem tasksTo_none {ts : List Tsk} {s : Int} : ∀ {m : Nat}, (tasksTo ts s m).length = 0 → ∀ k, k < m → (ts.getD k zeroT).state ≠ s
  | 0, _, k, hk => absurd hk (by omega)
  | m + 1, h, k, hk => by
    rw [tasksTo] at h
    by_cases e : (ts.getD m zeroT).state = s
    · rw [if_pos e] at h; simp at h
    · rw [if_neg e] at h
      by_cases ek : k = m
      · subst ek; exact e
      · exact tasksTo_none h k (by omega)
theorem live_none {x : Rn} (h : runOkR x = true) (hs : x.state = 1) : ∀ k, k < x.tasks.length → (x.tasks.getD k zeroT).state ≠ 5 ∧ (x.tasks.getD k zeroT).state ≠ 6 := by
  unfold runOkR at h
  simp only [Bool.and_eq_true, decide_eq_true_eq] at h
  have h1 := h.2.2.2.2.1
  rw [hs] at h1
  unfold stateR at h1
  split at h1
  · omega
  split at h1
  · omega
  split at h1
  · omega
  split at h1
  · rename_i h5
    exact fun k hk => ⟨tasksTo_none h5.1 k hk, tasksTo_none h5.2 k hk⟩
  · omega
theorem left_spec {x : Rn} (h : runOkR x = true) (hs : x.state = 1) : mapTo leaveSAt x.tasks x.tasks.length = mapTo (leaveAt (-1)) x.tasks x.tasks.length :=
  mapTo_congr fun k hk => by
    have := (live_none h hs k hk).1
    rw [leaveSAt, leaveAt, if_neg this, if_neg (show ¬ (k : Int) = -1 by omega)]
theorem runLeft_cells (x : Rn) (h : cost_run x ≤ 1048576) : cells_run (runLeftR x) ≤ 5000000 := by
  have := cells_le_run x
  unfold runLeftR
  split
  · unfold cells_run at this ⊢
    simp only [mapTo_length]
    omega
  · omega
end Go.Proofs.Ytbbjkldkjndfaaa

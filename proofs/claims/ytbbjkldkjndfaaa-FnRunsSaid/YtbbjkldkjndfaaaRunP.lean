/- Runs: a new one, what is right of one, what is left of one. Plain. -/
import Derived.Test.YtbbjkldkjndfaaaBeforeP
import Derived.Test.YtbbjkldkjndfaaaGC
import Derived.Test.YtbbjkldkjndfaaaTasksIn
namespace Go.Proofs.Ytbbjkldkjndfaaa
set_option linter.unusedSimpArgs false

def zeroRn : Rn := ⟨0, ⟨0, 0, 0, 0, []⟩, 0, []⟩
def newTask (E : List Edg) (n : Nat) (t : Int) : Tsk := ⟨if (beforeTo E t n).length = 0 then 2 else 1, (beforeTo E t n).length, 0, 0⟩
def newTasks (E : List Edg) (n : Nat) : Nat → List Tsk
  | 0 => []
  | k + 1 => newTasks E n k ++ [newTask E n k]
theorem newTasks_length (E : List Edg) (n : Nat) : ∀ k, (newTasks E n k).length = k
  | 0 => rfl
  | k + 1 => by rw [newTasks, List.length_append, newTasks_length E n k]; rfl
theorem newTasks_getD (E : List Edg) (n : Nat) : ∀ {m k : Nat}, k < m → (newTasks E n m).getD k zeroT = newTask E n k
  | 0, k, h => absurd h (by omega)
  | m + 1, k, h => by
    rw [newTasks, List.getD_eq_getElem?_getD]
    by_cases e : k = m
    · subst e
      rw [List.getElem?_append_right (by rw [newTasks_length]; exact Nat.le_refl _), newTasks_length]
      simp
    · rw [List.getElem?_append_left (by rw [newTasks_length]; omega), ← List.getD_eq_getElem?_getD]
      exact newTasks_getD E n (by omega)
noncomputable def runNewR0 (id : Int) (x : Pln) : Rn := if inB id 1 9999 = true then (if planFaultR x = 0 then ⟨id, x, 1, newTasks x.edges x.tasks.toNat x.tasks.toNat⟩ else zeroRn) else zeroRn
noncomputable def runNewR1 (id : Int) (x : Pln) : Bool := inB id 1 9999 && decide (planFaultR x = 0)
theorem runNew_cells (id : Int) (x : Pln) : cells_run (runNewR0 id x) ≤ 5000000 := by
  unfold runNewR0
  split
  · split
    · rename_i h
      have hm := many_false (fault_zero h).1
      unfold cells_run
      simp only [newTasks_length]
      omega
    · simp [zeroRn, cells_run]
  · simp [zeroRn, cells_run]

/-- How many of the tasks for which a task waits are not done. -/
def needTo (ts : List Tsk) : List Int → Nat
  | [] => 0
  | b :: r => (if (ts.getD b.toNat zeroT).state = 4 then 0 else 1) + needTo ts r
theorem needTo_le (ts : List Tsk) : ∀ l, needTo ts l ≤ l.length
  | [] => Nat.le_refl _
  | b :: r => by have := needTo_le ts r; rw [needTo, List.length_cons]; split <;> omega
theorem needTo_drop {ts : List Tsk} {l : List Int} {k : Nat} (h : k < l.length) : needTo ts (l.drop k) = (if (ts.getD (l[k]).toNat zeroT).state = 4 then 0 else 1) + needTo ts (l.drop (k + 1)) := by rw [List.drop_eq_getElem_cons h, needTo]
def taskB (y : Tsk) (need : Int) (most : Int) : Bool :=
  inB y.state 1 6 && decide (y.need = need) && inB y.try_ 0 most && (if y.state = 3 then inB y.until_ 1 1000000000 else decide (y.until_ = 0)) &&
  (if y.state = 1 then decide (0 < y.need) else if y.state = 2 then decide (y.need = 0) && decide (y.try_ < most) else if y.state = 6 then true else decide (y.need = 0) && decide (1 ≤ y.try_))
def taskAt (x : Rn) (t : Nat) : Bool := taskB (x.tasks.getD t zeroT) (needTo x.tasks (beforeTo x.plan.edges t x.plan.tasks.toNat) : Nat) x.plan.most
def tasksB (x : Rn) : Nat → Bool
  | 0 => true
  | k + 1 => tasksB x k && taskAt x k
theorem tasksB_false {x : Rn} {k m : Nat} (hk : k < m) (h : taskAt x k = false) : tasksB x m = false := by
  induction m with
  | zero => omega
  | succ m ih =>
    rw [tasksB]
    by_cases e : k = m
    · subst e; rw [h, Bool.and_false]
    · rw [ih (by omega), Bool.false_and]
theorem tasksB_iff {x : Rn} : ∀ {m : Nat}, tasksB x m = true ↔ ∀ k, k < m → taskAt x k = true
  | 0 => by simp [tasksB]
  | m + 1 => by
    rw [tasksB, Bool.and_eq_true, tasksB_iff (m := m)]
    constructor
    · rintro ⟨h1, h2⟩ k hk
      by_cases e : k = m
      · subst e; exact h2
      · exact h1 k (by omega)
    · intro h
      exact ⟨fun k hk => h k (by omega), h m (by omega)⟩
/-- How many tasks stand so. -/
def cntS (ts : List Tsk) (s : Int) : Nat := (tasksTo ts s ts.length).length
def stateR (ts : List Tsk) : Int :=
  if cntS ts 4 = ts.length then 2
  else if cntS ts 5 = 1 ∧ cntS ts 4 + cntS ts 5 + cntS ts 6 = ts.length then 3
  else if cntS ts 5 = 0 ∧ 0 < cntS ts 6 ∧ cntS ts 4 + cntS ts 5 + cntS ts 6 = ts.length then 4
  else if cntS ts 5 = 0 ∧ cntS ts 6 = 0 then 1 else 0
noncomputable def runOkR (x : Rn) : Bool :=
  inB x.id 1 9999 && (decide (planFaultR x.plan = 0) && (decide ((x.tasks.length : Int) = x.plan.tasks) && (tasksB x x.tasks.length && decide (x.state = stateR x.tasks ∧ x.state ≠ 0))))
end Go.Proofs.Ytbbjkldkjndfaaa

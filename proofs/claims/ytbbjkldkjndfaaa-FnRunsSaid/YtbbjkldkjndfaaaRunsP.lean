/- Runs that go on: what stays right of them. Plain. -/
import Derived.Test.YtbbjkldkjndfaaaLeftP
import Derived.Test.YtbbjkldkjndfaaaOrderP
namespace Go.Proofs.Ytbbjkldkjndfaaa
set_option linter.unusedSimpArgs false
set_option linter.unusedVariables false

/-! ### Counting -/
theorem cn_succ (ts : List Tsk) (s : Int) (k : Nat) : (tasksTo ts s (k + 1)).length = (tasksTo ts s k).length + if (ts.getD k zeroT).state = s then 1 else 0 := by
  rw [tasksTo]
  split <;> simp
theorem cn_zero {ts : List Tsk} {s : Int} : ∀ {m : Nat}, (∀ k, k < m → (ts.getD k zeroT).state ≠ s) → (tasksTo ts s m).length = 0
  | 0, _ => rfl
  | m + 1, h => by rw [cn_succ, cn_zero (fun k hk => h k (by omega)), if_neg (h m (by omega))]
theorem cn_lt {ts : List Tsk} {s : Int} {t : Nat} : ∀ {m : Nat}, t < m → (ts.getD t zeroT).state ≠ s → (tasksTo ts s m).length < m
  | 0, h, _ => by omega
  | m + 1, h, hs => by
    rw [cn_succ]
    by_cases e : t = m
    · subst e
      have := tasksTo_le ts s t
      rw [if_neg hs]
      omega
    · have := cn_lt (m := m) (by omega) hs
      split <;> omega
theorem cn_pos {ts : List Tsk} {s : Int} {t : Nat} : ∀ {m : Nat}, t < m → (ts.getD t zeroT).state = s → 0 < (tasksTo ts s m).length
  | 0, h, _ => by omega
  | m + 1, h, hs => by
    rw [cn_succ]
    by_cases e : t = m
    · subst e; rw [if_pos hs]; omega
    · have := cn_pos (m := m) (by omega) hs
      omega
theorem cn_one {ts : List Tsk} {s : Int} {t : Nat} (ht : (ts.getD t zeroT).state = s) : ∀ {m : Nat}, (∀ k, k < m → k ≠ t → (ts.getD k zeroT).state ≠ s) → (tasksTo ts s m).length = if t < m then 1 else 0
  | 0, _ => by simp [tasksTo]
  | m + 1, h => by
    rw [cn_succ, cn_one ht (fun k hk hn => h k (by omega) hn)]
    by_cases e : m = t
    · subst e
      rw [if_pos ht, if_neg (by omega), if_pos (by omega)]
    · rw [if_neg (h m (by omega) e)]
      by_cases h2 : t < m
      · rw [if_pos h2, if_pos (by omega)]
      · rw [if_neg h2, if_neg (by omega)]
theorem cn_sum {ts : List Tsk} : ∀ {k : Nat}, (∀ t, t < k → 1 ≤ (ts.getD t zeroT).state ∧ (ts.getD t zeroT).state ≤ 6) → (tasksTo ts 1 k).length + (tasksTo ts 2 k).length + (tasksTo ts 3 k).length + (tasksTo ts 4 k).length + (tasksTo ts 5 k).length + (tasksTo ts 6 k).length = k
  | 0, _ => rfl
  | k + 1, h => by
    have ih := cn_sum (k := k) (fun t ht => h t (by omega))
    have hk := h k (by omega)
    simp only [cn_succ]
    generalize (ts.getD k zeroT).state = s at hk ⊢
    have : s = 1 ∨ s = 2 ∨ s = 3 ∨ s = 4 ∨ s = 5 ∨ s = 6 := by omega
    rcases this with rfl | rfl | rfl | rfl | rfl | rfl <;> simp <;> omega
/-- All of the states. -/
def States (ts : List Tsk) (P : Int → Prop) : Prop := ∀ k, k < ts.length → P (ts.getD k zeroT).state
theorem state_live {ts : List Tsk} (h : States ts fun s => s ≠ 5 ∧ s ≠ 6) : stateR ts = if cntS ts 4 = ts.length then 2 else 1 := by
  have h5 : cntS ts 5 = 0 := cn_zero fun k hk => (h k hk).1
  have h6 : cntS ts 6 = 0 := cn_zero fun k hk => (h k hk).2
  unfold stateR
  rw [h5, h6]
  by_cases e : cntS ts 4 = ts.length
  · rw [if_pos e, if_pos e]
  · rw [if_neg e, if_neg e, if_neg (by omega), if_neg (by omega), if_pos ⟨rfl, rfl⟩]
theorem state_one {ts : List Tsk} (h : States ts fun s => s ≠ 5 ∧ s ≠ 6) {t : Nat} (ht : t < ts.length) (h4 : (ts.getD t zeroT).state ≠ 4) : stateR ts = 1 := by
  rw [state_live h, if_neg (show ¬ cntS ts 4 = ts.length from Nat.ne_of_lt (cn_lt ht h4))]
theorem state_failed {ts : List Tsk} {t : Nat} (ht : t < ts.length) (h5 : (ts.getD t zeroT).state = 5) (h : ∀ k, k < ts.length → k ≠ t → (ts.getD k zeroT).state = 4 ∨ (ts.getD k zeroT).state = 6) : stateR ts = 3 := by
  have hc5 : cntS ts 5 = 1 := by
    have := cn_one (m := ts.length) h5 (fun k hk hn => by have := h k hk hn; omega)
    rw [if_pos ht] at this
    exact this
  have all : ∀ k, k < ts.length → (ts.getD k zeroT).state = 4 ∨ (ts.getD k zeroT).state = 5 ∨ (ts.getD k zeroT).state = 6 := fun k hk => by
    by_cases e : k = t
    · subst e; exact .inr (.inl h5)
    · rcases h k hk e with h | h
      · exact .inl h
      · exact .inr (.inr h)
  have hs := cn_sum (ts := ts) (k := ts.length) (fun k hk => by have := all k hk; omega)
  have h1 := cn_zero (ts := ts) (s := 1) (m := ts.length) (fun k hk => by have := all k hk; omega)
  have h2 := cn_zero (ts := ts) (s := 2) (m := ts.length) (fun k hk => by have := all k hk; omega)
  have h3 := cn_zero (ts := ts) (s := 3) (m := ts.length) (fun k hk => by have := all k hk; omega)
  unfold cntS at hc5
  unfold stateR cntS
  rw [if_neg (by omega), if_pos ⟨hc5, by omega⟩]
theorem state_left {ts : List Tsk} {t : Nat} (ht : t < ts.length) (h6 : (ts.getD t zeroT).state = 6) (h : ∀ k, k < ts.length → (ts.getD k zeroT).state = 4 ∨ (ts.getD k zeroT).state = 6) : stateR ts = 4 := by
  have hp := cn_pos (m := ts.length) ht h6
  have hs := cn_sum (ts := ts) (k := ts.length) (fun k hk => by have := h k hk; omega)
  have h1 := cn_zero (ts := ts) (s := 1) (m := ts.length) (fun k hk => by have := h k hk; omega)
  have h2 := cn_zero (ts := ts) (s := 2) (m := ts.length) (fun k hk => by have := h k hk; omega)
  have h3 := cn_zero (ts := ts) (s := 3) (m := ts.length) (fun k hk => by have := h k hk; omega)
  have h5 := cn_zero (ts := ts) (s := 5) (m := ts.length) (fun k hk => by have := h k hk; omega)
  unfold stateR cntS
  rw [if_neg (by omega), if_neg (by omega), if_pos ⟨h5, hp, by omega⟩]

/-! ### What is right of a task, of a run -/
structure TaskP (y : Tsk) (need most : Int) : Prop where
  st : 1 ≤ y.state ∧ y.state ≤ 6
  nd : y.need = need
  tr : 0 ≤ y.try_ ∧ y.try_ ≤ most
  un : (y.state = 3 → 1 ≤ y.until_ ∧ y.until_ ≤ 1000000000) ∧ (y.state ≠ 3 → y.until_ = 0)
  wt : y.state = 1 → 0 < y.need
  rd : y.state = 2 → y.need = 0 ∧ y.try_ < most
  ot : y.state = 3 ∨ y.state = 4 ∨ y.state = 5 → y.need = 0 ∧ 1 ≤ y.try_
theorem inB_iff {n lo hi : Int} : inB n lo hi = true ↔ lo ≤ n ∧ n ≤ hi := by simp [inB]
theorem taskB_iff {y : Tsk} {need most : Int} : taskB y need most = true ↔ TaskP y need most := by
  unfold taskB
  simp only [Bool.and_eq_true, inB_iff, decide_eq_true_eq]
  constructor
  · rintro ⟨⟨⟨⟨h1, h2⟩, h3⟩, h4⟩, h5⟩
    refine ⟨h1, h2, h3, ?_, ?_, ?_, ?_⟩
    · by_cases e : y.state = 3
      · rw [if_pos e, inB_iff] at h4; exact ⟨fun _ => h4, fun h => absurd e h⟩
      · rw [if_neg e, decide_eq_true_eq] at h4; exact ⟨fun h => absurd h e, fun _ => h4⟩
    · intro e; rw [if_pos e, decide_eq_true_eq] at h5; exact h5
    · intro e; rw [if_neg (by omega), if_pos e, Bool.and_eq_true, decide_eq_true_eq, decide_eq_true_eq] at h5; exact h5
    · intro e; rw [if_neg (by omega), if_neg (by omega), if_neg (by omega), Bool.and_eq_true, decide_eq_true_eq, decide_eq_true_eq] at h5; exact h5
  · rintro ⟨h1, h2, h3, h4, h5, h6, h7⟩
    refine ⟨⟨⟨⟨h1, h2⟩, h3⟩, ?_⟩, ?_⟩
    · by_cases e : y.state = 3
      · rw [if_pos e, inB_iff]; exact h4.1 e
      · rw [if_neg e, decide_eq_true_eq]; exact h4.2 e
    · by_cases e1 : y.state = 1
      · rw [if_pos e1, decide_eq_true_eq]; exact h5 e1
      · by_cases e2 : y.state = 2
        · rw [if_neg e1, if_pos e2, Bool.and_eq_true, decide_eq_true_eq, decide_eq_true_eq]; exact h6 e2
        · by_cases e6 : y.state = 6
          · rw [if_neg e1, if_neg e2, if_pos e6]
          · rw [if_neg e1, if_neg e2, if_neg e6, Bool.and_eq_true, decide_eq_true_eq, decide_eq_true_eq]; exact h7 (by omega)
/-- What a run's task waits for still. -/
def needOfR (x : Rn) (k : Nat) : Nat := needTo x.tasks (beforeTo x.plan.edges k x.plan.tasks.toNat)
structure RunP (x : Rn) : Prop where
  id : 1 ≤ x.id ∧ x.id ≤ 9999
  zero : planFaultR x.plan = 0
  len : (x.tasks.length : Int) = x.plan.tasks
  task : ∀ k, k < x.tasks.length → TaskP (x.tasks.getD k zeroT) (needOfR x k : Nat) x.plan.most
  state : x.state = stateR x.tasks
  some : x.state ≠ 0
theorem runOk_iff {x : Rn} : runOkR x = true ↔ RunP x := by
  unfold runOkR
  simp only [Bool.and_eq_true, decide_eq_true_eq, inB_iff, tasksB_iff]
  constructor
  · rintro ⟨h1, h2, h3, h4, h5, h6⟩
    exact ⟨h1, h2, h3, fun k hk => taskB_iff.1 (h4 k hk), h5, h6⟩
  · rintro ⟨h1, h2, h3, h4, h5, h6⟩
    exact ⟨h1, h2, h3, fun k hk => taskB_iff.2 (h4 k hk), h5, h6⟩
/-- A live run has nothing that failed or was left. -/
theorem live_states {x : Rn} (h : RunP x) (hl : x.state = 1) : States x.tasks fun s => s ≠ 5 ∧ s ≠ 6 := fun k hk => live_none (runOk_iff.2 h) hl k hk
/-- A run in which a task runs is live. -/
theorem runs_live {x : Rn} (h : RunP x) {t : Nat} (ht : t < x.tasks.length) (hr : (x.tasks.getD t zeroT).state = 3) : x.state = 1 := by
  have hs := cn_sum (ts := x.tasks) (k := x.tasks.length) (fun k hk => (h.task k hk).st)
  have h3 := cn_pos (m := x.tasks.length) ht hr
  have h1 := h.state
  have h2 := h.some
  rw [h1] at h2 ⊢
  unfold stateR cntS at h2 ⊢
  rw [if_neg (by omega), if_neg (by omega), if_neg (by omega)] at h2 ⊢
  split at h2
  · rename_i e; rw [if_pos e]
  · exact absurd rfl h2
/-- What is waited for hangs on what is done alone. -/
theorem need_congr {a b : List Tsk} : ∀ {l : List Int}, (∀ y ∈ l, ((a.getD y.toNat zeroT).state = 4 ↔ (b.getD y.toNat zeroT).state = 4)) → needTo a l = needTo b l
  | [], _ => rfl
  | y :: l, h => by
    have hy := h y (List.mem_cons_self ..)
    rw [needTo, needTo, need_congr (fun z hz => h z (List.mem_cons_of_mem _ hz))]
    by_cases e : (b.getD y.toNat zeroT).state = 4
    · rw [if_pos e, if_pos (hy.2 e)]
    · rw [if_neg e, if_neg (fun e2 => e (hy.1 e2))]
end Go.Proofs.Ytbbjkldkjndfaaa

/- Drawn runs: the run that a code draws, and that it is right. Plain. -/
import Derived.Test.YtbbjkldkjndfaaaGD
import Derived.Test.YtbbjkldkjndfaaaDrawPl
namespace Go.Proofs.Ytbbjkldkjndfaaa
set_option linter.unusedSimpArgs false
set_option linter.unusedVariables false

/-- The task at a place of a list of tasks. -/
def pickT (l : List Int) (k : Int) : Nat := (l.getD k.toNat 0).toNat
theorem tasksTo_mem {ts : List Tsk} {s : Int} : ∀ {m : Nat} {t : Int}, t ∈ tasksTo ts s m → 0 ≤ t ∧ t < m ∧ (ts.getD t.toNat zeroT).state = s
  | 0, t, h => by simp [tasksTo] at h
  | m + 1, t, h => by
    rw [tasksTo] at h
    by_cases e : (ts.getD m zeroT).state = s
    · rw [if_pos e, List.mem_append, List.mem_singleton] at h
      rcases h with h | rfl
      · have := tasksTo_mem h; exact ⟨this.1, by omega, this.2.2⟩
      · exact ⟨by omega, by omega, by rw [Int.toNat_natCast]; exact e⟩
    · rw [if_neg e] at h
      have := tasksTo_mem h; exact ⟨this.1, by omega, this.2.2⟩
theorem pickT_in {x : Rn} {s k : Int} (h0 : 0 ≤ k) (h1 : k < (tasksInR x s).length) : ∃ n : Nat, (tasksInR x s)[k.toNat]? = some (n : Int) ∧ pickT (tasksInR x s) k = n ∧ n < x.tasks.length ∧ (x.tasks.getD n zeroT).state = s := by
  have hk : k.toNat < (tasksInR x s).length := by omega
  have hm := tasksTo_mem (List.getElem_mem hk : (tasksInR x s)[k.toNat] ∈ tasksTo x.tasks s x.tasks.length)
  refine ⟨((tasksInR x s)[k.toNat]).toNat, ?_, ?_, by omega, hm.2.2⟩
  · rw [List.getElem?_eq_getElem hk]; congr 1; omega
  · unfold pickT; rw [List.getD_eq_getElem?_getD, List.getElem?_eq_getElem hk]; rfl
/-- One round of a draw. -/
noncomputable def runStep (code : List UInt8) (i : Int) (x : Rn) (c : Nat × Int) : Rn × (Nat × Int) :=
  if (tasksInR x 3).length > 0 then
    if (curBelow code 2 c).1 = 0 then (doneX x (pickT (tasksInR x 3) (curBelow code (tasksInR x 3).length (curBelow code 2 c).2).1), (curBelow code (tasksInR x 3).length (curBelow code 2 c).2).2)
    else if (curBelow code 4 (curBelow code 2 c).2).1 = 0 then (failX x (pickT (tasksInR x 3) (curBelow code (tasksInR x 3).length (curBelow code 4 (curBelow code 2 c).2).2).1), (curBelow code (tasksInR x 3).length (curBelow code 4 (curBelow code 2 c).2).2).2)
    else if (tasksInR x 2).length > 0 then (startX x (pickT (tasksInR x 2) (curBelow code (tasksInR x 2).length (curBelow code 4 (curBelow code 2 c).2).2).1) i, (curBelow code (tasksInR x 2).length (curBelow code 4 (curBelow code 2 c).2).2).2)
    else (x, (curBelow code 4 (curBelow code 2 c).2).2)
  else if (tasksInR x 2).length > 0 then (startX x (pickT (tasksInR x 2) (curBelow code (tasksInR x 2).length c).1) i, (curBelow code (tasksInR x 2).length c).2)
  else (x, c)
theorem runStep_good {code : List UInt8} {i : Int} {x : Rn} {c : Nat × Int} (h : RunGood x) (hl : x.state = 1) (h0 : 0 ≤ i) (h1 : i ≤ 1000) : RunGood (runStep code i x c).1 := by
  unfold runStep
  by_cases a : (tasksInR x 3).length > 0
  · rw [if_pos a]
    by_cases b : (curBelow code 2 c).1 = 0
    · rw [if_pos b]
      have hb := curBelow_bd code (tasksInR x 3).length (curBelow code 2 c).2 (by omega)
      obtain ⟨n, _, e, hn, hs⟩ := pickT_in hb.1 hb.2
      simp only
      rw [e]
      exact (done_good h hn hs).1
    · rw [if_neg b]
      by_cases d : (curBelow code 4 (curBelow code 2 c).2).1 = 0
      · rw [if_pos d]
        have hb := curBelow_bd code (tasksInR x 3).length (curBelow code 4 (curBelow code 2 c).2).2 (by omega)
        obtain ⟨n, _, e, hn, hs⟩ := pickT_in hb.1 hb.2
        simp only
        rw [e]
        exact (fail_good h hn hs).1
      · rw [if_neg d]
        by_cases r : (tasksInR x 2).length > 0
        · rw [if_pos r]
          have hb := curBelow_bd code (tasksInR x 2).length (curBelow code 4 (curBelow code 2 c).2).2 (by omega)
          obtain ⟨n, _, e, hn, hs⟩ := pickT_in hb.1 hb.2
          simp only
          rw [e]
          exact (start_good h hl hn hs h0 h1).1
        · rw [if_neg r]; exact h
  · rw [if_neg a]
    by_cases r : (tasksInR x 2).length > 0
    · rw [if_pos r]
      have hb := curBelow_bd code (tasksInR x 2).length c (by omega)
      obtain ⟨n, _, e, hn, hs⟩ := pickT_in hb.1 hb.2
      simp only
      rw [e]
      exact (start_good h hl hn hs h0 h1).1
    · rw [if_neg r]; exact h
/-- The rounds of a draw, at most f. -/
noncomputable def runGo (code : List UInt8) : Nat → Int → Rn → Nat × Int → Rn × (Nat × Int)
  | 0, _, x, c => (x, c)
  | f + 1, i, x, c => if i < (curBelow code 12 c).1 then (if x.state = 1 then runGo code f (i + 1) (runStep code i x (curBelow code 12 c).2).1 (runStep code i x (curBelow code 12 c).2).2 else (x, (curBelow code 12 c).2)) else (x, (curBelow code 12 c).2)
theorem runGo_good {code : List UInt8} : ∀ {f : Nat} {i : Int} {x : Rn} {c : Nat × Int}, RunGood x → 0 ≤ i → i + f ≤ 1000 → RunGood (runGo code f i x c).1
  | 0, _, _, _, h, _, _ => h
  | f + 1, i, x, c, h, h0, h1 => by
    unfold runGo
    split
    · split
      · exact runGo_good (runStep_good h (by assumption) h0 (by omega)) (by omega) (by omega)
      · exact h
    · exact h
noncomputable def runDrawn (code : List UInt8) (c : Nat × Int) : Rn × (Nat × Int) :=
  if (curBelow code 10 (runGo code 12 0 (runNewR0 (1 + (curBelow code 9 c).1) (planDrawn code (curBelow code 9 c).2).1) (planDrawn code (curBelow code 9 c).2).2).2).1 = 0
  then (runLeftR (runGo code 12 0 (runNewR0 (1 + (curBelow code 9 c).1) (planDrawn code (curBelow code 9 c).2).1) (planDrawn code (curBelow code 9 c).2).2).1, (curBelow code 10 (runGo code 12 0 (runNewR0 (1 + (curBelow code 9 c).1) (planDrawn code (curBelow code 9 c).2).1) (planDrawn code (curBelow code 9 c).2).2).2).2)
  else ((runGo code 12 0 (runNewR0 (1 + (curBelow code 9 c).1) (planDrawn code (curBelow code 9 c).2).1) (planDrawn code (curBelow code 9 c).2).2).1, (curBelow code 10 (runGo code 12 0 (runNewR0 (1 + (curBelow code 9 c).1) (planDrawn code (curBelow code 9 c).2).1) (planDrawn code (curBelow code 9 c).2).2).2).2)
theorem runDrawn_good (code : List UInt8) (c : Nat × Int) : RunGood (runDrawn code c).1 := by
  have hb := curBelow_bd code 9 c (by omega)
  have h0 := (new_good (id := 1 + (curBelow code 9 c).1) (p := (planDrawn code (curBelow code 9 c).2).1) ⟨by omega, by omega⟩ (planDrawn_good code _)).1
  have h1 := runGo_good (code := code) (f := 12) (i := 0) (c := (planDrawn code (curBelow code 9 c).2).2) h0 (by omega) (by omega)
  unfold runDrawn
  split
  · exact (left_good h1).1
  · exact h1
theorem runGo_step {code : List UInt8} {f : Nat} {i n : Int} {x : Rn} {d d1 : Nat × Int} (e : curBelow code 12 d = (n, d1)) (h : i < n ∧ x.state = 1) : runGo code (f + 1) i x d = runGo code f (i + 1) (runStep code i x d1).1 (runStep code i x d1).2 := by
  rw [runGo, e, if_pos h.1, if_pos h.2]
theorem runGo_stop {code : List UInt8} {f : Nat} {i n : Int} {x : Rn} {d d1 : Nat × Int} (e : curBelow code 12 d = (n, d1)) (h : ¬ (i < n ∧ x.state = 1)) : runGo code (f + 1) i x d = (x, d1) := by
  rw [runGo, e]
  by_cases h1 : i < n
  · rw [if_pos h1, if_neg (fun h2 => h ⟨h1, h2⟩)]
  · rw [if_neg h1]
section
variable {code : List UInt8} {i o o4 kk : Int} {x : Rn} {d d2 d3 d4 : Nat × Int}
theorem runStep_done (h3 : 0 < (tasksInR x 3).length) (e2 : curBelow code 2 d = (o, d2)) (ho : o = 0) (eK : curBelow code (tasksInR x 3).length d2 = (kk, d3)) : runStep code i x d = (doneX x (pickT (tasksInR x 3) kk), d3) := by
  unfold runStep; rw [if_pos h3, e2]; simp only; rw [if_pos ho, eK]
theorem runStep_fail (h3 : 0 < (tasksInR x 3).length) (e2 : curBelow code 2 d = (o, d2)) (ho : ¬ o = 0) (e4 : curBelow code 4 d2 = (o4, d3)) (ho4 : o4 = 0) (eK : curBelow code (tasksInR x 3).length d3 = (kk, d4)) : runStep code i x d = (failX x (pickT (tasksInR x 3) kk), d4) := by
  unfold runStep; rw [if_pos h3, e2]; simp only; rw [if_neg ho, e4]; simp only; rw [if_pos ho4, eK]
theorem runStep_start (h3 : 0 < (tasksInR x 3).length) (e2 : curBelow code 2 d = (o, d2)) (ho : ¬ o = 0) (e4 : curBelow code 4 d2 = (o4, d3)) (ho4 : ¬ o4 = 0) (h2 : 0 < (tasksInR x 2).length) (eK : curBelow code (tasksInR x 2).length d3 = (kk, d4)) : runStep code i x d = (startX x (pickT (tasksInR x 2) kk) i, d4) := by
  unfold runStep; rw [if_pos h3, e2]; simp only; rw [if_neg ho, e4]; simp only; rw [if_neg ho4, if_pos h2, eK]
theorem runStep_none (h3 : 0 < (tasksInR x 3).length) (e2 : curBelow code 2 d = (o, d2)) (ho : ¬ o = 0) (e4 : curBelow code 4 d2 = (o4, d3)) (ho4 : ¬ o4 = 0) (h2 : ¬ 0 < (tasksInR x 2).length) : runStep code i x d = (x, d3) := by
  unfold runStep; rw [if_pos h3, e2]; simp only; rw [if_neg ho, e4]; simp only; rw [if_neg ho4, if_neg h2]
theorem runStep_start0 (h3 : ¬ 0 < (tasksInR x 3).length) (h2 : 0 < (tasksInR x 2).length) (eK : curBelow code (tasksInR x 2).length d = (kk, d2)) : runStep code i x d = (startX x (pickT (tasksInR x 2) kk) i, d2) := by
  unfold runStep; rw [if_neg h3, if_pos h2, eK]
theorem runStep_none0 (h3 : ¬ 0 < (tasksInR x 3).length) (h2 : ¬ 0 < (tasksInR x 2).length) : runStep code i x d = (x, d) := by
  unfold runStep; rw [if_neg h3, if_neg h2]
end
theorem runDrawn_eq {code : List UInt8} {c c1 c2 d d1 : Nat × Int} {a o : Int} {p : Pln} {x : Rn} (e1 : curBelow code 9 c = (a, c1)) (e2 : planDrawn code c1 = (p, c2)) (e3 : runGo code 12 0 (runNewR0 (1 + a) p) c2 = (x, d)) (e4 : curBelow code 10 d = (o, d1)) :
    runDrawn code c = (if o = 0 then runLeftR x else x, d1) := by
  unfold runDrawn
  rw [e1]; simp only; rw [e2]; simp only; rw [e3]; simp only; rw [e4]; simp only
  split <;> rfl
theorem good_cost {x : Rn} (h : RunGood x) : cost_run x ≤ 1048576 := by
  have h1 := h.plan.edges.len
  have h2 := h.plan.tasks
  have h3 := h.n
  unfold cost_run
  omega
/-- The run that a code draws. -/
noncomputable def runDraw (code : List UInt8) : Rn := (runDrawn code (newC code)).1
theorem runDraw_good (code : List UInt8) : RunGood (runDraw code) := runDrawn_good code _
end Go.Proofs.Ytbbjkldkjndfaaa

/- Parts of a proof, one behind the other: RunsQ, RunsR, RunsS. No conditions. -/
import Derived.Test.YtbbjkldkjndfaaaRunsP
import Derived.Test.YtbbjkldkjndfaaaPlansL
/- What is done to a run, and that it stays right. Plain. -/
namespace Go.Proofs.Ytbbjkldkjndfaaa
set_option linter.unusedSimpArgs false
set_option linter.unusedVariables false

theorem getD_setT {M : List Tsk} {i j : Nat} {v : Tsk} (hi : i < M.length) : (M.set i v).getD j zeroT = if j = i then v else M.getD j zeroT := by
  rw [List.getD_eq_getElem?_getD, List.getElem?_set]
  by_cases e : i = j
  · subst e; rw [if_pos rfl, if_pos hi, if_pos rfl]; rfl
  · rw [if_neg e, if_neg (fun h => e h.symm), List.getD_eq_getElem?_getD]
/-! ### A task is done -/
def turnT (g : Tsk) : Tsk := ⟨if g.need - 1 = 0 then 2 else g.state, g.need - 1, g.try_, g.until_⟩
def behStep (l : List Tsk) (k : Int) : List Tsk := l.set k.toNat (turnT (l.getD k.toNat zeroT))
def doneT (g : Tsk) : Tsk := ⟨4, g.need, g.try_, 0⟩
def doneL (l : List Tsk) (t : Nat) (bs : List Int) : List Tsk := bs.foldl behStep (l.set t (doneT (l.getD t zeroT)))
theorem behStep_length (l : List Tsk) (k : Int) : (behStep l k).length = l.length := by simp [behStep]
theorem fold_beh_length : ∀ (bs : List Int) (l : List Tsk), (bs.foldl behStep l).length = l.length
  | [], _ => rfl
  | b :: bs, l => by rw [List.foldl_cons, fold_beh_length bs, behStep_length]
theorem doneL_length (l : List Tsk) (t : Nat) (bs : List Int) : (doneL l t bs).length = l.length := by unfold doneL; rw [fold_beh_length, List.length_set]
theorem fold_beh : ∀ {bs : List Int} {l : List Tsk} (hn : bs.Nodup) (hb : ∀ b ∈ bs, 0 ≤ b ∧ b < l.length) (k : Nat), (bs.foldl behStep l).getD k zeroT = if (k : Int) ∈ bs then turnT (l.getD k zeroT) else l.getD k zeroT
  | [], l, _, _, k => by simp
  | b :: bs, l, hn, hb, k => by
    have hb0 := hb b (List.mem_cons_self ..)
    have hn2 := List.nodup_cons.1 hn
    rw [List.foldl_cons, fold_beh hn2.2 (fun c hc => by rw [behStep_length]; exact hb c (List.mem_cons_of_mem _ hc)) k]
    unfold behStep
    rw [getD_setT (by omega)]
    by_cases e : k = b.toNat
    · have e2 : (k : Int) = b := by omega
      rw [if_pos e, ← e2] 
      rw [← e2] at hn2
      rw [if_neg hn2.1, if_pos (List.mem_cons_self ..), Int.toNat_natCast]
    · rw [if_neg e]
      by_cases h : (k : Int) ∈ bs
      · rw [if_pos h, if_pos (List.mem_cons_of_mem _ h)]
      · rw [if_neg h, if_neg (fun hm => by rcases List.mem_cons.1 hm with h1 | h1; · omega
                                           · exact h h1)]
theorem doneL_at {l : List Tsk} {t : Nat} {bs : List Int} (ht : t < l.length) (hn : bs.Nodup) (hb : ∀ b ∈ bs, 0 ≤ b ∧ b < l.length) (htb : (t : Int) ∉ bs) (k : Nat) :
    (doneL l t bs).getD k zeroT = if k = t then doneT (l.getD t zeroT) else if (k : Int) ∈ bs then turnT (l.getD k zeroT) else l.getD k zeroT := by
  unfold doneL
  rw [fold_beh hn (fun b h => by rw [List.length_set]; exact hb b h), getD_setT ht]
  by_cases e : k = t
  · subst e
    rw [if_neg htb, if_pos rfl, if_pos rfl]
  · rw [if_neg e, if_neg e]
/-- One task more is done: so much less is waited for. -/
theorem need_done {a b : List Tsk} {t : Int} : ∀ {l : List Int}, (∀ y ∈ l, 0 ≤ y) → 0 ≤ t → (a.getD t.toNat zeroT).state ≠ 4 → (∀ y ∈ l, ((b.getD y.toNat zeroT).state = 4 ↔ (a.getD y.toNat zeroT).state = 4 ∨ y = t)) → needTo b l + l.count t = needTo a l
  | [], _, _, _, _ => rfl
  | y :: l, h0, ht, hs, h => by
    have ih := need_done (fun z hz => h0 z (List.mem_cons_of_mem _ hz)) ht hs (fun z hz => h z (List.mem_cons_of_mem _ hz))
    have hy := h y (List.mem_cons_self ..)
    have hy0 := h0 y (List.mem_cons_self ..)
    rw [needTo, needTo, List.count_cons]
    by_cases e : y = t
    · subst e
      rw [if_pos (hy.2 (.inr rfl)), if_neg hs]
      simp
      omega
    · have e2 : (y == t) = false := by simp [e]
      rw [e2]
      by_cases e4 : (a.getD y.toNat zeroT).state = 4
      · rw [if_pos (hy.2 (.inl e4)), if_pos e4]; simp; omega
      · rw [if_neg (fun h4 => by rcases hy.1 h4 with h5 | h5; · exact e4 h5
                                 · exact e h5), if_neg e4]; simp; omega
end Go.Proofs.Ytbbjkldkjndfaaa

/- A run that goes on stays right: done, failed, left, started, new. Plain. -/
namespace Go.Proofs.Ytbbjkldkjndfaaa
set_option linter.unusedSimpArgs false
set_option linter.unusedVariables false

theorem behindTo_iff {E : List Edg} {n : Nat} (hi : Inside E n) {t b : Int} : b ∈ behindTo E t n ↔ Arc E t b := by
  refine ⟨behindTo_arc, ?_⟩
  rintro ⟨e, he, rfl, rfl⟩
  have := hi e he
  rw [← List.count_pos_iff, behindTo_count, if_pos (by omega)]
  exact List.count_pos_iff.2 (List.mem_map.2 ⟨e, List.mem_filter.2 ⟨he, by simp⟩, rfl⟩)
theorem beforeF_nodup {E : List Edg} (h : E.Nodup) (t : Int) : (beforeF E t).Nodup := by
  unfold beforeF List.Nodup
  rw [List.pairwise_map]
  refine List.Pairwise.imp_of_mem (fun {a b} ha hb hab e => hab ?_) (List.Pairwise.filter _ h)
  have h1 := (List.mem_filter.1 ha).2
  have h2 := (List.mem_filter.1 hb).2
  simp only [decide_eq_true_eq] at h1 h2
  cases a; cases b
  simp only at e h1 h2
  rw [e, h1, h2]
theorem behindF_nodup {E : List Edg} (h : E.Nodup) (t : Int) : (behindF E t).Nodup := by
  unfold behindF List.Nodup
  rw [List.pairwise_map]
  refine List.Pairwise.imp_of_mem (fun {a b} ha hb hab e => hab ?_) (List.Pairwise.filter _ h)
  have h1 := (List.mem_filter.1 ha).2
  have h2 := (List.mem_filter.1 hb).2
  simp only [decide_eq_true_eq] at h1 h2
  cases a; cases b
  simp only at e h1 h2
  rw [e, h1, h2]
theorem beforeTo_nodup {E : List Edg} (h : E.Nodup) (t : Int) (n : Nat) : (beforeTo E t n).Nodup := by
  rw [List.nodup_iff_count]
  intro a
  rw [beforeTo_count]
  split
  · exact List.nodup_iff_count.1 (beforeF_nodup h t) a
  · omega
theorem behindTo_nodup {E : List Edg} (h : E.Nodup) (t : Int) (n : Nat) : (behindTo E t n).Nodup := by
  rw [List.nodup_iff_count]
  intro a
  rw [behindTo_count]
  split
  · exact List.nodup_iff_count.1 (behindF_nodup h t) a
  · omega
theorem count_one {l : List Int} (h : l.Nodup) {y : Int} (hy : y ∈ l) : l.count y = 1 := by
  have h1 := List.nodup_iff_count.1 h y
  have h2 := List.count_pos_iff.2 hy
  omega
/-- A run as the draws make it. -/
structure RunGood (x : Rn) : Prop where
  ok : RunP x
  plan : PlanGood x.plan
  wait : ∀ k, k < x.tasks.length → (x.tasks.getD k zeroT).state = 1 → (x.tasks.getD k zeroT).try_ < x.plan.most
theorem RunGood.n {x : Rn} (h : RunGood x) : x.tasks.length = x.plan.tasks.toNat := by have := h.ok.len; omega
theorem needTo_pos {ts : List Tsk} : ∀ {l : List Int} {y : Int}, y ∈ l → (ts.getD y.toNat zeroT).state ≠ 4 → 0 < needTo ts l
  | b :: l, y, hy, hs => by
    rw [needTo]
    rcases List.mem_cons.1 hy with rfl | hy
    · rw [if_neg hs]; omega
    · have := needTo_pos hy hs; omega
theorem behind_waits {x : Rn} (h : RunGood x) {t : Nat} (ht : t < x.tasks.length) (hr : (x.tasks.getD t zeroT).state = 3) {k : Nat} (hk : (k : Int) ∈ behindTo x.plan.edges t x.plan.tasks.toNat) : k < x.tasks.length ∧ k ≠ t ∧ (x.tasks.getD k zeroT).state = 1 := by
  have hpr := good_right h.plan
  have hb := behindTo_mem hk
  have hkn : k < x.tasks.length := by rw [h.n]; omega
  have harc := (behindTo_iff hpr.ins).1 hk
  have hbef : (t : Int) ∈ beforeTo x.plan.edges k x.plan.tasks.toNat := (beforeTo_iff hpr.ins).2 harc
  have hp := needTo_pos (ts := x.tasks) hbef (by rw [Int.toNat_natCast, hr]; decide)
  have hT := h.ok.task k hkn
  have hl := live_states h.ok (runs_live h.ok ht hr) k hkn
  have hnd := hT.nd
  unfold needOfR at hnd
  have h2 := hT.rd
  have h3 := hT.ot
  have h1 := hT.st
  refine ⟨hkn, fun e => ?_, ?_⟩
  · subst e
    have hT' := hT.ot (.inl hr)
    omega
  · generalize (x.tasks.getD k zeroT) = g at *
    refine Classical.byContradiction fun hne => ?_
    have : g.state = 2 ∨ (g.state = 3 ∨ g.state = 4 ∨ g.state = 5) := by omega
    rcases this with h | h
    · have := h2 h; omega
    · have := h3 h; omega
/-- The run with the task done. -/
def doneX (x : Rn) (t : Nat) : Rn := ⟨x.id, x.plan, stateR (doneL x.tasks t (behindTo x.plan.edges t x.plan.tasks.toNat)), doneL x.tasks t (behindTo x.plan.edges t x.plan.tasks.toNat)⟩
theorem done_at {x : Rn} (h : RunGood x) {t : Nat} (ht : t < x.tasks.length) (hr : (x.tasks.getD t zeroT).state = 3) (k : Nat) : (doneX x t).tasks.getD k zeroT = if k = t then doneT (x.tasks.getD t zeroT) else if (k : Int) ∈ behindTo x.plan.edges t x.plan.tasks.toNat then turnT (x.tasks.getD k zeroT) else x.tasks.getD k zeroT :=
  doneL_at ht (behindTo_nodup h.plan.edges.nodup _ _) (fun b hb => by have := behindTo_mem hb; have := h.n; omega) (fun hm => (behind_waits h ht hr hm).2.1 rfl) k
theorem done_good {x : Rn} (h : RunGood x) {t : Nat} (ht : t < x.tasks.length) (hr : (x.tasks.getD t zeroT).state = 3) : RunGood (doneX x t) ∧ ((doneX x t).tasks.getD t zeroT).state = 4 := by
  have hpr := good_right h.plan
  have hlen : (doneX x t).tasks.length = x.tasks.length := doneL_length _ _ _
  have hat := done_at h ht hr
  have hlive := runs_live h.ok ht hr
  have hl := live_states h.ok hlive
  have hd4 : ∀ k : Nat, ((doneX x t).tasks.getD k zeroT).state = 4 ↔ (x.tasks.getD k zeroT).state = 4 ∨ k = t := fun k => by
    rw [hat k]
    by_cases e : k = t
    · rw [if_pos e]; exact ⟨fun _ => .inr e, fun _ => rfl⟩
    · rw [if_neg e]
      by_cases hb : (k : Int) ∈ behindTo x.plan.edges t x.plan.tasks.toNat
      · have hw := (behind_waits h ht hr hb).2.2
        rw [if_pos hb]
        unfold turnT
        simp only
        constructor
        · intro h4; split at h4 <;> omega
        · rintro (h4 | h4)
          · omega
          · exact absurd h4 e
      · rw [if_neg hb]
        exact ⟨.inl, fun h4 => h4.resolve_right e⟩
  have hst : States (doneX x t).tasks fun s => s ≠ 5 ∧ s ≠ 6 := fun k hk => by
    rw [hlen] at hk
    have h0 := hl k hk
    rw [hat k]
    by_cases e : k = t
    · rw [if_pos e]; unfold doneT; simp
    · rw [if_neg e]
      by_cases hb : (k : Int) ∈ behindTo x.plan.edges t x.plan.tasks.toNat
      · rw [if_pos hb]; unfold turnT; simp only; split <;> omega
      · rw [if_neg hb]; exact h0
  have hneed : ∀ k, needOfR (doneX x t) k + (beforeTo x.plan.edges k x.plan.tasks.toNat).count (t : Int) = needOfR x k := fun k =>
    need_done (a := x.tasks) (b := (doneX x t).tasks) (t := (t : Int)) (fun y hy => (beforeTo_mem hy).1) (by omega) (by rw [Int.toNat_natCast, hr]; decide) (fun y hy => by
      have hb := beforeTo_mem hy
      rw [hd4 y.toNat]
      constructor
      · rintro (h4 | h4)
        · exact .inl h4
        · exact .inr (by omega)
      · rintro (h4 | h4)
        · exact .inl h4
        · exact .inr (by omega))
  refine ⟨⟨⟨h.ok.id, h.ok.zero, ?_, fun k hk => ?_, rfl, ?_⟩, h.plan, fun k hk h1 => ?_⟩, (hd4 t).2 (.inr rfl)⟩
  · rw [hlen]; exact h.ok.len
  · rw [hlen] at hk
    have hT := h.ok.task k hk
    have hn := hneed k
    have hnd := hT.nd
    show TaskP _ _ x.plan.most
    rw [hat k]
    by_cases e : k = t
    · subst e
      rw [if_pos rfl]
      have h3 := hT.ot (.inl hr)
      have htr := hT.tr
      exact ⟨by unfold doneT; simp, by show (x.tasks.getD k zeroT).need = _; omega, htr, ⟨fun h => by simp [doneT] at h, fun _ => rfl⟩, fun h => by simp [doneT] at h, fun h => by simp [doneT] at h, fun _ => h3⟩
    · rw [if_neg e]
      by_cases hb : (k : Int) ∈ behindTo x.plan.edges t x.plan.tasks.toNat
      · have hw := (behind_waits h ht hr hb).2.2
        have hc := count_one (beforeTo_nodup h.plan.edges.nodup k x.plan.tasks.toNat) ((beforeTo_iff hpr.ins).2 ((behindTo_iff hpr.ins).1 hb))
        have htw := h.wait k hk hw
        rw [if_pos hb]
        have hun := hT.un.2 (by omega)
        have htr := hT.tr
        have hps := hT.wt hw
        generalize x.tasks.getD k zeroT = g at *
        have hs : (turnT g).state = if g.need - 1 = 0 then 2 else 1 := by show (if g.need - 1 = 0 then 2 else g.state) = _; rw [hw]
        by_cases e0 : g.need - 1 = 0
        · rw [if_pos e0] at hs
          exact ⟨by omega, by show g.need - 1 = _; omega, htr, ⟨fun h => by omega, fun _ => hun⟩, fun h => by omega, fun _ => ⟨e0, htw⟩, fun h => by omega⟩
        · rw [if_neg e0] at hs
          exact ⟨by omega, by show g.need - 1 = _; omega, htr, ⟨fun h => by omega, fun _ => hun⟩, fun _ => by show 0 < g.need - 1; omega, fun h => by omega, fun h => by omega⟩
      · have hc : (beforeTo x.plan.edges k x.plan.tasks.toNat).count (t : Int) = 0 := List.count_eq_zero.2 fun hm => hb ((behindTo_iff hpr.ins).2 ((beforeTo_iff hpr.ins).1 hm))
        rw [if_neg hb, show needOfR (doneX x t) k = needOfR x k by omega]
        exact hT
  · show stateR _ ≠ 0
    have := state_live hst
    unfold doneX at this
    simp only at this
    rw [this]
    split <;> decide
  · rw [hlen] at hk
    rw [hat k] at h1 ⊢
    show _ < x.plan.most
    by_cases e : k = t
    · rw [if_pos e] at h1; simp [doneT] at h1
    · rw [if_neg e] at h1 ⊢
      by_cases hb : (k : Int) ∈ behindTo x.plan.edges t x.plan.tasks.toNat
      · rw [if_pos hb]
        exact h.wait k hk (behind_waits h ht hr hb).2.2
      · rw [if_neg hb] at h1 ⊢
        exact h.wait k hk h1
end Go.Proofs.Ytbbjkldkjndfaaa

/- A run that goes on stays right: failed, left, started, new. Plain. -/
namespace Go.Proofs.Ytbbjkldkjndfaaa
set_option linter.unusedSimpArgs false
set_option linter.unusedVariables false

/-- The needs hang on the plan and on what is done. -/
theorem need_same {x y : Rn} (hp : y.plan = x.plan) (hd : ∀ k : Nat, ((y.tasks.getD k zeroT).state = 4 ↔ (x.tasks.getD k zeroT).state = 4)) (k : Nat) : needOfR y k = needOfR x k := by
  unfold needOfR
  rw [hp]
  exact need_congr fun b _ => hd b.toNat
theorem cn_full {ts : List Tsk} {s : Int} : ∀ {m : Nat}, (∀ k, k < m → (ts.getD k zeroT).state = s) → (tasksTo ts s m).length = m
  | 0, _ => rfl
  | m + 1, h => by rw [cn_succ, cn_full (fun k hk => h k (by omega)), if_pos (h m (by omega))]
/-- In a live run one task at least is not done. -/
theorem live_one {x : Rn} (h : RunP x) (hl : x.state = 1) : ∃ k, k < x.tasks.length ∧ (x.tasks.getD k zeroT).state ≠ 4 := by
  refine Classical.byContradiction fun hn => ?_
  have hall : ∀ k, k < x.tasks.length → (x.tasks.getD k zeroT).state = 4 := fun k hk => Classical.byContradiction fun h4 => hn ⟨k, hk, h4⟩
  have h1 := cn_full hall
  have h2 := h.state
  rw [hl] at h2
  unfold stateR cntS at h2
  rw [if_pos h1] at h2
  omega
def startT (g : Tsk) (now wait : Int) : Tsk := ⟨3, g.need, g.try_ + 1, now + wait⟩
def startX (x : Rn) (t : Nat) (now : Int) : Rn := ⟨x.id, x.plan, x.state, x.tasks.set t (startT (x.tasks.getD t zeroT) now x.plan.wait)⟩
theorem start_good {x : Rn} (h : RunGood x) (hl : x.state = 1) {t : Nat} (ht : t < x.tasks.length) (hr : (x.tasks.getD t zeroT).state = 2) {now : Int} (h0 : 0 ≤ now) (h1 : now ≤ 1000) : RunGood (startX x t now) ∧ (startX x t now).state = 1 := by
  have hlen : (startX x t now).tasks.length = x.tasks.length := List.length_set ..
  have hat : ∀ k, (startX x t now).tasks.getD k zeroT = if k = t then startT (x.tasks.getD t zeroT) now x.plan.wait else x.tasks.getD k zeroT := fun k => getD_setT ht
  have hls := live_states h.ok hl
  have hst : States (startX x t now).tasks fun s => s ≠ 5 ∧ s ≠ 6 := fun k hk => by
    rw [hlen] at hk
    rw [hat k]
    by_cases e : k = t
    · rw [if_pos e]; unfold startT; simp
    · rw [if_neg e]; exact hls k hk
  have h4 : ((startX x t now).tasks.getD t zeroT).state ≠ 4 := by rw [hat t, if_pos rfl]; unfold startT; simp
  have hd : ∀ k : Nat, (((startX x t now).tasks.getD k zeroT).state = 4 ↔ (x.tasks.getD k zeroT).state = 4) := fun k => by
    rw [hat k]
    by_cases e : k = t
    · subst e; rw [if_pos rfl, hr]; unfold startT; simp
    · rw [if_neg e]
  have hw := h.plan.wait
  refine ⟨⟨⟨h.ok.id, h.ok.zero, by rw [hlen]; exact h.ok.len, fun k hk => ?_, ?_, ?_⟩, h.plan, fun k hk hs => ?_⟩, hl⟩
  · rw [hlen] at hk
    have hT := h.ok.task k hk
    rw [need_same (x := x) (y := startX x t now) rfl hd k, hat k]
    show TaskP _ _ x.plan.most
    by_cases e : k = t
    · subst e
      rw [if_pos rfl]
      have h2 := hT.rd hr
      have htr := hT.tr
      have hnd := hT.nd
      generalize x.tasks.getD k zeroT = g at *
      exact ⟨by simp [startT], hnd, ⟨by show 0 ≤ g.try_ + 1; omega, by show g.try_ + 1 ≤ _; omega⟩, ⟨fun _ => ⟨by show 1 ≤ now + x.plan.wait; omega, by show now + x.plan.wait ≤ _; omega⟩, fun hn => absurd rfl hn⟩, fun hn => by simp [startT] at hn, fun hn => by simp [startT] at hn, fun _ => ⟨h2.1, by show 1 ≤ g.try_ + 1; omega⟩⟩
    · rw [if_neg e]; exact hT
  · show x.state = _
    rw [hl]
    exact (state_one hst (by rw [hlen]; exact ht) h4).symm
  · show x.state ≠ 0
    rw [hl]; decide
  · rw [hlen] at hk
    rw [hat k] at hs ⊢
    by_cases e : k = t
    · rw [if_pos e] at hs; simp [startT] at hs
    · rw [if_neg e] at hs ⊢; exact h.wait k hk hs
/-! ### A task fails -/
def retryT (g : Tsk) : Tsk := ⟨2, g.need, g.try_, 0⟩
def failT (g : Tsk) : Tsk := ⟨5, g.need, g.try_, 0⟩
def failX (x : Rn) (t : Nat) : Rn :=
  if (x.tasks.getD t zeroT).try_ < x.plan.most then ⟨x.id, x.plan, x.state, x.tasks.set t (retryT (x.tasks.getD t zeroT))⟩
  else ⟨x.id, x.plan, 3, mapTo (leaveAt t) (x.tasks.set t (failT (x.tasks.getD t zeroT))) x.tasks.length⟩
theorem leave_at {l : List Tsk} {but : Int} {k : Nat} (hk : k < l.length) : (mapTo (leaveAt but) l l.length).getD k zeroT = leaveAt but k (l.getD k zeroT) := by
  rw [mapTo_getD, if_pos ⟨hk, hk⟩]
/-- A task that is left is right. -/
theorem left_right {g : Tsk} {need most : Int} (h : TaskP g need most) : TaskP (leftT g) need most :=
  ⟨by unfold leftT; simp, h.nd, h.tr, ⟨fun e => by simp [leftT] at e, fun _ => rfl⟩, fun e => by simp [leftT] at e, fun e => by simp [leftT] at e, fun e => by simp [leftT] at e⟩
theorem fail_good {x : Rn} (h : RunGood x) {t : Nat} (ht : t < x.tasks.length) (hr : (x.tasks.getD t zeroT).state = 3) :
    RunGood (failX x t) ∧ ((failX x t).state = 3 → States (failX x t).tasks fun s => s = 4 ∨ s = 5 ∨ s = 6) := by
  have hlive := runs_live h.ok ht hr
  have hls := live_states h.ok hlive
  unfold failX
  by_cases htr : (x.tasks.getD t zeroT).try_ < x.plan.most
  · rw [if_pos htr]
    obtain ⟨y, hy⟩ : ∃ y : Rn, y = ⟨x.id, x.plan, x.state, x.tasks.set t (retryT (x.tasks.getD t zeroT))⟩ := ⟨_, rfl⟩
    rw [← hy]
    have hlen : y.tasks.length = x.tasks.length := by rw [hy]; exact List.length_set ..
    have hat : ∀ k, y.tasks.getD k zeroT = if k = t then retryT (x.tasks.getD t zeroT) else x.tasks.getD k zeroT := fun k => by rw [hy]; exact getD_setT ht
    have hst : States y.tasks fun s => s ≠ 5 ∧ s ≠ 6 := fun k hk => by
      rw [hlen] at hk
      rw [hat k]
      by_cases e : k = t
      · rw [if_pos e]; unfold retryT; simp
      · rw [if_neg e]; exact hls k hk
    have h4 : (y.tasks.getD t zeroT).state ≠ 4 := by rw [hat t, if_pos rfl]; unfold retryT; simp
    have hd : ∀ k : Nat, ((y.tasks.getD k zeroT).state = 4 ↔ (x.tasks.getD k zeroT).state = 4) := fun k => by
      rw [hat k]
      by_cases e : k = t
      · subst e; rw [if_pos rfl, hr]; unfold retryT; simp
      · rw [if_neg e]
    have hyp : y.plan = x.plan := by rw [hy]
    have hyi : y.id = x.id := by rw [hy]
    have hys : y.state = 1 := by rw [hy]; exact hlive
    refine ⟨⟨⟨by rw [hyi]; exact h.ok.id, by rw [hyp]; exact h.ok.zero, by rw [hlen, hyp]; exact h.ok.len, fun k hk => ?_, ?_, by rw [hys]; decide⟩, by rw [hyp]; exact h.plan, fun k hk hs => ?_⟩, fun e => by omega⟩
    · rw [hlen] at hk
      have hT := h.ok.task k hk
      rw [need_same hyp hd k, hat k, hyp]
      by_cases e : k = t
      · subst e
        rw [if_pos rfl]
        have h3 := hT.ot (.inl hr)
        exact ⟨by unfold retryT; simp, hT.nd, hT.tr, ⟨fun e => by simp [retryT] at e, fun _ => rfl⟩, fun e => by simp [retryT] at e, fun _ => ⟨h3.1, htr⟩, fun e => by simp [retryT] at e⟩
      · rw [if_neg e]; exact hT
    · rw [hys]
      exact (state_one hst (by rw [hlen]; exact ht) h4).symm
    · rw [hlen] at hk
      rw [hyp]
      rw [hat k] at hs ⊢
      by_cases e : k = t
      · rw [if_pos e] at hs; simp [retryT] at hs
      · rw [if_neg e] at hs ⊢; exact h.wait k hk hs
  · rw [if_neg htr]
    obtain ⟨y, hy⟩ : ∃ y : Rn, y = ⟨x.id, x.plan, 3, mapTo (leaveAt t) (x.tasks.set t (failT (x.tasks.getD t zeroT))) x.tasks.length⟩ := ⟨_, rfl⟩
    rw [← hy]
    have hlen : y.tasks.length = x.tasks.length := by rw [hy]; show (mapTo _ _ _).length = _; rw [mapTo_length, List.length_set]
    have hat : ∀ k, k < x.tasks.length → y.tasks.getD k zeroT = if k = t then failT (x.tasks.getD t zeroT) else if (x.tasks.getD k zeroT).state = 4 then x.tasks.getD k zeroT else leftT (x.tasks.getD k zeroT) := fun k hk => by
      rw [hy]
      show (mapTo (leaveAt t) (x.tasks.set t (failT (x.tasks.getD t zeroT))) x.tasks.length).getD k zeroT = _
      rw [mapTo_getD, if_pos ⟨hk, by rw [List.length_set]; exact hk⟩, getD_setT ht]
      by_cases e : k = t
      · rw [if_pos e, if_pos e, leaveAt, if_pos (by omega)]
      · rw [if_neg e, if_neg e, leaveAt, if_neg (by omega)]
    have hyp : y.plan = x.plan := by rw [hy]
    have hyi : y.id = x.id := by rw [hy]
    have hys : y.state = 3 := by rw [hy]
    have hall : ∀ k, k < x.tasks.length → k ≠ t → (y.tasks.getD k zeroT).state = 4 ∨ (y.tasks.getD k zeroT).state = 6 := fun k hk e => by
      rw [hat k hk, if_neg e]
      by_cases e4 : (x.tasks.getD k zeroT).state = 4
      · rw [if_pos e4]; exact .inl e4
      · rw [if_neg e4]; exact .inr rfl
    have h5 : (y.tasks.getD t zeroT).state = 5 := by rw [hat t ht, if_pos rfl]; rfl
    have hd : ∀ k : Nat, ((y.tasks.getD k zeroT).state = 4 ↔ (x.tasks.getD k zeroT).state = 4) := fun k => by
      by_cases hk : k < x.tasks.length
      · rw [hat k hk]
        by_cases e : k = t
        · subst e; rw [if_pos rfl, hr]; unfold failT; simp
        · rw [if_neg e]
          by_cases e4 : (x.tasks.getD k zeroT).state = 4
          · rw [if_pos e4]
          · rw [if_neg e4]; exact ⟨fun h6 => by simp [leftT] at h6, fun h4 => absurd h4 e4⟩
      · rw [List.getD_eq_getElem?_getD, List.getElem?_eq_none (by omega), List.getD_eq_getElem?_getD, List.getElem?_eq_none (by omega)]
    refine ⟨⟨⟨by rw [hyi]; exact h.ok.id, by rw [hyp]; exact h.ok.zero, by rw [hlen, hyp]; exact h.ok.len, fun k hk => ?_, ?_, by rw [hys]; decide⟩, by rw [hyp]; exact h.plan, fun k hk hs => ?_⟩, fun _ k hk => ?_⟩
    · rw [hlen] at hk
      have hT := h.ok.task k hk
      rw [need_same hyp hd k, hat k hk, hyp]
      by_cases e : k = t
      · subst e
        rw [if_pos rfl]
        have h3 := hT.ot (.inl hr)
        exact ⟨by unfold failT; simp, hT.nd, hT.tr, ⟨fun e => by simp [failT] at e, fun _ => rfl⟩, fun e => by simp [failT] at e, fun e => by simp [failT] at e, fun _ => h3⟩
      · rw [if_neg e]
        by_cases e4 : (x.tasks.getD k zeroT).state = 4
        · rw [if_pos e4]; exact hT
        · rw [if_neg e4]; exact left_right hT
    · rw [hys]
      exact (state_failed (by rw [hlen]; exact ht) h5 (fun k hk e => hall k (by rw [← hlen]; exact hk) e)).symm
    · rw [hlen] at hk
      by_cases e : k = t
      · subst e; omega
      · have := hall k hk e; omega
    · rw [hlen] at hk
      by_cases e : k = t
      · subst e; exact .inr (.inl h5)
      · rcases hall k hk e with h | h
        · exact .inl h
        · exact .inr (.inr h)
/-! ### A run is left -/
theorem left_good {x : Rn} (h : RunGood x) : RunGood (runLeftR x) ∧ (x.state = 1 → (runLeftR x).state = 4 ∧ States (runLeftR x).tasks fun s => s = 4 ∨ s = 6) := by
  unfold runLeftR
  by_cases hl : x.state = 1
  · rw [if_pos ⟨runOk_iff.2 h.ok, hl⟩]
    obtain ⟨y, hy⟩ : ∃ y : Rn, y = ⟨x.id, x.plan, 4, mapTo (leaveAt (-1)) x.tasks x.tasks.length⟩ := ⟨_, rfl⟩
    rw [← hy]
    have hlen : y.tasks.length = x.tasks.length := by rw [hy]; exact mapTo_length _ _ _
    have hat : ∀ k, k < x.tasks.length → y.tasks.getD k zeroT = if (x.tasks.getD k zeroT).state = 4 then x.tasks.getD k zeroT else leftT (x.tasks.getD k zeroT) := fun k hk => by
      rw [hy]
      show (mapTo (leaveAt (-1)) x.tasks x.tasks.length).getD k zeroT = _
      rw [leave_at hk, leaveAt, if_neg (by omega)]
    have hyp : y.plan = x.plan := by rw [hy]
    have hyi : y.id = x.id := by rw [hy]
    have hys : y.state = 4 := by rw [hy]
    have hall : ∀ k, k < x.tasks.length → (y.tasks.getD k zeroT).state = 4 ∨ (y.tasks.getD k zeroT).state = 6 := fun k hk => by
      rw [hat k hk]
      by_cases e4 : (x.tasks.getD k zeroT).state = 4
      · rw [if_pos e4]; exact .inl e4
      · rw [if_neg e4]; exact .inr rfl
    have hd : ∀ k : Nat, ((y.tasks.getD k zeroT).state = 4 ↔ (x.tasks.getD k zeroT).state = 4) := fun k => by
      by_cases hk : k < x.tasks.length
      · rw [hat k hk]
        by_cases e4 : (x.tasks.getD k zeroT).state = 4
        · rw [if_pos e4]
        · rw [if_neg e4]; exact ⟨fun h6 => by simp [leftT] at h6, fun h4 => absurd h4 e4⟩
      · rw [List.getD_eq_getElem?_getD, List.getElem?_eq_none (by omega), List.getD_eq_getElem?_getD, List.getElem?_eq_none (by omega)]
    obtain ⟨j, hj, hj4⟩ := live_one h.ok hl
    have hj6 : (y.tasks.getD j zeroT).state = 6 := by rw [hat j hj, if_neg hj4]; rfl
    refine ⟨⟨⟨by rw [hyi]; exact h.ok.id, by rw [hyp]; exact h.ok.zero, by rw [hlen, hyp]; exact h.ok.len, fun k hk => ?_, ?_, by rw [hys]; decide⟩, by rw [hyp]; exact h.plan, fun k hk hs => ?_⟩, fun _ => ⟨hys, fun k hk => hall k (by rw [← hlen]; exact hk)⟩⟩
    · rw [hlen] at hk
      have hT := h.ok.task k hk
      rw [need_same hyp hd k, hat k hk, hyp]
      by_cases e4 : (x.tasks.getD k zeroT).state = 4
      · rw [if_pos e4]; exact hT
      · rw [if_neg e4]; exact left_right hT
    · rw [hys]
      exact (state_left (by rw [hlen]; exact hj) hj6 (fun k hk => hall k (by rw [← hlen]; exact hk))).symm
    · rw [hlen] at hk
      have := hall k hk
      omega
  · rw [if_neg (fun h => hl h.2)]
    exact ⟨h, fun e => absurd e hl⟩
/-! ### A new run -/
theorem new_good {id : Int} {p : Pln} (hi : 1 ≤ id ∧ id ≤ 9999) (hp : PlanGood p) : RunGood (runNewR0 id p) ∧ (runNewR0 id p).state = 1 ∧ runNewR1 id p = true ∧ (runNewR0 id p).plan = p ∧ States (runNewR0 id p).tasks fun s => s = 1 ∨ s = 2 := by
  have hpr := good_right hp
  have hcnt := hpr.cnt
  have he : runNewR0 id p = ⟨id, p, 1, newTasks p.edges p.tasks.toNat p.tasks.toNat⟩ := by
    unfold runNewR0
    rw [if_pos (inB_iff.2 hi), if_pos hpr.zero]
  have h1 : runNewR1 id p = true := by unfold runNewR1; rw [inB_iff.2 hi, hpr.zero]; rfl
  rw [he, h1]
  obtain ⟨y, hy⟩ : ∃ y : Rn, y = ⟨id, p, 1, newTasks p.edges p.tasks.toNat p.tasks.toNat⟩ := ⟨_, rfl⟩
  rw [← hy]
  have hlen : y.tasks.length = p.tasks.toNat := by rw [hy]; exact newTasks_length _ _ _
  have hyp : y.plan = p := by rw [hy]
  have hyi : y.id = id := by rw [hy]
  have hys : y.state = 1 := by rw [hy]
  have hat : ∀ k, k < p.tasks.toNat → y.tasks.getD k zeroT = newTask p.edges p.tasks.toNat k := fun k hk => by rw [hy]; exact newTasks_getD _ _ hk
  have hall : ∀ k, k < p.tasks.toNat → (y.tasks.getD k zeroT).state = 1 ∨ (y.tasks.getD k zeroT).state = 2 := fun k hk => by
    rw [hat k hk]
    unfold newTask
    simp only
    split
    · exact .inr rfl
    · exact .inl rfl
  have hnt : ∀ k : Nat, (y.tasks.getD k zeroT).state ≠ 4 := fun k => by
    by_cases hk : k < p.tasks.toNat
    · have := hall k hk; omega
    · rw [List.getD_eq_getElem?_getD, List.getElem?_eq_none (by omega)]; decide
  have hneed : ∀ (l : List Int), needTo y.tasks l = l.length := fun l => by
    induction l with
    | nil => rfl
    | cons b l ih => rw [needTo, if_neg (hnt _), ih, List.length_cons]; omega
  have hm := hp.most
  refine ⟨⟨⟨by rw [hyi]; exact hi, by rw [hyp]; exact hpr.zero, by rw [hlen, hyp]; omega, fun k hk => ?_, ?_, by rw [hys]; decide⟩, by rw [hyp]; exact hp, fun k hk hs => ?_⟩, hys, rfl, hyp, fun k hk => hall k (by rw [← hlen]; exact hk)⟩
  · rw [hlen] at hk
    unfold needOfR
    rw [hneed, hat k hk, hyp]
    unfold newTask
    refine ⟨by simp only; split <;> omega, rfl, ⟨Int.le_refl _, by show (0 : Int) ≤ _; omega⟩, ⟨fun e => by simp only at e; split at e <;> omega, fun _ => rfl⟩, fun e => ?_, fun e => ?_, fun e => by simp only at e; split at e <;> omega⟩
    · simp only at e ⊢
      split at e
      · omega
      · omega
    · simp only at e ⊢
      split at e
      · rename_i h0; exact ⟨by omega, by omega⟩
      · omega
  · rw [hys]
    refine (state_one (t := 0) (fun k hk => ?_) (by omega) (hnt 0)).symm
    have := hall k (by rw [← hlen]; exact hk)
    omega
  · rw [hlen] at hk
    rw [hat k hk, hyp]
    show (0 : Int) < p.most
    omega
end Go.Proofs.Ytbbjkldkjndfaaa

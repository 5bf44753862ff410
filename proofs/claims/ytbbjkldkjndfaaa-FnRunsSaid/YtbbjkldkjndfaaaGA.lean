/- Parts of a proof, one behind the other: Reach, Bfs, Words, VarPlain, Sched, Slices, Own, Cut, CopyRow, Kind, SchedT. No conditions. -/
import Derived.Lib.Hide
import Derived.WalkKit
import Derived.Below
import Derived.Laws.OwnMore
import Derived.Deep.AppendLies
import Derived.Deep.Draws
import Derived.Deep.QuietTactic
import Derived.Deep.OwnRows
import Derived.Deep.Slices
import Derived.Deep.Fields
import Derived.Laws.Rows
import Derived.Laws.MakeOwn
import Derived.Maps.AppendAt
import Derived.RegionTactic
import Derived.OwnWalk
import Derived.ChangeSame
import Derived.Laws.BitsAllLaws
import Derived.Laws.BitsLemmas
import Derived.Lib.SmallJoins
import Derived.ProofKit
import Derived.BigQuiet
import Derived.Deep.RegionHeld3
import Derived.Laws.CopyRow
import Derived.Laws.CopyOwn
/- Ways through a graph of a few nodes: what is reached by edges, by marks that are handed on, by a search. Plain: no program in sight. -/
namespace Go.Proofs.Ytbbjkldkjndfaaa

/-- An edge, from and to. -/
structure Edg where
  src : Int
  dst : Int
  deriving DecidableEq

/-- There is an edge. -/
def Arc (E : List Edg) (x y : Int) : Prop := ∃ e ∈ E, e.src = x ∧ e.dst = y
/-- y is reached from x, by one edge or some. -/
inductive Way (E : List Edg) : Int → Int → Prop
  | one {x y : Int} : Arc E x y → Way E x y
  | more {x z y : Int} : Arc E x z → Way E z y → Way E x y
/-- .. by r edges at most. -/
def Within (E : List Edg) : Nat → Int → Int → Prop
  | 0, _, _ => False
  | r + 1, x, y => Arc E x y ∨ ∃ z, Arc E x z ∧ Within E r z y

theorem Way.trans {E : List Edg} {x z y : Int} (h : Way E x z) (k : Way E z y) : Way E x y := by
  induction h with
  | one a => exact .more a k
  | more a _ ih => exact .more a (ih k)
theorem Within.way {E : List Edg} : ∀ {r : Nat} {x y : Int}, Within E r x y → Way E x y
  | 0, _, _, h => h.elim
  | r + 1, x, y, h => by
    rcases h with h | ⟨z, hz, hy⟩
    · exact .one h
    · exact .more hz (Within.way hy)
theorem Within.succ {E : List Edg} : ∀ {r : Nat} {x y : Int}, Within E r x y → Within E (r + 1) x y
  | 0, _, _, h => h.elim
  | r + 1, x, y, h => by
    rcases h with h | ⟨z, hz, hy⟩
    · exact .inl h
    · exact .inr ⟨z, hz, Within.succ hy⟩
theorem Within.le {E : List Edg} {r s : Nat} {x y : Int} (h : Within E r x y) (hs : r ≤ s) : Within E s x y := by
  induction hs with
  | refl => exact h
  | step _ ih => exact ih.succ
theorem Way.within {E : List Edg} {x y : Int} (h : Way E x y) : ∃ r, Within E r x y := by
  induction h with
  | one a => exact ⟨1, .inl a⟩
  | more a _ ih =>
    obtain ⟨r, hr⟩ := ih
    exact ⟨r + 1, .inr ⟨_, a, hr⟩⟩

/-- All edges lie among the nodes 0 .. n - 1. -/
def Inside (E : List Edg) (n : Nat) : Prop := ∀ e ∈ E, 0 ≤ e.src ∧ e.src < n ∧ 0 ≤ e.dst ∧ e.dst < n

open Classical in
/-- How many of the nodes reach y by r edges at most. -/
noncomputable def cntW (E : List Edg) (n r : Nat) (y : Int) : Nat := (List.range n).countP fun x : Nat => decide (Within E r (x : Int) y)
theorem cntW_le (E : List Edg) (n r : Nat) (y : Int) : cntW E n r y ≤ n := by
  have := List.countP_le_length (p := fun x : Nat => @decide (Within E r (x : Int) y) (Classical.propDecidable _)) (l := List.range n)
  simpa [cntW] using this

theorem countP_lt {α : Type} {p q : α → Bool} : ∀ (l : List α), (∀ a ∈ l, p a = true → q a = true) → (∃ a ∈ l, p a = false ∧ q a = true) → l.countP p < l.countP q
  | [], _, h => by obtain ⟨a, ha, _⟩ := h; cases ha
  | b :: l, hm, h => by
    have hl : l.countP p ≤ l.countP q := List.countP_mono_left fun a ha => hm a (List.mem_cons_of_mem _ ha)
    rw [List.countP_cons, List.countP_cons]
    obtain ⟨a, ha, hp, hq⟩ := h
    rcases List.mem_cons.1 ha with rfl | ha
    · rw [hp, hq]; simp; omega
    · have := countP_lt l (fun c hc => hm c (List.mem_cons_of_mem _ hc)) ⟨a, ha, hp, hq⟩
      have hb : (if p b = true then 1 else 0) ≤ (if q b = true then 1 else 0 : Nat) := by
        by_cases h1 : p b = true
        · rw [if_pos h1, if_pos (hm b (List.mem_cons_self ..) h1)]; exact Nat.le_refl _
        · rw [if_neg h1]; exact Nat.zero_le _
      omega

/-- r steps more add nothing. -/
def Still (E : List Edg) (r : Nat) (y : Int) : Prop := ∀ x, Within E (r + 1) x y → Within E r x y
theorem Still.succ {E : List Edg} {r : Nat} {y : Int} (h : Still E r y) : Still E (r + 1) y := by
  intro x hx
  rcases hx with hx | ⟨z, hz, hy⟩
  · exact .inl hx
  · exact .inr ⟨z, hz, h z hy⟩
theorem Still.le {E : List Edg} {r s : Nat} {y : Int} (h : Still E r y) (hs : r ≤ s) : Still E s y := by
  induction hs with
  | refl => exact h
  | step _ ih => exact ih.succ
theorem Still.all {E : List Edg} {r : Nat} {y : Int} (h : Still E r y) : ∀ {s : Nat} {x : Int}, Within E s x y → Within E r x y := by
  intro s x hx
  rcases Nat.le_total s r with hs | hs
  · exact hx.le hs
  · induction hs generalizing x with
    | refl => exact hx
    | step hs ih => exact ih ((h.le hs) x hx)
theorem Within.src {E : List Edg} {n r : Nat} {x y : Int} (hi : Inside E n) (h : Within E r x y) : 0 ≤ x ∧ x < n := by
  cases r with
  | zero => exact h.elim
  | succ r =>
    rcases h with ⟨e, he, rfl, _⟩ | ⟨_, ⟨e, he, rfl, _⟩, _⟩
    · exact ⟨(hi e he).1, (hi e he).2.1⟩
    · exact ⟨(hi e he).1, (hi e he).2.1⟩
theorem Way.ends {E : List Edg} {n : Nat} {x y : Int} (hi : Inside E n) (h : Way E x y) : 0 ≤ x ∧ x < n ∧ 0 ≤ y ∧ y < n := by
  induction h with
  | one a => obtain ⟨e, he, rfl, rfl⟩ := a; have := hi e he; omega
  | more a _ ih => obtain ⟨e, he, rfl, rfl⟩ := a; have := hi e he; omega
theorem grows {E : List Edg} {n : Nat} (hi : Inside E n) (y : Int) : ∀ r, (∀ s, s < r → ¬ Still E s y) → r ≤ cntW E n r y
  | 0, _ => Nat.zero_le _
  | r + 1, h => by
    have ih := grows hi y r (fun s hs => h s (by omega))
    have hns := h r (by omega)
    have : ∃ x, Within E (r + 1) x y ∧ ¬ Within E r x y := Classical.byContradiction fun hc => hns fun x hx => Classical.byContradiction fun hn => hc ⟨x, hx, hn⟩
    obtain ⟨x, hx, hn⟩ := this
    obtain ⟨h0, h1⟩ := hx.src hi
    have hlt : cntW E n r y < cntW E n (r + 1) y := by
      unfold cntW
      refine countP_lt _ (fun a _ ha => ?_) ⟨x.toNat, by simp; omega, ?_, ?_⟩
      · simp only [decide_eq_true_eq] at ha ⊢
        exact ha.succ
      · simp only [decide_eq_false_iff_not]
        rw [Int.toNat_of_nonneg h0]; exact hn
      · simp only [decide_eq_true_eq]
        rw [Int.toNat_of_nonneg h0]; exact hx
    omega
/-- Among n nodes, whoever is reached is reached by n edges at most. -/
theorem Way.within_n {E : List Edg} {n : Nat} {x y : Int} (hi : Inside E n) (h : Way E x y) : Within E n x y := by
  obtain ⟨s, hs⟩ := h.within
  have : ∃ r, r ≤ n ∧ Still E r y := Classical.byContradiction fun hc => by
    have := grows hi y (n + 1) (fun s hs h => hc ⟨s, by omega, h⟩)
    have := cntW_le E n (n + 1) y
    omega
  obtain ⟨r, hr, hst⟩ := this
  exact (hst.all hs).le hr

/-! ### Marks that are handed on: for each node the set of those that it reaches, as the bits of a number -/
def bitOr (M : List Nat) (e : Edg) : List Nat := M.set e.src.toNat (M.getD e.src.toNat 0 ||| (1 <<< e.dst.toNat ||| M.getD e.dst.toNat 0))
def bitRound (E : List Edg) (M : List Nat) : List Nat := E.foldl bitOr M
def bitRounds (E : List Edg) : Nat → List Nat → List Nat
  | 0, M => M
  | r + 1, M => bitRounds E r (bitRound E M)
def hasBit (M : List Nat) (x y : Int) : Prop := (M.getD x.toNat 0).testBit y.toNat = true

theorem getD_set {M : List Nat} {i j v : Nat} (hi : i < M.length) : (M.set i v).getD j 0 = if j = i then v else M.getD j 0 := by
  simp only [List.getD_eq_getElem?_getD, List.getElem?_set]
  by_cases h : i = j
  · subst h; simp [hi]
  · rw [if_neg h, if_neg (fun e => h e.symm)]
theorem bitOr_length (M : List Nat) (e : Edg) : (bitOr M e).length = M.length := by simp [bitOr]
theorem hasBit_or {M : List Nat} {e : Edg} {n : Nat} (hl : M.length = n) (he : 0 ≤ e.src ∧ e.src < n ∧ 0 ≤ e.dst ∧ e.dst < n) {x y : Int} (hx : 0 ≤ x) (hy : 0 ≤ y) :
    hasBit (bitOr M e) x y ↔ hasBit M x y ∨ (x = e.src ∧ (y = e.dst ∨ hasBit M e.dst y)) := by
  unfold hasBit bitOr
  rw [getD_set (by omega)]
  by_cases hxe : x = e.src
  · subst hxe
    rw [if_pos rfl]
    simp only [Nat.testBit_or, Bool.or_eq_true, Nat.shiftLeft_eq, Nat.one_mul, Nat.testBit_two_pow, decide_eq_true_eq, true_and]
    have : (e.dst.toNat = y.toNat) ↔ (y = e.dst) := by omega
    rw [this]
  · rw [if_neg (by omega)]
    simp [hxe]
/-- What is marked is reached. -/
def Sound (E : List Edg) (n : Nat) (M : List Nat) : Prop := M.length = n ∧ ∀ x y : Int, 0 ≤ x → 0 ≤ y → hasBit M x y → Way E x y
theorem Sound.or {E : List Edg} {n : Nat} {M : List Nat} (hi : Inside E n) (h : Sound E n M) {e : Edg} (he : e ∈ E) : Sound E n (bitOr M e) := by
  refine ⟨(bitOr_length M e).trans h.1, fun x y hx hy hb => ?_⟩
  rcases (hasBit_or h.1 (hi e he) hx hy).1 hb with hb | ⟨rfl, rfl | hb⟩
  · exact h.2 x y hx hy hb
  · exact .one ⟨e, he, rfl, rfl⟩
  · exact .more ⟨e, he, rfl, rfl⟩ (h.2 _ y (hi e he).2.2.1 hy hb)
theorem Sound.foldl {E : List Edg} {n : Nat} (hi : Inside E n) : ∀ (F : List Edg), (∀ e ∈ F, e ∈ E) → ∀ M, Sound E n M → Sound E n (F.foldl bitOr M)
  | [], _, _, h => h
  | e :: F, hs, _, h => Sound.foldl hi F (fun a ha => hs a (List.mem_cons_of_mem _ ha)) _ (h.or hi (hs e (List.mem_cons_self ..)))
theorem Sound.round {E : List Edg} {n : Nat} {M : List Nat} (hi : Inside E n) (h : Sound E n M) : Sound E n (bitRound E M) := Sound.foldl hi E (fun _ h => h) M h
theorem Sound.rounds {E : List Edg} {n : Nat} (hi : Inside E n) : ∀ (r : Nat) (M : List Nat), Sound E n M → Sound E n (bitRounds E r M)
  | 0, _, h => h
  | r + 1, _, h => Sound.rounds hi r _ (h.round hi)
/-- Marks stay; each edge hands its own on. -/
theorem foldl_keeps {E : List Edg} {n : Nat} (hi : Inside E n) : ∀ (F : List Edg), (∀ e ∈ F, e ∈ E) → ∀ M : List Nat, M.length = n →
    (F.foldl bitOr M).length = n ∧ (∀ x y : Int, 0 ≤ x → 0 ≤ y → hasBit M x y → hasBit (F.foldl bitOr M) x y) ∧
    ∀ e ∈ F, ∀ y : Int, 0 ≤ y → (y = e.dst ∨ hasBit M e.dst y) → hasBit (F.foldl bitOr M) e.src y
  | [], _, M, hl => ⟨hl, fun _ _ _ _ h => h, fun _ h => by cases h⟩
  | e :: F, hs, M, hl => by
    have he := hi e (hs e (List.mem_cons_self ..))
    obtain ⟨h1, h2, h3⟩ := foldl_keeps hi F (fun a ha => hs a (List.mem_cons_of_mem _ ha)) (bitOr M e) ((bitOr_length M e).trans hl)
    refine ⟨h1, fun x y hx hy h => h2 x y hx hy ((hasBit_or hl he hx hy).2 (.inl h)), fun f hf y hy h => ?_⟩
    rcases List.mem_cons.1 hf with rfl | hf
    · exact h2 _ y he.1 hy ((hasBit_or hl he he.1 hy).2 (.inr ⟨rfl, h⟩))
    · refine h3 f hf y hy (h.imp id fun h => (hasBit_or hl he ?_ hy).2 (.inl h))
      exact (hi f (hs f (List.mem_cons_of_mem _ hf))).2.2.1
theorem rounds_full {E : List Edg} {n : Nat} (hi : Inside E n) : ∀ (r s : Nat) (M : List Nat), M.length = n → (∀ x y : Int, 0 ≤ x → 0 ≤ y → Within E s x y → hasBit M x y) →
    (bitRounds E r M).length = n ∧ ∀ x y : Int, 0 ≤ x → 0 ≤ y → Within E (s + r) x y → hasBit (bitRounds E r M) x y
  | 0, _, _, hl, h => ⟨hl, h⟩
  | r + 1, s, M, hl, h => by
    obtain ⟨h1, h2, h3⟩ := foldl_keeps hi E (fun _ h => h) M hl
    have := rounds_full hi r (s + 1) (bitRound E M) h1 (fun x y hx hy hw => by
      rcases hw with ⟨e, he, rfl, rfl⟩ | ⟨z, ⟨e, he, rfl, rfl⟩, hz⟩
      · exact h3 e he _ hy (.inl rfl)
      · exact h3 e he y hy (.inr (h _ y (hi e he).2.2.1 hy hz)))
    rw [show s + (r + 1) = s + 1 + r by omega]
    exact this
/-- After n rounds the marks are what is reached. -/
theorem rounds_way {E : List Edg} {n : Nat} (hi : Inside E n) {x y : Int} (hx : 0 ≤ x) (hy : 0 ≤ y) : hasBit (bitRounds E n (List.replicate n 0)) x y ↔ Way E x y := by
  constructor
  · refine (Sound.rounds hi n _ ⟨by simp, fun x y _ _ h => ?_⟩).2 x y hx hy
    unfold hasBit at h
    rw [List.getD_eq_getElem?_getD, List.getElem?_replicate] at h
    split at h <;> simp at h
  · intro h
    have := (rounds_full hi n 0 (List.replicate n 0) (by simp) (fun _ _ _ _ h => h.elim)).2 x y hx hy
    rw [Nat.zero_add] at this
    exact this (h.within_n hi)
/-- .. and no number of them is great. -/
theorem foldl_small {E : List Edg} {n : Nat} (hi : Inside E n) : ∀ (F : List Edg), (∀ e ∈ F, e ∈ E) → ∀ M : List Nat, M.length = n → (∀ m ∈ M, m < 2 ^ n) → ∀ m ∈ F.foldl bitOr M, m < 2 ^ n
  | [], _, _, _, h => h
  | e :: F, hs, M, hl, h => by
    have he := hi e (hs e (List.mem_cons_self ..))
    refine foldl_small hi F (fun a ha => hs a (List.mem_cons_of_mem _ ha)) _ ((bitOr_length M e).trans hl) fun m hm => ?_
    have hg : ∀ j, M.getD j 0 < 2 ^ n := fun j => by
      rw [List.getD_eq_getElem?_getD]
      cases hj : M[j]? with
      | none => simp [Nat.two_pow_pos]
      | some u => exact h u (List.mem_of_getElem? hj)
    rcases List.mem_or_eq_of_mem_set hm with hm | rfl
    · exact h m hm
    · refine Nat.or_lt_two_pow (hg _) (Nat.or_lt_two_pow ?_ (hg _))
      rw [Nat.shiftLeft_eq, Nat.one_mul]
      exact Nat.pow_lt_pow_right (by decide) (by omega)
theorem rounds_small {E : List Edg} {n : Nat} (hi : Inside E n) : ∀ (r : Nat) (M : List Nat), M.length = n → (∀ m ∈ M, m < 2 ^ n) → ∀ m ∈ bitRounds E r M, m < 2 ^ n
  | 0, _, _, h => h
  | r + 1, M, hl, h => rounds_small hi r _ (foldl_keeps hi E (fun _ h => h) M hl).1 (foldl_small hi E (fun _ h => h) M hl h)
theorem rounds_length {E : List Edg} {n : Nat} (hi : Inside E n) (r : Nat) (M : List Nat) (hl : M.length = n) : (bitRounds E r M).length = n := (rounds_full hi r 0 M hl (fun _ _ _ _ h => h.elim)).1
end Go.Proofs.Ytbbjkldkjndfaaa

/- A search through a graph of a few nodes, with marks and a queue: it marks what is reached. Plain: no program in sight. -/
namespace Go.Proofs.Ytbbjkldkjndfaaa

/-- One edge: its end is marked, and queued, if the edge leaves c and its end was not marked. -/
def bfsEdge (c : Int) (s : List Bool × List Int) (e : Edg) : List Bool × List Int :=
  if e.src = c ∧ s.1.getD e.dst.toNat false = false then (s.1.set e.dst.toNat true, s.2 ++ [e.dst]) else s
def bfsNode (E : List Edg) (c : Int) (s : List Bool × List Int) : List Bool × List Int := E.foldl (bfsEdge c) s
/-- The state behind h nodes of the queue. -/
def bfsAt (E : List Edg) (t : Int) (n : Nat) : Nat → List Bool × List Int
  | 0 => (List.replicate n false, [t])
  | h + 1 => bfsNode E ((bfsAt E t n h).2.getD h 0) (bfsAt E t n h)

theorem getD_setB {M : List Bool} {i j : Nat} {v : Bool} (hi : i < M.length) : (M.set i v).getD j false = if j = i then v else M.getD j false := by
  simp only [List.getD_eq_getElem?_getD, List.getElem?_set]
  by_cases h : i = j
  · subst h; simp [hi]
  · rw [if_neg h, if_neg (fun e => h e.symm)]
theorem count_set_true {M : List Bool} {i : Nat} (hi : i < M.length) (h : M.getD i false = false) : (M.set i true).count true = M.count true + 1 := by
  have h0 : M[i] = false := by rw [List.getD_eq_getElem?_getD, List.getElem?_eq_getElem hi] at h; exact h
  rw [List.count_set hi, h0]
  simp

structure BfsInv (E : List Edg) (n : Nat) (t : Int) (s : List Bool × List Int) (r : List Int) : Prop where
  len : s.1.length = n
  queue : s.2 = t :: r
  mark : ∀ y : Int, 0 ≤ y → (s.1.getD y.toNat false = true ↔ y ∈ r)
  way : ∀ y ∈ r, Way E t y
  count : r.length = s.1.count true
theorem BfsInv.le {E : List Edg} {n : Nat} {t : Int} {s : List Bool × List Int} {r : List Int} (h : BfsInv E n t s r) : r.length ≤ n := by
  rw [h.count, ← h.len]; exact List.count_le_length
theorem BfsInv.start (E : List Edg) (n : Nat) (t : Int) : BfsInv E n t (List.replicate n false, [t]) [] := by
  refine ⟨by simp, rfl, fun y _ => ?_, by simp, ?_⟩
  · simp [List.getD_eq_getElem?_getD, List.getElem?_replicate]
    split <;> rfl
  · simp [List.count_replicate]
theorem BfsInv.edge {E : List Edg} {n : Nat} (hi : Inside E n) {t c : Int} {s : List Bool × List Int} {r : List Int} (h : BfsInv E n t s r) (hc : c = t ∨ Way E t c) {e : Edg} (he : e ∈ E) :
    ∃ r', BfsInv E n t (bfsEdge c s e) (r ++ r') ∧ (e.src = c → e.dst ∈ r ++ r') := by
  have hb := hi e he
  unfold bfsEdge
  by_cases h1 : e.src = c ∧ s.1.getD e.dst.toNat false = false
  · rw [if_pos h1]
    have hd : e.dst.toNat < s.1.length := by rw [h.len]; omega
    refine ⟨[e.dst], ⟨by simpa using h.len, by simp [h.queue], fun y hy => ?_, fun y hy => ?_, ?_⟩, fun _ => by simp⟩
    · simp only
      rw [getD_setB hd]
      by_cases e1 : y = e.dst
      · subst e1; simp
      · rw [if_neg (by omega), h.mark y hy]; simp [e1]
    · rcases List.mem_append.1 hy with hy | hy
      · exact h.way y hy
      · simp at hy
        subst hy
        have ha : Way E c e.dst := .one ⟨e, he, h1.1, rfl⟩
        rcases hc with rfl | hc
        · exact ha
        · exact hc.trans ha
    · simp only [List.length_append, List.length_cons, List.length_nil]
      rw [count_set_true hd h1.2, h.count]
  · rw [if_neg h1]
    refine ⟨[], by simpa using h, fun e1 => ?_⟩
    have h2 : s.1.getD e.dst.toNat false = true := by
      cases h3 : s.1.getD e.dst.toNat false with
      | true => rfl
      | false => exact absurd ⟨e1, h3⟩ h1
    simpa using (h.mark _ hb.2.2.1).1 h2
theorem BfsInv.node {E : List Edg} {n : Nat} (hi : Inside E n) {t c : Int} (hc : c = t ∨ Way E t c) : ∀ (F : List Edg), (∀ e ∈ F, e ∈ E) → ∀ {s : List Bool × List Int} {r : List Int}, BfsInv E n t s r →
    ∃ r', BfsInv E n t (F.foldl (bfsEdge c) s) (r ++ r') ∧ ∀ e ∈ F, e.src = c → e.dst ∈ r ++ r'
  | [], _, s, r, h => ⟨[], by simpa using h, by simp⟩
  | e :: F, hs, s, r, h => by
    obtain ⟨r1, h1, h2⟩ := h.edge hi hc (hs e (List.mem_cons_self ..))
    obtain ⟨r2, h3, h4⟩ := BfsInv.node hi hc F (fun a ha => hs a (List.mem_cons_of_mem _ ha)) h1
    refine ⟨r1 ++ r2, by rw [← List.append_assoc]; exact h3, fun f hf e1 => ?_⟩
    rw [← List.append_assoc]
    rcases List.mem_cons.1 hf with rfl | hf
    · exact List.mem_append_left _ (h2 e1)
    · exact h4 f hf e1
/-- All states are right, as far as the queue goes. -/
theorem bfsAt_inv {E : List Edg} {n : Nat} (hi : Inside E n) (t : Int) : ∀ h : Nat, (∀ j, j < h → j < (bfsAt E t n j).2.length) →
    ∃ r, BfsInv E n t (bfsAt E t n h) r ∧ h ≤ (t :: r).length ∧ ∀ j, j < h → ∀ e ∈ E, e.src = (t :: r).getD j 0 → e.dst ∈ r
  | 0, _ => ⟨[], BfsInv.start E n t, by simp, fun j hj => absurd hj (by omega)⟩
  | h + 1, hh => by
    obtain ⟨r, h1, h2, h3⟩ := bfsAt_inv hi t h (fun j hj => hh j (by omega))
    have hlt := hh h (by omega)
    rw [h1.queue] at hlt
    have hc : (t :: r).getD h 0 = t ∨ Way E t ((t :: r).getD h 0) := by
      rcases Nat.eq_zero_or_pos h with h0 | h0
      · subst h0; left; simp
      · right
        obtain ⟨k, rfl⟩ : ∃ k, h = k + 1 := ⟨h - 1, by omega⟩
        have hk : k < r.length := by simpa using hlt
        refine h1.way _ ?_
        simp [List.getD_eq_getElem?_getD, List.getElem?_eq_getElem hk]
    obtain ⟨r', h4, h5⟩ := BfsInv.node hi hc E (fun _ h => h) h1
    refine ⟨r ++ r', ?_, ?_, fun j hj e he hsrc => ?_⟩
    · rw [bfsAt, h1.queue]; exact h4
    · simp only [List.length_cons, List.length_append] at hlt ⊢; omega
    · have hjr : j < (t :: r).length := by omega
      have hpre : (t :: (r ++ r')).getD j 0 = (t :: r).getD j 0 := by
        rw [← List.cons_append, List.getD_eq_getElem?_getD, List.getD_eq_getElem?_getD, List.getElem?_append_left hjr]
      rw [hpre] at hsrc
      by_cases hjh : j = h
      · subst hjh; exact h5 e he hsrc
      · exact List.mem_append_left _ (h3 j (by omega) e he hsrc)
theorem bfs_len {E : List Edg} {n : Nat} (hi : Inside E n) (t : Int) (h : Nat) (hh : ∀ j, j < h → j < (bfsAt E t n j).2.length) :
    (bfsAt E t n h).1.length = n ∧ 1 ≤ (bfsAt E t n h).2.length ∧ (bfsAt E t n h).2.length ≤ n + 1 ∧ h ≤ (bfsAt E t n h).2.length := by
  obtain ⟨r, h1, h2, _⟩ := bfsAt_inv hi t h hh
  have := h1.le
  refine ⟨h1.len, ?_, ?_, ?_⟩ <;> rw [h1.queue] <;> simp at * <;> omega
/-- All nodes of the queue lie among the nodes, where the first does. -/
theorem bfs_bd {E : List Edg} {n : Nat} (hi : Inside E n) (t : Int) (ht : 0 ≤ t ∧ t < n) (h : Nat) (hh : ∀ j, j < h → j < (bfsAt E t n j).2.length) : ∀ y ∈ (bfsAt E t n h).2, 0 ≤ y ∧ y < n := by
  obtain ⟨r, h1, h2, _⟩ := bfsAt_inv hi t h hh
  intro y hy
  rw [h1.queue] at hy
  rcases List.mem_cons.1 hy with rfl | hy
  · exact ht
  · have := (h1.way y hy).ends hi; omega
/-- At the end of the queue the marks are what is reached. -/
theorem bfs_way {E : List Edg} {n : Nat} (hi : Inside E n) (t : Int) (h : Nat) (hh : ∀ j, j < h → j < (bfsAt E t n j).2.length) (hend : (bfsAt E t n h).2.length ≤ h) {y : Int} (hy : 0 ≤ y) :
    (bfsAt E t n h).1.getD y.toNat false = true ↔ Way E t y := by
  obtain ⟨r, h1, h2, h3⟩ := bfsAt_inv hi t h hh
  rw [h1.mark y hy]
  refine ⟨h1.way y, fun hw => ?_⟩
  have hl : h = (t :: r).length := by rw [h1.queue] at hend; omega
  have key : ∀ {x y : Int}, Way E x y → x ∈ t :: r → y ∈ r := by
    intro x y hw
    induction hw with
    | one a =>
      intro hx
      obtain ⟨e, he, rfl, rfl⟩ := a
      obtain ⟨j, hj, hje⟩ := List.getElem_of_mem hx
      exact h3 j (by omega) e he (by rw [List.getD_eq_getElem?_getD, List.getElem?_eq_getElem hj]; exact hje.symm)
    | more a _ ih =>
      intro hx
      obtain ⟨e, he, rfl, rfl⟩ := a
      obtain ⟨j, hj, hje⟩ := List.getElem_of_mem hx
      exact ih (List.mem_cons_of_mem _ (h3 j (by omega) e he (by rw [List.getD_eq_getElem?_getD, List.getElem?_eq_getElem hj]; exact hje.symm)))
  exact key hw (List.mem_cons_self ..)
end Go.Proofs.Ytbbjkldkjndfaaa

/- Words for memory and small lemmas that the proofs of this claim share: slices that read as lists, blocks that are known whole, appends. No program in sight. The lemma texts of the kit's pages extra-words, extra-structs and extra-small, laid into this claim's namespace. -/
namespace Go.Proofs.Ytbbjkldkjndfaaa
open Go.RowKit Go.ChangeShapes Go.WideShapes Go.Deep Go.Joins
theorem block_of_add (a : Addr) (n : Nat) : (a.add n).block = a.block := by unfold Addr.add; split <;> rfl
theorem add_of_add (a : Addr) (i j : Nat) : (a.add i).add j = a.add (i + j) := by
  unfold Addr.add
  by_cases hi : i = 0 <;> by_cases hj : j = 0 <;> simp [hi, hj, Nat.add_assoc]

def Reads (w : World) (B size : Nat) (A : Option Addr) (n : Nat) (xs : List Value) : Prop :=
  xs.length = n * size ∧ (0 < n → ∃ ad, A = some ad ∧ ad.block < B ∧ ∀ j u, xs[j]? = some u → w.cell? (ad.add j) = some u)

section
variable {w w' : World} {B B' size n : Nat} {A : Option Addr} {xs : List Value}
theorem Reads.none_ : Reads w B size A 0 [] := ⟨by simp, fun h => absurd h (by omega)⟩
theorem Reads.at_ {k : Nat} (h : Reads w B 1 A n xs) (hk : k < n) : ∃ ad u, A = some ad ∧ ad.block < B ∧ xs[k]? = some u ∧ w.cell? (ad.add k) = some u := by
  obtain ⟨ad, e, hb, hc⟩ := h.2 (by omega)
  have hl : k < xs.length := by have := h.1; omega
  exact ⟨ad, xs[k], e, hb, List.getElem?_eq_getElem hl, hc k _ (List.getElem?_eq_getElem hl)⟩
theorem Reads.keep (h : Reads w B size A n xs) (hk : ∀ p : Addr, p.block < B → w'.cell? p = w.cell? p) : Reads w' B size A n xs :=
  ⟨h.1, fun hn => by
    obtain ⟨ad, e, hb, hc⟩ := h.2 hn
    exact ⟨ad, e, hb, fun j u hu => (hk _ (by rw [block_of_add]; exact hb)).trans (hc j u hu)⟩⟩
theorem Reads.more (h : Reads w B size A n xs) (hB : B ≤ B') : Reads w B' size A n xs :=
  ⟨h.1, fun hn => by
    obtain ⟨ad, e, hb, hc⟩ := h.2 hn
    exact ⟨ad, e, by omega, hc⟩⟩
theorem Reads.below (h : Reads w B size A n xs) (hb : Below B w w') : Reads w' B size A n xs := h.keep fun _ hp => hb.cell hp
theorem Reads.drew (h : Reads w B size A n xs) : Reads w.drew B size A n xs := h
theorem Reads.drewN (h : Reads w B size A n xs) (k : Nat) : Reads (w.drewN k) B size A n xs := h
theorem Reads.alloc (h : Reads w B size A n xs) (hB : B ≤ w.heap.size) (o : Obj) : Reads (w.alloc o) B size A n xs := h.keep fun p hp => World.cell?_alloc_lt w o p (by omega)
theorem Reads.setCell (h : Reads w B size A n xs) {p : Addr} (hB : B ≤ p.block) (u : Value) : Reads (w.setCell p u) B size A n xs :=
  h.keep fun q hq => World.cell?_setCell_other w p q u (fun e => by subst e; omega)
theorem Reads.grown (h : Reads w B size A n xs) {row : Option Nat} (hg : w.grownBy w' row) (hB : B ≤ w.heap.size) (hr : ∀ g, row = some g → B ≤ g) : Reads w' B size A n xs :=
  h.keep fun p hp => World.cell?_of_block (hg.block p.block (by omega) (fun e => by have := hr _ e.symm; omega))
theorem Reads.cut (h : Reads w B size A n xs) {k cap : Nat} (hk : k ≤ n) (hc : n ≤ cap) :
    Reads w B size (if cap = k then A else A.map (·.add (k * size))) (n - k) (xs.drop (k * size)) := by
  refine ⟨by rw [List.length_drop, h.1, Nat.sub_mul], fun hn => ?_⟩
  obtain ⟨ad, rfl, hb, hcell⟩ := h.2 (by omega)
  rw [if_neg (by omega)]
  refine ⟨ad.add (k * size), rfl, by rw [block_of_add]; exact hb, fun j u hu => ?_⟩
  rw [add_of_add]
  exact hcell _ u (by rw [← hu, List.getElem?_drop])
theorem Reads.of_own {base : Nat} {e : TypeId} {c : Nat} (h : w.ownsRow base e size (.slice A n c) n xs) : Reads w w.heap.size size A n xs := by
  refine ⟨h.1, fun hn => ?_⟩
  obtain ⟨g, cap, hv, _, hlt⟩ := h.form hn
  have hA : A = some ⟨g, 0, none⟩ := by injection hv
  subst hA
  exact ⟨_, rfl, hlt, h.cells (g := g) rfl⟩
end

def Blk (w : World) (g : Nat) (t : TypeId) (cs : Array Value) : Prop := w.heap[g]? = some (.cells cs t (0, 0))

section
variable {w w' : World} {g : Nat} {t : TypeId} {cs : Array Value}
theorem Blk.lt (h : Blk w g t cs) : g < w.heap.size := by
  rcases Nat.lt_or_ge g w.heap.size with hlt | hge
  · exact hlt
  · unfold Blk at h; rw [Array.getElem?_eq_none hge] at h; cases h
theorem Blk.cell (h : Blk w g t cs) (i : Nat) : w.cell? ⟨g, i, none⟩ = cs[i]? := cell_of_row w g i cs t (0, 0) h
theorem Blk.frozen (h : Blk w g t cs) (i : Nat) : w.frozen? ⟨g, i, none⟩ = false := by
  unfold Blk at h
  simp [World.frozen?, h]
theorem Blk.new (w : World) (t : TypeId) (cs : Array Value) : Blk (w.alloc (.cells cs t)) w.heap.size t cs := heap_alloc_new w _
theorem Blk.drew (h : Blk w g t cs) : Blk w.drew g t cs := h
theorem Blk.drewN (h : Blk w g t cs) (n : Nat) : Blk (w.drewN n) g t cs := h
theorem Blk.alloc (h : Blk w g t cs) (o : Obj) : Blk (w.alloc o) g t cs := (Below.heap_alloc w o g h.lt).trans h
theorem Blk.set_ (h : Blk w g t cs) (i : Nat) (u : Value) : Blk (w.setCell ⟨g, i, none⟩ u) g t (cs.setIfInBounds i u) := by
  unfold Blk at h ⊢
  simp [World.setCell, Array.getElem?_modify, h]
theorem Blk.far (h : Blk w g t cs) {p : Addr} (hp : g ≠ p.block) (u : Value) : Blk (w.setCell p u) g t cs := (Below.heap_setCell w p u g hp).trans h
theorem Blk.below {B : Nat} (h : Blk w g t cs) (hb : Below B w w') (hg : g < B) : Blk w' g t cs := (hb.block g hg).trans h
theorem Blk.grown {row : Option Nat} (h : Blk w g t cs) (hb : w.grownBy w' row) (hg : some g ≠ row) : Blk w' g t cs := (hb.block g h.lt hg).trans h
theorem Blk.ne_ {g' : Nat} {t' : TypeId} {cs' : Array Value} (h : Blk w g t cs) (h' : Blk w g' t' cs') (hne : t ≠ t') : g ≠ g' := by
  rintro rfl
  unfold Blk at h h'
  rw [h] at h'
  injection h' with h'
  injection h' with _ ht
  exact hne ht
theorem own_blk_ne {base : Nat} {e : TypeId} {size n : Nat} {v : Value} {xs : List Value} (h : w.ownsRow base e size v n xs) (hg : Blk w g t cs) (hne : e ≠ t) : v.ownBlock ≠ some g := by
  rcases h.2 with ⟨rfl, _⟩ | ⟨g', cap, cur, rfl, _, hh, _⟩
  · simp [Value.ownBlock]
  · intro he
    have : g' = g := by simpa [Value.ownBlock] using he
    subst this
    exact Blk.ne_ (t := e) hh hg hne rfl
end

section
variable {P : Program} (w : World)

theorem run_append_of_nil (base : Nat) (t ty e : TypeId) (i : TypeInfo) (size : Nat) (ht : P.underlying t = some (.slice e)) (hi : P.info? e = some i)
    (v : Value) (n : Nat) (xs : List Value) (hown : w.ownsRow base e size v n xs) (c : Nat) : (Builtin.append_ #[t, t] ty #[v, .slice none 0 c]).run P w = .ok v w := by
  rcases hown.2 with ⟨rfl, rfl⟩ | ⟨g, cap, cur, rfl, _, _, hnc, _⟩
  · simp [Builtin.append_, run_underlying ht, sizeOf, typeInfo, hi, Builtin.lenOf, Builtin.firstCells]
  · simp [Builtin.append_, run_underlying ht, sizeOf, typeInfo, hi, Builtin.lenOf, Builtin.firstCells, hnc, storeCells]

theorem run_append_any (base : Nat) (t ty e : TypeId) (i : TypeInfo) (z : Value) (size bytes : Nat) (ht : P.underlying t = some (.slice e)) (hi : P.info? e = some i) (hz : i.zero = some z)
    (hsize : i.size = size) (hby : i.bytes = bytes) (hzs : z.cells.size = size) (hsz : 0 < size)
    (v : Value) (n : Nat) (xs : List Value) (hown : w.ownsRow base e size v n xs)
    (B : Nat) (A : Option Addr) (m c : Nat) (news : List Value) (hr : Reads w B size A m news) (h1 : ∀ u ∈ news, u.oneCell' = true)
    (h63 : n + m ≤ maxLen) (hbytes : (n + m) * bytes ≤ 140737488355328) (hbase : base ≤ w.heap.size) :
    ∃ v' w', (Builtin.append_ #[t, t] ty #[v, .slice A m c]).run P w = .ok v' w' ∧ w'.ownsRow base e size v' (n + m) (xs ++ news) ∧ w.grownBy w' v.ownBlock ∧
      (v'.ownBlock = v.ownBlock ∨ v'.ownBlock = some w.heap.size) := by
  rcases A with _ | ad
  · have hm : m = 0 := by
      rcases Nat.eq_zero_or_pos m with h0 | h0
      · exact h0
      · obtain ⟨ad, h, _⟩ := hr.2 h0
        cases h
    subst hm
    have hn : news = [] := List.eq_nil_of_length_eq_zero (by simpa using hr.1)
    subst hn
    exact ⟨v, w, run_append_of_nil w base t ty e i size ht hi v n xs hown c, by simpa using hown, World.grownBy.refl w _, .inl rfl⟩
  · have hcells : ∀ j u, news[j]? = some u → w.cell? (ad.add j) = some u := by
      intro j u hu
      rcases Nat.eq_zero_or_pos m with h0 | h0
      · subst h0
        have hn : news = [] := List.eq_nil_of_length_eq_zero (by simpa using hr.1)
        subst hn
        simp at hu
      · obtain ⟨ad', h, _, hc⟩ := hr.2 h0
        injection h with h
        subst h
        exact hc j u hu
    obtain ⟨v', w', hrun, h2, h3, _, h5⟩ := run_append_own_at (P := P) w base t ty e i z size bytes ht hi hz hsize hby hzs hsz v n xs hown ad m c news hr.1 hcells h1 h63 hbytes hbase
    exact ⟨v', w', hrun, h2, h3, h5⟩

theorem wp_append_any {o : Oper} {a : Act} {K : Act → World → Prop} {Q : Exit → Act → World → Prop} (s x : Operand) (t : TypeId)
    (ho : o.op = .call { callee := .builtin .append, args := #[s, x], argTypes := #[t, t] })
    (base : Nat) (e : TypeId) (i : TypeInfo) (z : Value) (size bytes : Nat) (ht : P.underlying t = some (.slice e)) (hi : P.info? e = some i) (hz : i.zero = some z)
    (hsize : i.size = size) (hby : i.bytes = bytes) (hzs : z.cells.size = size) (hsz : 0 < size)
    (v : Value) (n : Nat) (xs : List Value) (hs : a.eval s = v) (hown : w.ownsRow base e size v n xs)
    (B : Nat) (A : Option Addr) (m c : Nat) (news : List Value) (hx : a.eval x = .slice A m c) (hr : Reads w B size A m news) (h1 : ∀ u ∈ news, u.oneCell' = true)
    (h63 : n + m ≤ maxLen) (hbytes : (n + m) * bytes ≤ 140737488355328) (hbase : base ≤ w.heap.size)
    (h : ∀ v' w', w'.ownsRow base e size v' (n + m) (xs ++ news) → w.grownBy w' v.ownBlock → (v'.ownBlock = v.ownBlock ∨ v'.ownBlock = some w.heap.size) → K (a.put o.dst v') w') : o.wp P a w K Q := by
  obtain ⟨v', w', hrun, h2, h3, h4⟩ := run_append_any (P := P) w base t o.type e i z size bytes ht hi hz hsize hby hzs hsz v n xs hown B A m c news hr h1 h63 hbytes hbase
  unfold Oper.wp execOp
  simp only [ho, resolve, invoke, builtin, Sem.run_bind, Sem.run_pure, Result.andThen_ok, List.map_toArray, List.map_cons, List.map_nil, hs, hx, hrun]
  exact h v' w' h2 h3 h4

theorem wpList_append_any {ops : Array Oper} {rest : List Oper} {o : Oper} {a : Act} {Q : Exit → Act → World → Prop} (hgd : o.guard = none) (s x : Operand) (t : TypeId)
    (ho : o.op = .call { callee := .builtin .append, args := #[s, x], argTypes := #[t, t] })
    (base : Nat) (e : TypeId) (i : TypeInfo) (z : Value) (size bytes : Nat) (ht : P.underlying t = some (.slice e)) (hi : P.info? e = some i) (hz : i.zero = some z)
    (hsize : i.size = size) (hby : i.bytes = bytes) (hzs : z.cells.size = size) (hsz : 0 < size)
    (v : Value) (n : Nat) (xs : List Value) (hs : a.eval s = v) (hown : w.ownsRow base e size v n xs)
    (B : Nat) (A : Option Addr) (m c : Nat) (news : List Value) (hx : a.eval x = .slice A m c) (hr : Reads w B size A m news) (h1 : ∀ u ∈ news, u.oneCell' = true)
    (h63 : n + m ≤ maxLen) (hbytes : (n + m) * bytes ≤ 140737488355328) (hbase : base ≤ w.heap.size)
    (h : ∀ v' w', w'.ownsRow base e size v' (n + m) (xs ++ news) → w.grownBy w' v.ownBlock → (v'.ownBlock = v.ownBlock ∨ v'.ownBlock = some w.heap.size) → wpList P ops Q rest (a.put o.dst v') w') : wpList P ops Q (o :: rest) a w :=
  wpList_plain hgd fun _ hK => wp_append_any w s x t ho base e i z size bytes ht hi hz hsize hby hzs hsz v n xs hs hown B A m c news hx hr h1 h63 hbytes hbase fun v' w' h2 h3 h4 => hK _ _ (h v' w' h2 h3 h4)

theorem step_append_any {ops : Array Oper} {o : Oper} {a : Act} {K : Act → World → Prop} {Q : Exit → Act → World → Prop} {E : Prop} (hgd : o.guard = none) (s x : Operand) (t : TypeId)
    (ho : o.op = .call { callee := .builtin .append, args := #[s, x], argTypes := #[t, t] })
    (base : Nat) (e : TypeId) (i : TypeInfo) (z : Value) (size bytes : Nat) (ht : P.underlying t = some (.slice e)) (hi : P.info? e = some i) (hz : i.zero = some z)
    (hsize : i.size = size) (hby : i.bytes = bytes) (hzs : z.cells.size = size) (hsz : 0 < size)
    (v : Value) (n : Nat) (xs : List Value) (hs : a.eval s = v) (hown : w.ownsRow base e size v n xs)
    (B : Nat) (A : Option Addr) (m c : Nat) (news : List Value) (hx : a.eval x = .slice A m c) (hr : Reads w B size A m news) (h1 : ∀ u ∈ news, u.oneCell' = true)
    (h63 : n + m ≤ maxLen) (hbytes : (n + m) * bytes ≤ 140737488355328) (hbase : base ≤ w.heap.size)
    (h : ∀ v' w', w'.ownsRow base e size v' (n + m) (xs ++ news) → w.grownBy w' v.ownBlock → (v'.ownBlock = v.ownBlock ∨ v'.ownBlock = some w.heap.size) → K (a.put o.dst v') w') :
    if Region.wanted o (yielded ops a.tmps) = true then Oper.wp P o a w K Q else E := by
  have hw : Region.wanted o (yielded ops a.tmps) = true := by simp [Region.wanted, hgd]
  rw [if_pos hw]
  exact wp_append_any w s x t ho base e i z size bytes ht hi hz hsize hby hzs hsz v n xs hs hown B A m c news hx hr h1 h63 hbytes hbase h
end

theorem hide {p : Prop} (h : p) : Hid p := h
theorem unhide {p : Prop} (h : Hid p) : p := h
theorem quiet_add {P : Program} {f : FuncId} {args : Array Value} {w : World} {a n : Nat} {v : Value}
    (h : Calls P f args (w.drewN (a + n)) fun e w' => e = .returned v ∧ ∃ m, w' = (w.drewN (a + n)).drewN m) :
    Calls P f args (w.drewN (a + n)) fun e w'' => e = .returned v ∧ ∃ m, w'' = w.drewN (a + m) :=
  h.mono fun _ _ ⟨he, m, hm⟩ => ⟨he, n + m, by rw [hm, World.drewN_drewN, Nat.add_assoc]⟩
theorem quiet_add_same {P : Program} {f : FuncId} {args : Array Value} {w : World} {a n : Nat} {v : Value}
    (h : Calls P f args (w.drewN (a + n)) fun e w' => e = .returned v ∧ w' = w.drewN (a + n)) :
    Calls P f args (w.drewN (a + n)) fun e w'' => e = .returned v ∧ ∃ m, w'' = w.drewN (a + m) :=
  h.mono fun _ _ ⟨he, hm⟩ => ⟨he, n, hm⟩
theorem quiet_add_left {P : Program} {f : FuncId} {args : Array Value} {w : World} {a n : Nat} {v : Value}
    (h : Calls P f args (w.drewN (a + n)) fun e w' => e = .returned v ∧ w.drewN (a + n) = w') :
    Calls P f args (w.drewN (a + n)) fun e w'' => e = .returned v ∧ ∃ m, w'' = w.drewN (a + m) :=
  h.mono fun _ _ ⟨he, hm⟩ => ⟨he, n, hm.symm⟩
theorem quiet_left {P : Program} {f : FuncId} {args : Array Value} {w : World} {n : Nat} {v : Value}
    (h : Calls P f args (w.drewN n) fun e w' => e = .returned v ∧ w.drewN n = w') : Calls P f args (w.drewN n) fun e w'' => e = .returned v ∧ ∃ m, w'' = w.drewN m :=
  h.mono fun _ _ ⟨he, hm⟩ => ⟨he, n, hm.symm⟩
theorem results_tmp4 {fn : Func} {t u v x : Tmp} (h : fn.results = #[.tmp t, .tmp u, .tmp v, .tmp x]) (tmps : Array Value) (P : Program) (w : World) :
    (results fn tmps).run P w = .ok (.tuple #[tmps.getD t undef, tmps.getD u undef, tmps.getD v undef, tmps.getD x undef]) w := by simp [results, h]
theorem results_tmp5 {fn : Func} {t u v x y : Tmp} (h : fn.results = #[.tmp t, .tmp u, .tmp v, .tmp x, .tmp y]) (tmps : Array Value) (P : Program) (w : World) :
    (results fn tmps).run P w = .ok (.tuple #[tmps.getD t undef, tmps.getD u undef, tmps.getD v undef, tmps.getD x undef, tmps.getD y undef]) w := by simp [results, h]
theorem below_drewN {B : Nat} {a w : World} (h : Below B a w) (n : Nat) : Below B a (w.drewN n) := ⟨h.os, h.tape, h.output, h.size, h.block⟩
theorem rowIs_drewN {w : World} {b : Nat} {t : TypeId} {n : Nat} {f : Nat → Value} (h : w.rowIs b t n f) (k : Nat) : (w.drewN k).rowIs b t n f := h
theorem grown_trans {a b c : World} (h : Grown a b) (k : Grown b c) : Grown a c :=
  ⟨World.keptBut_trans h.1 k.1, fun x => (k.2.1 x).trans (h.2.1 x), Nat.le_trans h.2.2 k.2.2⟩

theorem only_drewN {a w : World} {row : Option Nat} (h : a.grownBy w row) (n : Nat) : a.grownBy (w.drewN n) row := ⟨h.os, h.tape, h.output, h.size, h.block⟩
theorem only_drew {a w : World} {row : Option Nat} (h : a.grownBy w row) : a.grownBy w.drew row := ⟨h.os, h.tape, h.output, h.size, h.block⟩
theorem only_alloc {a w : World} {row : Option Nat} (h : a.grownBy w row) (o : Obj) : a.grownBy (w.alloc o) row :=
  ⟨h.os, h.tape, h.output, Nat.le_trans h.size (by simp), fun i hi hne => (Below.heap_alloc w o i (Nat.lt_of_lt_of_le hi h.size)).trans (h.block i hi hne)⟩
theorem only_setCell {a w : World} {g : Nat} (h : a.grownBy w (some g)) {p : Addr} (hp : p.block = g ∨ a.heap.size ≤ p.block) (u : Value) : a.grownBy (w.setCell p u) (some g) :=
  ⟨h.os, h.tape, h.output, by simpa [World.setCell] using h.size, fun i hi hne => (Below.heap_setCell w p u i (by
    rintro rfl
    rcases hp with hp | hp
    · exact hne (by rw [hp])
    · omega)).trans (h.block i hi hne)⟩
theorem only_of_below {a w : World} (h : Below a.heap.size a w) (row : Option Nat) : a.grownBy w row := ⟨h.os, h.tape, h.output, h.size, fun i hi _ => h.block i hi⟩
theorem run_make_rowN {P : Program} (t e : TypeId) (i : TypeInfo) (z : Value) (ht : P.underlying t = some (.slice e)) (hi : P.info? e = some i) (hz : i.zero = some z)
    (kl kc : IntKind) (n c : Nat) (hnc : n ≤ c) (hbytes : i.bytes * c ≤ 281474976710656) (h63 : c ≤ 9223372036854775807) (w : World) :
    (Instr.makeSlice t (.int kl (n : Int)) (.int kc (c : Int))).run P w = .ok (.slice (some ⟨w.heap.size, 0, none⟩) n c) (w.alloc (.cells (madeCells z.cells (c * i.size)) e)) := by
  have hb : (i.bytes : Int) * (c : Int) ≤ 281474976710656 := by
    have h : ((i.bytes * c : Nat) : Int) ≤ 281474976710656 := by omega
    rwa [Int.natCast_mul] at h
  have hr := run_make (P := P) w t e i z ht hi hz kl kc n c (by omega) (by omega) hb (by omega)
  simp only [Int.toNat_natCast] at hr
  exact hr
theorem run_makeMap_hint {P : Program} (t k e : TypeId) (kd : IntKind) (n : Int) (ht : P.underlying t = some (.map k e)) (w : World) :
    (Instr.makeMap t (some (.int kd n))).run P w = .ok (.map (some w.heap.size)) (w.alloc (.map #[] 0)) := by
  simp [Instr.makeMap, run_underlying ht]; rfl
theorem ofInt_i64 (a : Nat) (ha : a < 9223372036854775808) : (BitVec.ofInt 64 (a : Int)).toNat = a := by
  rw [BitVec.ofInt_natCast, BitVec.toNat_ofNat]; exact Nat.mod_eq_of_lt (by omega)
theorem i64_and_nat (a b : Nat) (ha : a < 9223372036854775808) (hb : b < 9223372036854775808) : bits .and .i64 (a : Int) (b : Int) = ((a &&& b : Nat) : Int) := by
  have hx : a &&& b < 2 ^ 63 := Nat.and_lt_two_pow _ (by omega)
  show IntKind.i64.wrap ((BitVec.ofInt 64 (a : Int) &&& BitVec.ofInt 64 (b : Int)).toNat : Int) = _
  rw [BitVec.toNat_and, ofInt_i64 a ha, ofInt_i64 b hb, IntKind.wrap_i64]
  omega
theorem i64_or_nat (a b : Nat) (ha : a < 9223372036854775808) (hb : b < 9223372036854775808) : bits .or .i64 (a : Int) (b : Int) = ((a ||| b : Nat) : Int) := by
  have hx : a ||| b < 2 ^ 63 := Nat.or_lt_two_pow (by omega) (by omega)
  show IntKind.i64.wrap ((BitVec.ofInt 64 (a : Int) ||| BitVec.ofInt 64 (b : Int)).toNat : Int) = _
  rw [BitVec.toNat_or, ofInt_i64 a ha, ofInt_i64 b hb, IntKind.wrap_i64]
  omega
theorem i64_xor_nat (a b : Nat) (ha : a < 9223372036854775808) (hb : b < 9223372036854775808) : bits .xor .i64 (a : Int) (b : Int) = ((a ^^^ b : Nat) : Int) := by
  have hx : a ^^^ b < 2 ^ 63 := Nat.xor_lt_two_pow (by omega) (by omega)
  show IntKind.i64.wrap ((BitVec.ofInt 64 (a : Int) ^^^ BitVec.ofInt 64 (b : Int)).toNat : Int) = _
  rw [BitVec.toNat_xor, ofInt_i64 a ha, ofInt_i64 b hb, IntKind.wrap_i64]
  omega
section
variable {H : Type} {enc : TypeId × Value → H} {P : Program}
theorem post_of_below {f : Func} {s : ChangeSpec} {apart fresh handsOn again : Bool} {W W' : World} {args : Array Value} {v : Value} {ds gs : List (DataW H)} {before pa pv : List MemPlace}
    (hW : DataW.Whole enc P f.params.toList s.vars apart W args.toList ds gs before)
    (hres : ∀ (b : Nat) (sp : Nat → Bool) (hd : Bool), DataW.TrodAll enc P W' b sp hd f.resultTypes.toList (v.resultList f.resultTypes.size) (s.fn H (ds ++ gs)).results [])
    (hargs : ∀ sp : Nat → Bool, (∀ p ∈ before, sp p.block = true) → DataW.TrodAll enc P W' 0 sp true f.params.toList args.toList (s.fn H (ds ++ gs)).args pa)
    (hvars : ∀ sp : Nat → Bool, (∀ p ∈ before, sp p.block = true) → DataW.TrodVars enc P W' sp s.vars (s.fn H (ds ++ gs)).vars pv)
    (hps : before = pa ++ pv) (hb : Below W.heap.size W W')
    (hok : ∀ (j : Nat) (t : TypeId) (r : Value), f.resultTypes[j]? = some t → (v.resultList f.resultTypes.size)[j]? = some r → Value.okWide P W' .any 0 t r) :
    s.post enc P f apart fresh handsOn again W args v W' := by
  have hlt : ∀ p ∈ before, p.block < W.heap.size := fun p hp => hW.lt p hp
  have hold : ∀ p ∈ before, (fun b => decide (b < W.heap.size)) p.block = true := fun p hp => by simpa using hlt p hp
  refine ⟨ds, gs, before, [], pa, pv, hW, hres _ _ _, hargs _ hold, hvars _ hold, World.keptBut_mono (fun p hp => ⟨hp, ?_⟩) (hb.frame (· ∈ before)), fun _ => ?_⟩
  · rw [hps, List.mem_append] at hp
    exact Or.inr hp
  · obtain ⟨_, _, _, _, _, hz, hn⟩ := hW
    refine ⟨hok, _, _, ([] ++ pa) ++ pv, ⟨[] ++ pa, pv, trodAll_append (hargs _ (fun _ _ => rfl)) (hres _ _ _), hvars _ (fun _ _ => rfl), rfl, ?_, ?_⟩, ?_⟩
    · intro b off hp
      have hin : MemPlace.cell b off ∈ before := by rw [hps]; simpa using hp
      rw [hb.frozen (hlt _ hin)]
      exact hz b off hin
    · intro ha
      have := hn ha
      rw [hps] at this
      simpa using this
    · intro p hp _
      rw [hps]
      simpa using hp
end
section
variable {H : Type} {enc : TypeId × Value → H} {P : Program} {w : World} {base : Nat} {spare : Nat → Bool} {held : Bool}
theorem open_slice_fields {t e : TypeId} {fs : Array Field} {fuel : Nat} {cs : List Value} {x : DataW H × List MemPlace} (ht : P.underlying t = some (.slice e)) (he : P.underlying e = some (.struct fs))
    (hone : oneCellFields P fs = true) (hC : P.cellsOf e = fs.size) (h : DataW.trod enc P w base spare held fuel t cs = some x) :
    (cs = [.slice none 0 0] ∧ x = (.nil, [])) ∨
    ∃ (a : Addr) (len cap m : Nat) (D : Nat → DataW H) (Pl : Nat → List MemPlace), cs = [.slice (some a) len cap] ∧ base ≤ a.block ∧ len ≤ cap ∧ cap ≤ maxLen ∧ m = (if spare a.block then cap else len) ∧
      x = (.slice ((List.range len).map D) ((List.range (m - len)).map fun j => D (len + j)), MemPlace.row a (m * fs.size) ++ (List.range m).flatMap Pl) ∧
      ∀ i, i < m → ∃ (ys : List (DataW H × List MemPlace)) (n : Nat), D i = .agg (ys.map (·.1)) ∧ Pl i = ys.flatMap (·.2) ∧ ys.length = fs.size ∧
        ∀ (j : Nat) (f : Field), fs[j]? = some f → ∃ (v : Value) (y : DataW H × List MemPlace), w.cell? (a.add (i * fs.size + j)) = some v ∧ ys[j]? = some y ∧ DataW.trod enc P w base spare held n f.type [v] = some y := by
  rcases open_slice ht h with h0 | ⟨a, len, cap, m, n, D, Pl, hcs, hb, hl, hm, hmm, hx, hi⟩
  · exact .inl h0
  · refine .inr ⟨a, len, cap, m, D, Pl, hcs, hb, hl, hm, hmm, by rw [hC] at hx; exact hx, fun i him => ?_⟩
    obtain ⟨cs', hc, ht'⟩ := hi i him
    rw [hC] at hc
    obtain ⟨ys, n', hn', hy, hlen, hyl, hf⟩ := DataW.trod_struct he ht'
    obtain ⟨_, hcl, hat⟩ := World.cells?_some hc
    simp only [Prod.mk.injEq] at hy
    refine ⟨ys, n', hy.1, hy.2, hyl, fun j f hj => ?_⟩
    obtain ⟨ho, hk⟩ := hone_of hone j f hj
    have hjl : j < fs.size := (Array.getElem?_eq_some_iff.1 hj).1
    have hcell := hat j hjl
    have hv : cs'[j]? = some (cs'[j]'(by omega)) := List.getElem?_eq_getElem (by omega)
    have h1 := hf j f hj
    rw [ho, hk] at h1
    have hone' : (cs'.drop j).take 1 = [cs'[j]'(by omega)] := by
      rw [List.drop_eq_getElem_cons (by omega)]
      rfl
    rw [hone'] at h1
    have hys : ys[j]? = some (ys[j]'(by omega)) := List.getElem?_eq_getElem (by omega)
    refine ⟨_, _, ?_, hys, h1.trans hys⟩
    rw [← Go.Deep.add_add, hcell, hv]
end
section
variable {H : Type} {enc : TypeId × Value → H} {P : Program} {w : World} {base : Nat} {spare : Nat → Bool} {held : Bool}
theorem open_agg5 {r : Reach} {b0 : Nat} {t : TypeId} {f0 f1 f2 f3 f4 : Field} {v : Value} {d : DataW H} {p : List MemPlace} (hs : P.underlying t = some (.struct #[f0, f1, f2, f3, f4])) (hone : oneCellFields P #[f0, f1, f2, f3, f4] = true) (hC : P.cellsOf t = 5)
    (hv : Value.okWide P w r b0 t v) (h : DataW.Trod enc P w base spare held t v d p) :
    ∃ (v0 v1 v2 v3 v4 : Value) (y0 y1 y2 y3 y4 : DataW H × List MemPlace) (n : Nat), v = .agg #[v0, v1, v2, v3, v4] ∧ d = .agg [y0.1, y1.1, y2.1, y3.1, y4.1] ∧ p = y0.2 ++ (y1.2 ++ (y2.2 ++ (y3.2 ++ y4.2))) ∧
      DataW.trod enc P w base spare held n f0.type [v0] = some y0 ∧ DataW.trod enc P w base spare held n f1.type [v1] = some y1 ∧ DataW.trod enc P w base spare held n f2.type [v2] = some y2 ∧ DataW.trod enc P w base spare held n f3.type [v3] = some y3 ∧ DataW.trod enc P w base spare held n f4.type [v4] = some y4 := by
  obtain ⟨cs, rfl, hsz⟩ := okWide_struct hs hv
  obtain ⟨l⟩ := cs
  match l, hsz.trans hC with
  | [c0, c1, c2, c3, c4], _ =>
    obtain ⟨fuel, hf⟩ := h
    obtain ⟨xs, n, _, hx, _, hlen, hg⟩ := DataW.trod_struct hs hf
    obtain ⟨o0, k0⟩ := hone_of hone 0 f0 rfl
    obtain ⟨o1, k1⟩ := hone_of hone 1 f1 rfl
    obtain ⟨o2, k2⟩ := hone_of hone 2 f2 rfl
    obtain ⟨o3, k3⟩ := hone_of hone 3 f3 rfl
    obtain ⟨o4, k4⟩ := hone_of hone 4 f4 rfl
    match xs, hlen with
    | [y0, y1, y2, y3, y4], _ =>
      simp only [Prod.mk.injEq] at hx
      exact ⟨c0, c1, c2, c3, c4, y0, y1, y2, y3, y4, n, rfl, by simpa using hx.1, by simpa using hx.2, by simpa [Value.cells, o0, k0] using hg 0 f0 rfl, by simpa [Value.cells, o1, k1] using hg 1 f1 rfl, by simpa [Value.cells, o2, k2] using hg 2 f2 rfl, by simpa [Value.cells, o3, k3] using hg 3 f3 rfl, by simpa [Value.cells, o4, k4] using hg 4 f4 rfl⟩

theorem open_agg6 {r : Reach} {b0 : Nat} {t : TypeId} {f0 f1 f2 f3 f4 f5 : Field} {v : Value} {d : DataW H} {p : List MemPlace} (hs : P.underlying t = some (.struct #[f0, f1, f2, f3, f4, f5])) (hone : oneCellFields P #[f0, f1, f2, f3, f4, f5] = true) (hC : P.cellsOf t = 6)
    (hv : Value.okWide P w r b0 t v) (h : DataW.Trod enc P w base spare held t v d p) :
    ∃ (v0 v1 v2 v3 v4 v5 : Value) (y0 y1 y2 y3 y4 y5 : DataW H × List MemPlace) (n : Nat), v = .agg #[v0, v1, v2, v3, v4, v5] ∧ d = .agg [y0.1, y1.1, y2.1, y3.1, y4.1, y5.1] ∧ p = y0.2 ++ (y1.2 ++ (y2.2 ++ (y3.2 ++ (y4.2 ++ y5.2)))) ∧
      DataW.trod enc P w base spare held n f0.type [v0] = some y0 ∧ DataW.trod enc P w base spare held n f1.type [v1] = some y1 ∧ DataW.trod enc P w base spare held n f2.type [v2] = some y2 ∧ DataW.trod enc P w base spare held n f3.type [v3] = some y3 ∧ DataW.trod enc P w base spare held n f4.type [v4] = some y4 ∧ DataW.trod enc P w base spare held n f5.type [v5] = some y5 := by
  obtain ⟨cs, rfl, hsz⟩ := okWide_struct hs hv
  obtain ⟨l⟩ := cs
  match l, hsz.trans hC with
  | [c0, c1, c2, c3, c4, c5], _ =>
    obtain ⟨fuel, hf⟩ := h
    obtain ⟨xs, n, _, hx, _, hlen, hg⟩ := DataW.trod_struct hs hf
    obtain ⟨o0, k0⟩ := hone_of hone 0 f0 rfl
    obtain ⟨o1, k1⟩ := hone_of hone 1 f1 rfl
    obtain ⟨o2, k2⟩ := hone_of hone 2 f2 rfl
    obtain ⟨o3, k3⟩ := hone_of hone 3 f3 rfl
    obtain ⟨o4, k4⟩ := hone_of hone 4 f4 rfl
    obtain ⟨o5, k5⟩ := hone_of hone 5 f5 rfl
    match xs, hlen with
    | [y0, y1, y2, y3, y4, y5], _ =>
      simp only [Prod.mk.injEq] at hx
      exact ⟨c0, c1, c2, c3, c4, c5, y0, y1, y2, y3, y4, y5, n, rfl, by simpa using hx.1, by simpa using hx.2, by simpa [Value.cells, o0, k0] using hg 0 f0 rfl, by simpa [Value.cells, o1, k1] using hg 1 f1 rfl, by simpa [Value.cells, o2, k2] using hg 2 f2 rfl, by simpa [Value.cells, o3, k3] using hg 3 f3 rfl, by simpa [Value.cells, o4, k4] using hg 4 f4 rfl, by simpa [Value.cells, o5, k5] using hg 5 f5 rfl⟩
end

section
variable {P : Program}
theorem reads_new (w : World) (news : Array Value) (e : TypeId) (size m : Nat) (hn : news.size = m * size) : Reads (w.alloc (.cells news e)) (w.heap.size + 1) size (some ⟨w.heap.size, 0, none⟩) m news.toList := by
  refine ⟨by simp [hn], fun _ => ⟨_, rfl, by simp, fun j u hu => ?_⟩⟩
  have e1 : (⟨w.heap.size, 0, none⟩ : Addr).add j = ⟨w.heap.size, j, none⟩ := by unfold Addr.add; split <;> simp_all
  rw [e1, World.cell?_alloc_at _ _ _ _ rfl]
  simpa using hu

/-- 'append(out, x, ..)' onto a row of the call's own: what is appended lies in a new block. -/
theorem wp_append_new {o : Oper} {a : Act} {K : Act → World → Prop} {Q : Exit → Act → World → Prop} {w0 w : World} (s x : Operand) (t : TypeId)
    (ho : o.op = .call { callee := .builtin .append, args := #[s, x], argTypes := #[t, t] })
    (base : Nat) (e : TypeId) (i : TypeInfo) (z : Value) (size bytes : Nat) (ht : P.underlying t = some (.slice e)) (hi : P.info? e = some i) (hz : i.zero = some z)
    (hsize : i.size = size) (hby : i.bytes = bytes) (hzs : z.cells.size = size) (hsz : 0 < size)
    (v : Value) (n : Nat) (xs : List Value) (hs : a.eval s = v) (hown : w.ownsRow base e size v n xs) (hb : Below base w0 w) (hbase : base ≤ w.heap.size)
    (news : Array Value) (m c : Nat) (hx : a.eval x = .slice (some ⟨w.heap.size, 0, none⟩) m c) (hn : news.size = m * size) (h1 : ∀ u ∈ news.toList, u.oneCell' = true)
    (hbytes : n + m ≤ 1000000000 ∧ bytes ≤ 1000)
    (h : ∀ v' w', w'.ownsRow base e size v' (n + m) (xs ++ news.toList) → Below base w0 w' → (w.alloc (.cells news e)).grownBy w' v.ownBlock → (v'.ownBlock = v.ownBlock ∨ v'.ownBlock = some (w.heap.size + 1)) → K (a.put o.dst v') w') :
    o.wp P a (w.alloc (.cells news e)) K Q := by
  refine wp_append_any _ s x t ho base e i z size bytes ht hi hz hsize hby hzs hsz v n xs hs (hown.alloc _) (w.heap.size + 1) _ m c news.toList hx (reads_new w news e size m hn) h1
    (by simp only [maxLen]; omega) ?_ (by simp; omega) ?_
  · have := Nat.mul_le_mul hbytes.1 hbytes.2
    omega
  · intro v' w' h1 h2 h3
    refine h v' w' h1 ((hb.alloc hbase _).grown h2 (by simp; omega) fun k hk => (hown.lt k hk).1) h2 ?_
    simpa using h3

theorem wpList_append_new {ops : Array Oper} {rest : List Oper} {o : Oper} {a : Act} {Q : Exit → Act → World → Prop} {w0 w : World} (hgd : o.guard = none) (s x : Operand) (t : TypeId)
    (ho : o.op = .call { callee := .builtin .append, args := #[s, x], argTypes := #[t, t] })
    (base : Nat) (e : TypeId) (i : TypeInfo) (z : Value) (size bytes : Nat) (ht : P.underlying t = some (.slice e)) (hi : P.info? e = some i) (hz : i.zero = some z)
    (hsize : i.size = size) (hby : i.bytes = bytes) (hzs : z.cells.size = size) (hsz : 0 < size)
    (v : Value) (n : Nat) (xs : List Value) (hs : a.eval s = v) (hown : w.ownsRow base e size v n xs) (hb : Below base w0 w) (hbase : base ≤ w.heap.size)
    (news : Array Value) (m c : Nat) (hx : a.eval x = .slice (some ⟨w.heap.size, 0, none⟩) m c) (hn : news.size = m * size) (h1 : ∀ u ∈ news.toList, u.oneCell' = true)
    (hbytes : n + m ≤ 1000000000 ∧ bytes ≤ 1000)
    (h : ∀ v' w', w'.ownsRow base e size v' (n + m) (xs ++ news.toList) → Below base w0 w' → (w.alloc (.cells news e)).grownBy w' v.ownBlock → (v'.ownBlock = v.ownBlock ∨ v'.ownBlock = some (w.heap.size + 1)) → wpList P ops Q rest (a.put o.dst v') w') :
    wpList P ops Q (o :: rest) a (w.alloc (.cells news e)) :=
  wpList_plain hgd fun _ hK => wp_append_new s x t ho base e i z size bytes ht hi hz hsize hby hzs hsz v n xs hs hown hb hbase news m c hx hn h1 hbytes fun v' w' h2 h3 h4 h5 => hK _ _ (h v' w' h2 h3 h4 h5)

theorem step_append_new {ops : Array Oper} {o : Oper} {a : Act} {K : Act → World → Prop} {Q : Exit → Act → World → Prop} {E : Prop} {w0 w : World} (hgd : o.guard = none) (s x : Operand) (t : TypeId)
    (ho : o.op = .call { callee := .builtin .append, args := #[s, x], argTypes := #[t, t] })
    (base : Nat) (e : TypeId) (i : TypeInfo) (z : Value) (size bytes : Nat) (ht : P.underlying t = some (.slice e)) (hi : P.info? e = some i) (hz : i.zero = some z)
    (hsize : i.size = size) (hby : i.bytes = bytes) (hzs : z.cells.size = size) (hsz : 0 < size)
    (v : Value) (n : Nat) (xs : List Value) (hs : a.eval s = v) (hown : w.ownsRow base e size v n xs) (hb : Below base w0 w) (hbase : base ≤ w.heap.size)
    (news : Array Value) (m c : Nat) (hx : a.eval x = .slice (some ⟨w.heap.size, 0, none⟩) m c) (hn : news.size = m * size) (h1 : ∀ u ∈ news.toList, u.oneCell' = true)
    (hbytes : n + m ≤ 1000000000 ∧ bytes ≤ 1000)
    (h : ∀ v' w', w'.ownsRow base e size v' (n + m) (xs ++ news.toList) → Below base w0 w' → (w.alloc (.cells news e)).grownBy w' v.ownBlock → (v'.ownBlock = v.ownBlock ∨ v'.ownBlock = some (w.heap.size + 1)) → K (a.put o.dst v') w') :
    if Region.wanted o (yielded ops a.tmps) = true then Oper.wp P o a (w.alloc (.cells news e)) K Q else E := by
  have hw : Region.wanted o (yielded ops a.tmps) = true := by simp [Region.wanted, hgd]
  rw [if_pos hw]
  exact wp_append_new s x t ho base e i z size bytes ht hi hz hsize hby hzs hsz v n xs hs hown hb hbase news m c hx hn h1 hbytes h
end

theorem ret_str {a b : ByteArray} (h : a = b) : Ending.returned (.string a) = .returned (.string b) := by rw [h]
theorem ret_int {k : IntKind} {a b : Int} (h : a = b) : Ending.returned (.int k a) = .returned (.int k b) := by rw [h]
theorem ret_bool {a b : Bool} (h : a = b) : Ending.returned (.bool a) = .returned (.bool b) := by rw [h]

/-! ### Regions that draw their order, whose calls make memory at most -/
def Calm (w : World) : Type := {W : World // Below w.heap.size w W}
def Calm.w {w0 : World} (k : Calm w0) : World := k.1
instance Calm.some_ (w : World) : Nonempty (Calm w) := ⟨⟨w, Below.refl _ _⟩⟩
theorem Calm.below {w0 : World} (k : Calm w0) : Below w0.heap.size w0 k.w := k.2
theorem Calm.out {w0 : World} (k : Calm w0) : ∃ W, Below w0.heap.size w0 W ∧ k.w = W := ⟨_, k.2, rfl⟩
theorem Calm.cell {w0 : World} (k : Calm w0) (b o : Nat) (h : b < w0.heap.size) : k.w.cell? ⟨b, o, none⟩ = w0.cell? ⟨b, o, none⟩ := k.2.cell (p := ⟨b, o, none⟩) h
theorem Calm.frozen {w0 : World} (k : Calm w0) (b o : Nat) (h : b < w0.heap.size) : k.w.frozen? ⟨b, o, none⟩ = w0.frozen? ⟨b, o, none⟩ := k.2.frozen (p := ⟨b, o, none⟩) h
attribute [go_sem] Calm.cell Calm.frozen
theorem Calm.size {w0 : World} (k : Calm w0) : w0.heap.size ≤ k.w.heap.size := k.2.size
theorem Calm.of {w0 w1 : World} (h : Below w0.heap.size w0 w1) : ∃ k : Calm w0, w1 = k.w := ⟨⟨w1, h⟩, rfl⟩
theorem Calm.more {w0 w1 : World} {k : Calm w0} (h : Below k.w.heap.size k.w w1) : ∃ k' : Calm w0, w1 = k'.w := ⟨⟨w1, k.2.trans (h.mono k.2.size)⟩, rfl⟩
theorem Below.calm {B : Nat} {a w0 : World} {k : Calm w0} (h : Below B a w0) (hB : B ≤ w0.heap.size) : Below B a k.w := h.trans (k.below.mono hB)
section
variable {P : Program}
theorem calm_of {f : FuncId} {args : Array Value} {w0 : World} {k : Calm w0} {v : Value} (h : Calls P f args k.w fun e w' => e = .returned v ∧ Below k.w.heap.size k.w w') :
    Calls P f args k.w fun e w'' => e = .returned v ∧ ∃ m : Calm w0, w'' = m.w :=
  h.mono fun _ W ⟨he, hb⟩ => ⟨he, ⟨W, k.2.trans (hb.mono k.2.size)⟩, rfl⟩
theorem calm_same {f : FuncId} {args : Array Value} {w0 : World} {k : Calm w0} {v : Value} (h : Calls P f args k.w fun e w' => e = .returned v ∧ k.w = w') :
    Calls P f args k.w fun e w'' => e = .returned v ∧ ∃ m : Calm w0, w'' = m.w :=
  h.mono fun _ _ ⟨he, hb⟩ => ⟨he, k, hb.symm⟩
theorem wp_region_calm_lit {id : Nat} {Q : Exit → Act → World → Prop} {a : Act} {w : World} {l : List Oper} (hm : P.follows .mixedOrders = true) (hB : Region.lexB .any l.toArray = true)
    (h : wpQuiet P l.toArray (fun w' => ∃ k : Calm w, w' = k.w) (fun a' => ∀ w', (∃ k : Calm w, w' = k.w) → Q .normal a' w') l a) : (Code.region id l.toArray true).wp P Q a w :=
  wp_region_quiet (C := fun w' => ∃ k : Calm w, w' = k.w) hm hB ⟨⟨w.drew, (Below.refl _ _).drew⟩, rfl⟩ (by simpa using h)
/-- The same, behind an elder one: the class stays that of the first world. -/
theorem wp_region_calm_on {id : Nat} {Q : Exit → Act → World → Prop} {a : Act} {w : World} {k0 : Calm w} {l : List Oper} (hm : P.follows .mixedOrders = true) (hB : Region.lexB .any l.toArray = true)
    (h : wpQuiet P l.toArray (fun w' => ∃ k : Calm w, w' = k.w) (fun a' => ∀ w', (∃ k : Calm w, w' = k.w) → Q .normal a' w') l a) : (Code.region id l.toArray true).wp P Q a k0.w :=
  wp_region_quiet (C := fun w' => ∃ k : Calm w, w' = k.w) hm hB ⟨⟨k0.w.drew, k0.below.drew⟩, rfl⟩ (by simpa using h)
end

end Go.Proofs.Ytbbjkldkjndfaaa

/- Plain facts: the bytes of a number in groups of seven bits, and slices of bytes. No program in sight. -/
namespace Go.Proofs.Ytbbjkldkjndfaaa
open Go.RowKit

/-- The cells of bytes. -/
def bytesV (l : List UInt8) : List Value := l.map fun b => .int .u8 (b.toNat : Int)
theorem bytesV_nil : bytesV [] = [] := rfl
theorem bytesV_append (a b : List UInt8) : bytesV (a ++ b) = bytesV a ++ bytesV b := by simp [bytesV]
theorem bytesV_length (a : List UInt8) : (bytesV a).length = a.length := by simp [bytesV]
theorem bytesV_one (a : List UInt8) : ∀ u ∈ bytesV a, u.oneCell' = true := by
  intro u hu
  simp only [bytesV, List.mem_map] at hu
  obtain ⟨b, _, rfl⟩ := hu
  rfl

theorem run_string_own {P : Program} {w : World} {base : Nat} {src dst e : TypeId} {v : Value} {n : Nat} {l : List UInt8} (hs : P.underlying src = some (.slice e)) (he : P.underlying e = some (.int .u8)) (hd : P.underlying dst = some .string)
    (h : w.ownsRow base e 1 v n (bytesV l)) : (convert src dst v).run P w = .ok (.string ⟨l.toArray⟩) w := by
  have hl : l.length = n := by have := h.1; rw [bytesV_length] at this; omega
  subst hl
  rcases h.2 with ⟨rfl, h0⟩ | ⟨g, cap, cur, rfl, _, hg, hn, _, hsz, hx⟩
  · have : l = [] := List.eq_nil_of_length_eq_zero h0
    subst this
    rw [run_convert_bytes_string w src dst e none 0 0 hs he hd]
    simp [Conv.bytesToString]
    rfl
  · refine run_convert_bytes_back w src dst e ⟨g, 0, none⟩ cap l hs he hd fun j hj => ?_
    exact h.cells (g := g) rfl j _ (by simp [bytesV, List.getElem?_eq_getElem hj])

def vtL : Nat → Nat → List UInt8
  | 0, _ => []
  | f + 1, m => if m < 128 then [UInt8.ofNat m] else UInt8.ofNat (m % 128 + 128) :: vtL f (m / 128)

def varText (n : Int) : ByteArray := if 0 ≤ n ∧ n ≤ 1000000000 then ⟨(vtL 5 n.toNat).toArray⟩ else ⟨#[]⟩

theorem vt_step (f m : Nat) (h : m < 128 ^ f) (hm : 128 ≤ m) : ∃ f', f = f' + 1 ∧ 1 ≤ f' ∧ m / 128 < 128 ^ f' ∧ vtL f m = UInt8.ofNat (m % 128 + 128) :: vtL f' (m / 128) := by
  match f, h with
  | 0, h => simp at h; omega
  | f + 1, h =>
    rw [Nat.pow_succ] at h
    have h' := Nat.div_lt_of_lt_mul (by rw [Nat.mul_comm]; exact h : m < 128 * 128 ^ f)
    refine ⟨f, rfl, ?_, h', by rw [vtL, if_neg (by omega)]⟩
    match f, h' with
    | 0, h' => simp at h'; omega
    | f + 1, _ => omega
theorem vt_last (f m : Nat) (h : 1 ≤ f) (hm : m < 128) : vtL f m = [UInt8.ofNat m] := by
  match f, h with
  | f + 1, h => rw [vtL, if_pos hm]

/-- A literal of bytes in a new block, made a string. -/
theorem run_string_block {P : Program} {src dst e : TypeId} (hs : P.underlying src = some (.slice e)) (he : P.underlying e = some (.int .u8)) (hd : P.underlying dst = some .string)
    (w : World) (ns : List Int) (k c : Nat) (hk : ns.length = k) :
    (convert src dst (.slice (some ⟨w.heap.size, 0, none⟩) k c)).run P (w.alloc (.cells (ns.map (Value.int .u8)).toArray e)) = .ok (.string (strOfNums ns)) (w.alloc (.cells (ns.map (Value.int .u8)).toArray e)) := by
  refine run_convert_bytes_arg _ src e hs he _ 0 k c ns hk (fun i hi => ?_) dst hd
  rw [World.cell?_alloc_at _ _ _ _ rfl]
  have : i < ns.length := by omega
  simp [List.getD, List.getElem?_eq_getElem this]

def fourL (n : Int) : List Int := [n / 16777216, n / 65536 % 256, n / 256 % 256, n % 256]
def fourOf (n : Int) : ByteArray := if 0 ≤ n ∧ n ≤ 4294967295 then strOfNums (fourL n) else ⟨#[]⟩

theorem str_inj {a b : ByteArray} (h : a.toList = b.toList) : a = b := by
  rw [ByteArray.toList_eq, ByteArray.toList_eq] at h
  exact ByteArray.ext (Array.toList_inj.1 h)
theorem str_ne {a b : ByteArray} (h : ¬ a = b) : (a.toList == b.toList) = false := by
  rw [beq_eq_false_iff_ne]
  exact fun e => h (str_inj e)
theorem str_eq {a b : ByteArray} (h : a = b) : (a.toList == b.toList) = true := by rw [h]; exact beq_self_eq_true _

/-- Byte i of a string, 0 behind its end. -/
def byteAt (s : ByteArray) (i : Nat) : Nat := (s.data.toList.getD i 0).toNat
theorem byteAt_eq {s : ByteArray} {i : Nat} (h : i < s.size) : (s[i]'h).toNat = byteAt s i := by
  have h' : i < s.data.toList.length := by rw [Array.length_toList]; exact h
  simp only [byteAt, List.getD, List.getElem?_eq_getElem h', Option.getD_some]
  rfl
theorem byteAt_lt (s : ByteArray) (i : Nat) : byteAt s i < 256 := UInt8.toNat_lt _
theorem byteAt_get? {s : ByteArray} {i : Nat} : byteAt s i = (s.data[i]?.getD 0).toNat := by simp [byteAt, List.getD]
theorem byteAt_extract {s : ByteArray} {a b i : Nat} (h : a + i < b) (hb : b ≤ s.size) : byteAt (s.extract a b) i = byteAt s (a + i) := by
  have hb' : b ≤ s.data.size := hb
  rw [byteAt_get?, byteAt_get?, ByteArray.data_extract, Array.getElem?_extract, if_pos (by omega)]
theorem size_extract' {s : ByteArray} {a b : Nat} (hb : b ≤ s.size) : (s.extract a b).size = b - a := by
  rw [ByteArray.size_extract]; omega

theorem bytes_of_string {P : Program} (w : World) (src dst e : TypeId) (s : ByteArray) (hs : P.underlying src = some .string) (hd : P.underlying dst = some (.slice e)) (he : P.underlying e = some (.int .u8)) :
    ∃ cap W1, (convert src dst (.string s)).run P w = .ok (.slice (some ⟨w.heap.size, 0, none⟩) s.size cap) W1 ∧ Below w.heap.size w W1 ∧ w.heap.size < W1.heap.size ∧
      ∀ i, i < s.size → W1.cell? ⟨w.heap.size, i, none⟩ = some (.int .u8 (byteAt s i : Int)) := by
  refine ⟨_, _, run_bytes_of_string w src dst e s hs hd he, ((Below.refl _ _).drew).alloc (Nat.le_refl _) _, by simp, fun i hi => ?_⟩
  rw [show w.heap.size = w.drew.heap.size from rfl, World.cell?_alloc_mark, ← byteAt_eq hi]
  have h' : i < s.data.size := hi
  have h2 : (s.data.map (fun b => Value.int .u8 b.toNat)).size = s.data.size := by simp
  unfold bytesRow
  rw [Array.getElem?_append_left (by rw [h2]; exact h'), Array.getElem?_map, Array.getElem?_eq_getElem h']
  rfl

def fourAt (s : ByteArray) (p : Nat) : Int := (byteAt s p : Int) * 16777216 + (byteAt s (p + 1) : Int) * 65536 + (byteAt s (p + 2) : Int) * 256 + (byteAt s (p + 3) : Int)
theorem vtL_len : ∀ f m, (vtL f m).length ≤ f
  | 0, _ => by simp [vtL]
  | f + 1, m => by
    rw [vtL]
    by_cases h : m < 128
    · rw [if_pos h]; simp
    · rw [if_neg h]; have := vtL_len f (m / 128); simp; omega
theorem varText_size (n : Int) : (varText n).size ≤ 5 := by
  unfold varText
  by_cases h : 0 ≤ n ∧ n ≤ 1000000000
  · rw [if_pos h]; show (vtL 5 n.toNat).toArray.size ≤ 5; simpa using vtL_len 5 n.toNat
  · rw [if_neg h]; show 0 ≤ 5; omega
theorem fourOf_size (n : Int) : (fourOf n).size ≤ 4 := by
  unfold fourOf
  by_cases h : 0 ≤ n ∧ n ≤ 4294967295
  · rw [if_pos h, strOfNums_size]; simp [fourL]
  · rw [if_neg h]; show 0 ≤ 4; omega
/-- What the program's loop holds after k rounds. -/
def fourTo (s : ByteArray) (p : Nat) : Nat → Int
  | 0 => 0
  | k + 1 => 256 * fourTo s p k + (byteAt s (p + k) : Int)
theorem fourTo_bd (s : ByteArray) (p : Nat) : ∀ k, 0 ≤ fourTo s p k ∧ fourTo s p k < 256 ^ k
  | 0 => by simp [fourTo]
  | k + 1 => by
    have := fourTo_bd s p k
    have := byteAt_lt s (p + k)
    rw [fourTo, Int.pow_succ]
    generalize (256 : Int) ^ k = y at *
    omega
theorem fourTo_four (s : ByteArray) (p : Nat) : fourTo s p 4 = fourAt s p := by
  simp only [fourTo, fourAt, Nat.add_zero]
  omega
end Go.Proofs.Ytbbjkldkjndfaaa

/- Regions that draw their order and that write or make memory: one walk along a schedule serves every order. What only reads is taken first, what makes or writes memory stands in one order. No program in sight. -/
namespace Go.Proofs.Ytbbjkldkjndfaaa
open Go.RowKit

section
variable {P : Program} {ops : Array Oper} {S : World → Prop} {Q : Exit → Act → World → Prop}

/-- The walk along a schedule: 'true': the operation yields one value in every world that meets S; 'false': it is carried out in the world at hand. -/
def wpS (P : Program) (ops : Array Oper) (S : World → Prop) (Q : Exit → Act → World → Prop) : List (Bool × Oper) → Act → World → Prop
  | [], a, w => Q .normal a w
  | (true, o) :: r, a, w => if Region.wanted o (yielded ops a.tmps) then ∃ v, (∀ W, S W → (execOp a.eval o).run P W = .ok (.value v) W) ∧ wpS P ops S Q r (a.put o.dst v) w else wpS P ops S Q r (a.put o.dst undef) w
  | (false, o) :: r, a, w => if Region.wanted o (yielded ops a.tmps) then o.wp P a w (fun a' w' => S w' ∧ wpS P ops S Q r a' w') Q else wpS P ops S Q r (a.put o.dst undef) w

/-- May the region be walked along the schedule? -/
def schedB (ops : Array Oper) : List (Nat × Bool) → Array Bool → Bool
  | [], listed => (Region.ready .any ops listed).isEmpty
  | (i, true) :: r, listed => (Region.ready .any ops listed).contains i && Region.free .any ops listed i && schedB ops r (listed.setIfInBounds i true)
  | (i, false) :: r, listed => (Region.ready .any ops listed == [i]) && schedB ops r (listed.setIfInBounds i true)

theorem wpAnyH_of_sched (hs : Region.noSelect ops = true) : ∀ (r : List (Nat × Bool)) (l : List (Bool × Oper)) (listed : Array Bool) (a : Act) (w : World),
    r.map (fun p => (p.2, ops[p.1]?)) = l.map (fun q => (q.1, some q.2)) → schedB ops r listed = true → S w → wpS P ops S (NoPanic Q) l a w → wpAnyH P .any ops (NoPanic Q) S r.length listed a w
  | [], [], listed, a, w, _, hB, _, h => ⟨by simpa [schedB] using hB, h⟩
  | [], _ :: _, _, _, _, he, _, _, _ => by simp at he
  | (_, true) :: _, [], _, _, _, he, _, _, _ => by simp at he
  | (_, false) :: _, [], _, _, _, he, _, _, _ => by simp at he
  | (i, true) :: r, (b, o) :: l, listed, a, w, he, hB, hS, h => by
    simp only [List.map_cons, List.cons.injEq, Prod.mk.injEq] at he
    obtain ⟨⟨rfl, ho⟩, he⟩ := he
    simp only [schedB, Bool.and_eq_true] at hB
    obtain ⟨⟨hr, hf⟩, hB⟩ := hB
    simp only [wpS] at h
    by_cases hw : Region.wanted o (yielded ops a.tmps) = true
    · rw [if_pos hw] at h
      obtain ⟨v, hv, h⟩ := h
      exact wpAnyH_take (oi := o) (v := v) ho hs hf hr (fun _ _ _ h => h) (.inl ⟨hw, hv⟩) hS (wpAnyH_of_sched hs r l _ _ _ he hB hS h)
    · rw [if_neg hw] at h
      exact wpAnyH_take (oi := o) (v := undef) ho hs hf hr (fun _ _ _ h => h) (.inr ⟨by simpa using hw, rfl⟩) hS (wpAnyH_of_sched hs r l _ _ _ he hB hS h)
  | (i, false) :: r, (b, o) :: l, listed, a, w, he, hB, hS, h => by
    simp only [List.map_cons, List.cons.injEq, Prod.mk.injEq] at he
    obtain ⟨⟨rfl, ho⟩, he⟩ := he
    simp only [schedB, Bool.and_eq_true, beq_iff_eq] at hB
    obtain ⟨hr, hB⟩ := hB
    simp only [wpS] at h
    refine ⟨fun h0 => (by rw [hr] at h0; cases h0), fun j hj => ?_⟩
    rw [hr, List.mem_singleton] at hj
    subst hj
    unfold wpOp
    simp only [ho]
    by_cases hw : Region.wanted o (yielded ops a.tmps) = true
    · rw [if_pos hw] at h
      rw [if_pos hw]
      exact .inl (Oper.wp_mono (fun a' w' ⟨hS', h'⟩ => ⟨hS', wpAnyH_of_sched hs r l _ _ _ he hB hS' h'⟩) h)
    · rw [if_neg hw] at h
      rw [if_neg hw]
      exact ⟨hS, wpAnyH_of_sched hs r l _ _ _ he hB hS h⟩

theorem wp_region_sched {id : Nat} {a : Act} {w : World} (r : List (Nat × Bool)) (l : List (Bool × Oper)) (hl : r.map (fun p => (p.2, ops[p.1]?)) = l.map (fun q => (q.1, some q.2)))
    (hm : P.follows .mixedOrders = true) (hB : (Region.noSelect ops && schedB ops r (Array.replicate ops.size false) && (r.length == ops.size)) = true) (S : World → Prop) (hS : S w.drew)
    (h : wpS P ops S (NoPanic Q) l a w.drew) : (Code.region id ops true).wp P Q a w := by
  simp only [Bool.and_eq_true, beq_iff_eq] at hB
  refine wp_region_noPanic (wp_region_held (S := S) hm ?_)
  have h1 := wpAnyH_of_sched hB.1.1 r l _ _ _ hl hB.1.2 hS h
  rw [hB.2] at h1
  exact h1

/-! ### The steps -/
theorem wpS_nil {a : Act} {w : World} (h : Q .normal a w) : wpS P ops S (NoPanic Q) [] a w := h
theorem wpS_move {o : Oper} {r : List (Bool × Oper)} {a : Act} {w : World} (x : Operand) (ho : o.op = .move x) (hw : Region.wanted o (yielded ops a.tmps) = true) (h : wpS P ops S Q r (a.put o.dst (a.eval x)) w) : wpS P ops S Q ((true, o) :: r) a w := by
  simp only [wpS, if_pos hw]
  exact ⟨_, fun W _ => BigFrame.run_move x ho W, h⟩
theorem wpS_assign {o : Oper} {r : List (Bool × Oper)} {a : Act} {w : World} (x : Operand) (ho : o.op = .assign x) (hw : Region.wanted o (yielded ops a.tmps) = true) (h : wpS P ops S Q r (a.put o.dst (a.eval x)) w) : wpS P ops S Q ((true, o) :: r) a w := by
  simp only [wpS, if_pos hw]
  exact ⟨_, fun W _ => BigFrame.run_assign x ho W, h⟩
theorem wpS_held {o : Oper} {r : List (Bool × Oper)} {a : Act} {w : World} (hw : Region.wanted o (yielded ops a.tmps) = true) (v : Value) (hv : ∀ W, S W → (execOp a.eval o).run P W = .ok (.value v) W) (h : wpS P ops S Q r (a.put o.dst v) w) : wpS P ops S Q ((true, o) :: r) a w := by
  simp only [wpS, if_pos hw]
  exact ⟨v, hv, h⟩
theorem wpS_skip {b : Bool} {o : Oper} {r : List (Bool × Oper)} {a : Act} {w : World} (hw : Region.wanted o (yielded ops a.tmps) = false) (h : wpS P ops S Q r (a.put o.dst undef) w) : wpS P ops S Q ((b, o) :: r) a w := by
  cases b <;> simp only [wpS, hw] <;> exact h
theorem wpS_step {o : Oper} {r : List (Bool × Oper)} {a : Act} {w : World} (hw : Region.wanted o (yielded ops a.tmps) = true)
    (h : ∀ K : Act → World → Prop, Hid (∀ a' w', S w' → wpS P ops S Q r a' w' → K a' w') → o.wp P a w K Q) : wpS P ops S Q ((false, o) :: r) a w := by
  simp only [wpS, if_pos hw]
  exact h _ (fun a' w' h1 h2 => ⟨h1, h2⟩)
/-- A call of a function that has a body. -/
theorem run_call_enter {o : Oper} {a : Act} {w : World} (f : FuncId) {fn : Func} {c : Code} {A : Array Operand} {T : Array TypeId} {vs : Array Value}
    (ho : o.op = .call { callee := .value (.func f), args := A, argTypes := T }) (hf : P.funcs[f]? = some fn) (hname : (fn.name == "runtime.NumGoroutine") = false) (hb : fn.body = some c) (hv : A.map a.eval = vs) :
    (execOp a.eval o).run P w = .ok (.enter f vs) w := by
  have h1 : fn.name ≠ "runtime.NumGoroutine" := by simpa using hname
  have hv' : A.map (fun x => a.eval x) = vs := hv
  simp [execOp, ho, resolve, invoke, Act.eval, Deferred.ofValue, callFunc, hf, h1, hb, go_sem]
  exact hv
theorem wpS_call {o : Oper} {r : List (Bool × Oper)} {a : Act} {w : World} (f : FuncId) {fn : Func} {c : Code} {A : Array Operand} {T : Array TypeId} {vs : Array Value} (hw : Region.wanted o (yielded ops a.tmps) = true)
    (ho : o.op = .call { callee := .value (.func f), args := A, argTypes := T }) (hf : P.funcs[f]? = some fn) (hname : (fn.name == "runtime.NumGoroutine") = false) (hb : fn.body = some c) (hv : A.map a.eval = vs)
    (h : Calls P f vs w fun e w' => ∃ v, e = .returned v ∧ S w' ∧ wpS P ops S Q r (a.put o.dst v) w') : wpS P ops S Q ((false, o) :: r) a w := by
  simp only [wpS, if_pos hw]
  unfold Oper.wp
  rw [run_call_enter f ho hf hname hb hv, Oper.upon_enter]
  refine h.mono ?_
  rintro e w' ⟨v, rfl, h1, h2⟩
  exact ⟨h1, h2⟩
end

/-! ### The class of worlds for loads: as the world at hand, but for one row of the call's own and for new blocks -/
def Kept (w : World) (row : Option Nat) : Type := {W : World // w.grownBy W row}
def Kept.w {w0 : World} {row : Option Nat} (k : Kept w0 row) : World := k.1
theorem Kept.cell {w0 : World} {row : Option Nat} (k : Kept w0 row) (b o : Nat) (h : b < w0.heap.size) (hne : some b ≠ row) : k.w.cell? ⟨b, o, none⟩ = w0.cell? ⟨b, o, none⟩ := World.cell?_of_block (a := ⟨b, o, none⟩) (k.2.block b h hne)
theorem Kept.cell_none {w0 : World} (k : Kept w0 none) (b o : Nat) (h : b < w0.heap.size) : k.w.cell? ⟨b, o, none⟩ = w0.cell? ⟨b, o, none⟩ := k.cell b o h (by simp)
attribute [go_sem] Kept.cell Kept.cell_none
/-- The class. -/
def KeptS (w : World) (row : Option Nat) (W : World) : Prop := ∃ k : Kept w row, W = k.w
theorem KeptS.of {w W : World} {row : Option Nat} (h : w.grownBy W row) : KeptS w row W := ⟨⟨W, h⟩, rfl⟩
theorem KeptS.out {w W : World} {row : Option Nat} (h : KeptS w row W) : w.grownBy W row := by obtain ⟨k, rfl⟩ := h; exact k.2
theorem KeptS.refl (w : World) (row : Option Nat) : KeptS w row w := .of (World.grownBy.refl _ _)
theorem KeptS.drew {w W : World} {row : Option Nat} (h : KeptS w row W) : KeptS w row W.drew := .of (only_drew h.out)
theorem KeptS.alloc {w W : World} {row : Option Nat} (h : KeptS w row W) (o : Obj) : KeptS w row (W.alloc o) := .of (only_alloc h.out o)
theorem KeptS.grown {w W W' : World} {row : Option Nat} (h : KeptS w row W) (hg : W.grownBy W' row) : KeptS w row W' :=
  .of ⟨hg.os.trans h.out.os, hg.tape.trans h.out.tape, hg.output.trans h.out.output, Nat.le_trans h.out.size hg.size, fun i hi hn => (hg.block i (Nat.lt_of_lt_of_le hi h.out.size) hn).trans (h.out.block i hi hn)⟩
theorem KeptS.below {w W W' : World} {row : Option Nat} (h : KeptS w row W) (hb : Below W.heap.size W W') : KeptS w row W' := h.grown (only_of_below hb row)
theorem KeptS.belowAt {w W W' : World} {row : Option Nat} (h : KeptS w row W) (hb : Below w.heap.size W W') : KeptS w row W' :=
  .of ⟨hb.os.trans h.out.os, hb.tape.trans h.out.tape, hb.output.trans h.out.output, Nat.le_trans h.out.size hb.size, fun i hi hn => (hb.block i hi).trans (h.out.block i hi hn)⟩
theorem KeptS.setRow {w W : World} {g : Nat} (h : KeptS w (some g) W) {p : Addr} (hp : p.block = g) (u : Value) : KeptS w (some g) (W.setCell p u) := .of (only_setCell h.out (.inl hp) u)
theorem KeptS.setNew {w W : World} {row : Option Nat} (h : KeptS w row W) {p : Addr} (hp : w.heap.size ≤ p.block) (u : Value) : KeptS w row (W.setCell p u) :=
  .of ⟨h.out.os, h.out.tape, h.out.output, by simpa [World.setCell] using h.out.size, fun i hi hn => (Below.heap_setCell W p u i (by omega)).trans (h.out.block i hi hn)⟩
theorem bcell1 {W w1 : World} {B n : Nat} (hn : n = B) (hb : Below B W w1) : (∀ b o, b < n → w1.cell? ⟨b, o, none⟩ = W.cell? ⟨b, o, none⟩) ∧ (∀ b o, b < n → w1.frozen? ⟨b, o, none⟩ = W.frozen? ⟨b, o, none⟩) :=
  ⟨fun _ _ h => hb.cell (p := ⟨_, _, none⟩) (hn ▸ h), fun _ _ h => hb.frozen (p := ⟨_, _, none⟩) (hn ▸ h)⟩
/-- What is known of the old cells behind a call that makes memory. -/
theorem bcell {W w1 : World} (hb : Below W.heap.size W w1) : (∀ b o, b < W.heap.size → w1.cell? ⟨b, o, none⟩ = W.cell? ⟨b, o, none⟩) ∧ (∀ b o, b < W.heap.size → w1.frozen? ⟨b, o, none⟩ = W.frozen? ⟨b, o, none⟩) :=
  ⟨fun _ _ h => hb.cell (p := ⟨_, _, none⟩) h, fun _ _ h => hb.frozen (p := ⟨_, _, none⟩) h⟩
end Go.Proofs.Ytbbjkldkjndfaaa

/- Slices: what a slice value reads as, rows of the call's own, and how both are kept. No program in sight. -/
namespace Go.Proofs.Ytbbjkldkjndfaaa
open Go.RowKit Go.Deep

/-- The slice value v has n elements (size cells each) that read as the cells xs. -/
def Rd (w : World) (size : Nat) (v : Value) (n : Nat) (xs : List Value) : Prop := ∃ A c, v = .slice A n c ∧ n ≤ c ∧ c ≤ maxLen ∧ Reads w w.heap.size size A n xs
theorem Rd.below {w w' : World} {size n : Nat} {v : Value} {xs : List Value} (h : Rd w size v n xs) (hb : Below w.heap.size w w') : Rd w' size v n xs := by
  obtain ⟨A, c, rfl, h1, h2, h3⟩ := h
  exact ⟨A, c, rfl, h1, h2, (h3.below hb).more hb.size⟩
theorem Rd.drew {w : World} {size n : Nat} {v : Value} {xs : List Value} (h : Rd w size v n xs) : Rd w.drew size v n xs := h
theorem Rd.grown {w w' : World} {size n : Nat} {v : Value} {xs : List Value} {row : Option Nat} (h : Rd w size v n xs) (hg : w.grownBy w' row) (hne : v.ownBlock = none ∨ v.ownBlock ≠ row) : Rd w' size v n xs := by
  obtain ⟨A, c, rfl, h1, h2, h3⟩ := h
  refine ⟨A, c, rfl, h1, h2, h3.1, fun hn => ?_⟩
  obtain ⟨ad, rfl, hlt, hc⟩ := h3.2 hn
  refine ⟨ad, rfl, Nat.lt_of_lt_of_le hlt hg.size, fun j u hu => ?_⟩
  have hb : some ad.block ≠ row := by
    intro e
    rcases hne with h | h
    · simp [Value.ownBlock] at h
    · exact h (by simpa [Value.ownBlock] using e)
  rw [World.cell?_of_block (w := w) (hg.block _ (by rw [block_of_add]; exact hlt) (by rw [block_of_add]; exact hb))]
  exact hc j u hu
theorem Rd.of_own {w : World} {base size n : Nat} {e : TypeId} {v : Value} {xs : List Value} (h : w.ownsRow base e size v n xs) : Rd w size v n xs := by
  rcases h.2 with ⟨rfl, rfl⟩ | ⟨g, cap, cur, rfl, hbase, hg, hn, hm, hsz, hx⟩
  · have : xs = [] := List.eq_nil_of_length_eq_zero (by simpa using h.1)
    subst this
    exact ⟨none, 0, rfl, Nat.le_refl _, Nat.zero_le _, Reads.none_⟩
  · exact ⟨some ⟨g, 0, none⟩, cap, rfl, hn, hm, Reads.of_own h⟩
/-- An element's cell, at the address as the walk reckons it. -/
theorem Rd.form {w : World} {size n : Nat} {v : Value} {xs : List Value} (h : Rd w size v n xs) (hn : 0 < n) (hs : 0 < size) : ∃ b off c, v = .slice (some ⟨b, off, none⟩) n c ∧ n ≤ c ∧ c ≤ maxLen ∧ b < w.heap.size ∧ ∀ j u, xs[j]? = some u → w.cell? ⟨b, off + j, none⟩ = some u := by
  obtain ⟨A, c, rfl, h1, h2, h3⟩ := h
  obtain ⟨⟨b, off, spot⟩, rfl, hlt, hc⟩ := h3.2 hn
  have hl : 0 < xs.length := by rw [h3.1]; exact Nat.mul_pos hn hs
  have h0 := hc 0 _ (List.getElem?_eq_getElem hl)
  have hspot : spot = none := by simpa [Addr.add] using World.cell?_spot h0
  subst hspot
  refine ⟨b, off, c, rfl, h1, h2, hlt, fun j u hu => ?_⟩
  have e1 : (⟨b, off, none⟩ : Addr).add j = ⟨b, off + j, none⟩ := by unfold Addr.add; split <;> simp_all
  rw [← e1]
  exact hc j u hu
theorem Rd.len {w : World} {size n : Nat} {v : Value} {xs : List Value} (h : Rd w size v n xs) : xs.length = n * size := by obtain ⟨_, _, _, _, _, h3⟩ := h; exact h3.1
theorem Rd.shape {w : World} {size n : Nat} {v : Value} {xs : List Value} (h : Rd w size v n xs) : ∃ A c, v = .slice A n c ∧ n ≤ c ∧ c ≤ maxLen := by obtain ⟨A, c, h0, h1, h2, _⟩ := h; exact ⟨A, c, h0, h1, h2⟩

/-! ### Rows of the call's own -/
theorem own_below {w w' : World} {base size n : Nat} {e : TypeId} {v : Value} {xs : List Value} (h : w.ownsRow base e size v n xs) (hb : Below w.heap.size w w') : w'.ownsRow base e size v n xs :=
  h.kept (only_of_below hb none) (by
    rcases hv : v.ownBlock with _ | g
    · exact .inl rfl
    · exact .inr (by simp))
theorem own_grown {w w' : World} {base size n : Nat} {e : TypeId} {v : Value} {xs : List Value} {row : Option Nat} (h : w.ownsRow base e size v n xs) (hg : w.grownBy w' row) (hne : v.ownBlock = none ∨ v.ownBlock ≠ row) : w'.ownsRow base e size v n xs := h.kept hg hne
theorem own_more {w : World} {base base' size n : Nat} {e : TypeId} {v : Value} {xs : List Value} (h : w.ownsRow base e size v n xs) (hb : base' ≤ base) : w.ownsRow base' e size v n xs := by
  rcases h.2 with h0 | ⟨g, cap, cur, h1, h2, h3⟩
  · exact ⟨h.1, .inl h0⟩
  · exact ⟨h.1, .inr ⟨g, cap, cur, h1, by omega, h3⟩⟩
/-- Two rows, the later one made behind the elder. -/
theorem own_apart {w : World} {base base' size size' n n' : Nat} {e e' : TypeId} {v v' : Value} {xs xs' : List Value} {w0 : World} (h : w0.ownsRow base e size v n xs) (h' : w.ownsRow base' e' size' v' n' xs') (hb : w0.heap.size ≤ base') :
    v.ownBlock = none ∨ v.ownBlock ≠ v'.ownBlock := by
  rcases hv : v.ownBlock with _ | g
  · exact .inl rfl
  · right
    intro e
    have h1 := h.lt g hv
    have h2 := h'.lt g e.symm
    omega
theorem grown_below {w w' : World} {base : Nat} {row : Option Nat} (hg : w.grownBy w' row) (hr : ∀ k, row = some k → base ≤ k) (hB : base ≤ w.heap.size) : Below base w w' := (Below.refl _ _).grown hg hB hr
/-- A row that is made whole. -/
theorem own_of_rowIs {w : World} {g base size n : Nat} {e : TypeId} {f : Nat → Value} (h : w.rowIs g e (n * size) f) (hb : base ≤ g) (hn : n ≤ maxLen) :
    w.ownsRow base e size (.slice (some ⟨g, 0, none⟩) n n) n ((List.range (n * size)).map f) := by
  obtain ⟨c, hc, hs, hf⟩ := h
  refine ⟨by simp, .inr ⟨g, n, c, rfl, hb, hc, Nat.le_refl _, hn, hs, ?_⟩⟩
  apply List.ext_getElem?
  intro i
  by_cases hi : i < n * size
  · rw [List.getElem?_take_of_lt hi, Array.getElem?_toList, hf i hi, List.getElem?_map, List.getElem?_range hi]
    rfl
  · rw [List.getElem?_eq_none (by simp; omega), List.getElem?_eq_none (by simp; omega)]
/-- What a row of the call's own is, cell by cell. -/
theorem rowIs_of_own {w : World} {base size n : Nat} {e : TypeId} {v : Value} {xs : List Value} (h : w.ownsRow base e size v n xs) (hn : 0 < n) :
    ∃ g cap f, v = .slice (some ⟨g, 0, none⟩) n cap ∧ base ≤ g ∧ n ≤ cap ∧ cap ≤ maxLen ∧ w.rowIs g e (cap * size) f ∧ ∀ j, j < n * size → xs[j]? = some (f j) := by
  rcases h.2 with ⟨_, h0⟩ | ⟨g, cap, cur, rfl, hbase, hg, hnc, hm, hsz, hx⟩
  · omega
  · refine ⟨g, cap, fun j => cur.getD j undef, rfl, hbase, hnc, hm, ⟨cur, hg, hsz, fun i hi => ?_⟩, fun j hj => ?_⟩
    · have : i < cur.size := by omega
      simp [Array.getD, this]
    · have hle : n * size ≤ cap * size := Nat.mul_le_mul_right _ hnc
      have : j < cur.size := by omega
      rw [← hx, List.getElem?_take_of_lt hj, Array.getElem?_toList, Array.getElem?_eq_getElem this]
      simp [Array.getD, this]
theorem own_of_rowIs_cap {w : World} {g base size n cap : Nat} {e : TypeId} {f : Nat → Value} (h : w.rowIs g e (cap * size) f) (hb : base ≤ g) (hn : n ≤ cap) (hm : cap ≤ maxLen) :
    w.ownsRow base e size (.slice (some ⟨g, 0, none⟩) n cap) n ((List.range (n * size)).map f) := by
  obtain ⟨c, hc, hs, hf⟩ := h
  have hle : n * size ≤ cap * size := Nat.mul_le_mul_right _ hn
  refine ⟨by simp, .inr ⟨g, cap, c, rfl, hb, hc, hn, hm, hs, ?_⟩⟩
  apply List.ext_getElem?
  intro i
  by_cases hi : i < n * size
  · rw [List.getElem?_take_of_lt hi, Array.getElem?_toList, hf i (by omega), List.getElem?_map, List.getElem?_range hi]
    rfl
  · rw [List.getElem?_eq_none (by simp; omega), List.getElem?_eq_none (by simp; omega)]

/-- Marks: cell j of a marked slice. -/
def marks (M : Int → Value) (k : Int) (m : Nat) : List Value := (List.range m).map fun j : Nat => M (k + j)
theorem marks_length (M : Int → Value) (k : Int) (m : Nat) : (marks M k m).length = m := by simp [marks]
theorem marks_at (M : Int → Value) (k : Int) {m j : Nat} (h : j < m) : (marks M k m)[j]? = some (M (k + j)) := by
  rw [marks, List.getElem?_map, List.getElem?_range h]; rfl

theorem only_below {a w w1 : World} {row : Option Nat} (h : a.grownBy w row) (hb : Below w.heap.size w w1) : a.grownBy w1 row :=
  ⟨hb.os.trans h.os, hb.tape.trans h.tape, hb.output.trans h.output, Nat.le_trans h.size hb.size, fun i hi hn => (hb.block i (Nat.lt_of_lt_of_le hi h.size)).trans (h.block i hi hn)⟩
theorem only_trans {a w w1 : World} {row : Option Nat} (h : a.grownBy w row) (hb : w.grownBy w1 row) : a.grownBy w1 row :=
  ⟨hb.os.trans h.os, hb.tape.trans h.tape, hb.output.trans h.output, Nat.le_trans h.size hb.size, fun i hi hn => (hb.block i (Nat.lt_of_lt_of_le hi h.size) hn).trans (h.block i hi hn)⟩
/-- What a call that hands back a slice leaves: a row of its own, and new blocks alone. -/
def MadeRow (w0 : World) (e : TypeId) (size n : Nat) (xs : List Value) (r : Ending) (w' : World) : Prop := ∃ u, r = .returned u ∧ w'.ownsRow w0.heap.size e size u n xs ∧ Below w0.heap.size w0 w'
/-- What a call that marks a slice leaves. -/
def Marked (w0 : World) (base : Nat) (e : TypeId) (size n : Nat) (v : Value) (M : Int → Value) (k : Int) (r : Ending) (w' : World) : Prop :=
  r = .returned (.int .i64 (k + ((n * size : Nat) : Int))) ∧ w'.ownsRow base e size v n (marks M k (n * size)) ∧ w0.grownBy w' v.ownBlock

/-! ### Elements of several cells -/
theorem flat_length {α : Type} (enc : α → List Value) (m : Nat) (hm : ∀ a, (enc a).length = m) : ∀ l : List α, (l.flatMap enc).length = l.length * m
  | [] => by simp
  | a :: l => by rw [List.flatMap_cons, List.length_append, hm, flat_length enc m hm l, List.length_cons, Nat.succ_mul]; omega
theorem flat_at {α : Type} (enc : α → List Value) (m : Nat) (hm : ∀ a, (enc a).length = m) : ∀ (l : List α) (i : Nat) (hi : i < l.length) (f : Nat), f < m → (l.flatMap enc)[i * m + f]? = (enc l[i])[f]?
  | [], i, hi, _, _ => by simp at hi
  | a :: l, 0, _, f, hf => by
    rw [List.flatMap_cons, Nat.zero_mul, Nat.zero_add, List.getElem?_append_left (by rw [hm]; exact hf)]
    rfl
  | a :: l, i + 1, hi, f, hf => by
    rw [List.flatMap_cons, Nat.succ_mul, List.getElem?_append_right (by rw [hm]; omega), hm, show i * m + m + f - m = i * m + f by omega]
    exact flat_at enc m hm l i (by simpa using hi) f hf
end Go.Proofs.Ytbbjkldkjndfaaa

/- Things of the call's own, told by the blocks in which they lie, and what keeps them. No program in sight. -/
namespace Go.Proofs.Ytbbjkldkjndfaaa
open Go.RowKit Go.Deep

/-- w' is w with new blocks, and with writes to the blocks lo .. hi - 1 alone. -/
structure Part (lo hi : Nat) (w w' : World) : Prop where
  os : w'.os = w.os
  tape : w'.tape = w.tape
  output : w'.output = w.output
  size : w.heap.size ≤ w'.heap.size
  block : ∀ i, i < w.heap.size → (i < lo ∨ hi ≤ i) → w'.heap[i]? = w.heap[i]?

theorem Part.refl (lo hi : Nat) (w : World) : Part lo hi w w := ⟨rfl, rfl, rfl, Nat.le_refl _, fun _ _ _ => rfl⟩
theorem Part.trans {lo hi : Nat} {a b c : World} (h : Part lo hi a b) (k : Part lo hi b c) : Part lo hi a c :=
  ⟨k.os.trans h.os, k.tape.trans h.tape, k.output.trans h.output, Nat.le_trans h.size k.size, fun i hi ho => (k.block i (Nat.lt_of_lt_of_le hi h.size) ho).trans (h.block i hi ho)⟩
theorem Part.mono {lo hi lo' hi' : Nat} {a b : World} (h : Part lo hi a b) (h1 : lo' ≤ lo) (h2 : hi ≤ hi') : Part lo' hi' a b :=
  ⟨h.os, h.tape, h.output, h.size, fun i hi ho => h.block i hi (by omega)⟩
theorem Part.of_below {lo hi : Nat} {w w' : World} (h : Below w.heap.size w w') : Part lo hi w w' := ⟨h.os, h.tape, h.output, h.size, fun i hi _ => h.block i hi⟩
theorem Part.of_grown {lo hi : Nat} {w w' : World} {row : Option Nat} (h : w.grownBy w' row) (hr : ∀ g, row = some g → lo ≤ g ∧ g < hi) : Part lo hi w w' :=
  ⟨h.os, h.tape, h.output, h.size, fun i hi ho => h.block i hi (fun e => by have := hr i e.symm; omega)⟩
theorem Part.to_below {B lo hi : Nat} {a w w' : World} (h : Below B a w) (k : Part lo hi w w') (hB : B ≤ lo) (hs : B ≤ a.heap.size) : Below B a w' :=
  ⟨k.os.trans h.os, k.tape.trans h.tape, k.output.trans h.output, Nat.le_trans h.size k.size, fun i hi => (k.block i (by have := h.size; omega) (by omega)).trans (h.block i hi)⟩

theorem Part.setCell {lo hi : Nat} {a w : World} (h : Part lo hi a w) {p : Addr} (hp : lo ≤ p.block ∧ p.block < hi) (u : Value) : Part lo hi a (w.setCell p u) :=
  ⟨h.os, h.tape, h.output, by simpa [World.setCell] using h.size, fun i hi ho => (Below.heap_setCell w p u i (by omega)).trans (h.block i hi ho)⟩
theorem Part.alloc {lo hi : Nat} {a w : World} (h : Part lo hi a w) (o : Obj) : Part lo hi a (w.alloc o) := h.trans (Part.of_below ((Below.refl _ _).alloc (Nat.le_refl _) _))
theorem Part.drew {lo hi : Nat} {a w : World} (h : Part lo hi a w) : Part lo hi a w.drew := ⟨h.os, h.tape, h.output, h.size, h.block⟩

/-- The slice value v is nil, or the head of a row of the call's own in one of the blocks lo .. hi - 1; its elements read as xs. -/
def OwnS (w : World) (lo hi : Nat) (e : TypeId) (size : Nat) (v : Value) (n : Nat) (xs : List Value) : Prop := w.ownsRow lo e size v n xs ∧ hi ≤ w.heap.size ∧ ∀ g, v.ownBlock = some g → g < hi
section
variable {w w' w0 : World} {lo hi lo' hi' size n : Nat} {e : TypeId} {v : Value} {xs : List Value}
theorem OwnS.keep (h : OwnS w lo hi e size v n xs) (k : Part lo' hi' w w') (ha : hi ≤ lo' ∨ hi' ≤ lo) : OwnS w' lo hi e size v n xs := by
  obtain ⟨h1, h2, h3⟩ := h
  refine ⟨?_, Nat.le_trans h2 k.size, h3⟩
  rcases h1.2 with h0 | ⟨g, cap, cur, rfl, hb, hg, hr⟩
  · exact ⟨h1.1, .inl h0⟩
  · have hgh := h3 g rfl
    exact ⟨h1.1, .inr ⟨g, cap, cur, rfl, hb, (k.block g (by omega) (by omega)).trans hg, hr⟩⟩
theorem OwnS.below (h : OwnS w lo hi e size v n xs) (hb : Below w.heap.size w w') : OwnS w' lo hi e size v n xs := h.keep (Part.of_below (lo := hi) (hi := hi) hb) (.inl (Nat.le_refl _))
theorem OwnS.rd (h : OwnS w lo hi e size v n xs) : Rd w size v n xs := Rd.of_own h.1
theorem OwnS.of_own (h : w.ownsRow lo e size v n xs) : OwnS w lo w.heap.size e size v n xs := ⟨h, Nat.le_refl _, fun g hg => (h.lt g hg).2⟩
theorem OwnS.mono (h : OwnS w lo hi e size v n xs) (h1 : lo' ≤ lo) (h2 : hi ≤ hi') (h3 : hi' ≤ w.heap.size) : OwnS w lo' hi' e size v n xs :=
  ⟨own_more h.1 h1, h3, fun g hg => Nat.lt_of_lt_of_le (h.2.2 g hg) h2⟩
theorem OwnS.nil (h : hi ≤ w.heap.size) : OwnS w lo hi e size (.slice none 0 0) 0 [] := ⟨⟨by simp, .inl ⟨rfl, rfl⟩⟩, h, fun _ hg => by simp [Value.ownBlock] at hg⟩
/-- What a call leaves that marks a slice. -/
def MarkedS (w0 : World) (lo hi : Nat) (e : TypeId) (size n : Nat) (v : Value) (M : Int → Value) (k : Int) (r : Ending) (w' : World) : Prop :=
  r = .returned (.int .i64 (k + ((n * size : Nat) : Int))) ∧ OwnS w' lo hi e size v n (marks M k (n * size)) ∧ Part lo hi w0 w'
theorem MarkedS.of {M : Int → Value} {k : Int} {r : Ending} (h : OwnS w0 lo hi e size v n xs) (hm : Marked w0 lo e size n v M k r w') : MarkedS w0 lo hi e size n v M k r w' := by
  obtain ⟨h1, h2, h3⟩ := hm
  exact ⟨h1, ⟨h2, Nat.le_trans h.2.1 h3.size, h.2.2⟩, Part.of_grown h3 fun g hg => ⟨(h.1.lt g hg).1, h.2.2 g hg⟩⟩
end
theorem made0 {w : World} {base g size : Nat} {e : TypeId} (hg : g = w.heap.size) (hb : base ≤ g) : (w.alloc (.cells #[] e)).ownsRow base e size (.slice (some ⟨g, 0, none⟩) 0 0) 0 [] := by
  subst hg
  exact World.ownsRow_made w #[] 0 hb (by decide) (by simp)
/-- A variable's block. -/
theorem Blk.belowV {w w' : World} {g : Nat} {t : TypeId} {cs : Array Value} (h : Blk w g t cs) (hb : Below w.heap.size w w') : Blk w' g t cs := h.below hb h.lt
theorem Blk.keepV {w w' : World} {g lo hi : Nat} {t : TypeId} {cs : Array Value} (h : Blk w g t cs) (k : Part lo hi w w') (ha : g < lo ∨ hi ≤ g) : Blk w' g t cs := (k.block g h.lt ha).trans h
def CellsV (w : World) (g : Nat) : Nat → List Value → Prop
  | _, [] => True
  | j, [v] => w.cell? ⟨g, j, none⟩ = some v
  | j, v :: l => w.cell? ⟨g, j, none⟩ = some v ∧ CellsV w g (j + 1) l
theorem CellsV.of {w : World} {g : Nat} {t : TypeId} {cs : Array Value} (h : Blk w g t cs) : ∀ (l : List Value) (j : Nat), (∀ i u, l[i]? = some u → cs[j + i]? = some u) → CellsV w g j l
  | [], _, _ => trivial
  | [v], j, hl => (h.cell j).trans (by simpa using hl 0 v rfl)
  | v :: u :: l, j, hl => ⟨(h.cell j).trans (by simpa using hl 0 v rfl), CellsV.of h (u :: l) (j + 1) fun i x hx => by rw [show j + 1 + i = j + (i + 1) by omega]; exact hl (i + 1) x hx⟩
theorem Blk.cellsV {w : World} {g : Nat} {t : TypeId} {l : List Value} (h : Blk w g t l.toArray) : CellsV w g 0 l := CellsV.of h l 0 fun i u hu => by simpa using hu
/-- What a call leaves that hands back one thing of its own, two of them, one and a bool. -/
def Gives1 (R : World → Nat → Nat → Value → Prop) (w0 : World) (e : Ending) (w' : World) : Prop := ∃ u, e = .returned u ∧ R w' w0.heap.size w'.heap.size u ∧ Below w0.heap.size w0 w'
def Gives2 (R S : World → Nat → Nat → Value → Prop) (w0 : World) (e : Ending) (w' : World) : Prop :=
  ∃ u0 u1 m, e = .returned (.tuple #[u0, u1]) ∧ R w' w0.heap.size m u0 ∧ S w' m w'.heap.size u1 ∧ (w0.heap.size ≤ m ∧ m ≤ w'.heap.size) ∧ Below w0.heap.size w0 w'
def Gives2' (R S : World → Nat → Nat → Value → Prop) (w0 : World) (e : Ending) (w' : World) : Prop :=
  ∃ u0 u1, e = .returned (.tuple #[u0, u1]) ∧ R w' w0.heap.size w'.heap.size u0 ∧ S w' w0.heap.size w'.heap.size u1 ∧ Below w0.heap.size w0 w'
def GivesB (R : World → Nat → Nat → Value → Prop) (b : Bool) (w0 : World) (e : Ending) (w' : World) : Prop := ∃ u, e = .returned (.tuple #[u, .bool b]) ∧ R w' w0.heap.size w'.heap.size u ∧ Below w0.heap.size w0 w'
end Go.Proofs.Ytbbjkldkjndfaaa

/- Slices that are cut: what they are and what they read as. No program in sight. -/
namespace Go.Proofs.Ytbbjkldkjndfaaa
open Go.RowKit Go.Deep

/-- The slice l .. h of a slice at A with capacity m, elements of s cells. -/
def cutAt (A : Option Addr) (l h m s : Nat) : Value := .slice (if m = l then A else A.map (·.add (l * s))) (h - l) (m - l)
theorem cutAt_eq (A : Option Addr) (l h m s : Nat) : sliced A l h m s = cutAt A l h m s := rfl
theorem cutAt_shape (A : Option Addr) (l h m s : Nat) : ∃ A', cutAt A l h m s = .slice A' (h - l) (m - l) := ⟨_, rfl⟩
section
variable {P : Program} {t e : TypeId} {i : TypeInfo}
theorem elem_of (ht : P.underlying t = some (.slice e)) : P.elem t = e := by simp [Program.elem, ht]
theorem run_cut_l (ht : P.underlying t = some (.slice e)) (hi : P.info? e = some i) (A : Option Addr) (n c : Nat) (k : IntKind) (l : Nat) (h : l ≤ n) (W : World) :
    (Instr.slice t (.slice A n c) (some (.int k (l : Int))) none none).run P W = .ok (cutAt A l n c i.size) W := by
  rw [run_slice_l W t A n c (by rw [elem_of ht]; exact ht) k l (by omega) (by omega), elem_of ht]
  simp [sizeOf, typeInfo, hi, Result.andThen, cutAt_eq]
theorem run_cut_h (ht : P.underlying t = some (.slice e)) (hi : P.info? e = some i) (A : Option Addr) (n c : Nat) (k : IntKind) (l : Nat) (h : l ≤ c) (W : World) :
    (Instr.slice t (.slice A n c) none (some (.int k (l : Int))) none).run P W = .ok (cutAt A 0 l c i.size) W := by
  rw [run_slice_h W t A n c (by rw [elem_of ht]; exact ht) k l (by omega) (by omega), elem_of ht]
  simp [sizeOf, typeInfo, hi, Result.andThen, cutAt_eq]
theorem run_cut_l' (ht : P.underlying t = some (.slice e)) (hi : P.info? e = some i) (g o n c : Nat) (k : IntKind) (l : Nat) (h : l ≤ n) (hc : l < c) (W : World) :
    (Instr.slice t (.slice (some ⟨g, o, none⟩) n c) (some (.int k (l : Int))) none none).run P W = .ok (.slice (some ⟨g, o + l * i.size, none⟩) (n - l) (c - l)) W := by
  rw [run_cut_l ht hi _ n c k l h W, cutAt, if_neg (by omega)]
  congr 3
  simp only [Option.map_some, Option.some.injEq]
  unfold Addr.add
  split <;> simp_all
theorem run_cut_h' (ht : P.underlying t = some (.slice e)) (hi : P.info? e = some i) (g o n c : Nat) (k : IntKind) (l : Nat) (h : l ≤ c) (W : World) :
    (Instr.slice t (.slice (some ⟨g, o, none⟩) n c) none (some (.int k (l : Int))) none).run P W = .ok (.slice (some ⟨g, o, none⟩) l c) W := by
  rw [run_cut_h ht hi _ n c k l h W, cutAt]
  by_cases hc : c = 0
  · rw [if_pos hc]; rfl
  · rw [if_neg hc]
    simp [Addr.add]
end
section
variable {w : World} {size n : Nat} {v : Value} {xs : List Value} {A : Option Addr} {c : Nat}
theorem Rd.take (h : Rd w size (.slice A n c) n xs) {k : Nat} (hk : k ≤ n) : Rd w size (cutAt A 0 k c size) k (xs.take (k * size)) := by
  obtain ⟨A1, c1, he, h1, h2, h3⟩ := h
  injection he with hA hn hc
  subst hA hc
  refine ⟨_, c, by rw [cutAt]; rfl, by omega, h2, ?_, fun hk0 => ?_⟩
  · rw [List.length_take, h3.1]
    exact Nat.min_eq_left (Nat.mul_le_mul_right _ hk)
  · obtain ⟨ad, rfl, hlt, hx⟩ := h3.2 (by omega)
    refine ⟨ad, ?_, hlt, fun j u hu => hx j u ?_⟩
    · by_cases hc0 : c = 0
      · rw [if_pos hc0]
      · rw [if_neg hc0]
        simp [Addr.add]
    · rw [List.getElem?_take] at hu
      split at hu
      · exact hu
      · cases hu
theorem Rd.drop (h : Rd w size (.slice A n c) n xs) {k : Nat} (hk : k ≤ n) : Rd w size (cutAt A k n c size) (n - k) (xs.drop (k * size)) := by
  obtain ⟨A1, c1, he, h1, h2, h3⟩ := h
  injection he with hA hn hc
  subst hA hc
  exact ⟨_, c - k, rfl, by omega, by omega, h3.cut hk h1⟩
end
end Go.Proofs.Ytbbjkldkjndfaaa

/- copy onto a row of the call's own, elements of whatever size. No program in sight. -/
namespace Go.Proofs.Ytbbjkldkjndfaaa
open Go.RowKit Go.Deep

/-- f with the cells cs from o on. -/
def overF (f : Nat → Value) (o : Nat) (cs : List Value) : Nat → Value := fun j => if o ≤ j ∧ j < o + cs.length then cs.getD (j - o) undef else f j
theorem setRow_rowIs {w : World} {g N o : Nat} {t : TypeId} {cur : Array Value} {f : Nat → Value} {cs : List Value} (hg : w.heap[g]? = some (.cells cur t (0, 0))) (hsz : cur.size = N) (hf : ∀ i, i < N → cur[i]? = some (f i)) (hfit : o + cs.length ≤ N) :
    (w.setRow g (cur.toList.take o ++ cs ++ cur.toList.drop (o + cs.length)).toArray).rowIs g t N (overF f o cs) ∧ w.grownBy (w.setRow g (cur.toList.take o ++ cs ++ cur.toList.drop (o + cs.length)).toArray) (some g) := by
  have hcl : cur.toList.length = N := by simpa using hsz
  refine ⟨⟨_, setRow_heap w g _ _ t _ hg, ?_, fun i hi => ?_⟩, ⟨rfl, rfl, rfl, by simp [World.setRow], fun k _ hne => setRow_other w g k _ (fun e => hne (by rw [e]))⟩⟩
  · simp only [List.size_toArray, List.length_append, List.length_take, List.length_drop, hcl]
    omega
  · have hci : cur.toList[i]? = some (f i) := by rw [Array.getElem?_toList]; exact hf i hi
    rw [List.getElem?_toArray]
    unfold overF
    by_cases h1 : i < o
    · rw [if_neg (by omega), List.append_assoc, List.getElem?_append_left (by rw [List.length_take, hcl]; omega), List.getElem?_take_of_lt h1]
      exact hci
    · by_cases h2 : i < o + cs.length
      · rw [if_pos ⟨by omega, h2⟩, List.append_assoc, List.getElem?_append_right (by rw [List.length_take, hcl]; omega), List.length_take, hcl, Nat.min_eq_left (by omega), List.getElem?_append_left (by omega), List.getD_eq_getElem?_getD, List.getElem?_eq_getElem (show i - o < cs.length by omega)]
        rfl
      · rw [if_neg (by omega), List.getElem?_append_right (by simp only [List.length_append, List.length_take, hcl]; omega)]
        simp only [List.length_append, List.length_take, hcl, Nat.min_eq_left (show o ≤ N by omega), List.getElem?_drop]
        rw [show o + cs.length + (i - (o + cs.length)) = i by omega]
        exact hci

section
variable {P : Program}
theorem run_copy_rowK (w : World) (dT sT ty elem : TypeId) (i : TypeInfo) (hu : P.underlying dT = some (.slice elem)) (hi : P.info? elem = some i)
    (g o dLen dCap : Nat) (a : Addr) (sLen sCap N : Nat) (t : TypeId) (f : Nat → Value) (hg : w.rowIs g t N f) (cs : List Value) (hn : cs.length = Nat.min sLen dLen * i.size)
    (hsrc : ∀ j v, cs[j]? = some v → w.cell? (a.add j) = some v) (hfit : o + cs.length ≤ N) (h1 : ∀ v ∈ cs, v.oneCell' = true) :
    ∃ w', (Builtin.copy_ #[dT, sT] ty #[.slice (some ⟨g, o, none⟩) dLen dCap, .slice (some a) sLen sCap]).run P w = .ok (goInt (Nat.min sLen dLen)) w' ∧ w'.rowIs g t N (overF f o cs) ∧ w.grownBy w' (some g) := by
  obtain ⟨cur, hgc, hsz, hf⟩ := hg
  have hl := run_loadCells_list (P := P) w a cs hsrc
  have hst := run_storeCells_at P g o t cs 0 cur w hgc (by omega) h1
  refine ⟨_, ?_, setRow_rowIs hgc hsz hf hfit⟩
  simp [Builtin.copy_, run_underlying hu, Builtin.lenOf, Builtin.firstCells, sizeOf, typeInfo, hi, ← hn, hl, hst]
theorem wp_copy_run' (w : World) {o : Oper} {a : Act} {K : Act → World → Prop} {Q : Exit → Act → World → Prop} (d s : Operand) (t t' : TypeId)
    (ho : o.op = .call { callee := .builtin .copy, args := #[d, s], argTypes := #[t, t'] }) (v u : Value) (hd : a.eval d = v) (hs : a.eval s = u) {v' : Value} {w' : World}
    (hr : (Builtin.copy_ #[t, t'] o.type #[v, u]).run P w = .ok v' w') (h : K (a.put o.dst v') w') : o.wp P a w K Q := by
  unfold Oper.wp execOp
  simp only [ho, resolve, invoke, builtin, Sem.run_bind, Sem.run_pure, Result.andThen_ok, List.map_toArray, List.map_cons, List.map_nil, hd, hs, hr]
  exact h
theorem wp_copy_rowK (w : World) {o : Oper} {a : Act} {K : Act → World → Prop} {Q : Exit → Act → World → Prop} (d s : Operand) (t t' : TypeId)
    (ho : o.op = .call { callee := .builtin .copy, args := #[d, s], argTypes := #[t, t'] }) (elem : TypeId) (i : TypeInfo) (hu : P.underlying t = some (.slice elem)) (hi : P.info? elem = some i)
    (g off dLen dCap : Nat) (hd : a.eval d = .slice (some ⟨g, off, none⟩) dLen dCap) (b : Addr) (sLen sCap : Nat) (hs : a.eval s = .slice (some b) sLen sCap) (N : Nat) (e : TypeId) (f : Nat → Value) (hg : w.rowIs g e N f)
    (cs : List Value) (hn : cs.length = Nat.min sLen dLen * i.size) (hsrc : ∀ j v, cs[j]? = some v → w.cell? (b.add j) = some v) (hfit : off + cs.length ≤ N) (h1 : ∀ v ∈ cs, v.oneCell' = true)
    (h : ∀ w', w'.rowIs g e N (overF f off cs) → w.grownBy w' (some g) → K (a.put o.dst (goInt (Nat.min sLen dLen))) w') : o.wp P a w K Q := by
  obtain ⟨w', hr, h2, h3⟩ := run_copy_rowK w t t' o.type elem i hu hi g off dLen dCap b sLen sCap N e f hg cs hn hsrc hfit h1
  exact wp_copy_run' w d s t t' ho _ _ hd hs hr (h w' h2 h3)
theorem wpList_copy_rowK (w : World) {ops : Array Oper} {rest : List Oper} {o : Oper} {a : Act} {Q : Exit → Act → World → Prop} (hgd : o.guard = none) (d s : Operand) (t t' : TypeId)
    (ho : o.op = .call { callee := .builtin .copy, args := #[d, s], argTypes := #[t, t'] }) (elem : TypeId) (i : TypeInfo) (hu : P.underlying t = some (.slice elem)) (hi : P.info? elem = some i)
    (g off dLen dCap : Nat) (hd : a.eval d = .slice (some ⟨g, off, none⟩) dLen dCap) (b : Addr) (sLen sCap : Nat) (hs : a.eval s = .slice (some b) sLen sCap) (N : Nat) (e : TypeId) (f : Nat → Value) (hg : w.rowIs g e N f)
    (cs : List Value) (hn : cs.length = Nat.min sLen dLen * i.size) (hsrc : ∀ j v, cs[j]? = some v → w.cell? (b.add j) = some v) (hfit : off + cs.length ≤ N) (h1 : ∀ v ∈ cs, v.oneCell' = true)
    (h : ∀ w', w'.rowIs g e N (overF f off cs) → w.grownBy w' (some g) → wpList P ops Q rest (a.put o.dst (goInt (Nat.min sLen dLen))) w') : wpList P ops Q (o :: rest) a w :=
  wpList_plain hgd fun _ hK => wp_copy_rowK w d s t t' ho elem i hu hi g off dLen dCap hd b sLen sCap hs N e f hg cs hn hsrc hfit h1 fun w' h2 h3 => hK _ _ (h w' h2 h3)
end
/-- A row of the call's own out of its cells. -/
theorem own_of_fun {w : World} {g base size n cap : Nat} {e : TypeId} {f : Nat → Value} {xs : List Value} (h : w.rowIs g e (cap * size) f) (hb : base ≤ g) (hn : n ≤ cap) (hm : cap ≤ maxLen) (hl : xs.length = n * size) (hx : ∀ j u, xs[j]? = some u → f j = u) :
    w.ownsRow base e size (.slice (some ⟨g, 0, none⟩) n cap) n xs := by
  have h1 := own_of_rowIs_cap h hb hn hm
  have : (List.range (n * size)).map f = xs := by
    apply List.ext_getElem?
    intro j
    by_cases hj : j < n * size
    · rw [List.getElem?_map, List.getElem?_range hj, List.getElem?_eq_getElem (by omega)]
      exact congrArg some (hx j _ (List.getElem?_eq_getElem (by omega)))
    · rw [List.getElem?_eq_none (by simp; omega), List.getElem?_eq_none (by omega)]
  rwa [this] at h1
theorem addr_add (g o j : Nat) : (⟨g, o, none⟩ : Addr).add j = ⟨g, o + j, none⟩ := by unfold Addr.add; split <;> simp_all
end Go.Proofs.Ytbbjkldkjndfaaa

/- Words that the kinds of arguments share. No program in sight. -/
namespace Go.Proofs.Ytbbjkldkjndfaaa
open Go.RowKit Go.ChangeShapes Go.Deep
/-- What is left of a size. -/
def szv (left : Int) (c : Nat) : Int := if left - c < 0 then -1 else left - c
/-- The marks of numbers. -/
def mInt (k : Int) : Value := .int .i64 k
theorem rowIs_madeN (w : World) (z : Array Value) (n : Nat) (t : TypeId) : (w.alloc (.cells (madeCells z n) t)).rowIs w.heap.size t n (fun j => z[j % z.size]!) :=
  ⟨_, blk_alloc_new _ _, size_madeCells _ _, fun i hi => by simp [madeCells, hi]⟩
end Go.Proofs.Ytbbjkldkjndfaaa

/- Regions that draw their order and in which two operations that make memory may come up in either order: a walk along a tree of schedules. No program in sight. -/
namespace Go.Proofs.Ytbbjkldkjndfaaa
open Go.RowKit

inductive Sch
  | nil
  | held (i : Nat) (r : Sch)
  | step (i : Nat) (r : Sch)
  | two (i j : Nat) (r s : Sch)
def Sch.depth : Sch → Nat
  | .nil => 0
  | .held _ r => r.depth + 1
  | .step _ r => r.depth + 1
  | .two _ _ r _ => r.depth + 1
section
variable {P : Program} {ops : Array Oper} {S : World → Prop} {Q : Exit → Act → World → Prop}
def treeB (ops : Array Oper) : Sch → Array Bool → Bool
  | .nil, listed => (Region.ready .any ops listed).isEmpty
  | .held i r, listed => (Region.ready .any ops listed).contains i && Region.free .any ops listed i && treeB ops r (listed.setIfInBounds i true)
  | .step i r, listed => (Region.ready .any ops listed == [i]) && treeB ops r (listed.setIfInBounds i true)
  | .two i j r s, listed => (Region.ready .any ops listed == [i, j]) && (s.depth == r.depth) && treeB ops r (listed.setIfInBounds i true) && treeB ops s (listed.setIfInBounds j true)
def wpT (P : Program) (ops : Array Oper) (S : World → Prop) (Q : Exit → Act → World → Prop) : Sch → Act → World → Prop
  | .nil, a, w => Q .normal a w
  | .held i r, a, w => ∃ o, ops[i]? = some o ∧ if Region.wanted o (yielded ops a.tmps) then ∃ v, (∀ W, S W → (execOp a.eval o).run P W = .ok (.value v) W) ∧ wpT P ops S Q r (a.put o.dst v) w else wpT P ops S Q r (a.put o.dst undef) w
  | .step i r, a, w => ∃ o, ops[i]? = some o ∧ if Region.wanted o (yielded ops a.tmps) then o.wp P a w (fun a' w' => S w' ∧ wpT P ops S Q r a' w') Q else wpT P ops S Q r (a.put o.dst undef) w
  | .two i j r s, a, w =>
    (∃ o, ops[i]? = some o ∧ if Region.wanted o (yielded ops a.tmps) then o.wp P a w (fun a' w' => S w' ∧ wpT P ops S Q r a' w') Q else wpT P ops S Q r (a.put o.dst undef) w) ∧
    (∃ o, ops[j]? = some o ∧ if Region.wanted o (yielded ops a.tmps) then o.wp P a w (fun a' w' => S w' ∧ wpT P ops S Q s a' w') Q else wpT P ops S Q s (a.put o.dst undef) w)

theorem wpAnyH_of_tree (hs : Region.noSelect ops = true) : ∀ (r : Sch) (listed : Array Bool) (a : Act) (w : World),
    treeB ops r listed = true → S w → wpT P ops S (NoPanic Q) r a w → wpAnyH P .any ops (NoPanic Q) S r.depth listed a w
  | .nil, listed, a, w, hB, _, h => ⟨by simpa [treeB] using hB, h⟩
  | .held i r, listed, a, w, hB, hS, h => by
    simp only [treeB, Bool.and_eq_true] at hB
    obtain ⟨⟨hr, hf⟩, hB⟩ := hB
    simp only [wpT] at h
    obtain ⟨o, ho, h⟩ := h
    by_cases hw : Region.wanted o (yielded ops a.tmps) = true
    · rw [if_pos hw] at h
      obtain ⟨v, hv, h⟩ := h
      exact wpAnyH_take (oi := o) (v := v) ho hs hf hr (fun _ _ _ h => h) (.inl ⟨hw, hv⟩) hS (wpAnyH_of_tree hs r _ _ _ hB hS h)
    · rw [if_neg hw] at h
      exact wpAnyH_take (oi := o) (v := undef) ho hs hf hr (fun _ _ _ h => h) (.inr ⟨by simpa using hw, rfl⟩) hS (wpAnyH_of_tree hs r _ _ _ hB hS h)
  | .step i r, listed, a, w, hB, hS, h => by
    simp only [treeB, Bool.and_eq_true, beq_iff_eq] at hB
    obtain ⟨hr, hB⟩ := hB
    simp only [wpT] at h
    obtain ⟨o, ho, h⟩ := h
    refine ⟨fun h0 => (by rw [hr] at h0; cases h0), fun j hj => ?_⟩
    rw [hr, List.mem_singleton] at hj
    subst hj
    unfold wpOp
    simp only [ho]
    by_cases hw : Region.wanted o (yielded ops a.tmps) = true
    · rw [if_pos hw] at h
      rw [if_pos hw]
      exact .inl (Oper.wp_mono (fun a' w' ⟨hS', h'⟩ => ⟨hS', wpAnyH_of_tree hs r _ _ _ hB hS' h'⟩) h)
    · rw [if_neg hw] at h
      rw [if_neg hw]
      exact ⟨hS, wpAnyH_of_tree hs r _ _ _ hB hS h⟩
  | .two i j r s, listed, a, w, hB, hS, h => by
    simp only [treeB, Bool.and_eq_true, beq_iff_eq] at hB
    obtain ⟨⟨⟨hr, hd⟩, hB⟩, hC⟩ := hB
    simp only [wpT] at h
    obtain ⟨⟨o, ho, h⟩, ⟨o', ho', h'⟩⟩ := h
    refine ⟨fun h0 => (by rw [hr] at h0; cases h0), fun k hk => ?_⟩
    rw [hr] at hk
    rcases List.mem_cons.1 hk with rfl | hk
    · unfold wpOp
      simp only [ho]
      by_cases hw : Region.wanted o (yielded ops a.tmps) = true
      · rw [if_pos hw] at h
        rw [if_pos hw]
        exact .inl (Oper.wp_mono (fun a' w' ⟨hS', h'⟩ => ⟨hS', wpAnyH_of_tree hs r _ _ _ hB hS' h'⟩) h)
      · rw [if_neg hw] at h
        rw [if_neg hw]
        exact ⟨hS, wpAnyH_of_tree hs r _ _ _ hB hS h⟩
    · rw [List.mem_singleton] at hk
      subst hk
      unfold wpOp
      simp only [ho']
      rw [← hd]
      by_cases hw : Region.wanted o' (yielded ops a.tmps) = true
      · rw [if_pos hw] at h'
        rw [if_pos hw]
        exact .inl (Oper.wp_mono (fun a' w' ⟨hS', h'⟩ => ⟨hS', wpAnyH_of_tree hs s _ _ _ hC hS' h'⟩) h')
      · rw [if_neg hw] at h'
        rw [if_neg hw]
        exact ⟨hS, wpAnyH_of_tree hs s _ _ _ hC hS h'⟩

theorem wp_region_tree {id : Nat} {a : Act} {w : World} (r : Sch)
    (hm : P.follows .mixedOrders = true) (hB : (Region.noSelect ops && treeB ops r (Array.replicate ops.size false) && (r.depth == ops.size)) = true) (S : World → Prop) (hS : S w.drew)
    (h : wpT P ops S (NoPanic Q) r a w.drew) : (Code.region id ops true).wp P Q a w := by
  simp only [Bool.and_eq_true, beq_iff_eq] at hB
  refine wp_region_noPanic (wp_region_held (S := S) hm ?_)
  have h1 := wpAnyH_of_tree hB.1.1 r _ _ _ hB.1.2 hS h
  rw [hB.2] at h1
  exact h1

theorem wpT_nil {a : Act} {w : World} (h : Q .normal a w) : wpT P ops S (NoPanic Q) .nil a w := h
theorem wpT_held {i : Nat} {o : Oper} {r : Sch} {a : Act} {w : World} (ho : ops[i]? = some o) (hw : Region.wanted o (yielded ops a.tmps) = true) (v : Value) (hv : ∀ W, S W → (execOp a.eval o).run P W = .ok (.value v) W) (h : wpT P ops S Q r (a.put o.dst v) w) : wpT P ops S Q (.held i r) a w :=
  ⟨o, ho, by rw [if_pos hw]; exact ⟨v, hv, h⟩⟩
theorem wpT_heldskip {i : Nat} {o : Oper} {r : Sch} {a : Act} {w : World} (ho : ops[i]? = some o) (hw : Region.wanted o (yielded ops a.tmps) = false) (h : wpT P ops S Q r (a.put o.dst undef) w) : wpT P ops S Q (.held i r) a w :=
  ⟨o, ho, by rw [if_neg (by simp [hw])]; exact h⟩
theorem wpT_step {i : Nat} {o : Oper} {r : Sch} {a : Act} {w : World} (ho : ops[i]? = some o) (hw : Region.wanted o (yielded ops a.tmps) = true)
    (h : ∀ K : Act → World → Prop, Hid (∀ a' w', S w' → wpT P ops S Q r a' w' → K a' w') → o.wp P a w K Q) : wpT P ops S Q (.step i r) a w :=
  ⟨o, ho, by rw [if_pos hw]; exact h _ (fun a' w' h1 h2 => ⟨h1, h2⟩)⟩
theorem wpT_stepskip {i : Nat} {o : Oper} {r : Sch} {a : Act} {w : World} (ho : ops[i]? = some o) (hw : Region.wanted o (yielded ops a.tmps) = false) (h : wpT P ops S Q r (a.put o.dst undef) w) : wpT P ops S Q (.step i r) a w :=
  ⟨o, ho, by rw [if_neg (by simp [hw])]; exact h⟩
theorem wpT_call {i : Nat} {o : Oper} {r : Sch} {a : Act} {w : World} (f : FuncId) {fn : Func} {c : Code} {A : Array Operand} {T : Array TypeId} {vs : Array Value} (ho' : ops[i]? = some o) (hw : Region.wanted o (yielded ops a.tmps) = true)
    (ho : o.op = .call { callee := .value (.func f), args := A, argTypes := T }) (hf : P.funcs[f]? = some fn) (hname : (fn.name == "runtime.NumGoroutine") = false) (hb : fn.body = some c) (hv : A.map a.eval = vs)
    (h : Calls P f vs w fun e w' => ∃ v, e = .returned v ∧ S w' ∧ wpT P ops S Q r (a.put o.dst v) w') : wpT P ops S Q (.step i r) a w := by
  refine ⟨o, ho', ?_⟩
  rw [if_pos hw]
  unfold Oper.wp
  rw [run_call_enter f ho hf hname hb hv, Oper.upon_enter]
  refine h.mono ?_
  rintro e w' ⟨v, rfl, h1, h2⟩
  exact ⟨h1, h2⟩
theorem wpT_two {i j : Nat} {r s : Sch} {a : Act} {w : World} (h1 : wpT P ops S Q (.step i r) a w) (h2 : wpT P ops S Q (.step j s) a w) : wpT P ops S Q (.two i j r s) a w := ⟨h1, h2⟩
end
end Go.Proofs.Ytbbjkldkjndfaaa

/- Ways through a graph of a few nodes: what is reached by edges, by marks that are handed on, by a search. Plain: no program in sight. -/
import Derived.Lib.Hide
namespace Go.Proofs.Ytbbjkldkjndfaaa

/-- An edge, from and to. -/
structure Edg where
  src : Int
  dst : Int
  deriving DecidableEq

/-- There is an edge. -/
def Arc (E : List Edg) (x y : Int) : Prop := ∃ e ∈ E, e.src = x ∧ e.dst = y
/-- y is reached from x, by one edge or some. -/
inductive Way (E : List Edg) : Int → Int → Prop
  | one {x y : Int} : Arc E x y → Way E x y
  | more {x z y : Int} : Arc E x z → Way E z y → Way E x y
/-- .. by r edges at most. -/
def Within (E : List Edg) : Nat → Int → Int → Prop
  | 0, _, _ => False
  | r + 1, x, y => Arc E x y ∨ ∃ z, Arc E x z ∧ Within E r z y

theorem Way.trans {E : List Edg} {x z y : Int} (h : Way E x z) (k : Way E z y) : Way E x y := by
  induction h with
  | one a => exact .more a k
  | more a _ ih => exact .more a (ih k)
theorem Within.way {E : List Edg} : ∀ {r : Nat} {x y : Int}, Within E r x y → Way E x y
  | 0, _, _, h => h.elim
  | r + 1, x, y, h => by
    rcases h with h | ⟨z, hz, hy⟩
    · exact .one h
    · exact .more hz (Within.way hy)
theorem Within.succ {E : List Edg} : ∀ {r : Nat} {x y : Int}, Within E r x y → Within E (r + 1) x y
  | 0, _, _, h => h.elim
  | r + 1, x, y, h => by
    rcases h with h | ⟨z, hz, hy⟩
    · exact .inl h
    · exact .inr ⟨z, hz, Within.succ hy⟩
theorem Within.le {E : List Edg} {r s : Nat} {x y : Int} (h : Within E r x y) (hs : r ≤ s) : Within E s x y := by
  induction hs with
  | refl => exact h
  | step _ ih => exact ih.succ
theorem Way.within {E : List Edg} {x y : Int} (h : Way E x y) : ∃ r, Within E r x y := by
  induction h with
  | one a => exact ⟨1, .inl a⟩
  | more a _ ih =>
    obtain ⟨r, hr⟩ := ih
    exact ⟨r + 1, .inr ⟨_, a, hr⟩⟩

/-- All edges lie among the nodes 0 .. n - 1. -/
def Inside (E : List Edg) (n : Nat) : Prop := ∀ e ∈ E, 0 ≤ e.src ∧ e.src < n ∧ 0 ≤ e.dst ∧ e.dst < n

open Classical in
/-- How many of the nodes reach y by r edges at most. -/
noncomputable def cntW (E : List Edg) (n r : Nat) (y : Int) : Nat := (List.range n).countP fun x : Nat => decide (Within E r (x : Int) y)
theorem cntW_le (E : List Edg) (n r : Nat) (y : Int) : cntW E n r y ≤ n := by
  have := List.countP_le_length (p := fun x : Nat => @decide (Within E r (x : Int) y) (Classical.propDecidable _)) (l := List.range n)
  simpa [cntW] using this

theorem countP_lt {α : Type} {p q : α → Bool} : ∀ (l : List α), (∀ a ∈ l, p a = true → q a = true) → (∃ a ∈ l, p a = false ∧ q a = true) → l.countP p < l.countP q
  | [], _, h => by obtain ⟨a, ha, _⟩ := h; cases ha
  | b :: l, hm, h => by
    have hl : l.countP p ≤ l.countP q := List.countP_mono_left fun a ha => hm a (List.mem_cons_of_mem _ ha)
    rw [List.countP_cons, List.countP_cons]
    obtain ⟨a, ha, hp, hq⟩ := h
    rcases List.mem_cons.1 ha with rfl | ha
    · rw [hp, hq]; simp; omega
    · have := countP_lt l (fun c hc => hm c (List.mem_cons_of_mem _ hc)) ⟨a, ha, hp, hq⟩
      have hb : (if p b = true then 1 else 0) ≤ (if q b = true then 1 else 0 : Nat) := by
        by_cases h1 : p b = true
        · rw [if_pos h1, if_pos (hm b (List.mem_cons_self ..) h1)]; exact Nat.le_refl _
        · rw [if_neg h1]; exact Nat.zero_le _
      omega

/-- r steps more add nothing. -/
def Still (E : List Edg) (r : Nat) (y : Int) : Prop := ∀ x, Within E (r + 1) x y → Within E r x y
theorem Still.succ {E : List Edg} {r : Nat} {y : Int} (h : Still E r y) : Still E (r + 1) y := by
  intro x hx
  rcases hx with hx | ⟨z, hz, hy⟩
  · exact .inl hx
  · exact .inr ⟨z, hz, h z hy⟩
theorem Still.le {E : List Edg} {r s : Nat} {y : Int} (h : Still E r y) (hs : r ≤ s) : Still E s y := by
  induction hs with
  | refl => exact h
  | step _ ih => exact ih.succ
theorem Still.all {E : List Edg} {r : Nat} {y : Int} (h : Still E r y) : ∀ {s : Nat} {x : Int}, Within E s x y → Within E r x y := by
  intro s x hx
  rcases Nat.le_total s r with hs | hs
  · exact hx.le hs
  · induction hs generalizing x with
    | refl => exact hx
    | step hs ih => exact ih ((h.le hs) x hx)
theorem Within.src {E : List Edg} {n r : Nat} {x y : Int} (hi : Inside E n) (h : Within E r x y) : 0 ≤ x ∧ x < n := by
  cases r with
  | zero => exact h.elim
  | succ r =>
    rcases h with ⟨e, he, rfl, _⟩ | ⟨_, ⟨e, he, rfl, _⟩, _⟩
    · exact ⟨(hi e he).1, (hi e he).2.1⟩
    · exact ⟨(hi e he).1, (hi e he).2.1⟩
theorem Way.ends {E : List Edg} {n : Nat} {x y : Int} (hi : Inside E n) (h : Way E x y) : 0 ≤ x ∧ x < n ∧ 0 ≤ y ∧ y < n := by
  induction h with
  | one a => obtain ⟨e, he, rfl, rfl⟩ := a; have := hi e he; omega
  | more a _ ih => obtain ⟨e, he, rfl, rfl⟩ := a; have := hi e he; omega
theorem grows {E : List Edg} {n : Nat} (hi : Inside E n) (y : Int) : ∀ r, (∀ s, s < r → ¬ Still E s y) → r ≤ cntW E n r y
  | 0, _ => Nat.zero_le _
  | r + 1, h => by
    have ih := grows hi y r (fun s hs => h s (by omega))
    have hns := h r (by omega)
    have : ∃ x, Within E (r + 1) x y ∧ ¬ Within E r x y := Classical.byContradiction fun hc => hns fun x hx => Classical.byContradiction fun hn => hc ⟨x, hx, hn⟩
    obtain ⟨x, hx, hn⟩ := this
    obtain ⟨h0, h1⟩ := hx.src hi
    have hlt : cntW E n r y < cntW E n (r + 1) y := by
      unfold cntW
      refine countP_lt _ (fun a _ ha => ?_) ⟨x.toNat, by simp; omega, ?_, ?_⟩
      · simp only [decide_eq_true_eq] at ha ⊢
        exact ha.succ
      · simp only [decide_eq_false_iff_not]
        rw [Int.toNat_of_nonneg h0]; exact hn
      · simp only [decide_eq_true_eq]
        rw [Int.toNat_of_nonneg h0]; exact hx
    omega
/-- Among n nodes, whoever is reached is reached by n edges at most. -/
theorem Way.within_n {E : List Edg} {n : Nat} {x y : Int} (hi : Inside E n) (h : Way E x y) : Within E n x y := by
  obtain ⟨s, hs⟩ := h.within
  have : ∃ r, r ≤ n ∧ Still E r y := Classical.byContradiction fun hc => by
    have := grows hi y (n + 1) (fun s hs h => hc ⟨s, by omega, h⟩)
    have := cntW_le E n (n + 1) y
    omega
  obtain ⟨r, hr, hst⟩ := this
  exact (hst.all hs).le hr

/-! ### Marks that are handed on: for each node the set of those that it reaches, as the bits of a number -/
def bitOr (M : List Nat) (e : Edg) : List Nat := M.set e.src.toNat (M.getD e.src.toNat 0 ||| (1 <<< e.dst.toNat ||| M.getD e.dst.toNat 0))
def bitRound (E : List Edg) (M : List Nat) : List Nat := E.foldl bitOr M
def bitRounds (E : List Edg) : Nat → List Nat → List Nat
  | 0, M => M
  | r + 1, M => bitRounds E r (bitRound E M)
def hasBit (M : List Nat) (x y : Int) : Prop := (M.getD x.toNat 0).testBit y.toNat = true

theorem getD_set {M : List Nat} {i j v : Nat} (hi : i < M.length) : (M.set i v).getD j 0 = if j = i then v else M.getD j 0 := by
  simp only [List.getD_eq_getElem?_getD, List.getElem?_set]
  by_cases h : i = j
  · subst h; simp [hi]
  · rw [if_neg h, if_neg (fun e => h e.symm)]
theorem bitOr_length (M : List Nat) (e : Edg) : (bitOr M e).length = M.length := by simp [bitOr]
theorem hasBit_or {M : List Nat} {e : Edg} {n : Nat} (hl : M.length = n) (he : 0 ≤ e.src ∧ e.src < n ∧ 0 ≤ e.dst ∧ e.dst < n) {x y : Int} (hx : 0 ≤ x) (hy : 0 ≤ y) :
    hasBit (bitOr M e) x y ↔ hasBit M x y ∨ (x = e.src ∧ (y = e.dst ∨ hasBit M e.dst y)) := by
  unfold hasBit bitOr
  rw [getD_set (by omega)]
  by_cases hxe : x = e.src
  · subst hxe
    rw [if_pos rfl]
    simp only [Nat.testBit_or, Bool.or_eq_true, Nat.shiftLeft_eq, Nat.one_mul, Nat.testBit_two_pow, decide_eq_true_eq, true_and]
    have : (e.dst.toNat = y.toNat) ↔ (y = e.dst) := by omega
    rw [this]
  · rw [if_neg (by omega)]
    simp [hxe]
/-- What is marked is reached. -/
def Sound (E : List Edg) (n : Nat) (M : List Nat) : Prop := M.length = n ∧ ∀ x y : Int, 0 ≤ x → 0 ≤ y → hasBit M x y → Way E x y
theorem Sound.or {E : List Edg} {n : Nat} {M : List Nat} (hi : Inside E n) (h : Sound E n M) {e : Edg} (he : e ∈ E) : Sound E n (bitOr M e) := by
  refine ⟨(bitOr_length M e).trans h.1, fun x y hx hy hb => ?_⟩
  rcases (hasBit_or h.1 (hi e he) hx hy).1 hb with hb | ⟨rfl, rfl | hb⟩
  · exact h.2 x y hx hy hb
  · exact .one ⟨e, he, rfl, rfl⟩
  · exact .more ⟨e, he, rfl, rfl⟩ (h.2 _ y (hi e he).2.2.1 hy hb)
theorem Sound.foldl {E : List Edg} {n : Nat} (hi : Inside E n) : ∀ (F : List Edg), (∀ e ∈ F, e ∈ E) → ∀ M, Sound E n M → Sound E n (F.foldl bitOr M)
  | [], _, _, h => h
  | e :: F, hs, _, h => Sound.foldl hi F (fun a ha => hs a (List.mem_cons_of_mem _ ha)) _ (h.or hi (hs e (List.mem_cons_self ..)))
theorem Sound.round {E : List Edg} {n : Nat} {M : List Nat} (hi : Inside E n) (h : Sound E n M) : Sound E n (bitRound E M) := Sound.foldl hi E (fun _ h => h) M h
theorem Sound.rounds {E : List Edg} {n : Nat} (hi : Inside E n) : ∀ (r : Nat) (M : List Nat), Sound E n M → Sound E n (bitRounds E r M)
  | 0, _, h => h
  | r + 1, _, h => Sound.rounds hi r _ (h.round hi)
/-- Marks stay; each edge hands its own on. -/
theorem foldl_keeps {E : List Edg} {n : Nat} (hi : Inside E n) : ∀ (F : List Edg), (∀ e ∈ F, e ∈ E) → ∀ M : List Nat, M.length = n →
    (F.foldl bitOr M).length = n ∧ (∀ x y : Int, 0 ≤ x → 0 ≤ y → hasBit M x y → hasBit (F.foldl bitOr M) x y) ∧
    ∀ e ∈ F, ∀ y : Int, 0 ≤ y → (y = e.dst ∨ hasBit M e.dst y) → hasBit (F.foldl bitOr M) e.src y
  | [], _, M, hl => ⟨hl, fun _ _ _ _ h => h, fun _ h => by cases h⟩
  | e :: F, hs, M, hl => by
    have he := hi e (hs e (List.mem_cons_self ..))
    obtain ⟨h1, h2, h3⟩ := foldl_keeps hi F (fun a ha => hs a (List.mem_cons_of_mem _ ha)) (bitOr M e) ((bitOr_length M e).trans hl)
    refine ⟨h1, fun x y hx hy h => h2 x y hx hy ((hasBit_or hl he hx hy).2 (.inl h)), fun f hf y hy h => ?_⟩
    rcases List.mem_cons.1 hf with rfl | hf
    · exact h2 _ y he.1 hy ((hasBit_or hl he he.1 hy).2 (.inr ⟨rfl, h⟩))
    · refine h3 f hf y hy (h.imp id fun h => (hasBit_or hl he ?_ hy).2 (.inl h))
      exact (hi f (hs f (List.mem_cons_of_mem _ hf))).2.2.1
theorem rounds_full {E : List Edg} {n : Nat} (hi : Inside E n) : ∀ (r s : Nat) (M : List Nat), M.length = n → (∀ x y : Int, 0 ≤ x → 0 ≤ y → Within E s x y → hasBit M x y) →
    (bitRounds E r M).length = n ∧ ∀ x y : Int, 0 ≤ x → 0 ≤ y → Within E (s + r) x y → hasBit (bitRounds E r M) x y
  | 0, _, _, hl, h => ⟨hl, h⟩
  | r + 1, s, M, hl, h => by
    obtain ⟨h1, h2, h3⟩ := foldl_keeps hi E (fun _ h => h) M hl
    have := rounds_full hi r (s + 1) (bitRound E M) h1 (fun x y hx hy hw => by
      rcases hw with ⟨e, he, rfl, rfl⟩ | ⟨z, ⟨e, he, rfl, rfl⟩, hz⟩
      · exact h3 e he _ hy (.inl rfl)
      · exact h3 e he y hy (.inr (h _ y (hi e he).2.2.1 hy hz)))
    rw [show s + (r + 1) = s + 1 + r by omega]
    exact this
/-- After n rounds the marks are what is reached. -/
theorem rounds_way {E : List Edg} {n : Nat} (hi : Inside E n) {x y : Int} (hx : 0 ≤ x) (hy : 0 ≤ y) : hasBit (bitRounds E n (List.replicate n 0)) x y ↔ Way E x y := by
  constructor
  · refine (Sound.rounds hi n _ ⟨by simp, fun x y _ _ h => ?_⟩).2 x y hx hy
    unfold hasBit at h
    rw [List.getD_eq_getElem?_getD, List.getElem?_replicate] at h
    split at h <;> simp at h
  · intro h
    have := (rounds_full hi n 0 (List.replicate n 0) (by simp) (fun _ _ _ _ h => h.elim)).2 x y hx hy
    rw [Nat.zero_add] at this
    exact this (h.within_n hi)
/-- .. and no number of them is great. -/
theorem foldl_small {E : List Edg} {n : Nat} (hi : Inside E n) : ∀ (F : List Edg), (∀ e ∈ F, e ∈ E) → ∀ M : List Nat, M.length = n → (∀ m ∈ M, m < 2 ^ n) → ∀ m ∈ F.foldl bitOr M, m < 2 ^ n
  | [], _, _, _, h => h
  | e :: F, hs, M, hl, h => by
    have he := hi e (hs e (List.mem_cons_self ..))
    refine foldl_small hi F (fun a ha => hs a (List.mem_cons_of_mem _ ha)) _ ((bitOr_length M e).trans hl) fun m hm => ?_
    have hg : ∀ j, M.getD j 0 < 2 ^ n := fun j => by
      rw [List.getD_eq_getElem?_getD]
      cases hj : M[j]? with
      | none => simp [Nat.two_pow_pos]
      | some u => exact h u (List.mem_of_getElem? hj)
    rcases List.mem_or_eq_of_mem_set hm with hm | rfl
    · exact h m hm
    · refine Nat.or_lt_two_pow (hg _) (Nat.or_lt_two_pow ?_ (hg _))
      rw [Nat.shiftLeft_eq, Nat.one_mul]
      exact Nat.pow_lt_pow_right (by decide) (by omega)
theorem rounds_small {E : List Edg} {n : Nat} (hi : Inside E n) : ∀ (r : Nat) (M : List Nat), M.length = n → (∀ m ∈ M, m < 2 ^ n) → ∀ m ∈ bitRounds E r M, m < 2 ^ n
  | 0, _, _, h => h
  | r + 1, M, hl, h => rounds_small hi r _ (foldl_keeps hi E (fun _ h => h) M hl).1 (foldl_small hi E (fun _ h => h) M hl h)
theorem rounds_length {E : List Edg} {n : Nat} (hi : Inside E n) (r : Nat) (M : List Nat) (hl : M.length = n) : (bitRounds E r M).length = n := (rounds_full hi r 0 M hl (fun _ _ _ _ h => h.elim)).1
end Go.Proofs.Ytbbjkldkjndfaaa

/- What the law FnShelves says, of the plain functions. Plain. -/
import Derived.Test.YthjkmefbjbfonaaDraw
import Derived.Test.YthjkmefbjbfonaaMerge
import Derived.Test.YthjkmefbjbfonaaTake
import Derived.Test.YthjkmefbjbfonaaPut
namespace Go.Proofs.Ythjkmefbjbfonaa
set_option linter.unusedSimpArgs false

theorem ahead_iff {a b : Ent} : a.ahead b = true ↔ (a.prio > b.prio ∨ (a.prio = b.prio ∧ a.seq < b.seq)) := by simp [Ent.ahead, aheadB]
theorem ahead_trans {a b c : Ent} (h : a.ahead b = true) (k : b.ahead c = true) : a.ahead c = true := by
  rw [ahead_iff] at *
  omega
theorem ahead_asymm {a b : Ent} (h : a.ahead b = true) : b.ahead a = false := by
  rw [← Bool.not_eq_true, ahead_iff]
  rw [ahead_iff] at h
  omega
theorem ahead_total {a b : Ent} (h : a.seq ≠ b.seq) : a.ahead b = true ∨ b.ahead a = true := by
  rw [ahead_iff, ahead_iff]
  omega
/-- In line. -/
def Lined (l : List Ent) : Prop := l.Pairwise fun a b => a.ahead b = true
def Comp (a b : Ent) : Prop := a.ahead b = true ∨ b.ahead a = true
theorem Comp.symm {a b : Ent} (h : Comp a b) : Comp b a := Or.symm h
theorem Lined.comp {l : List Ent} (h : Lined l) : l.Pairwise Comp := h.imp fun h => .inl h
theorem lined_inLine : ∀ {l : List Ent}, Lined l → inLine l = true
  | [], _ => rfl
  | [_], _ => rfl
  | a :: b :: r, h => by
    have h1 := List.pairwise_cons.1 h
    rw [inLine, h1.1 b (List.mem_cons_self ..), lined_inLine (l := b :: r) h1.2]
    rfl
theorem put_cons (e x : Ent) (l : List Ent) : putEntryR (x :: l) e = if x.ahead e = true then x :: putEntryR l e else e :: x :: l := by
  unfold putEntryR
  by_cases h : x.ahead e = true
  · rw [if_pos h, putIdx, if_pos h]; rfl
  · rw [if_neg h, putIdx, if_neg h]; rfl
theorem put_nil (e : Ent) : putEntryR [] e = [e] := rfl
theorem put_perm (e : Ent) : ∀ l : List Ent, (putEntryR l e).Perm (e :: l)
  | [] => List.Perm.refl _
  | x :: l => by
    rw [put_cons]
    split
    · exact ((put_perm e l).cons x).trans (List.Perm.swap e x l)
    · exact List.Perm.refl _
theorem put_lined {e : Ent} : ∀ {l : List Ent}, Lined l → (∀ x ∈ l, Comp x e) → Lined (putEntryR l e)
  | [], _, _ => by rw [put_nil]; exact List.pairwise_singleton _ _
  | x :: l, h, hc => by
    have h1 := List.pairwise_cons.1 h
    rw [put_cons]
    by_cases hx : x.ahead e = true
    · rw [if_pos hx]
      refine List.pairwise_cons.2 ⟨fun y hy => ?_, put_lined h1.2 fun y hy => hc y (List.mem_cons_of_mem _ hy)⟩
      rcases List.mem_cons.1 ((put_perm e l).mem_iff.1 hy) with rfl | hy
      · exact hx
      · exact h1.1 y hy
    · rw [if_neg hx]
      have he : e.ahead x = true := (hc x (List.mem_cons_self ..)).resolve_left hx
      refine List.pairwise_cons.2 ⟨fun y hy => ?_, h⟩
      rcases List.mem_cons.1 hy with rfl | hy
      · exact he
      · exact ahead_trans he (h1.1 y hy)
theorem fold_perm : ∀ (b a : List Ent), (b.foldl putEntryR a).Perm (a ++ b)
  | [], a => by simp
  | e :: b, a => by
    rw [List.foldl_cons]
    refine (fold_perm b _).trans (((put_perm e a).append_right b).trans ?_)
    exact (List.perm_middle (a := e) (l₁ := a) (l₂ := b)).symm
theorem fold_lined : ∀ (b a : List Ent), Lined a → (a ++ b).Pairwise Comp → Lined (b.foldl putEntryR a)
  | [], a, h, _ => h
  | e :: b, a, h, hc => by
    rw [List.foldl_cons]
    have h1 := List.pairwise_append.1 hc
    refine fold_lined b _ (put_lined h fun x hx => h1.2.2 x hx e (List.mem_cons_self ..)) ?_
    have hp : (a ++ e :: b).Perm (putEntryR a e ++ b) := ((List.perm_middle (a := e) (l₁ := a) (l₂ := b)).trans ((put_perm e a).symm.append_right b))
    exact (hp.pairwise_iff (R := Comp) (fun h => h.symm)).1 hc
theorem lined_unique {a b : List Ent} (h : a.Perm b) (ha : Lined a) (hb : Lined b) : a = b :=
  List.Perm.eq_of_pairwise (le := fun x y => x.ahead y = true) (fun x y _ _ h1 h2 => absurd h2 (by rw [ahead_asymm h1]; simp)) (show List.Pairwise (fun x y => x.ahead y = true) a from ha) (show List.Pairwise (fun x y => x.ahead y = true) b from hb) h
theorem merged_halves {l : List Ent} (h : Lined l) (hl : l.length ≤ 80) (k : Nat) : mergedR (l.take k) (l.drop k) = l ∧ mergedR (l.drop k) (l.take k) = l := by
  have hc := h.comp
  rw [← List.take_append_drop k l] at hc h
  have hp := List.pairwise_append.1 h
  have hc2 : (l.drop k ++ l.take k).Pairwise Comp := (List.perm_append_comm.pairwise_iff (R := Comp) (fun h => h.symm)).1 hc
  have hlen : ¬ 80 < (l.take k).length + (l.drop k).length := by rw [← List.length_append, List.take_append_drop]; omega
  have hlen2 : ¬ 80 < (l.drop k).length + (l.take k).length := by omega
  have hL : Lined l := by rw [List.take_append_drop] at h; exact h
  constructor
  · rw [mergedR, if_neg hlen]
    refine lined_unique ((fold_perm _ _).trans ?_) (fold_lined _ _ hp.1 hc) hL
    rw [List.take_append_drop]
  · rw [mergedR, if_neg hlen2]
    refine lined_unique ((fold_perm _ _).trans (List.perm_append_comm.trans ?_)) (fold_lined _ _ hp.2.1 hc2) hL
    rw [List.take_append_drop]

/-! ### The drawn shelf -/
def drawEnt (code : List UInt8) (c : Nat × Int) : Ent × (Nat × Int) :=
  let a := curBelow code 3 c; let b := curBelow code 30 a.2; let d := curBelow code 4 b.2; let e := curBelow code 4 d.2
  (⟨a.1, 1 + b.1, 1 + d.1, e.1⟩, e.2)
def shelfGo (code : List UInt8) : Nat → Nat → List Ent → Nat × Int → List Ent
  | 0, _, l, _ => l
  | f + 1, i, l, c =>
    if (i : Int) < (curBelow code 7 c).1 then
      let e := drawEnt code (curBelow code 7 c).2
      let s := curBelow code 9 e.2
      shelfGo code f (i + 1) (putEntryR l ⟨e.1.prio, 10 * i + s.1, e.1.run, e.1.task⟩) s.2
    else l
def shelfDrawn (code : List UInt8) : List Ent := shelfGo code 7 0 [] (newC code)
def ShelfInv (i : Nat) (l : List Ent) : Prop := Lined l ∧ (∀ e ∈ l, e.seq < 10 * (i : Int)) ∧ l.length = i
theorem ShelfInv.put {i : Nat} {l : List Ent} (h : ShelfInv i l) (e : Ent) (h0 : 10 * (i : Int) ≤ e.seq) (h1 : e.seq < 10 * (i : Int) + 9) : ShelfInv (i + 1) (putEntryR l e) := by
  obtain ⟨a, b, c⟩ := h
  refine ⟨put_lined a fun x hx => ahead_total (by have := b x hx; omega), fun x hx => ?_, by rw [putEntryR_length, c]⟩
  rcases List.mem_cons.1 ((put_perm e l).mem_iff.1 hx) with rfl | hx
  · omega
  · have := b x hx; omega
theorem shelfGo_inv (code : List UInt8) : ∀ (f i : Nat) (l : List Ent) (c : Nat × Int), i + f = 7 → ShelfInv i l → ∃ j, j ≤ 7 ∧ ShelfInv j (shelfGo code f i l c)
  | 0, i, l, c, hi, h => ⟨i, by omega, h⟩
  | f + 1, i, l, c, hi, h => by
    rw [shelfGo]
    by_cases hlt : (i : Int) < (curBelow code 7 c).1
    · rw [if_pos hlt]
      have hb := curBelow_bd code 9 (drawEnt code (curBelow code 7 c).2).2 (by omega)
      exact shelfGo_inv code f (i + 1) _ _ (by omega) (h.put _ (by simp only; omega) (by simp only; omega))
    · rw [if_neg hlt]
      exact ⟨i, by omega, h⟩
theorem shelf_drawn (code : List UInt8) : Lined (shelfDrawn code) ∧ (∀ e ∈ shelfDrawn code, e.seq < 1000) ∧ (shelfDrawn code).length ≤ 7 := by
  obtain ⟨j, hj, h1, h2, h3⟩ := shelfGo_inv code 7 0 [] (newC code) rfl ⟨List.Pairwise.nil, fun _ h => (by cases h), rfl⟩
  exact ⟨h1, fun e he => by have := h2 e he; omega, by unfold shelfDrawn; omega⟩
theorem more_lined {l : List Ent} {e : Ent} (h : Lined l) (hs : ∀ x ∈ l, x.seq < 1000) (he : 1000 ≤ e.seq) : Lined (putEntryR l e) := put_lined h fun x hx => ahead_total (by have := hs x hx; omega)
theorem lined_shelfOk {l : List Ent} (h : Lined l) (hl : l.length ≤ 80) : shelfOk l = true := by rw [shelfOk, lined_inLine h, decide_eq_true hl]; rfl
end Go.Proofs.Ythjkmefbjbfonaa

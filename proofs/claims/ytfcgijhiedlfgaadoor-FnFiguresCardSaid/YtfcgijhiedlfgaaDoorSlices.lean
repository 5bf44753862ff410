/- Slices: what a slice value reads as, rows of the call's own, and how both are kept. No program in sight. -/
import Derived.Test.YtfcgijhiedlfgaaDoorVarPlain
import Derived.Test.YtfcgijhiedlfgaaDoorSched
namespace Go.Proofs.YtfcgijhiedlfgaaDoor
open Go.RowKit Go.Deep

/-- The slice value v has n elements (size cells each) that read as the cells xs. -/
def Rd (w : World) (size : Nat) (v : Value) (n : Nat) (xs : List Value) : Prop := ∃ A c, v = .slice A n c ∧ n ≤ c ∧ c ≤ maxLen ∧ Reads w w.heap.size size A n xs
theorem Rd.below {w w' : World} {size n : Nat} {v : Value} {xs : List Value} (h : Rd w size v n xs) (hb : Below w.heap.size w w') : Rd w' size v n xs := by
  obtain ⟨A, c, rfl, h1, h2, h3⟩ := h
  exact ⟨A, c, rfl, h1, h2, (h3.below hb).more hb.size⟩
theorem Rd.drew {w : World} {size n : Nat} {v : Value} {xs : List Value} (h : Rd w size v n xs) : Rd w.drew size v n xs := h
theorem Rd.grown {w w' : World} {size n : Nat} {v : Value} {xs : List Value} {row : Option Nat} (h : Rd w size v n xs) (hg : w.grownBy w' row) (hne : v.ownBlock = none ∨ v.ownBlock ≠ row) : Rd w' size v n xs := by
  obtain ⟨A, c, rfl, h1, h2, h3⟩ := h
  refine ⟨A, c, rfl, h1, h2, h3.1, fun hn => ?_⟩
  obtain ⟨ad, rfl, hlt, hc⟩ := h3.2 hn
  refine ⟨ad, rfl, Nat.lt_of_lt_of_le hlt hg.size, fun j u hu => ?_⟩
  have hb : some ad.block ≠ row := by
    intro e
    rcases hne with h | h
    · simp [Value.ownBlock] at h
    · exact h (by simpa [Value.ownBlock] using e)
  rw [World.cell?_of_block (w := w) (hg.block _ (by rw [block_of_add]; exact hlt) (by rw [block_of_add]; exact hb))]
  exact hc j u hu
theorem Rd.of_own {w : World} {base size n : Nat} {e : TypeId} {v : Value} {xs : List Value} (h : w.ownsRow base e size v n xs) : Rd w size v n xs := by
  rcases h.2 with ⟨rfl, rfl⟩ | ⟨g, cap, cur, rfl, hbase, hg, hn, hm, hsz, hx⟩
  · have : xs = [] := List.eq_nil_of_length_eq_zero (by simpa using h.1)
    subst this
    exact ⟨none, 0, rfl, Nat.le_refl _, Nat.zero_le _, Reads.none_⟩
  · exact ⟨some ⟨g, 0, none⟩, cap, rfl, hn, hm, Reads.of_own h⟩
/-- An element's cell, at the address as the walk reckons it. -/
theorem Rd.form {w : World} {size n : Nat} {v : Value} {xs : List Value} (h : Rd w size v n xs) (hn : 0 < n) (hs : 0 < size) : ∃ b off c, v = .slice (some ⟨b, off, none⟩) n c ∧ n ≤ c ∧ c ≤ maxLen ∧ b < w.heap.size ∧ ∀ j u, xs[j]? = some u → w.cell? ⟨b, off + j, none⟩ = some u := by
  obtain ⟨A, c, rfl, h1, h2, h3⟩ := h
  obtain ⟨⟨b, off, spot⟩, rfl, hlt, hc⟩ := h3.2 hn
  have hl : 0 < xs.length := by rw [h3.1]; exact Nat.mul_pos hn hs
  have h0 := hc 0 _ (List.getElem?_eq_getElem hl)
  have hspot : spot = none := by simpa [Addr.add] using World.cell?_spot h0
  subst hspot
  refine ⟨b, off, c, rfl, h1, h2, hlt, fun j u hu => ?_⟩
  have e1 : (⟨b, off, none⟩ : Addr).add j = ⟨b, off + j, none⟩ := by unfold Addr.add; split <;> simp_all
  rw [← e1]
  exact hc j u hu
theorem Rd.len {w : World} {size n : Nat} {v : Value} {xs : List Value} (h : Rd w size v n xs) : xs.length = n * size := by obtain ⟨_, _, _, _, _, h3⟩ := h; exact h3.1
theorem Rd.shape {w : World} {size n : Nat} {v : Value} {xs : List Value} (h : Rd w size v n xs) : ∃ A c, v = .slice A n c ∧ n ≤ c ∧ c ≤ maxLen := by obtain ⟨A, c, h0, h1, h2, _⟩ := h; exact ⟨A, c, h0, h1, h2⟩

/-! ### Rows of the call's own -/
theorem own_below {w w' : World} {base size n : Nat} {e : TypeId} {v : Value} {xs : List Value} (h : w.ownsRow base e size v n xs) (hb : Below w.heap.size w w') : w'.ownsRow base e size v n xs :=
  h.kept (only_of_below hb none) (by
    rcases hv : v.ownBlock with _ | g
    · exact .inl rfl
    · exact .inr (by simp))
theorem own_grown {w w' : World} {base size n : Nat} {e : TypeId} {v : Value} {xs : List Value} {row : Option Nat} (h : w.ownsRow base e size v n xs) (hg : w.grownBy w' row) (hne : v.ownBlock = none ∨ v.ownBlock ≠ row) : w'.ownsRow base e size v n xs := h.kept hg hne
theorem own_more {w : World} {base base' size n : Nat} {e : TypeId} {v : Value} {xs : List Value} (h : w.ownsRow base e size v n xs) (hb : base' ≤ base) : w.ownsRow base' e size v n xs := by
  rcases h.2 with h0 | ⟨g, cap, cur, h1, h2, h3⟩
  · exact ⟨h.1, .inl h0⟩
  · exact ⟨h.1, .inr ⟨g, cap, cur, h1, by omega, h3⟩⟩
/-- Two rows, the later one made behind the elder. -/
theorem own_apart {w : World} {base base' size size' n n' : Nat} {e e' : TypeId} {v v' : Value} {xs xs' : List Value} {w0 : World} (h : w0.ownsRow base e size v n xs) (h' : w.ownsRow base' e' size' v' n' xs') (hb : w0.heap.size ≤ base') :
    v.ownBlock = none ∨ v.ownBlock ≠ v'.ownBlock := by
  rcases hv : v.ownBlock with _ | g
  · exact .inl rfl
  · right
    intro e
    have h1 := h.lt g hv
    have h2 := h'.lt g e.symm
    omega
theorem grown_below {w w' : World} {base : Nat} {row : Option Nat} (hg : w.grownBy w' row) (hr : ∀ k, row = some k → base ≤ k) (hB : base ≤ w.heap.size) : Below base w w' := (Below.refl _ _).grown hg hB hr
/-- A row that is made whole. -/
theorem own_of_rowIs {w : World} {g base size n : Nat} {e : TypeId} {f : Nat → Value} (h : w.rowIs g e (n * size) f) (hb : base ≤ g) (hn : n ≤ maxLen) :
    w.ownsRow base e size (.slice (some ⟨g, 0, none⟩) n n) n ((List.range (n * size)).map f) := by
  obtain ⟨c, hc, hs, hf⟩ := h
  refine ⟨by simp, .inr ⟨g, n, c, rfl, hb, hc, Nat.le_refl _, hn, hs, ?_⟩⟩
  apply List.ext_getElem?
  intro i
  by_cases hi : i < n * size
  · rw [List.getElem?_take_of_lt hi, Array.getElem?_toList, hf i hi, List.getElem?_map, List.getElem?_range hi]
    rfl
  · rw [List.getElem?_eq_none (by simp; omega), List.getElem?_eq_none (by simp; omega)]
/-- What a row of the call's own is, cell by cell. -/
theorem rowIs_of_own {w : World} {base size n : Nat} {e : TypeId} {v : Value} {xs : List Value} (h : w.ownsRow base e size v n xs) (hn : 0 < n) :
    ∃ g cap f, v = .slice (some ⟨g, 0, none⟩) n cap ∧ base ≤ g ∧ n ≤ cap ∧ cap ≤ maxLen ∧ w.rowIs g e (cap * size) f ∧ ∀ j, j < n * size → xs[j]? = some (f j) := by
  rcases h.2 with ⟨_, h0⟩ | ⟨g, cap, cur, rfl, hbase, hg, hnc, hm, hsz, hx⟩
  · omega
  · refine ⟨g, cap, fun j => cur.getD j undef, rfl, hbase, hnc, hm, ⟨cur, hg, hsz, fun i hi => ?_⟩, fun j hj => ?_⟩
    · have : i < cur.size := by omega
      simp [Array.getD, this]
    · have hle : n * size ≤ cap * size := Nat.mul_le_mul_right _ hnc
      have : j < cur.size := by omega
      rw [← hx, List.getElem?_take_of_lt hj, Array.getElem?_toList, Array.getElem?_eq_getElem this]
      simp [Array.getD, this]
theorem own_of_rowIs_cap {w : World} {g base size n cap : Nat} {e : TypeId} {f : Nat → Value} (h : w.rowIs g e (cap * size) f) (hb : base ≤ g) (hn : n ≤ cap) (hm : cap ≤ maxLen) :
    w.ownsRow base e size (.slice (some ⟨g, 0, none⟩) n cap) n ((List.range (n * size)).map f) := by
  obtain ⟨c, hc, hs, hf⟩ := h
  have hle : n * size ≤ cap * size := Nat.mul_le_mul_right _ hn
  refine ⟨by simp, .inr ⟨g, cap, c, rfl, hb, hc, hn, hm, hs, ?_⟩⟩
  apply List.ext_getElem?
  intro i
  by_cases hi : i < n * size
  · rw [List.getElem?_take_of_lt hi, Array.getElem?_toList, hf i (by omega), List.getElem?_map, List.getElem?_range hi]
    rfl
  · rw [List.getElem?_eq_none (by simp; omega), List.getElem?_eq_none (by simp; omega)]

/-- Marks: cell j of a marked slice. -/
def marks (M : Int → Value) (k : Int) (m : Nat) : List Value := (List.range m).map fun j : Nat => M (k + j)
theorem marks_length (M : Int → Value) (k : Int) (m : Nat) : (marks M k m).length = m := by simp [marks]
theorem marks_at (M : Int → Value) (k : Int) {m j : Nat} (h : j < m) : (marks M k m)[j]? = some (M (k + j)) := by
  rw [marks, List.getElem?_map, List.getElem?_range h]; rfl

theorem only_below {a w w1 : World} {row : Option Nat} (h : a.grownBy w row) (hb : Below w.heap.size w w1) : a.grownBy w1 row :=
  ⟨hb.os.trans h.os, hb.tape.trans h.tape, hb.output.trans h.output, Nat.le_trans h.size hb.size, fun i hi hn => (hb.block i (Nat.lt_of_lt_of_le hi h.size)).trans (h.block i hi hn)⟩
theorem only_trans {a w w1 : World} {row : Option Nat} (h : a.grownBy w row) (hb : w.grownBy w1 row) : a.grownBy w1 row :=
  ⟨hb.os.trans h.os, hb.tape.trans h.tape, hb.output.trans h.output, Nat.le_trans h.size hb.size, fun i hi hn => (hb.block i (Nat.lt_of_lt_of_le hi h.size) hn).trans (h.block i hi hn)⟩
/-- What a call that hands back a slice leaves: a row of its own, and new blocks alone. -/
def MadeRow (w0 : World) (e : TypeId) (size n : Nat) (xs : List Value) (r : Ending) (w' : World) : Prop := ∃ u, r = .returned u ∧ w'.ownsRow w0.heap.size e size u n xs ∧ Below w0.heap.size w0 w'
/-- What a call that marks a slice leaves. -/
def Marked (w0 : World) (base : Nat) (e : TypeId) (size n : Nat) (v : Value) (M : Int → Value) (k : Int) (r : Ending) (w' : World) : Prop :=
  r = .returned (.int .i64 (k + ((n * size : Nat) : Int))) ∧ w'.ownsRow base e size v n (marks M k (n * size)) ∧ w0.grownBy w' v.ownBlock

/-! ### Elements of several cells -/
theorem flat_length {α : Type} (enc : α → List Value) (m : Nat) (hm : ∀ a, (enc a).length = m) : ∀ l : List α, (l.flatMap enc).length = l.length * m
  | [] => by simp
  | a :: l => by rw [List.flatMap_cons, List.length_append, hm, flat_length enc m hm l, List.length_cons, Nat.succ_mul]; omega
theorem flat_at {α : Type} (enc : α → List Value) (m : Nat) (hm : ∀ a, (enc a).length = m) : ∀ (l : List α) (i : Nat) (hi : i < l.length) (f : Nat), f < m → (l.flatMap enc)[i * m + f]? = (enc l[i])[f]?
  | [], i, hi, _, _ => by simp at hi
  | a :: l, 0, _, f, hf => by
    rw [List.flatMap_cons, Nat.zero_mul, Nat.zero_add, List.getElem?_append_left (by rw [hm]; exact hf)]
    rfl
  | a :: l, i + 1, hi, f, hf => by
    rw [List.flatMap_cons, Nat.succ_mul, List.getElem?_append_right (by rw [hm]; omega), hm, show i * m + m + f - m = i * m + f by omega]
    exact flat_at enc m hm l i (by simpa using hi) f hf
end Go.Proofs.YtfcgijhiedlfgaaDoor

/- Right disks, told by their files and their names. No program in sight. -/
import Derived.Test.YthjkmefbjbfonaaWriteP
namespace Go.Proofs.Ythjkmefbjbfonaa
set_option linter.unusedSimpArgs false
set_option linter.unusedVariables false
open Go.RowKit Go.ChangeShapes Go.Deep

theorem okGo_iff {D : List Fil} : ∀ {d : List Fil} {i : Nat}, okGo D i d = true ↔ ∀ j (h : j < d.length), filOk D (i + j) d[j] = true
  | [], i => ⟨fun _ j h => absurd h (Nat.not_lt_zero _), fun _ => rfl⟩
  | x :: d, i => by
    rw [okGo, Bool.and_eq_true, okGo_iff (d := d)]
    constructor
    · rintro ⟨h1, h2⟩ j h
      cases j with
      | zero => exact h1
      | succ j => have := h2 j (by simpa using h); rw [show i + (j + 1) = i + 1 + j by omega]; exact this
    · intro h
      refine ⟨h 0 (by simp), fun j hj => ?_⟩
      have := h (j + 1) (by simpa using hj)
      rw [show i + 1 + j = i + (j + 1) by omega]
      exact this
/-- A right file, its place aside. -/
def FilGood (f : Fil) : Prop := nmOk f.name = true ∧ f.data.size ≤ 60000 ∧ 0 ≤ f.safe ∧ f.safe ≤ f.data.size
theorem filOk_iff {D : List Fil} {i : Nat} {f : Fil} : filOk D i f = true ↔ FilGood f ∧ atR f.name D = (i : Int) := by
  unfold filOk FilGood inB
  simp only [Bool.and_eq_true, decide_eq_true_eq]
  constructor
  · rintro ⟨⟨⟨a, b⟩, c⟩, d⟩; exact ⟨⟨a, c, d⟩, b⟩
  · rintro ⟨⟨a, c, d⟩, b⟩; exact ⟨⟨⟨a, b⟩, c⟩, d⟩
theorem atF_first {nm : ByteArray} : ∀ {d : List Fil} {j : Nat} (h : j < d.length), d[j].name = nm → atF nm d ≤ j
  | x :: d, 0, _, e => by rw [atF, if_pos (show x.name = nm from e)]; exact Nat.le_refl _
  | x :: d, j + 1, h, e => by
    rw [atF]
    split
    · omega
    · have := atF_first (d := d) (j := j) (by simpa using h) (by simpa using e)
      omega
theorem atR_at {nm : ByteArray} {d : List Fil} {j : Nat} : atR nm d = (j : Int) ↔ atF nm d = j ∧ j < d.length := by
  unfold atR
  split <;> constructor <;> intro h
  · exact ⟨by omega, by omega⟩
  · rw [h.1]
  · omega
  · omega
def namesOf (d : List Fil) : List ByteArray := d.map Fil.name
theorem atF_nodup {d : List Fil} (h : (namesOf d).Nodup) {j : Nat} (hj : j < d.length) : atF d[j].name d = j := by
  have h1 := atF_first hj rfl
  have h2 : atF d[j].name d < d.length := by omega
  have h3 := atF_name h2
  by_cases e : atF d[j].name d = j
  · exact e
  · exfalso
    have := (List.pairwise_iff_getElem.1 h) (atF d[j].name d) j (by simpa [namesOf] using h2) (by simpa [namesOf] using hj) (by omega)
    simp only [namesOf, List.getElem_map] at this
    exact this h3
theorem diskOk_iff {d : List Fil} : diskOkR d = true ↔ d.length ≤ 4 ∧ (∀ f ∈ d, FilGood f) ∧ (namesOf d).Nodup := by
  rw [diskOkR, Bool.and_eq_true, decide_eq_true_eq, okGo_iff]
  constructor
  · rintro ⟨h1, h2⟩
    have key : ∀ j (h : j < d.length), FilGood d[j] ∧ atF d[j].name d = j := fun j h => by
      have := filOk_iff.1 (h2 j h)
      rw [Nat.zero_add] at this
      exact ⟨this.1, (atR_at.1 this.2).1⟩
    refine ⟨h1, fun f hf => ?_, ?_⟩
    · obtain ⟨j, hj, rfl⟩ := List.mem_iff_getElem.1 hf
      exact (key j hj).1
    · refine List.pairwise_iff_getElem.2 fun i j hi hj hij e => ?_
      simp only [namesOf, List.length_map] at hi hj
      simp only [namesOf, List.getElem_map] at e
      have a := (key i hi).2
      have b := (key j hj).2
      rw [e, b] at a
      omega
  · rintro ⟨h1, h2, h3⟩
    refine ⟨h1, fun j h => filOk_iff.2 ⟨h2 _ (List.getElem_mem h), ?_⟩⟩
    rw [Nat.zero_add]
    exact atR_at.2 ⟨atF_nodup h3 h, h⟩
theorem ok_at {d : List Fil} (h : diskOkR d = true) {i : Nat} (hi : i < d.length) : atF d[i].name d = i := atF_nodup (diskOk_iff.1 h).2.2 hi
theorem atF_none {nm : ByteArray} {d : List Fil} : ¬ atF nm d < d.length ↔ nm ∉ namesOf d := by
  constructor
  · intro h hm
    obtain ⟨f, hf, e⟩ := List.mem_map.1 hm
    obtain ⟨j, hj, rfl⟩ := List.mem_iff_getElem.1 hf
    have := atF_first hj e
    omega
  · intro h hl
    exact h (List.mem_map.2 ⟨_, List.getElem_mem hl, atF_name hl⟩)
theorem atF_of {nm : ByteArray} {d : List Fil} (h : (namesOf d).Nodup) {j : Nat} (hj : j < d.length) (e : d[j].name = nm) : atF nm d = j := by rw [← e]; exact atF_nodup h hj
theorem namesOf_set {d : List Fil} {k : Nat} {y : Fil} (hk : k < d.length) (e : y.name = d[k].name) : namesOf (d.set k y) = namesOf d := by
  unfold namesOf
  rw [List.map_set, e]
  refine List.ext_getElem (by simp) fun i h1 h2 => ?_
  rw [List.getElem_set]
  split
  · rename_i h; subst h; simp
  · rfl
end Go.Proofs.Ythjkmefbjbfonaa

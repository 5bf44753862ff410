/- What a law's walk is told of a slice of entries. -/
import Derived.Test.YtngoagjnaphmhaaArgs
import Derived.Test.YtngoagjnaphmhaaEnt
namespace Go.Proofs.Ytngoagjnaphmhaa
open Go.ChangeShapes Go.WideShapes Go.ChangeAt Go.RowKit Go.Deep
section
variable {H : Type} {enc : TypeId × Value → H} {W : World} {base : Nat} {d : DataW H} {p : List MemPlace} {v : Value}
def ArgEntries (w : World) (v : Value) : Prop := ∃ l : List Ent, Rd w 4 v l.length (entV l)
theorem arg_entries (hv : Value.okWide Try.prog W .any base 22 v) (h : DataW.Trod enc Try.prog W 0 (fun _ => true) true 22 v d p) : ArgEntries W v := by
  obtain ⟨a0, len, cap, rfl⟩ := okWide_slice Try.underlying22 hv
  obtain ⟨fuel, hf⟩ := h
  rcases open_slice_fields Try.underlying22 Try.underlying37 (by kernel_rfl) Try.cellsEntry hf with ⟨hcs, _⟩ | ⟨a, l, c, m, D, Pl, hcs, _, hl, hm, hmm, hx, hi⟩
  · simp [Value.cells] at hcs
    obtain ⟨rfl, rfl, rfl⟩ := hcs
    exact ⟨[], none, 0, rfl, Nat.le_refl _, Nat.zero_le _, Reads.none_⟩
  · simp [Value.cells] at hcs
    obtain ⟨rfl, rfl, rfl⟩ := hcs
    have hml : len ≤ m := by rw [hmm, if_pos rfl]; exact hl
    have key : ∀ i, ∃ x : Ent, i < len → ∀ f u, x.cs[f]? = some u → W.cell? (a.add (i * 4 + f)) = some u := by
      intro i
      by_cases hil : i < len
      · obtain ⟨ys, n, _, _, _, hcell⟩ := hi i (by omega)
        obtain ⟨v0, y0, g0, _, t0⟩ := hcell 0 _ rfl
        obtain ⟨v1, y1, g1, _, t1⟩ := hcell 1 _ rfl
        obtain ⟨v2, y2, g2, _, t2⟩ := hcell 2 _ rfl
        obtain ⟨v3, y3, g3, _, t3⟩ := hcell 3 _ rfl
        obtain ⟨n0, e0, _, _⟩ := DataW.trod_int Try.underlying3 t0
        obtain ⟨n1, e1, _, _⟩ := DataW.trod_int Try.underlying3 t1
        obtain ⟨n2, e2, _, _⟩ := DataW.trod_int Try.underlying3 t2
        obtain ⟨n3, e3, _, _⟩ := DataW.trod_int Try.underlying3 t3
        simp at e0 e1 e2 e3
        subst e0 e1 e2 e3
        refine ⟨⟨n0, n1, n2, n3⟩, fun _ f u hu => ?_⟩
        have hf4 : f < 4 := (List.getElem?_eq_some_iff.1 hu).1
        have : f = 0 ∨ f = 1 ∨ f = 2 ∨ f = 3 := by omega
        rcases this with rfl | rfl | rfl | rfl <;> (simp only [Ent.cs, List.getElem?_cons_zero, List.getElem?_cons_succ, Option.some.injEq] at hu; subst hu; assumption)
      · exact ⟨⟨0, 0, 0, 0⟩, fun h => absurd h hil⟩
    obtain ⟨E, hE⟩ := Classical.axiomOfChoice key
    have hlen : ((List.range len).map E).length = len := by simp
    refine ⟨(List.range len).map E, ?_⟩
    rw [hlen]
    refine ⟨some a, cap, rfl, hl, hm, by rw [entV_length, hlen], fun hn => ⟨a, rfl, ?_, fun j u hu => ?_⟩⟩
    · have h0 := hE 0 (by omega) 0 _ rfl
      have := World.block_lt_of_cell? W _ h0
      rwa [block_of_add] at this
    · have hj : j < len * 4 := by
        rcases Nat.lt_or_ge j (len * 4) with h | h
        · exact h
        · rw [List.getElem?_eq_none (by rw [entV_length, hlen]; exact h)] at hu; cases hu
      have hq : j = j / 4 * 4 + j % 4 := by omega
      have hk : j / 4 < ((List.range len).map E).length := by rw [hlen]; omega
      rw [hq, entV_at hk (j % 4) (by omega)] at hu
      rw [hq]
      exact hE (j / 4) (by omega) _ _ (by simpa using hu)
end
end Go.Proofs.Ytngoagjnaphmhaa

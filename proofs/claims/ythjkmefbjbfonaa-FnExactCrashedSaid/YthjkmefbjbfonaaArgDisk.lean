/- What a law's walk is told of a disk. -/
import Derived.Test.YthjkmefbjbfonaaArgs
import Derived.Test.YthjkmefbjbfonaaFil
namespace Go.Proofs.Ythjkmefbjbfonaa
open Go.ChangeShapes Go.WideShapes Go.ChangeAt Go.RowKit Go.Deep Go.Joins
section
variable {H : Type} {enc : TypeId × Value → H} {P : Program} {w : World} {base : Nat} {spare : Nat → Bool} {held : Bool}
theorem open_agg1 {r : Reach} {b0 : Nat} {t : TypeId} {f0 : Field} {v : Value} {d : DataW H} {p : List MemPlace} (hs : P.underlying t = some (.struct #[f0])) (hone : oneCellFields P #[f0] = true) (hC : P.cellsOf t = 1)
    (hv : Value.okWide P w r b0 t v) (h : DataW.Trod enc P w base spare held t v d p) :
    ∃ (v0 : Value) (y0 : DataW H × List MemPlace) (n : Nat), v = .agg #[v0] ∧ DataW.trod enc P w base spare held n f0.type [v0] = some y0 := by
  obtain ⟨cs, rfl, hsz⟩ := okWide_struct hs hv
  obtain ⟨l⟩ := cs
  match l, hsz.trans hC with
  | [c0], _ =>
    obtain ⟨fuel, hf⟩ := h
    obtain ⟨xs, n, _, hx, _, hlen, hg⟩ := DataW.trod_struct hs hf
    obtain ⟨o0, k0⟩ := hone_of hone 0 f0 rfl
    match xs, hlen with
    | [y0], _ => exact ⟨c0, y0, n, rfl, by simpa [Value.cells, o0, k0] using hg 0 f0 rfl⟩
end
theorem Try.cellsFile : Try.prog.cellsOf 112 = 3 := by kernel_rfl
theorem Try.cellsDisk : Try.prog.cellsOf 47 = 1 := by kernel_rfl
section
variable {H : Type} {enc : TypeId × Value → H} {W : World} {base : Nat} {d : DataW H} {p : List MemPlace} {v : Value}
def ArgDisk (w : World) (v : Value) : Prop := ∃ u l, v = .agg #[u] ∧ Rd_disk w u l
theorem files_read {fuel : Nat} {u : Value} {y : DataW H × List MemPlace} (hf : DataW.trod enc Try.prog W 0 (fun _ => true) true fuel 45 [u] = some y) : ∃ l, Rd_disk W u l := by
  rcases open_slice_fields Try.underlying45 Try.underlying112 (by kernel_rfl) Try.cellsFile hf with ⟨hcs, _⟩ | ⟨a, len, c, m, D, Pl, hcs, _, hl, hm, hmm, hx, hi⟩
  · simp at hcs
    subst hcs
    exact ⟨[], ⟨none, 0, rfl, Nat.le_refl _, Nat.zero_le _, Reads.none_⟩, by intro f hf; cases hf⟩
  · simp at hcs
    subst hcs
    have hml : len ≤ m := by rw [hmm, if_pos rfl]; exact hl
    have key : ∀ i, ∃ x : Fil, x.ok ∧ (i < len → ∀ f u, x.cs[f]? = some u → W.cell? (a.add (i * 3 + f)) = some u) := by
      intro i
      by_cases hil : i < len
      · obtain ⟨ys, n, _, _, _, hcell⟩ := hi i (by omega)
        obtain ⟨v0, y0, g0, _, t0⟩ := hcell 0 _ rfl
        obtain ⟨v1, y1, g1, _, t1⟩ := hcell 1 _ rfl
        obtain ⟨v2, y2, g2, _, t2⟩ := hcell 2 _ rfl
        obtain ⟨n0, e0, _, z0⟩ := DataW.trod_string Try.underlying9 t0
        obtain ⟨n1, e1, _, z1⟩ := DataW.trod_string Try.underlying9 t1
        obtain ⟨n2, e2, _, _⟩ := DataW.trod_int Try.underlying3 t2
        simp at e0 e1 e2
        subst e0 e1 e2
        unfold maxLen at z0 z1
        refine ⟨⟨n0, n1, n2⟩, ⟨by show n0.size ≤ _; omega, by show n1.size ≤ _; omega⟩, fun _ f u hu => ?_⟩
        have hf4 : f < 3 := (List.getElem?_eq_some_iff.1 hu).1
        have : f = 0 ∨ f = 1 ∨ f = 2 := by omega
        rcases this with rfl | rfl | rfl <;> (simp only [Fil.cs, List.getElem?_cons_zero, List.getElem?_cons_succ, Option.some.injEq] at hu; subst hu; assumption)
      · exact ⟨⟨⟨#[]⟩, ⟨#[]⟩, 0⟩, ⟨by decide, by decide⟩, fun h => absurd h hil⟩
    obtain ⟨E, hE⟩ := Classical.axiomOfChoice key
    have hlen : ((List.range len).map E).length = len := by simp
    refine ⟨(List.range len).map E, ?_, fun f hf => ?_⟩
    · rw [hlen]
      refine ⟨some a, c, rfl, hl, hm, by rw [filV_length, hlen], fun hn => ⟨a, rfl, ?_, fun j u hu => ?_⟩⟩
      · have h0 := (hE 0).2 (by omega) 0 _ rfl
        have := World.block_lt_of_cell? W _ h0
        rwa [block_of_add] at this
      · have hj : j < len * 3 := by
          rcases Nat.lt_or_ge j (len * 3) with h | h
          · exact h
          · rw [List.getElem?_eq_none (by rw [filV_length, hlen]; exact h)] at hu; cases hu
        have hq : j = j / 3 * 3 + j % 3 := by omega
        have hk : j / 3 < ((List.range len).map E).length := by rw [hlen]; omega
        rw [hq, filV_at hk (j % 3) (by omega)] at hu
        rw [hq]
        exact (hE (j / 3)).2 (by omega) _ _ (by simpa using hu)
    · obtain ⟨i, _, rfl⟩ := List.mem_map.1 hf
      exact (hE i).1
set_option maxRecDepth 100000 in
theorem arg_disk (hv : Value.okWide Try.prog W .any base 47 v) (h : DataW.Trod enc Try.prog W 0 (fun _ => true) true 47 v d p) : ArgDisk W v := by
  obtain ⟨u, y0, n, rfl, hy0⟩ := open_agg1 Try.underlying47 (by kernel_rfl) Try.cellsDisk hv h
  obtain ⟨l, hl⟩ := files_read hy0
  exact ⟨u, l, rfl, hl⟩
end
end Go.Proofs.Ythjkmefbjbfonaa

/- copy onto a row of the call's own, elements of whatever size. No program in sight. -/
import Derived.Test.YtbbjkldkjndfaaaCut
import Derived.Laws.CopyRow
import Derived.Laws.CopyOwn
namespace Go.Proofs.Ytbbjkldkjndfaaa
open Go.RowKit Go.Deep

/-- f with the cells cs from o on. -/
def overF (f : Nat → Value) (o : Nat) (cs : List Value) : Nat → Value := fun j => if o ≤ j ∧ j < o + cs.length then cs.getD (j - o) undef else f j
theorem setRow_rowIs {w : World} {g N o : Nat} {t : TypeId} {cur : Array Value} {f : Nat → Value} {cs : List Value} (hg : w.heap[g]? = some (.cells cur t (0, 0))) (hsz : cur.size = N) (hf : ∀ i, i < N → cur[i]? = some (f i)) (hfit : o + cs.length ≤ N) :
    (w.setRow g (cur.toList.take o ++ cs ++ cur.toList.drop (o + cs.length)).toArray).rowIs g t N (overF f o cs) ∧ w.grownBy (w.setRow g (cur.toList.take o ++ cs ++ cur.toList.drop (o + cs.length)).toArray) (some g) := by
  have hcl : cur.toList.length = N := by simpa using hsz
  refine ⟨⟨_, setRow_heap w g _ _ t _ hg, ?_, fun i hi => ?_⟩, ⟨rfl, rfl, rfl, by simp [World.setRow], fun k _ hne => setRow_other w g k _ (fun e => hne (by rw [e]))⟩⟩
  · simp only [List.size_toArray, List.length_append, List.length_take, List.length_drop, hcl]
    omega
  · have hci : cur.toList[i]? = some (f i) := by rw [Array.getElem?_toList]; exact hf i hi
    rw [List.getElem?_toArray]
    unfold overF
    by_cases h1 : i < o
    · rw [if_neg (by omega), List.append_assoc, List.getElem?_append_left (by rw [List.length_take, hcl]; omega), List.getElem?_take_of_lt h1]
      exact hci
    · by_cases h2 : i < o + cs.length
      · rw [if_pos ⟨by omega, h2⟩, List.append_assoc, List.getElem?_append_right (by rw [List.length_take, hcl]; omega), List.length_take, hcl, Nat.min_eq_left (by omega), List.getElem?_append_left (by omega), List.getD_eq_getElem?_getD, List.getElem?_eq_getElem (show i - o < cs.length by omega)]
        rfl
      · rw [if_neg (by omega), List.getElem?_append_right (by simp only [List.length_append, List.length_take, hcl]; omega)]
        simp only [List.length_append, List.length_take, hcl, Nat.min_eq_left (show o ≤ N by omega), List.getElem?_drop]
        rw [show o + cs.length + (i - (o + cs.length)) = i by omega]
        exact hci

section
variable {P : Program}
theorem run_copy_rowK (w : World) (dT sT ty elem : TypeId) (i : TypeInfo) (hu : P.underlying dT = some (.slice elem)) (hi : P.info? elem = some i)
    (g o dLen dCap : Nat) (a : Addr) (sLen sCap N : Nat) (t : TypeId) (f : Nat → Value) (hg : w.rowIs g t N f) (cs : List Value) (hn : cs.length = Nat.min sLen dLen * i.size)
    (hsrc : ∀ j v, cs[j]? = some v → w.cell? (a.add j) = some v) (hfit : o + cs.length ≤ N) (h1 : ∀ v ∈ cs, v.oneCell' = true) :
    ∃ w', (Builtin.copy_ #[dT, sT] ty #[.slice (some ⟨g, o, none⟩) dLen dCap, .slice (some a) sLen sCap]).run P w = .ok (goInt (Nat.min sLen dLen)) w' ∧ w'.rowIs g t N (overF f o cs) ∧ w.grownBy w' (some g) := by
  obtain ⟨cur, hgc, hsz, hf⟩ := hg
  have hl := run_loadCells_list (P := P) w a cs hsrc
  have hst := run_storeCells_at P g o t cs 0 cur w hgc (by omega) h1
  refine ⟨_, ?_, setRow_rowIs hgc hsz hf hfit⟩
  simp [Builtin.copy_, run_underlying hu, Builtin.lenOf, Builtin.firstCells, sizeOf, typeInfo, hi, ← hn, hl, hst]
theorem wp_copy_run' (w : World) {o : Oper} {a : Act} {K : Act → World → Prop} {Q : Exit → Act → World → Prop} (d s : Operand) (t t' : TypeId)
    (ho : o.op = .call { callee := .builtin .copy, args := #[d, s], argTypes := #[t, t'] }) (v u : Value) (hd : a.eval d = v) (hs : a.eval s = u) {v' : Value} {w' : World}
    (hr : (Builtin.copy_ #[t, t'] o.type #[v, u]).run P w = .ok v' w') (h : K (a.put o.dst v') w') : o.wp P a w K Q := by
  unfold Oper.wp execOp
  simp only [ho, resolve, invoke, builtin, Sem.run_bind, Sem.run_pure, Result.andThen_ok, List.map_toArray, List.map_cons, List.map_nil, hd, hs, hr]
  exact h
theorem wp_copy_rowK (w : World) {o : Oper} {a : Act} {K : Act → World → Prop} {Q : Exit → Act → World → Prop} (d s : Operand) (t t' : TypeId)
    (ho : o.op = .call { callee := .builtin .copy, args := #[d, s], argTypes := #[t, t'] }) (elem : TypeId) (i : TypeInfo) (hu : P.underlying t = some (.slice elem)) (hi : P.info? elem = some i)
    (g off dLen dCap : Nat) (hd : a.eval d = .slice (some ⟨g, off, none⟩) dLen dCap) (b : Addr) (sLen sCap : Nat) (hs : a.eval s = .slice (some b) sLen sCap) (N : Nat) (e : TypeId) (f : Nat → Value) (hg : w.rowIs g e N f)
    (cs : List Value) (hn : cs.length = Nat.min sLen dLen * i.size) (hsrc : ∀ j v, cs[j]? = some v → w.cell? (b.add j) = some v) (hfit : off + cs.length ≤ N) (h1 : ∀ v ∈ cs, v.oneCell' = true)
    (h : ∀ w', w'.rowIs g e N (overF f off cs) → w.grownBy w' (some g) → K (a.put o.dst (goInt (Nat.min sLen dLen))) w') : o.wp P a w K Q := by
  obtain ⟨w', hr, h2, h3⟩ := run_copy_rowK w t t' o.type elem i hu hi g off dLen dCap b sLen sCap N e f hg cs hn hsrc hfit h1
  exact wp_copy_run' w d s t t' ho _ _ hd hs hr (h w' h2 h3)
theorem wpList_copy_rowK (w : World) {ops : Array Oper} {rest : List Oper} {o : Oper} {a : Act} {Q : Exit → Act → World → Prop} (hgd : o.guard = none) (d s : Operand) (t t' : TypeId)
    (ho : o.op = .call { callee := .builtin .copy, args := #[d, s], argTypes := #[t, t'] }) (elem : TypeId) (i : TypeInfo) (hu : P.underlying t = some (.slice elem)) (hi : P.info? elem = some i)
    (g off dLen dCap : Nat) (hd : a.eval d = .slice (some ⟨g, off, none⟩) dLen dCap) (b : Addr) (sLen sCap : Nat) (hs : a.eval s = .slice (some b) sLen sCap) (N : Nat) (e : TypeId) (f : Nat → Value) (hg : w.rowIs g e N f)
    (cs : List Value) (hn : cs.length = Nat.min sLen dLen * i.size) (hsrc : ∀ j v, cs[j]? = some v → w.cell? (b.add j) = some v) (hfit : off + cs.length ≤ N) (h1 : ∀ v ∈ cs, v.oneCell' = true)
    (h : ∀ w', w'.rowIs g e N (overF f off cs) → w.grownBy w' (some g) → wpList P ops Q rest (a.put o.dst (goInt (Nat.min sLen dLen))) w') : wpList P ops Q (o :: rest) a w :=
  wpList_plain hgd fun _ hK => wp_copy_rowK w d s t t' ho elem i hu hi g off dLen dCap hd b sLen sCap hs N e f hg cs hn hsrc hfit h1 fun w' h2 h3 => hK _ _ (h w' h2 h3)
end
/-- A row of the call's own out of its cells. -/
theorem own_of_fun {w : World} {g base size n cap : Nat} {e : TypeId} {f : Nat → Value} {xs : List Value} (h : w.rowIs g e (cap * size) f) (hb : base ≤ g) (hn : n ≤ cap) (hm : cap ≤ maxLen) (hl : xs.length = n * size) (hx : ∀ j u, xs[j]? = some u → f j = u) :
    w.ownsRow base e size (.slice (some ⟨g, 0, none⟩) n cap) n xs := by
  have h1 := own_of_rowIs_cap h hb hn hm
  have : (List.range (n * size)).map f = xs := by
    apply List.ext_getElem?
    intro j
    by_cases hj : j < n * size
    · rw [List.getElem?_map, List.getElem?_range hj, List.getElem?_eq_getElem (by omega)]
      exact congrArg some (hx j _ (List.getElem?_eq_getElem (by omega)))
    · rw [List.getElem?_eq_none (by simp; omega), List.getElem?_eq_none (by omega)]
  rwa [this] at h1
theorem addr_add (g o j : Nat) : (⟨g, o, none⟩ : Addr).add j = ⟨g, o + j, none⟩ := by unfold Addr.add; split <;> simp_all
end Go.Proofs.Ytbbjkldkjndfaaa

/- Drawn disks: what is written, synced, moved and cut, and what is left of them. No program in sight. -/
import Derived.Test.YthjkmefbjbfonaaMoveP
import Derived.Test.YthjkmefbjbfonaaCrashP
import Derived.Test.YthjkmefbjbfonaaCutF
import Derived.Test.YthjkmefbjbfonaaMayBe
import Derived.Test.YthjkmefbjbfonaaAllSafe
namespace Go.Proofs.Ythjkmefbjbfonaa
set_option linter.unusedSimpArgs false
set_option linter.unusedVariables false
open Go.RowKit Go.ChangeShapes Go.Deep

def txLog : ByteArray := ⟨#[108, 111, 103]⟩
def txMark : ByteArray := ⟨#[109, 97, 114, 107]⟩
def txNext : ByteArray := ⟨#[110, 101, 120, 116]⟩
def txX : ByteArray := ⟨#[120]⟩
def txNope : ByteArray := ⟨#[110, 111, 112, 101]⟩
def names4 : List ByteArray := [txLog, txMark, txNext, txX]
theorem names4_nodup : names4.Nodup := by decide
theorem names4_ok : ∀ n ∈ names4, nmOk n = true := by decide
theorem mem_names4 {x : ByteArray} : x ∈ names4 ↔ x = txLog ∨ x = txMark ∨ x = txNext ∨ x = txX := by simp [names4]
theorem nope_names4 : txNope ∉ names4 := fun h => by rw [mem_names4] at h; revert h; decide
theorem log_mark : ¬ txLog = txMark := by decide
/-- What is drawn. -/
structure DrawnDisk (d : List Fil) : Prop where
  names : (namesOf d).Sublist names4
  files : ∀ f ∈ d, f.data.size ≤ 8 ∧ 0 ≤ f.safe ∧ f.safe ≤ f.data.size
section
variable {d : List Fil}
theorem DrawnDisk.nodup (h : DrawnDisk d) : (namesOf d).Nodup := h.names.nodup names4_nodup
theorem DrawnDisk.good (h : DrawnDisk d) : ∀ f ∈ d, FilGood f := fun f hf => by
  obtain ⟨h1, h2, h3⟩ := h.files f hf
  exact ⟨names4_ok _ (h.names.subset (List.mem_map.2 ⟨f, hf, rfl⟩)), by omega, h2, h3⟩
theorem DrawnDisk.four (h : DrawnDisk d) : d.length ≤ 4 := by have := h.names.length_le; simpa [namesOf, names4] using this
theorem DrawnDisk.ok (h : DrawnDisk d) : diskOkR d = true := diskOk_iff.2 ⟨h.four, h.good, h.nodup⟩
theorem DrawnDisk.room (h : DrawnDisk d) (hn : txLog ∉ namesOf d) : d.length ≤ 3 := by
  rcases List.sublist_cons_iff.1 h.names with h1 | ⟨r, e, _⟩
  · have := h1.length_le; simpa [namesOf] using this
  · rw [e] at hn
    exact absurd (List.mem_cons_self ..) hn
theorem DrawnDisk.nope (h : DrawnDisk d) : ¬ atF txNope d < d.length := atF_none.2 fun hm => nope_names4 (h.names.subset hm)
end

theorem read_mem {d : List Fil} (h : (namesOf d).Nodup) {f : Fil} (hf : f ∈ d) : readFileR d f.name = f.data := by
  obtain ⟨j, hj, rfl⟩ := List.mem_iff_getElem.1 hf
  have e := atF_nodup h hj
  unfold readFileR
  rw [dif_pos (by omega)]
  simp only [e]
theorem read_none {d : List Fil} {nm : ByteArray} (h : nm ∉ namesOf d) : readFileR d nm = noText := by
  unfold readFileR
  rw [dif_neg (atF_none.2 h)]
theorem set_ok {l : List Fil} {k : Nat} {y : Fil} (h : diskOkR l = true) (hk : k < l.length) (hy : y.name = l[k].name) (hg : FilGood y) : diskOkR (l.set k y) = true := by
  obtain ⟨h1, h2, h3⟩ := diskOk_iff.1 h
  refine diskOk_iff.2 ⟨by rw [List.length_set]; exact h1, fun f hf => ?_, by rw [namesOf_set hk hy]; exact h3⟩
  rcases List.mem_or_eq_of_mem_set hf with h | rfl
  · exact h2 f h
  · exact hg

/-- The log's file, and what the law does with it. -/
structure Logged (a : List Fil) (k : Nat) : Prop where
  ok : diskOkR a = true
  lt : k < a.length
  name : a[k].name = txLog
  some_ : 1 ≤ a[k].data.size
section
variable {a : List Fil} {k : Nat}
theorem Logged.at_ (h : Logged a k) : atF txLog a = k := by have := ok_at h.ok h.lt; rwa [h.name] at this
theorem Logged.nodup (h : Logged a k) : (namesOf a).Nodup := (diskOk_iff.1 h.ok).2.2
theorem Logged.goodk (h : Logged a k) : FilGood (a[k]'h.lt) := (diskOk_iff.1 h.ok).2.1 _ (List.getElem_mem h.lt)
theorem Logged.read (h : Logged a k) : readFileR a txLog = (a[k]'h.lt).data := by rw [← h.name]; exact read_mem h.nodup (List.getElem_mem h.lt)
theorem Logged.sync1 (h : Logged a k) : syncFileR1 a txLog = true := by
  rw [syncFileR1, h.at_, decide_eq_true h.lt, h.ok]; rfl
theorem Logged.sync0 (h : Logged a k) : syncFileR0 a txLog = a.set k (synced (a[k]'h.lt)) := by
  have e := h.at_
  unfold syncFileR0
  rw [dif_pos (by rw [e]; exact h.lt), if_pos h.ok]
  simp only [e]
theorem Logged.synced_ (h : Logged a k) : Logged (syncFileR0 a txLog) k ∧ ∃ hl : k < (syncFileR0 a txLog).length, (syncFileR0 a txLog)[k] = synced (a[k]'h.lt) := by
  rw [h.sync0]
  have hl : k < (a.set k (synced (a[k]'h.lt))).length := by rw [List.length_set]; exact h.lt
  have e : (a.set k (synced (a[k]'h.lt)))[k] = synced (a[k]'h.lt) := by simp
  have g := h.goodk
  refine ⟨⟨set_ok h.ok h.lt rfl ⟨g.1, g.2.1, ?_, ?_⟩, hl, ?_, ?_⟩, hl, e⟩
  · show (0 : Int) ≤ ((a[k]'h.lt).data.size : Int); omega
  · show ((a[k]'h.lt).data.size : Int) ≤ ((a[k]'h.lt).data.size : Int); omega
  · rw [e]; exact h.name
  · rw [e]; exact h.some_
theorem Logged.early (h : Logged a k) (hs : (a[k]'h.lt).safe < ((a[k]'h.lt).data.size : Int)) (b : ByteArray) : moveFileR1 a txLog b = false := by
  have e := h.at_
  unfold moveFileR1
  rw [dif_pos (by rw [e]; exact h.lt)]
  simp only [e]
  rw [decide_eq_false (p := (a[k]'h.lt).safe = _) (by omega), Bool.and_false]
theorem Logged.move1 (h : Logged a k) (hs : (a[k]'h.lt).safe = ((a[k]'h.lt).data.size : Int)) : moveFileR1 a txLog txMark = true := by
  have e := h.at_
  unfold moveFileR1
  rw [dif_pos (by rw [e]; exact h.lt)]
  simp only [e]
  rw [decide_eq_true hs, h.ok, decide_eq_true log_mark, names4_ok txMark (mem_names4.2 (.inr (.inl rfl)))]
  rfl
theorem Logged.move0 (h : Logged a k) (hs : (a[k]'h.lt).safe = ((a[k]'h.lt).data.size : Int)) : moveFileR0 a txLog txMark = movedL a k (a[k]'h.lt) txMark := by
  have e := h.at_
  unfold moveFileR0
  rw [dif_pos (by rw [e]; exact h.lt), if_pos (h.move1 hs)]
  simp only [e]
theorem nodup_moved {l : List ByteArray} (h : l.Nodup) {k p : Nat} {b : ByteArray} (hp : ∀ j (hj : j < l.length), l[j] = b → j = p) : ((l.set k b).eraseIdx p).Nodup := by
  have key : ∀ i j (hi : i < (l.set k b).length) (hj : j < (l.set k b).length), i < j → i ≠ p → j ≠ p → (l.set k b)[i] ≠ (l.set k b)[j] := by
    intro i j hi hj hij h1 h2 e
    rw [List.length_set] at hi hj
    rw [List.getElem_set, List.getElem_set] at e
    by_cases e1 : k = i
    · rw [if_pos e1] at e
      by_cases e2 : k = j
      · omega
      · rw [if_neg e2] at e
        exact h2 (hp j hj e.symm)
    · rw [if_neg e1] at e
      by_cases e2 : k = j
      · rw [if_pos e2] at e
        exact h1 (hp i hi e)
      · rw [if_neg e2] at e
        exact (List.pairwise_iff_getElem.1 h) i j hi hj hij e
  refine List.pairwise_iff_getElem.2 fun i j hi hj hij e => ?_
  have hl := List.length_eraseIdx (l := l.set k b) (i := p)
  rw [List.getElem_eraseIdx, List.getElem_eraseIdx] at e
  by_cases hpl : p < (l.set k b).length
  · rw [if_pos hpl] at hl
    split at e <;> split at e
    · exact key _ _ (by omega) (by omega) hij (by omega) (by omega) e
    · exact key _ _ (by omega) (by omega) (by omega) (by omega) (by omega) e
    · omega
    · exact key _ _ (by omega) (by omega) (by omega) (by omega) (by omega) e
  · rw [if_neg hpl] at hl
    split at e <;> split at e
    · exact key _ _ (by omega) (by omega) hij (by omega) (by omega) e
    · omega
    · omega
    · omega
theorem map_erase {A B : Type} (f : A → B) : ∀ (l : List A) (p : Nat), (l.eraseIdx p).map f = (l.map f).eraseIdx p
  | [], _ => rfl
  | _ :: _, 0 => rfl
  | x :: l, p + 1 => by simp only [List.eraseIdx_cons_succ, List.map_cons, map_erase f l p]
theorem namesOf_moved (l : List Fil) (k p : Nat) (y : Fil) : namesOf ((l.set k y).eraseIdx p) = ((namesOf l).set k y.name).eraseIdx p := by
  unfold namesOf
  rw [← List.map_set]
  exact map_erase _ _ _
theorem Logged.moved (h : Logged a k) : diskOkR (movedL a k (a[k]'h.lt) txMark) = true ∧ readFileR (movedL a k (a[k]'h.lt) txMark) txMark = (a[k]'h.lt).data ∧ readFileR (movedL a k (a[k]'h.lt) txMark) txLog = noText := by
  obtain ⟨h1, h2, h3⟩ := diskOk_iff.1 h.ok
  have g := h.goodk
  have hk : k ≠ atF txMark a := fun e => by
    have h5 : atF txMark a < a.length := by rw [← e]; exact h.lt
    have := atF_name h5
    simp only [← e] at this
    rw [h.name] at this
    exact log_mark this
  have hin : ∀ f ∈ movedL a k (a[k]'h.lt) txMark, f = renF (a[k]'h.lt) txMark ∨ (f ∈ a ∧ f.name ≠ txLog) := fun f hf => by
    have hf := List.mem_of_mem_eraseIdx hf
    obtain ⟨i, hi, rfl⟩ := List.mem_iff_getElem.1 hf
    rw [List.length_set] at hi
    rw [List.getElem_set]
    by_cases e : k = i
    · rw [if_pos e]; exact .inl rfl
    · rw [if_neg e]
      refine .inr ⟨List.getElem_mem hi, fun e2 => e ?_⟩
      have := ok_at h.ok hi
      rw [e2, h.at_] at this
      exact this
  have hnd : (namesOf (movedL a k (a[k]'h.lt) txMark)).Nodup := by
    unfold movedL
    rw [namesOf_moved]
    refine nodup_moved h3 fun j hj e => ?_
    have hj' : j < a.length := by simpa [namesOf] using hj
    have e' : a[j].name = txMark := by simpa [namesOf, renF] using e
    exact (atF_of h3 hj' e').symm
  have hmem : renF (a[k]'h.lt) txMark ∈ movedL a k (a[k]'h.lt) txMark := by
    unfold movedL
    refine List.mem_eraseIdx_iff_getElem.2 ⟨k, by rw [List.length_set]; exact h.lt, hk, by simp⟩
  refine ⟨diskOk_iff.2 ⟨?_, fun f hf => ?_, hnd⟩, ?_, ?_⟩
  · have := List.length_eraseIdx_le (a.set k (renF (a[k]'h.lt) txMark)) (atF txMark a)
    rw [List.length_set] at this
    unfold movedL
    omega
  · rcases hin f hf with rfl | ⟨hf, _⟩
    · exact ⟨names4_ok txMark (mem_names4.2 (.inr (.inl rfl))), g.2⟩
    · exact h2 f hf
  · exact read_mem hnd hmem
  · refine read_none fun hm => ?_
    obtain ⟨f, hf, e⟩ := List.mem_map.1 hm
    rcases hin f hf with rfl | ⟨_, hne⟩
    · exact log_mark e.symm
    · exact hne e
theorem Logged.cut1 (h : Logged a k) : cutFileR1 a txLog 1 = true := by
  have e := h.at_
  have hs := h.some_
  unfold cutFileR1
  rw [dif_pos (by rw [e]; exact h.lt)]
  simp only [e]
  rw [h.ok, inB, decide_eq_true (by omega)]
  rfl
theorem Logged.cut0 (h : Logged a k) : cutFileR0 a txLog 1 = a.set k (cutTo (a[k]'h.lt) 1) := by
  have e := h.at_
  unfold cutFileR0
  rw [dif_pos (by rw [e]; exact h.lt), if_pos h.cut1]
  simp only [e]
theorem Logged.cut (h : Logged a k) : diskOkR (cutFileR0 a txLog 1) = true ∧ (readFileR (cutFileR0 a txLog 1) txLog).size = 1 := by
  have hs := h.some_
  have g := h.goodk
  have hz : (cutTo (a[k]'h.lt) 1).data.size = 1 := by
    show ((a[k]'h.lt).data.extract 0 (1 : Int).toNat).size = 1
    rw [ByteArray.size_extract]
    show min 1 _ - 0 = 1
    omega
  have hok : diskOkR (a.set k (cutTo (a[k]'h.lt) 1)) = true := set_ok h.ok h.lt rfl ⟨g.1, by omega, (by decide : (0 : Int) ≤ 1), by rw [hz]; exact (by decide : (1 : Int) ≤ 1)⟩
  rw [h.cut0]
  refine ⟨hok, ?_⟩
  have hm : cutTo (a[k]'h.lt) 1 ∈ a.set k (cutTo (a[k]'h.lt) 1) := List.mem_set h.lt _
  have := read_mem (diskOk_iff.1 hok).2.2 hm
  rw [show (cutTo (a[k]'h.lt) 1).name = txLog from h.name] at this
  rw [this, hz]
end

/-- What is written to a drawn disk. -/
theorem drawn_written {d : List Fil} (h : DrawnDisk d) {more : ByteArray} (h1 : 1 ≤ more.size) (h2 : more.size ≤ 20) :
    writeFileR1 d txLog more = true ∧ readFileR (writeFileR0 d txLog more) txLog = readFileR d txLog ++ more ∧ readFileR (writeFileR0 d txLog more) txMark = readFileR d txMark ∧
    ∃ k, ∃ hl : Logged (writeFileR0 d txLog more) k, (((writeFileR0 d txLog more)[k]'hl.lt).safe < (((writeFileR0 d txLog more)[k]'hl.lt).data.size : Int)) := by
  obtain ⟨B, hB⟩ : ∃ B, B = baseF d txLog := ⟨_, rfl⟩
  obtain ⟨k, hk⟩ : ∃ k, k = atF txLog d := ⟨_, rfl⟩
  have hlt : k < B.length := by rw [hB, hk]; exact baseF_lt d txLog
  have hw : writeTo d txLog more = B.set k (appF B[k] more) := by subst hB hk; rfl
  have hBf : ∀ f ∈ B, f.data.size ≤ 8 ∧ FilGood f := by
    intro f hf
    rw [hB] at hf
    unfold baseF at hf
    split at hf
    · exact ⟨(h.files f hf).1, h.good f hf⟩
    · rcases List.mem_append.1 hf with hf | hf
      · exact ⟨(h.files f hf).1, h.good f hf⟩
      · obtain rfl := List.mem_singleton.1 hf
        exact ⟨by decide, by decide, by decide, by decide, by decide⟩
  have hBn : B[k].name = txLog ∧ readFileR d txLog = B[k].data ∧ diskOkR B = true ∧ (namesOf B).Nodup ∧ readFileR B txMark = readFileR d txMark := by
    by_cases hf : atF txLog d < d.length
    · have e : B = d := by rw [hB, baseF, if_pos hf]
      subst e hk
      refine ⟨atF_name hf, ?_, h.ok, h.nodup, rfl⟩
      unfold readFileR
      rw [dif_pos hf]
    · have e : B = d ++ [(⟨txLog, noText, 0⟩ : Fil)] := by rw [hB, baseF, if_neg hf]
      have hn := atF_none.1 hf
      have hkd : k = d.length := by have := atF_le txLog d; omega
      have hBk : B[k] = ⟨txLog, noText, 0⟩ := by subst e hkd; simp
      have hnd : (namesOf B).Nodup := by
        rw [e]
        unfold namesOf
        rw [List.map_append, List.nodup_append]
        refine ⟨h.nodup, by simp, fun x hx y hy e => hn ?_⟩
        have hy' : y = txLog := by simpa using hy
        rw [← hy', ← e]
        exact hx
      have hlen : B.length ≤ 4 := by rw [e, List.length_append]; have := h.room hn; simp; omega
      refine ⟨by rw [hBk], by rw [hBk, read_none hn], diskOk_iff.2 ⟨hlen, fun f hf => (hBf f hf).2, hnd⟩, hnd, ?_⟩
      by_cases hm : txMark ∈ namesOf d
      · obtain ⟨f, hf1, hf2⟩ := List.mem_map.1 hm
        rw [← hf2, read_mem h.nodup hf1, read_mem hnd (by rw [e]; exact List.mem_append_left _ hf1)]
      · rw [read_none hm, read_none]
        rw [e]
        unfold namesOf
        rw [List.map_append, List.mem_append]
        rintro (h | h)
        · exact hm h
        · simp at h
          exact log_mark h.symm
  obtain ⟨n1, n2, n3, n4, n5⟩ := hBn
  have gB := hBf B[k] (List.getElem_mem hlt)
  have hys : (appF B[k] more).data.size = B[k].data.size + more.size := by simp [appF]
  have hok : diskOkR (B.set k (appF B[k] more)) = true := set_ok n3 hlt rfl ⟨gB.2.1, by have := gB.1; omega, gB.2.2.2.1, by have := gB.2.2.2.2; rw [hys]; show B[k].safe ≤ _; omega⟩
  have hR1 : writeFileR1 d txLog more = true := by rw [writeFileR1, h.ok, hw, hok]; rfl
  have hR0 : writeFileR0 d txLog more = B.set k (appF B[k] more) := by rw [writeFileR0, if_pos hR1, hw]
  have hnd := (diskOk_iff.1 hok).2.2
  have hnm := namesOf_set (y := appF B[k] more) hlt rfl
  rw [hR0]
  have hlen : k < (B.set k (appF B[k] more)).length := by rw [List.length_set]; exact hlt
  have hat : (B.set k (appF B[k] more))[k] = appF B[k] more := by simp
  refine ⟨hR1, ?_, ?_, k, ⟨hok, hlen, by rw [hat]; exact n1, by rw [hat, hys]; omega⟩, ?_⟩
  · have := read_mem hnd (List.mem_set hlt (appF B[k] more))
    rw [show (appF B[k] more).name = txLog from n1] at this
    rw [this, n2]
    rfl
  · rw [← n5]
    by_cases hm : txMark ∈ namesOf B
    · obtain ⟨f, hf1, hf2⟩ := List.mem_map.1 hm
      rw [← hf2, read_mem n4 hf1, read_mem hnd ?_]
      obtain ⟨j, hj, rfl⟩ := List.mem_iff_getElem.1 hf1
      refine List.mem_iff_getElem.2 ⟨j, by rw [List.length_set]; exact hj, ?_⟩
      rw [List.getElem_set, if_neg]
      intro e
      subst e
      rw [n1] at hf2
      exact log_mark hf2
    · rw [read_none hm, read_none (by rw [hnm]; exact hm)]
  · rw [hat, hys]
    show B[k].safe < _
    have := gB.2.2.2.2
    omega

/-- What is left. -/
theorem left_good {x : Fil} (h : FilGood x) (m : Int) : (leftF x m).name = x.name ∧ x.safe ≤ (leftF x m).safe ∧ (leftF x m).safe ≤ x.data.size ∧ (leftF x m).safe = ((leftF x m).data.size : Int) ∧ (leftF x m).data = x.data.extract 0 (leftF x m).data.size := by
  obtain ⟨h1, h2, h3, h4⟩ := h
  have hb := brought_in (n := m) (a := 0) (b := (x.data.size : Int) - x.safe) (by omega)
  have e : (leftF x m).data.size = (x.safe + broughtR m 0 ((x.data.size : Int) - x.safe)).toNat := by
    show (x.data.extract 0 _).size = _
    rw [ByteArray.size_extract]
    omega
  refine ⟨rfl, ?_, ?_, ?_, ?_⟩
  · show x.safe ≤ x.safe + _; omega
  · show x.safe + _ ≤ _; omega
  · rw [e]; show x.safe + _ = _; omega
  · rw [e]; rfl
theorem left_pair {x : Fil} (h : FilGood x) (m : Int) : pairB x (leftF x m) = true := by
  obtain ⟨h1, h2, h3, h4, h5⟩ := left_good h m
  unfold pairB prefB
  rw [decide_eq_true h1, decide_eq_true (by omega), decide_eq_true (by omega), decide_eq_true h5.symm, decide_eq_true h4]
  rfl
theorem left_whole {x : Fil} (h0 : 0 ≤ x.safe) (h : x.safe = (x.data.size : Int)) (m : Int) : leftF x m = x := by
  have hb : broughtR m 0 ((x.data.size : Int) - x.safe) = 0 := by rw [h, Int.sub_self]; unfold broughtR; split <;> (try split) <;> omega
  unfold leftF
  simp only [hb, Int.add_zero]
  obtain ⟨a, b, c⟩ := x
  simp only at h ⊢
  congr 1
  rw [h, Int.toNat_natCast]
  exact ByteArray.extract_zero_size
theorem left_none {x : Fil} (h : FilGood x) : leftF x 0 = ⟨x.name, x.data.extract 0 x.safe.toNat, x.safe⟩ := by
  unfold leftF
  simp only [brought_zero (show (0 : Int) ≤ (x.data.size : Int) - x.safe by have := h.2.2.2; omega), Int.add_zero]
theorem pairs_iff : ∀ {d l : List Fil}, l.length = d.length → (pairs d l = true ↔ ∀ j (h : j < d.length) (h' : j < l.length), pairB d[j] l[j] = true)
  | [], [], _ => ⟨fun _ j h => absurd h (Nat.not_lt_zero _), fun _ => rfl⟩
  | x :: d, y :: l, e => by
    rw [pairs, Bool.and_eq_true, pairs_iff (d := d) (l := l) (by simpa using e)]
    constructor
    · rintro ⟨h1, h2⟩ j h h'
      cases j with
      | zero => exact h1
      | succ j => exact h2 j (by simpa using h) (by simpa using h')
    · intro h
      exact ⟨h 0 (by simp) (by simp), fun j hj hj' => h (j + 1) (by simpa using hj) (by simpa using hj')⟩
section
variable {d : List Fil}
theorem crashed_eq (h : diskOkR d = true) (keep : List Int) : crashedR d keep = crashL d keep := by rw [crashedR, if_pos h]
theorem crashed_length (h : diskOkR d = true) (keep : List Int) : (crashedR d keep).length = d.length := by rw [crashed_eq h, crashL_length]
theorem crashed_at (h : diskOkR d = true) (keep : List Int) {i : Nat} (hi : i < d.length) : (crashedR d keep)[i]'(by rw [crashed_length h]; exact hi) = leftF d[i] (keep.getD i 0) := by
  simp only [crashed_eq h]
  exact crashL_at hi
theorem crashed_names (h : diskOkR d = true) (keep : List Int) : namesOf (crashedR d keep) = namesOf d := by
  refine List.ext_getElem (by simp [namesOf, crashed_length h]) fun i h1 h2 => ?_
  have hi : i < d.length := by simpa [namesOf] using h2
  simp only [namesOf, List.getElem_map, crashed_at h keep hi]
  rfl
theorem crashed_ok (h : diskOkR d = true) (keep : List Int) : diskOkR (crashedR d keep) = true := by
  obtain ⟨h1, h2, h3⟩ := diskOk_iff.1 h
  refine diskOk_iff.2 ⟨by rw [crashed_length h]; exact h1, fun f hf => ?_, by rw [crashed_names h]; exact h3⟩
  obtain ⟨i, hi, rfl⟩ := List.mem_iff_getElem.1 hf
  have hi' : i < d.length := by rwa [crashed_length h] at hi
  rw [crashed_at h keep hi']
  have g := h2 d[i] (List.getElem_mem hi')
  obtain ⟨l1, l2, l3, l4, l5⟩ := left_good g (keep.getD i 0)
  have := g.2.1
  have := g.2.2.1
  exact ⟨by rw [l1]; exact g.1, by omega, by omega, by omega⟩
theorem crashed_maybe (h : diskOkR d = true) (keep : List Int) : mayBeR d (crashedR d keep) = true := by
  rw [mayBeR, h, decide_eq_true (crashed_length h keep), (pairs_iff (crashed_length h keep)).2 fun j hj hj' => ?_]
  · rfl
  · rw [crashed_at h keep hj]
    exact left_pair ((diskOk_iff.1 h).2.1 _ (List.getElem_mem hj)) _
theorem allSafe_iff {d : List Fil} : allSafeR d = true ↔ ∀ f ∈ d, f.safe = (f.data.size : Int) := by
  unfold allSafeR
  rw [List.all_eq_true]
  constructor
  · intro h f hf; simpa using h f hf
  · intro h f hf; simpa using h f hf
theorem crashed_safe (h : diskOkR d = true) (keep : List Int) : allSafeR (crashedR d keep) = true := by
  refine allSafe_iff.2 fun f hf => ?_
  obtain ⟨i, hi, rfl⟩ := List.mem_iff_getElem.1 hf
  have hi' : i < d.length := by rwa [crashed_length h] at hi
  rw [crashed_at h keep hi']
  exact (left_good ((diskOk_iff.1 h).2.1 _ (List.getElem_mem hi')) _).2.2.2.1
theorem crashed_still (h : diskOkR d = true) (hs : allSafeR d = true) (keep : List Int) : crashedR d keep = d := by
  refine List.ext_getElem (crashed_length h keep) fun i h1 h2 => ?_
  rw [crashed_at h keep h2]
  exact left_whole ((diskOk_iff.1 h).2.1 _ (List.getElem_mem h2)).2.2.1 (allSafe_iff.1 hs _ (List.getElem_mem h2)) _
theorem crashed_twice (h : diskOkR d = true) (keep : List Int) : crashedR (crashedR d keep) keep = crashedR d keep := crashed_still (crashed_ok h keep) (crashed_safe h keep) keep
theorem crashed_nil (h : diskOkR d = true) {i : Nat} (hi : i < d.length) : ((crashedR d [])[i]'(by rw [crashed_length h]; exact hi)).data = d[i].data.extract 0 d[i].safe.toNat := by
  rw [crashed_at h [] hi]
  show (leftF d[i] 0).data = _
  rw [left_none ((diskOk_iff.1 h).2.1 _ (List.getElem_mem hi))]
theorem allSafe_nil (h : diskOkR d = true) : allSafeR d = true ↔ crashedR d [] = d := by
  constructor
  · intro hs; exact crashed_still h hs []
  · intro e
    have := crashed_safe h []
    rwa [e] at this
end
end Go.Proofs.Ythjkmefbjbfonaa

/- A file that is written: the plain facts, and diskOr's place. -/
import Derived.Test.YthjkmefbjbfonaaRowF
namespace Go.Proofs.Ythjkmefbjbfonaa
set_option linter.unusedSimpArgs false
open Go.RowKit Go.ChangeShapes Go.Deep

def appF (x : Fil) (more : ByteArray) : Fil := ⟨x.name, x.data ++ more, x.safe⟩
/-- The files with one of the name. -/
def baseF (d : List Fil) (nm : ByteArray) : List Fil := if atF nm d < d.length then d else d ++ [(⟨nm, noText, 0⟩ : Fil)]
theorem baseF_lt (d : List Fil) (nm : ByteArray) : atF nm d < (baseF d nm).length := by
  unfold baseF
  have := atF_le nm d
  split
  · assumption
  · simp; omega
def writeTo (d : List Fil) (nm more : ByteArray) : List Fil := (baseF d nm).set (atF nm d) (appF ((baseF d nm)[atF nm d]'(baseF_lt d nm)) more)
def writeFileR1 (d : List Fil) (nm more : ByteArray) : Bool := diskOkR d && diskOkR (writeTo d nm more)
def writeFileR0 (d : List Fil) (nm more : ByteArray) : List Fil := if writeFileR1 d nm more then writeTo d nm more else d
theorem writeTo_length (d : List Fil) (nm more : ByteArray) : (writeTo d nm more).length = (baseF d nm).length := by unfold writeTo; rw [List.length_set]
theorem baseF_length (d : List Fil) (nm : ByteArray) : (baseF d nm).length ≤ d.length + 1 := by unfold baseF; split <;> simp
theorem writeTo_same {d : List Fil} {nm more : ByteArray} (h : atF nm d < d.length) : writeTo d nm more = d.set (atF nm d) (appF d[atF nm d] more) := by
  have e : baseF d nm = d := by rw [baseF, if_pos h]
  unfold writeTo
  simp only [e]
theorem writeTo_new {d : List Fil} {nm more : ByteArray} (h : ¬ atF nm d < d.length) : writeTo d nm more = (d ++ [(⟨nm, noText, 0⟩ : Fil)]).set d.length (appF ⟨nm, noText, 0⟩ more) := by
  have e : baseF d nm = d ++ [(⟨nm, noText, 0⟩ : Fil)] := by rw [baseF, if_neg h]
  have e2 : atF nm d = d.length := by have := atF_le nm d; omega
  unfold writeTo
  simp only [e, e2]
  congr 1
  simp
theorem okGo_mem {D : List Fil} : ∀ {d : List Fil} {i : Nat}, okGo D i d = true → ∀ f ∈ d, f.data.size ≤ 60000 ∧ 0 ≤ f.safe ∧ f.safe ≤ f.data.size ∧ nmOk f.name = true
  | [], _, _, f, hf => by cases hf
  | x :: d, i, h, f, hf => by
    rw [okGo, Bool.and_eq_true] at h
    rcases List.mem_cons.1 hf with rfl | hf
    · have h1 := h.1
      unfold filOk at h1
      simp only [Bool.and_eq_true, decide_eq_true_eq, inB] at h1
      exact ⟨h1.1.2, h1.2.1, h1.2.2, h1.1.1.1⟩
    · exact okGo_mem h.2 f hf
theorem diskOk_mem {d : List Fil} (h : diskOkR d = true) : ∀ f ∈ d, f.data.size ≤ 60000 ∧ 0 ≤ f.safe ∧ f.safe ≤ f.data.size ∧ nmOk f.name = true := by
  rw [diskOkR, Bool.and_eq_true] at h
  exact okGo_mem h.2
theorem diskOk_four {d : List Fil} (h : diskOkR d = true) : d.length ≤ 4 := by
  rw [diskOkR, Bool.and_eq_true, decide_eq_true_eq] at h
  exact h.1
/-- What is too long makes no right disk. -/
theorem write_long {d : List Fil} {nm more : ByteArray} (h : 60000 < more.size) : diskOkR (writeTo d nm more) = false := by
  cases e : diskOkR (writeTo d nm more) with
  | false => rfl
  | true =>
    have hm : appF ((baseF d nm)[atF nm d]'(baseF_lt d nm)) more ∈ writeTo d nm more := by
      unfold writeTo
      exact List.mem_set (baseF_lt d nm) _
    have := (diskOk_mem e _ hm).1
    simp only [appF, ByteArray.size_append] at this
    omega
theorem okF_base {d : List Fil} {nm : ByteArray} (h : okF d) (hn : nm.size ≤ 9223372036854775807) : okF (baseF d nm) := by
  unfold baseF
  split
  · exact h
  · intro f hf
    rcases List.mem_append.1 hf with hf | hf
    · exact h f hf
    · obtain rfl := List.mem_singleton.1 hf
      exact ⟨hn, show (0 : Nat) ≤ 9223372036854775807 by decide⟩

set_option maxRecDepth 100000 in
theorem diskOr_any (u v : Value) (o d : List Fil) (lo : Nat) (w : World) (ho : Own_disk w lo w.heap.size u o) (hd : Rd_disk w v d) (hlo : lo ≤ w.heap.size) (hn : o.length ≤ 2000000) (hm : d.length ≤ 2000000) :
    Calls Try.prog 73 #[.agg #[u], .agg #[v]] w fun e w' => ∃ u', e = .returned (.tuple #[.agg #[u'], .bool (diskOkR o)]) ∧ Own_disk w' lo w'.heap.size u' (if diskOkR o then o else d) ∧ Below w.heap.size w w' := by
  obtain ⟨A, c, rfl⟩ := ho.form
  have HO := Lib.hid ho
  have HD := Lib.hid hd
  have COK := Lib.hid (fun W (hW : Below w.heap.size w W) => diskOk_impl (.slice A o.length c) o W (HO.out.rd.below hW) hn)
  clear ho hd
  obtain ⟨A1, c1, rfl, -, -⟩ := HD.out.1.shape
  obtain ⟨W0, hW0⟩ : ∃ W0, W0 = ((w.alloc (.cells #[.slice A o.length c] 37)).alloc (.cells #[.slice A1 d.length c1] 37)).alloc (.cells #[.slice none 0 0] 37) := ⟨_, rfl⟩
  have HW := Lib.hid hW0
  have k0 : Blk W0 w.heap.size 37 #[.slice A o.length c] := by rw [hW0]; exact ((Blk.new _ _ _).alloc _).alloc _
  have k1 : Blk W0 (w.heap.size + 1) 37 #[.slice A1 d.length c1] := by
    have q := (Blk.new (w.alloc (.cells #[.slice A o.length c] 37)) 37 #[.slice A1 d.length c1]).alloc (.cells #[.slice none 0 0] 37)
    rw [show (w.alloc (.cells #[.slice A o.length c] 37)).heap.size = w.heap.size + 1 by simp] at q
    rw [hW0]; exact q
  have k2 : Blk W0 (w.heap.size + 2) 37 #[.slice none 0 0] := by
    have q := Blk.new ((w.alloc (.cells #[.slice A o.length c] 37)).alloc (.cells #[.slice A1 d.length c1] 37)) 37 #[.slice none 0 0]
    rw [show ((w.alloc (.cells #[.slice A o.length c] 37)).alloc (.cells #[.slice A1 d.length c1] 37)).heap.size = w.heap.size + 2 by simp] at q
    rw [hW0]; exact q
  have hb0 : Below w.heap.size w W0 := by rw [hW0]; exact (by repeat first | exact Below.refl _ _ | assumption | refine Below.drew ?_ | refine below_drewN ?_ _ | refine Below.calm ?_ (by first | exact Nat.le_refl _ | (simp; done) | (simp; omega) | omega) | refine Below.alloc ?_ (by first | exact Nat.le_refl _ | (simp; done) | (simp; omega) | omega) _ | refine Below.setCell ?_ (by first | exact Nat.le_refl _ | (simp; done) | (simp; omega) | omega) _)
  have hs0 := k2.lt
  have HK0 := Lib.hid k0
  have HK1 := Lib.hid k1
  have HK2 := Lib.hid k2
  have HB0 := Lib.hid hb0
  clear k0 k1 k2 hW0
  cases hD : diskOkR o with
  | false =>
    rw [hD] at COK
    clear hD
    go_enter Try.func73, Try.ntmps73
    go_wp2_with fail
    rw [← HW.out]
    refine (COK.out _ hb0).mono ?_
    rintro e w1 ⟨rfl, hb1⟩
    have x1 := HK1.out.belowV hb1
    have p1 := x1.cell 0
    simp only [List.getElem?_toArray, List.getElem?_cons_zero] at p1
    have l1 := x1.lt
    have HK2' := Lib.hid (HK2.out.belowV hb1)
    have hw1 := hb0.trans (hb1.mono hb0.size)
    clear x1
    go_wp2_with fail
    refine (copyDisk_any _ d w1 (HD.out.below hw1) hm).mono ?_
    rintro e w2 ⟨u2, rfl, ho2, hb2⟩
    obtain ⟨A2, c2, rfl⟩ := ho2.form
    have HO2 := Lib.hid ho2
    have hw2 := hw1.trans (hb2.mono hw1.size)
    have x2 := HK2'.out.belowV hb2
    have r0 := x2.cell 0
    have r1 := x2.frozen 0
    have l2 := x2.lt
    simp only [List.getElem?_toArray, List.getElem?_cons_zero] at r0
    have hs1 := HK2'.out.lt
    clear ho2 p1 x2
    go_wp2_with fail
    refine bodyPost_ret (v := .tuple #[.agg #[.slice A2 d.length c2], .bool false]) (by simp [results, Try.results73, go_sem, r0, r1]) rfl ?_
    refine ⟨_, rfl, ?_, hw2.setCell (by simp; omega) _⟩
    have hk := Own_disk.keep HO2.out ((Part.refl (w.heap.size + 2) (w.heap.size + 3) w2).setCell (p := ⟨w.heap.size + 2, 0, none⟩) ⟨Nat.le_refl _, Nat.lt_succ_self _⟩ (.slice A2 d.length c2)) (.inr (by omega))
    exact ⟨OwnS.mono hk.1 (by omega) (by have := hk.1.2.1; exact this) (Nat.le_refl _), hk.2⟩
  | true =>
    rw [hD] at COK
    clear hD
    go_enter Try.func73, Try.ntmps73
    go_wp2_with fail
    rw [← HW.out]
    refine (COK.out _ hb0).mono ?_
    rintro e w1 ⟨rfl, hb1⟩
    have x0 := HK0.out.belowV hb1
    have p0 := x0.cell 0
    have x2 := HK2.out.belowV hb1
    have r0 := x2.cell 0
    have r1 := x2.frozen 0
    simp only [List.getElem?_toArray, List.getElem?_cons_zero] at p0 r0
    have hs1 := x2.lt
    have hw1 := hb0.trans (hb1.mono hb0.size)
    have HO1 := Lib.hid (HO.out.below hw1)
    clear x0 x2
    go_wp2_with fail
    refine bodyPost_ret (v := .tuple #[.agg #[.slice A o.length c], .bool true]) (by simp [results, Try.results73, go_sem, r0, r1]) rfl ?_
    refine ⟨_, rfl, ?_, hw1.setCell (by simp; omega) _⟩
    have hk := Own_disk.keep HO1.out ((Part.refl (w.heap.size + 2) (w.heap.size + 3) w1).setCell (p := ⟨w.heap.size + 2, 0, none⟩) ⟨Nat.le_refl _, Nat.lt_succ_self _⟩ (.slice A o.length c)) (.inl (by omega))
    exact ⟨OwnS.mono hk.1 (Nat.le_refl _) (by have := hw1.size; simp [World.setCell]; omega) (Nat.le_refl _), hk.2⟩
end Go.Proofs.Ythjkmefbjbfonaa

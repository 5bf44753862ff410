/- What the law FnFrames says, of the plain functions: bodies come back from their frames, cut or bent. Plain. -/
import Derived.Test.YthjkmefbjbfonaaFrames
import Derived.Test.YthjkmefbjbfonaaVarsFacts
namespace Go.Proofs.Ythjkmefbjbfonaa
open Go.RowKit

theorem from_add (s : ByteArray) (p a b : Nat) : from_ s p (a + b) = from_ s p a ++ from_ s (p + a) b := by
  unfold from_
  rw [List.take_add, List.drop_drop]
theorem from_split {s : ByteArray} {p n m : Nat} {x y : List UInt8} (h : from_ s p (n + m) = x ++ y) (hx : x.length = n) (hp : p + n + m ≤ s.size) : from_ s p n = x ∧ from_ s (p + n) m = y := by
  rw [from_add] at h
  exact List.append_inj h (by rw [from_length _ _ _ (by omega), hx])
theorem byteAt_from {s : ByteArray} {p k j : Nat} (h : j < k) : byteAt s (p + j) = ((from_ s p k).getD j 0).toNat := by
  rw [byteAt, from_, List.getD_eq_getElem?_getD, List.getD_eq_getElem?_getD, List.getElem?_take_of_lt h, List.getElem?_drop]
/-- A body as the draws make it. -/
def Bod (b : ByteArray) : Prop := 1 ≤ b.size ∧ b.size ≤ 100
theorem frame_list {b : ByteArray} (h : Bod b) : (frameOf b).data.toList = [UInt8.ofNat b.size] ++ ((fourOf (sumOf b : Int)).data.toList ++ b.data.toList) := by
  unfold Bod at h
  rw [frameOf, if_pos (by omega), toList_append, toList_append, varText_list _ (by omega), vt_last _ _ (by omega) (by omega), List.append_assoc]
theorem sumOf_le (b : ByteArray) : sumOf b ≤ 4294967295 := by have := sumOf_lt b; omega
theorem frame_size {b : ByteArray} (h : Bod b) : (frameOf b).size = b.size + 5 := by
  rw [← length_data, frame_list h, List.length_append, List.length_append, length_data, length_data, fourOf_len _ (sumOf_le b), List.length_singleton]
  omega
theorem frame_ne {b : ByteArray} (h : Bod b) : (frameOf b).toList ≠ [] := by
  intro e
  have h1 := frame_size h
  rw [ByteArray.toList_eq] at e
  have h2 := length_data (frameOf b)
  rw [e, List.length_nil] at h2
  omega
theorem varAt_one {s : ByteArray} {p n : Nat} (hn : n < 128) (hp : p < s.size) (hb : byteAt s p = n) : varAt s p = ((n : Int), ((p + 1 : Nat) : Int)) := by
  have hv : vtL 5 n = [UInt8.ofNat n] := vt_last _ _ (by omega) hn
  have := varAt_back s p n (by omega) (by rw [hv, List.length_singleton]; omega) (by rw [hv, List.length_singleton, from_succ s p 0 hp, hb]; simp [from_])
  rw [this, hv, List.length_singleton]
theorem frame_at {s : ByteArray} {p : Nat} {b : ByteArray} (h : Bod b) (hp : p + (b.size + 5) ≤ s.size) (he : from_ s p (b.size + 5) = (frameOf b).data.toList) : frameAt s p = (b, ((p + (b.size + 5) : Nat) : Int)) := by
  have hb := h
  unfold Bod at hb
  rw [frame_list h, show b.size + 5 = 1 + (4 + b.size) by omega] at he
  obtain ⟨e1, e2⟩ := from_split he rfl (by omega)
  obtain ⟨e3, e4⟩ := from_split e2 (by rw [length_data, fourOf_len _ (sumOf_le b)]) (by omega)
  have hby : byteAt s p = b.size := by
    have := byteAt_from (s := s) (p := p) (k := 1) (j := 0) (by omega)
    rw [e1, Nat.add_zero] at this
    rw [this]
    simp only [List.getD_cons_zero, UInt8.toNat_ofNat']
    omega
  have hv := varAt_one (by omega) (by omega) hby
  have hE : varAtE s p = ((p + 1 : Nat) : Int) := by rw [varAtE, hv]
  have hN : varAtN s p = (b.size : Int) := by rw [varAtN, hv]
  have h4 : fourAtN s (varAtE s p) = (sumOf b : Int) := by
    rw [hE, fourAtN, if_pos (by omega), Int.toNat_natCast]
    refine fourAt_of _ _ _ (sumOf_le b) fun j hj => ?_
    rw [byteAt_from hj, e3, byteAt_list]
  have hB : frameBody s p = b := by
    rw [frameBody, hE, hN, Int.toNat_natCast, Int.toNat_natCast, from_extract, show p + 1 + 4 = p + 1 + 4 from rfl, e4]
  have hno : ¬ frameNo s p := by unfold frameNo; rw [hE, hN]; omega
  rw [frameAt, if_neg hno, hB, h4, if_pos rfl, hE, hN]
  refine Prod.ext rfl ?_
  simp only
  omega

/-- All frames, one behind the other. -/
def frL (l : List ByteArray) : List UInt8 := l.flatMap fun b => (frameOf b).data.toList
def frT : List ByteArray → Nat
  | [] => 0
  | b :: r => b.size + 5 + frT r
def Bods (l : List ByteArray) : Prop := ∀ b ∈ l, Bod b
theorem frT_append : ∀ a b : List ByteArray, frT (a ++ b) = frT a + frT b
  | [], b => by simp [frT]
  | x :: a, b => by rw [List.cons_append, frT, frT, frT_append a b]; omega
theorem frT_le : ∀ l : List ByteArray, l.length ≤ frT l
  | [] => Nat.zero_le _
  | b :: r => by have := frT_le r; rw [frT, List.length_cons]; omega
theorem frL_length : ∀ {l : List ByteArray}, Bods l → (frL l).length = frT l
  | [], _ => rfl
  | b :: r, h => by
    have ih := frL_length (l := r) fun x hx => h x (List.mem_cons_of_mem _ hx)
    unfold frL at ih ⊢
    rw [List.flatMap_cons, List.length_append, ih, length_data, frame_size (h b (List.mem_cons_self ..)), frT]
theorem frL_append (a b : List ByteArray) : frL (a ++ b) = frL a ++ frL b := by simp [frL]
theorem scan_on (s : ByteArray) : ∀ (l : List ByteArray) (p f : Nat), Bods l → p + frT l ≤ s.size → from_ s p (frT l) = frL l →
    scanGo s (l.length + f) p = (l ++ (scanGo s f ((p + frT l : Nat) : Int)).1, (scanGo s f ((p + frT l : Nat) : Int)).2)
  | [], p, f, _, _, _ => by simp [frT]
  | b :: r, p, f, h, hp, he => by
    have hb := h b (List.mem_cons_self ..)
    have hr : Bods r := fun x hx => h x (List.mem_cons_of_mem _ hx)
    rw [frT] at hp
    rw [frT, frL, List.flatMap_cons] at he
    obtain ⟨e1, e2⟩ := from_split he (by rw [length_data, frame_size hb]) (by omega)
    have hf := frame_at hb (by omega) e1
    have hE : frameAtE s p = ((p + (b.size + 5) : Nat) : Int) := by rw [frameAtE, hf]
    have hB : frameAtB s p = b := by rw [frameAtB, hf]
    rw [show (b :: r).length + f = (r.length + f) + 1 by rw [List.length_cons]; omega, scanGo_on (by rw [hE]; omega), hE, hB, scan_on s r (p + (b.size + 5)) f hr (by omega) e2]
    rw [frT, show p + (b.size + 5 + frT r) = p + (b.size + 5) + frT r by omega]
    rfl
theorem scanGo_ge (s : ByteArray) : ∀ (f : Nat) (p : Int), p ≤ (scanGo s f p).2
  | 0, p => Int.le_refl _
  | f + 1, p => by
    by_cases h : frameAtE s p < 0
    · rw [scanGo_stop h]; exact Int.le_refl _
    · rw [scanGo_on h]
      have h1 := scanGo_ge s f (frameAtE s p)
      have h2 := frameAt_bd s p
      show p ≤ (scanGo s f (frameAtE s p)).2
      omega
theorem frame_end (s : ByteArray) (p : Nat) (h : s.size ≤ p) : frameAtE s p < 0 := by
  have := frameAt_bd s p
  omega
/-- Of a text that begins with frames. -/
theorem scan_begin {s : ByteArray} {l : List ByteArray} (hs : s.size ≤ 60000) (h : Bods l) (hp : frT l ≤ s.size) (he : from_ s 0 (frT l) = frL l) :
    ∃ f, scanL s = l ++ (scanGo s f (frT l : Nat)).1 ∧ scanE s = (scanGo s f (frT l : Nat)).2 := by
  have h1 := frT_le l
  refine ⟨s.size + 1 - l.length, ?_⟩
  have h2 := scan_on s l 0 (s.size + 1 - l.length) h (by omega) he
  rw [show l.length + (s.size + 1 - l.length) = s.size + 1 by omega, Nat.zero_add] at h2
  obtain ⟨h3, h4⟩ := scan_from hs
  rw [h3, h4]
  have h5 : ((0 : Nat) : Int) = 0 := rfl
  rw [h5] at h2
  rw [h2]
  exact ⟨rfl, rfl⟩
theorem list_extract (s : ByteArray) (a b : Nat) : (s.extract a b).data.toList = (s.data.toList.drop a).take (b - a) := by simp
theorem from_cut (s : ByteArray) {k p m : Nat} (h : p + m ≤ k) : from_ (s.extract 0 k) p m = from_ s p m := by
  unfold from_
  rw [list_extract, List.drop_zero, Nat.sub_zero, List.drop_take, List.take_take, Nat.min_eq_left (by omega)]
theorem from_bent (s t : ByteArray) {k p m : Nat} (hk : k ≤ s.size) (h : p + m ≤ k) : from_ (s.extract 0 k ++ t) p m = from_ s p m := by
  rw [← from_cut s h]
  unfold from_
  have hl : (s.extract 0 k).data.toList.length = k := by rw [list_extract, List.length_take, List.drop_zero, length_data]; omega
  rw [toList_append, List.drop_append_of_le_length (by omega), List.take_append_of_le_length (by rw [List.length_drop]; omega)]

/-- The text of all frames. -/
def frS (l : List ByteArray) : ByteArray := ⟨(frL l).toArray⟩
theorem frS_size {l : List ByteArray} (h : Bods l) : (frS l).size = frT l := by rw [frS, size_mk, frL_length h]
theorem framesGo_eq : ∀ (l : List ByteArray) (acc : List UInt8), Bods l → acc.length + frT l ≤ 60000 → framesGo l acc = ⟨(acc ++ frL l).toArray⟩
  | [], acc, _, _ => by simp [framesGo, frL]
  | b :: r, acc, h, hl => by
    have hb := h b (List.mem_cons_self ..)
    rw [frT] at hl
    rw [framesGo, if_neg (by rw [frame_size hb]; have := frame_ne hb; simp only [this, false_or]; omega), framesGo_eq r _ (fun x hx => h x (List.mem_cons_of_mem _ hx)) (by rw [List.length_append, length_data, frame_size hb]; omega), List.append_assoc]
    rfl
theorem framesOf_eq {l : List ByteArray} (h : Bods l) (hl : frT l ≤ 60000) : framesOf l = frS l := by
  rw [framesOf, framesGo_eq l [] h (by simpa using hl), List.nil_append]; rfl
theorem from_whole {l : List ByteArray} (h : Bods l) (n : Nat) : from_ (frS l) 0 (frT (l.take n)) = frL (l.take n) := by
  have h1 : (frS l).data.toList = frL (l.take n) ++ frL (l.drop n) := by rw [← frL_append, List.take_append_drop]; rfl
  have h2 : Bods (l.take n) := fun x hx => h x (List.mem_of_mem_take hx)
  rw [from_, h1, List.drop_zero, ← frL_length h2, List.take_left']
  rfl
theorem from_next {l : List ByteArray} (h : Bods l) {n : Nat} (hn : n < l.length) : from_ (frS l) (frT (l.take n)) (l[n].size + 5) = (frameOf l[n]).data.toList := by
  have h1 := from_whole h (n + 1)
  have h2 : l.take (n + 1) = l.take n ++ [l[n]] := by rw [List.take_succ_eq_append_getElem hn]
  have hb := h l[n] (List.getElem_mem hn)
  have h3 : Bods (l.take n) := fun x hx => h x (List.mem_of_mem_take hx)
  have h4 : frT (l.take (n + 1)) ≤ (frS l).size := by
    rw [frS_size h]
    have := frT_append (l.take (n + 1)) (l.drop (n + 1))
    rw [List.take_append_drop] at this
    omega
  rw [h2, frT_append, frL_append] at h1
  rw [h2, frT_append] at h4
  have h5 : frT [l[n]] = l[n].size + 5 := by simp [frT]
  have h6 : frL [l[n]] = (frameOf l[n]).data.toList := by simp [frL]
  rw [h5] at h1 h4
  rw [h6] at h1
  have := (from_split h1 (frL_length h3) (by omega)).2
  rwa [Nat.zero_add] at this
theorem scan_whole {l : List ByteArray} (h : Bods l) (hl : frT l ≤ 60000) : scanL (frS l) = l ∧ scanE (frS l) = ((frS l).size : Int) := by
  have hsz := frS_size h
  have h0 := from_whole h l.length
  rw [List.take_length] at h0
  obtain ⟨f, h1, h2⟩ := scan_begin (s := frS l) (by omega) h (by omega) h0
  have h3 := frame_end (frS l) (frT l) (by omega)
  rw [h1, h2, scanGo_stop h3, hsz]
  exact ⟨by simp, rfl⟩
theorem frT_take_le {l : List ByteArray} {n : Nat} (hn : n < l.length) : frT (l.take n) + (l[n].size + 5) ≤ frT l := by
  have h2 : l.take (n + 1) = l.take n ++ [l[n]] := by rw [List.take_succ_eq_append_getElem hn]
  have := frT_append (l.take (n + 1)) (l.drop (n + 1))
  rw [List.take_append_drop, h2, frT_append] at this
  simp only [frT] at this
  omega
theorem frT_take_succ {l : List ByteArray} {n : Nat} (hn : n < l.length) : frT (l.take (n + 1)) = frT (l.take n) + (l[n].size + 5) := by
  rw [List.take_succ_eq_append_getElem hn, frT_append]; simp [frT]
theorem scan_cut {l : List ByteArray} (h : Bods l) (hl : frT l ≤ 60000) {n k : Nat} (hn : n < l.length) (h1 : frT (l.take n) ≤ k) (h2 : k < frT (l.take n) + (l[n].size + 5)) :
    scanL ((frS l).extract 0 k) = l.take n ∧ scanE ((frS l).extract 0 k) = (frT (l.take n) : Nat) := by
  have hsz := frS_size h
  have hle := frT_take_le hn
  have hcs : ((frS l).extract 0 k).size = k := by rw [size_extract' (by omega)]; omega
  have hb := h l[n] (List.getElem_mem hn)
  have hB := hb
  unfold Bod at hB
  have h3 : Bods (l.take n) := fun x hx => h x (List.mem_of_mem_take hx)
  obtain ⟨f, e1, e2⟩ := scan_begin (s := (frS l).extract 0 k) (by omega) h3 (by omega) (by rw [from_cut _ (by omega)]; exact from_whole h n)
  have h4 : frameAtE ((frS l).extract 0 k) (frT (l.take n) : Nat) < 0 := by
    by_cases e : frT (l.take n) = k
    · exact frame_end _ _ (by omega)
    · have hby : byteAt ((frS l).extract 0 k) (frT (l.take n)) = l[n].size := by
        have e5 := from_next h hn
        rw [frame_list hb, show l[n].size + 5 = 1 + (l[n].size + 4) by omega] at e5
        have e6 := (from_split e5 rfl (by omega)).1
        rw [← from_cut (k := k) _ (by omega)] at e6
        have := byteAt_from (s := (frS l).extract 0 k) (p := frT (l.take n)) (k := 1) (j := 0) (by omega)
        rw [e6, Nat.add_zero] at this
        rw [this]
        simp only [List.getD_cons_zero, UInt8.toNat_ofNat']
        omega
      have hv := varAt_one (by omega) (by omega) hby
      have hE : varAtE ((frS l).extract 0 k) (frT (l.take n) : Nat) = ((frT (l.take n) + 1 : Nat) : Int) := by rw [varAtE, hv]
      have hN : varAtN ((frS l).extract 0 k) (frT (l.take n) : Nat) = (l[n].size : Int) := by rw [varAtN, hv]
      have hno : frameNo ((frS l).extract 0 k) (frT (l.take n) : Nat) := by unfold frameNo; rw [hE, hN, hcs]; omega
      rw [frameAtE, frameAt, if_pos hno]
      decide
  rw [e1, e2, scanGo_stop h4]
  exact ⟨by simp, rfl⟩
theorem scan_bent {l : List ByteArray} (h : Bods l) (_ : frT l ≤ 60000) {n k : Nat} (_ : n < l.length) (h1 : frT (l.take n) ≤ k) (hk : k < (frS l).size) (t : ByteArray) (ht : ((frS l).extract 0 k ++ t).size ≤ 60000) :
    (∃ r, scanL ((frS l).extract 0 k ++ t) = l.take n ++ r) ∧ ((frT (l.take n) : Nat) : Int) ≤ scanE ((frS l).extract 0 k ++ t) := by
  have hcs : ((frS l).extract 0 k).size = k := by rw [size_extract' (by omega)]; omega
  have h3 : Bods (l.take n) := fun x hx => h x (List.mem_of_mem_take hx)
  obtain ⟨f, e1, e2⟩ := scan_begin (s := (frS l).extract 0 k ++ t) ht h3 (by rw [ByteArray.size_append]; omega) (by rw [from_bent _ _ (by omega) (by omega)]; exact from_whole h n)
  exact ⟨⟨_, e1⟩, by rw [e2]; exact scanGo_ge _ _ _⟩
theorem one_frame {l : List ByteArray} (h : Bods l) {n : Nat} (hn : n < l.length) : frameAtB (frS l) (frT (l.take n) : Nat) = l[n] ∧ frameAtE (frS l) (frT (l.take n) : Nat) = ((frT (l.take n) + (l[n].size + 5) : Nat) : Int) := by
  have := frame_at (h l[n] (List.getElem_mem hn)) (by rw [frS_size h]; exact frT_take_le hn) (from_next h hn)
  rw [frameAtB, frameAtE, this]
  exact ⟨rfl, rfl⟩
end Go.Proofs.Ythjkmefbjbfonaa

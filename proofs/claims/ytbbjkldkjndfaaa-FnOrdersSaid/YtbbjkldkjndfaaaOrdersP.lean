/- What the law FnOrders says, of the plain functions: orders, depths, ranks. Plain. -/
import Derived.Test.YtbbjkldkjndfaaaRanksP
import Derived.Test.YtbbjkldkjndfaaaInOrderP
namespace Go.Proofs.Ytbbjkldkjndfaaa
set_option linter.unusedSimpArgs false

theorem orderAt_take (E : List Edg) (n : Nat) : ∀ {m j : Nat}, j ≤ m → (orderAt E n m).take j = orderAt E n j
  | 0, j, h => by obtain rfl : j = 0 := by omega
                  rfl
  | m + 1, j, h => by
    by_cases e : j = m + 1
    · subst e; rw [List.take_of_length_le (by rw [orderAt_length]; exact Nat.le_refl _)]
    · rw [orderAt, List.take_append_of_le_length (by rw [orderAt_length]; omega), orderAt_take E n (by omega)]
theorem orderAt_getD (E : List Edg) (n : Nat) {m k : Nat} (h : k < m) : (orderAt E n m).getD k 0 = ((nextT E n (orderAt E n k) : Nat) : Int) := by
  have h1 := orderAt_take E n (m := m) (j := k + 1) (by omega)
  have h2 : ((orderAt E n m).take (k + 1)).getD k 0 = (orderAt E n m).getD k 0 := by
    rw [List.getD_eq_getElem?_getD, List.getElem?_take_of_lt (by omega), ← List.getD_eq_getElem?_getD]
  rw [← h2, h1, orderAt, List.getD_eq_getElem?_getD, List.getElem?_append_right (by rw [orderAt_length]; exact Nat.le_refl _), orderAt_length]
  simp
theorem order_pos {E : List Edg} {n : Nat} (hi : Inside E n) (hc : cycTo E n = false) {k : Nat} (hk : k < n) : ioPos E n (orderAt E n n) k = true := by
  obtain ⟨h1, h2⟩ := orderAt_ready hi hc hk
  rw [readyB, Bool.and_eq_true] at h2
  rw [ioPos, posA, orderAt_getD E n hk, orderAt_take E n (by omega), h2.1, h2.2]
  simp [inB]
  omega
theorem order_in {E : List Edg} {n : Nat} (hi : Inside E n) (hc : cycTo E n = false) : ioTo E n (orderAt E n n) n = true := ioTo_iff.2 fun _ hk => order_pos hi hc hk
theorem order_all {E : List Edg} {n : Nat} (hi : Inside E n) (hc : cycTo E n = false) {y : Int} (h0 : 0 ≤ y) (h1 : y < n) : ∃ k, k < n ∧ (orderAt E n n).getD k 0 = y :=
  all_in (orderAt_length E n n) (fun i hi' => by have := order_pos hi hc hi'; rw [ioPos, Bool.and_eq_true] at this; exact this.1) h0 h1

/-! ### Depths -/
theorem fold_depth {t : Int} : ∀ (bs : List Int) (D : List Int), t.toNat < D.length → (∀ b ∈ bs, b.toNat ≠ t.toNat) →
    (∀ j, j ≠ t.toNat → (bs.foldl (depthStep t) D).getD j 0 = D.getD j 0) ∧ D.getD t.toNat 0 ≤ (bs.foldl (depthStep t) D).getD t.toNat 0 ∧
    (∀ b ∈ bs, D.getD b.toNat 0 + 1 ≤ (bs.foldl (depthStep t) D).getD t.toNat 0) ∧
    ((bs.foldl (depthStep t) D).getD t.toNat 0 = D.getD t.toNat 0 ∨ ∃ b ∈ bs, (bs.foldl (depthStep t) D).getD t.toNat 0 = D.getD b.toNat 0 + 1)
  | [], D, _, _ => ⟨fun _ _ => rfl, Int.le_refl _, fun _ h => (by cases h), .inl rfl⟩
  | b :: bs, D, hl, hn => by
    obtain ⟨h1, h2, h3, h4⟩ := fold_depth bs (depthStep t D b) (by rw [depthStep_length]; exact hl) (fun c hc => hn c (List.mem_cons_of_mem _ hc))
    have ht : (depthStep t D b).getD t.toNat 0 = max (D.getD t.toNat 0) (D.getD b.toNat 0 + 1) := by rw [depthStep_getD hl, if_pos rfl]
    have ho : ∀ j, j ≠ t.toNat → (depthStep t D b).getD j 0 = D.getD j 0 := fun j hj => by rw [depthStep_getD hl, if_neg hj]
    rw [List.foldl_cons]
    refine ⟨fun j hj => (h1 j hj).trans (ho j hj), by rw [ht] at h2; omega, fun c hc => ?_, ?_⟩
    · rcases List.mem_cons.1 hc with rfl | hc
      · rw [ht] at h2; omega
      · have := h3 c hc
        rwa [ho _ (hn c (List.mem_cons_of_mem _ hc))] at this
    · rcases h4 with h4 | ⟨c, hc, h4⟩
      · rw [ht] at h4
        rcases Int.le_total (D.getD t.toNat 0) (D.getD b.toNat 0 + 1) with h5 | h5
        · exact .inr ⟨b, List.mem_cons_self .., by omega⟩
        · exact .inl (by omega)
      · rw [ho _ (hn c (List.mem_cons_of_mem _ hc))] at h4
        exact .inr ⟨c, List.mem_cons_of_mem _ hc, h4⟩
/-- The depth of t is right. -/
def DepAt (E : List Edg) (n : Nat) (D : List Int) (t : Int) : Prop := (∀ b ∈ beforeTo E t n, D.getD b.toNat 0 + 1 ≤ D.getD t.toNat 0) ∧ (D.getD t.toNat 0 = 0 ∨ ∃ b ∈ beforeTo E t n, D.getD t.toNat 0 = D.getD b.toNat 0 + 1)
theorem depthAt_at {E : List Edg} {n : Nat} (hi : Inside E n) (hc : cycTo E n = false) : ∀ {j : Nat}, j ≤ n →
    (∀ k, k < j → DepAt E n (depthAt E n j) ((orderAt E n n).getD k 0)) ∧ (∀ y : Nat, (y : Int) ∉ orderAt E n j → (depthAt E n j).getD y 0 = 0)
  | 0, _ => ⟨fun k hk => absurd hk (by omega), fun y _ => by rw [depthAt, List.getD_eq_getElem?_getD, List.getElem?_replicate]; split <;> rfl⟩
  | j + 1, hj => by
    obtain ⟨h1, h2⟩ := depthAt_at hi hc (j := j) (by omega)
    obtain ⟨hr1, hr2⟩ := orderAt_ready hi hc (j := j) (by omega)
    rw [readyB, Bool.and_eq_true] at hr2
    have hrn : ((nextT E n (orderAt E n j) : Nat) : Int) ∉ orderAt E n j := hasB_false.1 (by simpa using hr2.1)
    have hra := allB_true.1 hr2.2
    obtain ⟨s, hs⟩ : ∃ s, s = nextT E n (orderAt E n j) := ⟨_, rfl⟩
    have hO : (orderAt E n n).getD j 0 = (s : Int) := by rw [orderAt_getD E n (by omega), hs]
    rw [← hs] at hr1 hrn hra
    have hD : depthAt E n (j + 1) = (beforeTo E s n).foldl (depthStep s) (depthAt E n j) := by rw [depthAt, hO, depthIn, List.take_of_length_le (Nat.le_refl _)]
    have hbn : ∀ b ∈ beforeTo E s n, b.toNat ≠ (s : Int).toNat := fun b hb e => by
      have hbd := beforeTo_mem hb
      have : b = s := by omega
      subst this
      exact cycTo_false hc s hr1 (.one ((beforeTo_iff hi).1 hb))
    obtain ⟨f1, f2, f3, f4⟩ := fold_depth (t := (s : Int)) (beforeTo E s n) (depthAt E n j) (by rw [depthAt_length]; omega) hbn
    rw [← hD] at f1 f2 f3 f4
    have hz := h2 s hrn
    have hmem : ∀ k, k < j → (orderAt E n n).getD k 0 ∈ orderAt E n j := fun k hk => by
      rw [← orderAt_take E n (m := n) (j := j) (by omega)]
      exact mem_take_getD hk (by rw [orderAt_length]; omega)
    have hnon : ∀ y ∈ orderAt E n j, y.toNat ≠ (s : Int).toNat := fun y hy e => by
      have := orderAt_mem hi hc (j := j) (by omega) y hy
      have : y = s := by omega
      exact hrn (this ▸ hy)
    refine ⟨fun k hk => ?_, fun y hy => ?_⟩
    · by_cases e : k = j
      · subst e
        rw [hO]
        have he : ∀ b ∈ beforeTo E s n, (depthAt E n (k + 1)).getD b.toNat 0 = (depthAt E n k).getD b.toNat 0 := fun b hb => f1 _ (hbn b hb)
        refine ⟨fun b hb => by rw [he b hb]; exact f3 b hb, ?_⟩
        rcases f4 with f4 | ⟨b, hb, f4⟩
        · exact .inl (by rw [f4]; simpa using hz)
        · exact .inr ⟨b, hb, by rw [he b hb]; exact f4⟩
      · obtain ⟨g1, g2⟩ := h1 k (by omega)
        have hk' := hmem k (by omega)
        have ht := f1 _ (hnon _ hk')
        have hpos := order_pos hi hc (k := k) (by omega)
        rw [ioPos, Bool.and_eq_true, allB_true] at hpos
        have hb' : ∀ b ∈ beforeTo E ((orderAt E n n).getD k 0) n, (depthAt E n (j + 1)).getD b.toNat 0 = (depthAt E n j).getD b.toNat 0 := fun b hb => by
          refine f1 _ (hnon b ?_)
          have h3 := hpos.2 b hb
          rw [orderAt_take E n (by omega)] at h3
          rw [← orderAt_take E n (m := j) (j := k) (by omega)] at h3
          exact List.mem_of_mem_take h3
        refine ⟨fun b hb => by rw [hb' b hb, ht]; exact g1 b hb, ?_⟩
        rw [ht]
        rcases g2 with g2 | ⟨b, hb, g2⟩
        · exact .inl g2
        · exact .inr ⟨b, hb, by rw [hb' b hb]; exact g2⟩
    · have hys : y ≠ s := by
        rintro rfl
        apply hy
        rw [orderAt, ← hs]
        simp
      have hyn : (y : Int) ∉ orderAt E n j := fun h => hy (by rw [orderAt]; exact List.mem_append_left _ h)
      rw [f1 y (by omega)]
      exact h2 y hyn
theorem depth_at {E : List Edg} {n : Nat} (hi : Inside E n) (hc : cycTo E n = false) {t : Int} (h0 : 0 ≤ t) (h1 : t < n) : DepAt E n (depthAt E n n) t := by
  obtain ⟨k, hk, rfl⟩ := order_all hi hc h0 h1
  exact (depthAt_at hi hc (Nat.le_refl n)).1 k hk
theorem depth_nonneg {E : List Edg} {n : Nat} (hi : Inside E n) (hc : cycTo E n = false) : ∀ (m : Nat) {t : Int}, anc E n t ≤ m → 0 ≤ t → t < n → 0 ≤ (depthAt E n n).getD t.toNat 0
  | m, t, hm, h0, h1 => by
    rcases (depth_at hi hc h0 h1).2 with h | ⟨b, hb, h⟩
    · omega
    · have hbd := beforeTo_mem hb
      have hlt := anc_lt hi hc ((beforeTo_iff hi).1 hb)
      match m, hm with
      | 0, hm => omega
      | m + 1, hm =>
        have := depth_nonneg hi hc m (t := b) (by omega) hbd.1 hbd.2
        omega
/-- Who is reached lies deeper. -/
theorem depth_way {E : List Edg} {n : Nat} (hi : Inside E n) (hc : cycTo E n = false) {x y : Int} (h : Way E x y) : (depthAt E n n).getD x.toNat 0 < (depthAt E n n).getD y.toNat 0 := by
  have step : ∀ {a b : Int}, Arc E a b → (depthAt E n n).getD a.toNat 0 < (depthAt E n n).getD b.toNat 0 := fun {a b} h => by
    have he := Way.ends hi (.one h)
    have := (depth_at hi hc he.2.2.1 he.2.2.2).1 a ((beforeTo_iff hi).2 h)
    omega
  induction h with
  | one a => exact step a
  | more a _ ih => exact Int.lt_trans (step a) ih
/-- No depth is left out. -/
theorem depth_down {E : List Edg} {n : Nat} (hi : Inside E n) (hc : cycTo E n = false) : ∀ (m : Nat) {t : Int}, 0 ≤ t → t < n → (depthAt E n n).getD t.toNat 0 = m → ∀ k : Nat, k ≤ m → (k : Int) ∈ depthAt E n n
  | m, t, h0, h1, hm, k, hk => by
    by_cases e : k = m
    · subst e
      rw [← hm, List.getD_eq_getElem?_getD, List.getElem?_eq_getElem (by rw [depthAt_length]; omega)]
      exact List.getElem_mem _
    · rcases (depth_at hi hc h0 h1).2 with h | ⟨b, hb, h⟩
      · omega
      · have hbd := beforeTo_mem hb
        match m, hm with
        | 0, hm => omega
        | m + 1, hm => exact depth_down hi hc m (t := b) hbd.1 hbd.2 (by omega) k (by omega)
theorem depth_lt {E : List Edg} {n : Nat} (hi : Inside E n) (hc : cycTo E n = false) {t : Int} (h0 : 0 ≤ t) (h1 : t < n) : (depthAt E n n).getD t.toNat 0 < (ranksN (depthAt E n n) : Nat) := by
  have hp := depth_nonneg hi hc _ (Nat.le_refl _) h0 h1
  obtain ⟨m, hm⟩ : ∃ m : Nat, (depthAt E n n).getD t.toNat 0 = m := ⟨_, (Int.toNat_of_nonneg hp).symm⟩
  refine Classical.byContradiction fun hn => ?_
  have h2 := depth_down hi hc m h0 h1 hm (ranksN (depthAt E n n)) (by omega)
  have h3 := hasB_false.1 (ranksN_not (depthAt E n n))
  exact h3 h2

/-! ### All ranks, one behind the other -/
def allTo (D : List Int) : Nat → List Int
  | 0 => []
  | r + 1 => allTo D r ++ rankAt D r
theorem allTo_mem {D : List Int} : ∀ {r : Nat} {y : Int}, y ∈ allTo D r ↔ 0 ≤ y ∧ y < D.length ∧ 0 ≤ D.getD y.toNat 0 ∧ D.getD y.toNat 0 < r
  | 0, y => by simp [allTo]; try omega
  | r + 1, y => by
    rw [allTo, List.mem_append, allTo_mem, rankAt_mem]
    constructor
    · rintro (⟨h1, h2, h3, h4⟩ | ⟨h1, h2, h3⟩)
      · exact ⟨h1, h2, h3, by omega⟩
      · exact ⟨h1, h2, by omega, by omega⟩
    · rintro ⟨h1, h2, h3, h4⟩
      by_cases e : D.getD y.toNat 0 = r
      · exact .inr ⟨h1, h2, e⟩
      · exact .inl ⟨h1, h2, h3, by omega⟩
def AheadD (D : List Int) (a b : Int) : Prop := D.getD a.toNat 0 < D.getD b.toNat 0 ∨ D.getD a.toNat 0 = D.getD b.toNat 0 ∧ a < b
theorem rankTo_pair (D : List Int) (r : Int) : ∀ k, (rankTo D r k).Pairwise (AheadD D)
  | 0 => List.Pairwise.nil
  | k + 1 => by
    rw [rankTo]
    split
    · rename_i h
      rw [List.pairwise_append]
      refine ⟨rankTo_pair D r k, List.pairwise_singleton _ _, fun a ha b hb => ?_⟩
      have h1 := rankTo_mem.1 ha
      simp only [List.mem_singleton] at hb
      subst hb
      exact .inr ⟨by rw [h1.2.2]; simpa using h.symm, h1.2.1⟩
    · exact rankTo_pair D r k
theorem allTo_pair (D : List Int) : ∀ r, (allTo D r).Pairwise (AheadD D)
  | 0 => List.Pairwise.nil
  | r + 1 => by
    rw [allTo, List.pairwise_append]
    refine ⟨allTo_pair D r, rankTo_pair D r _, fun a ha b hb => ?_⟩
    have h1 := allTo_mem.1 ha
    have h2 := rankAt_mem.1 hb
    exact .inl (by omega)
theorem pair_nodup {D : List Int} {l : List Int} (h : l.Pairwise (AheadD D)) : l.Nodup := h.imp fun h e => by
  subst e
  rcases h with h | h <;> omega
/-- A list that holds all tasks, the less deep ahead. -/
theorem io_of_pair {E : List Edg} {n : Nat} (hi : Inside E n) (hc : cycTo E n = false) {l : List Int} (hp : l.Pairwise (AheadD (depthAt E n n))) (hm : ∀ y, y ∈ l ↔ 0 ≤ y ∧ y < n) : l.length = n ∧ ioTo E n l n = true := by
  have hnd := pair_nodup hp
  have hl : l.length = n := by
    have h1 := nodup_len (n := n) hnd (fun x hx => (hm x).1 hx)
    have h2 := len_of_all (n := n) (l := l) (fun k hk => (hm k).2 ⟨by omega, by omega⟩)
    omega
  refine ⟨hl, ioTo_iff.2 fun k hk => ?_⟩
  have hk' : k < l.length := by omega
  have hg : l.getD k 0 = l[k] := by rw [List.getD_eq_getElem?_getD, List.getElem?_eq_getElem hk']; rfl
  have hb := (hm l[k]).1 (List.getElem_mem hk')
  have hnt : l[k] ∉ l.take k := fun h => by
    obtain ⟨i, hi', he⟩ := List.mem_take_iff_getElem.1 h
    have := (List.pairwise_iff_getElem.1 hnd) i k (by omega) hk' (by omega)
    exact this he
  rw [ioPos, posA, Bool.and_eq_true, Bool.and_eq_true, allB_true, hg]
  refine ⟨⟨by simp [inB]; omega, by rw [hasB_false.2 hnt]; rfl⟩, fun b hb' => ?_⟩
  have hbd := beforeTo_mem hb'
  obtain ⟨i, hi', he⟩ := List.getElem_of_mem ((hm b).2 hbd)
  have hw := depth_way hi hc (.one ((beforeTo_iff hi).1 hb'))
  have hik : i < k := by
    rcases Nat.lt_trichotomy i k with h | h | h
    · exact h
    · subst h; rw [he] at hw; omega
    · have := (List.pairwise_iff_getElem.1 hp) k i hk' hi' h
      rw [he] at this
      rcases this with this | this <;> omega
  rw [← he]
  exact List.mem_take_iff_getElem.2 ⟨i, by omega, rfl⟩
theorem all_order {E : List Edg} {n : Nat} (hi : Inside E n) (hc : cycTo E n = false) : (allTo (depthAt E n n) (ranksN (depthAt E n n))).length = n ∧ ioTo E n (allTo (depthAt E n n) (ranksN (depthAt E n n))) n = true := by
  refine io_of_pair hi hc (allTo_pair _ _) fun y => ?_
  rw [allTo_mem, depthAt_length]
  constructor
  · rintro ⟨h1, h2, _⟩; exact ⟨h1, h2⟩
  · rintro ⟨h1, h2⟩
    exact ⟨h1, h2, depth_nonneg hi hc _ (Nat.le_refl _) h1 h2, depth_lt hi hc h1 h2⟩
end Go.Proofs.Ytbbjkldkjndfaaa

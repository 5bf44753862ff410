/- Parts of a proof, one behind the other: Args, Within, Ints, IntsK, VarText, ArgBytes, Big. No conditions. -/
import Derived.Test.YtbbjkldkjndfaaaGA
import Derived.Test.YtbbjkldkjndfaaaRows
import Derived.WalkKit
import Derived.ProofKit
import Derived.OpenShut
import Derived.ShutString
/- What a law's walk is told of each argument: its shape and what it reads as. -/
namespace Go.Proofs.Ytbbjkldkjndfaaa
open Go.ChangeShapes Go.WideShapes Go.ChangeAt Go.RowKit Go.Deep Go.Joins
open Go.ChangeMaps (open_string shut_string)

section
variable {H : Type} {enc : TypeId × Value → H} {W : World} {base : Nat} {d : DataW H} {p : List MemPlace} {v : Value}

def ArgInt (_ : World) (v : Value) : Prop := ∃ n : Int, v = .int .i64 n ∧ (Lit.int .i64 n).wf = true
set_option maxRecDepth 100000 in
theorem arg_int (hv : Value.okWide Try.prog W .any base 3 v) (h : DataW.Trod enc Try.prog W 0 (fun _ => true) true 3 v d p) : ArgInt W v := by
  obtain ⟨n, rfl, _, _, w0⟩ := open_int Try.underlying3 hv h
  exact ⟨n, rfl, w0⟩

def ArgString (_ : World) (v : Value) : Prop := ∃ s : ByteArray, v = .string s ∧ s.size ≤ maxLen
set_option maxRecDepth 100000 in
theorem arg_string (hv : Value.okWide Try.prog W .any base 9 v) (h : DataW.Trod enc Try.prog W 0 (fun _ => true) true 9 v d p) : ArgString W v := by
  obtain ⟨s, rfl, _, _, w0⟩ := open_string Try.underlying9 hv h
  exact ⟨s, rfl, w0⟩

end
end Go.Proofs.Ytbbjkldkjndfaaa

/- A number between two, the program's word and the reference's. -/
namespace Go.Proofs.Ytbbjkldkjndfaaa
open Go.RowKit Go.ChangeShapes Go.Deep

def inB (n lo hi : Int) : Bool := decide (lo ≤ n ∧ n ≤ hi)
theorem within_b (n lo hi : Int) (w : World) : Calls Try.prog 65 #[.int .i64 n, .int .i64 lo, .int .i64 hi] w fun e w' => e = .returned (.bool (inB n lo hi)) ∧ w = w' := by
  by_cases h0 : lo ≤ n
  · by_cases h1 : n ≤ hi
    · have HR := Lib.hid (show inB n lo hi = true by unfold inB; simp; omega)
      go_enter Try.func65, Try.ntmps65
      go_wp2
      go_ret
      exact ⟨ret_bool HR.out.symm, rfl⟩
    · have HR := Lib.hid (show inB n lo hi = false by unfold inB; simp; omega)
      have h1' : decide (n ≤ hi) = false := by simp; omega
      go_enter Try.func65, Try.ntmps65
      go_wp2
      go_ret
      exact ⟨ret_bool HR.out.symm, rfl⟩
  · have HR := Lib.hid (show inB n lo hi = false by unfold inB; simp; omega)
    go_enter Try.func65, Try.ntmps65
    go_wp2
    go_ret
    exact ⟨ret_bool HR.out.symm, rfl⟩

theorem l01In_b (n lo hi : Int) (w : World) : Calls Try.prog 69 #[.int .i64 n, .int .i64 lo, .int .i64 hi] w fun e w' => e = .returned (.bool (inB n lo hi)) ∧ w = w' := by
  by_cases h0 : lo ≤ n
  · by_cases h1 : n ≤ hi
    · have HR := Lib.hid (show inB n lo hi = true by unfold inB; simp; omega)
      go_enter Try.func69, Try.ntmps69
      go_wp2
      go_ret
      exact ⟨ret_bool HR.out.symm, rfl⟩
    · have HR := Lib.hid (show inB n lo hi = false by unfold inB; simp; omega)
      have h1' : decide (n ≤ hi) = false := by simp; omega
      go_enter Try.func69, Try.ntmps69
      go_wp2
      go_ret
      exact ⟨ret_bool HR.out.symm, rfl⟩
  · have HR := Lib.hid (show inB n lo hi = false by unfold inB; simp; omega)
    go_enter Try.func69, Try.ntmps69
    go_wp2
    go_ret
    exact ⟨ret_bool HR.out.symm, rfl⟩
end Go.Proofs.Ytbbjkldkjndfaaa

/- Slices of int. -/
namespace Go.Proofs.Ytbbjkldkjndfaaa
open Go.RowKit Go.ChangeShapes

def intsV (l : List Int) : List Value := l.map (Value.int .i64)
theorem intsV_length (l : List Int) : (intsV l).length = l.length := by simp [intsV]
theorem intsV_append (a b : List Int) : intsV (a ++ b) = intsV a ++ intsV b := by simp [intsV]
theorem intsV_at {l : List Int} {i : Nat} (h : i < l.length) : (intsV l)[i]? = some (.int .i64 l[i]) := by simp [intsV, h]
theorem Try.infoI64 : (Try.prog.info? 3).map (fun i => (i.zero, i.size, i.bytes)) = some (some (.int .i64 0), 1, 8) := by kernel_rfl
end Go.Proofs.Ytbbjkldkjndfaaa

/- Slices of int: the law's own functions on these. -/
namespace Go.Proofs.Ytbbjkldkjndfaaa
open Go.RowKit Go.ChangeShapes Go.WideShapes Go.ChangeAt Go.Deep

theorem intsV_one (l : List Int) : ∀ u ∈ intsV l, u.oneCell' = true := by
  intro u hu
  obtain ⟨e, _, rfl⟩ := List.mem_map.1 hu
  rfl
/-- A cell, read. -/
theorem int_cell {w w0 : World} {b off : Nat} {l : List Int} (hb : Below w0.heap.size w0 w) (hbl : b < w0.heap.size) (hc : ∀ j u, (intsV l)[j]? = some u → w0.cell? ⟨b, off + j, none⟩ = some u) {k : Nat} (hk : k < l.length) (x : Int) (hx : x = l[k]) :
    w.cell? ⟨b, off + k, none⟩ = some (.int .i64 x) := by
  rw [hx]
  exact (hb.cell (p := ⟨b, off + k, none⟩) hbl).trans (hc k _ (intsV_at hk))


set_option maxRecDepth 100000 in
theorem eqIntS_any (v u : Value) (l : List Int) (w : World) (h1 : Rd w 1 v l.length (intsV l)) (h2 : Rd w 1 u l.length (intsV l)) :
    Calls Try.prog 50 #[v, u] w fun e w' => e = .returned (.bool true) ∧ Below w.heap.size w w' := by
  obtain ⟨A1, c1, rfl, hnc1, hcm1⟩ := h1.shape
  obtain ⟨A2, c2, rfl, hnc2, hcm2⟩ := h2.shape
  unfold maxLen at hcm1 hcm2
  go_enter Try.func50, Try.ntmps50
  go_wp2
  go_loopw [5] (fun i wr => ∃ k : Nat, k ≤ l.length ∧ i = .int .i64 k ∧ Below w.heap.size w wr) (fun i _ => l.length - (intOf i).toNat)
  case atStart => exact ⟨0, Nat.zero_le _, rfl, Below.refl _ _⟩
  case round =>
    obtain ⟨k, hk, rfl, hb⟩ := hrel
    by_cases hlt : k < l.length
    · obtain ⟨b1, o1, _, hv1, _, _, hl1, hc1⟩ := h1.form (by omega) (by omega)
      obtain ⟨b2, o2, _, hv2, _, _, hl2, hc2⟩ := h2.form (by omega) (by omega)
      have hA1 : A1 = some ⟨b1, o1, none⟩ := by injection hv1
      have hA2 : A2 = some ⟨b2, o2, none⟩ := by injection hv2
      subst hA1 hA2
      obtain ⟨x, hx⟩ : ∃ x, x = l[k] := ⟨_, rfl⟩
      have hcell1 := int_cell hb hl1 hc1 hlt x hx
      have hcell2 := int_cell hb hl2 hc2 hlt x hx
      have hb1 : b1 < wr.heap.size := Nat.lt_of_lt_of_le hl1 hb.size
      have hb2 : b2 < wr.heap.size := Nat.lt_of_lt_of_le hl2 hb.size
      have hk0 : (0 : Int) ≤ (k : Int) := by omega
      have hk1 : (k : Int) < (l.length : Int) := by omega
      clear hx hv1 hv2 hc1 hc2
      go_wp2
      first | refine wp_region_calm_on (by kernel_rfl) (by kernel_rfl) ?_ | refine wp_region_calm_lit (by kernel_rfl) (by kernel_rfl) ?_
      repeat (go_big_quiet_step (fail))
      refine wpQuiet_nil ?_
      intro _ hw'
      obtain ⟨k1, hw''⟩ := hw'
      subst hw''
      go_wp2
      go_roundw
      case rel => exact ⟨k + 1, by omega, by go_num, Below.calm hb hb.size⟩
      case measure => simp [intOf]; omega
    · go_wp2
      go_ret
      exact ⟨rfl, hb⟩

set_option maxRecDepth 100000 in
theorem heldIntS_any (v : Value) (n : Nat) (k0 : Int) (w : World) (h : Rd w 1 v n (marks mInt k0 n)) (h0 : 0 ≤ k0) (h1 : k0 ≤ 10000000) (hn : n ≤ 10000000) :
    Calls Try.prog 54 #[v, .int .i64 k0] w fun e w' => e = .returned (.int .i64 (k0 + n)) ∧ Below w.heap.size w w' := by
  obtain ⟨A1, c1, rfl, hnc1, hcm1⟩ := h.shape
  unfold maxLen at hcm1
  go_enter Try.func54, Try.ntmps54
  go_wp2
  go_loopw [5, 1] (fun i q wr => ∃ k : Nat, k ≤ n ∧ i = .int .i64 k ∧ q = .int .i64 (k0 + k) ∧ Below w.heap.size w wr) (fun i _ _ => n - (intOf i).toNat)
  case atStart => exact ⟨0, Nat.zero_le _, rfl, by go_num, Below.refl _ _⟩
  case round =>
    obtain ⟨k, hk, rfl, rfl, hb⟩ := hrel
    by_cases hlt : k < n
    · obtain ⟨b1, o1, _, hv1, _, _, hl1, hc1⟩ := h.form (by omega) (by omega)
      have hcell1 := (hb.cell (p := ⟨b1, o1 + k, none⟩) hl1).trans (hc1 k _ (marks_at mInt k0 hlt))
      unfold mInt at hcell1
      have hA1 : A1 = some ⟨b1, o1, none⟩ := by injection hv1
      subst hA1
      have hb1 : b1 < wr.heap.size := Nat.lt_of_lt_of_le hl1 hb.size
      have hk0 : (0 : Int) ≤ (k : Int) := by omega
      have hk1 : (k : Int) < (n : Int) := by omega
      clear hv1 hc1
      go_wp2
      go_roundw
      case rel => exact ⟨k + 1, by omega, by go_num, by go_num, hb⟩
      case measure => simp [intOf]; omega
    · obtain rfl : k = n := by omega
      go_wp2
      go_ret
      exact ⟨rfl, hb⟩

set_option maxRecDepth 100000 in
theorem markIntS_any (v : Value) (n base : Nat) (xs : List Value) (k0 : Int) (w : World) (h : w.ownsRow base 3 1 v n xs) (h0 : 0 ≤ k0) (h1 : k0 ≤ 10000000) (hn : n ≤ 10000000) :
    Calls Try.prog 53 #[v, .int .i64 k0] w (Marked w base 3 1 n v mInt k0) := by
  by_cases hz : n = 0
  · subst hz
    have hx : xs = [] := List.eq_nil_of_length_eq_zero (by simpa using h.1)
    subst hx
    obtain ⟨A1, c1, rfl, hnc1, hcm1⟩ := (Rd.of_own h).shape
    have H := Lib.hid h
    clear h
    go_enter Try.func53, Try.ntmps53
    go_wp2
    refine wp_loop_rounds 1 ?_
    rw [rounds_succ]
    go_wp2
    go_ret
    exact ⟨ret_int (by simp), by simpa [marks] using H.out, World.grownBy.refl _ _⟩
  · obtain ⟨g, cap, f, rfl, hg, hcap, hcm, hrow0, _⟩ := rowIs_of_own h (by omega)
    rw [Nat.mul_one] at hrow0
    unfold maxLen at hcm
    go_enter Try.func53, Try.ntmps53
    go_wp2
    go_loopw [5, 1] (fun i q wr => ∃ k : Nat, k ≤ n ∧ i = .int .i64 k ∧ q = .int .i64 (k0 + k) ∧ wr.rowIs g 3 cap (fun j => if j < k then mInt (k0 + j) else f j) ∧ w.grownBy wr (some g)) (fun i _ _ => n - (intOf i).toNat)
    case atStart => exact ⟨0, Nat.zero_le _, rfl, by go_num, hrow0.congr (fun i hi => by simp), World.grownBy.refl _ _⟩
    case round =>
      obtain ⟨k, hk, rfl, rfl, hrow, hgr⟩ := hrel
      by_cases hlt : k < n
      · have HM := Lib.hid (show mInt (k0 + k) = .int .i64 (k0 + k) from rfl)
        have hst := hrow.cell (i := k) (by omega)
        have hfz := hrow.frozen k
        generalize (if k < k then mInt (k0 + k) else f k) = y at hst
        have HROW := Lib.hid hrow
        have hk1 : (k : Int) < (cap : Int) := by omega
        clear hrow hrow0
        go_wp2
        go_roundw
        case rel =>
          refine ⟨k + 1, by omega, by go_num, by go_num, (HROW.out.set k _).congr (fun j hj => ?_), only_setCell hgr (.inl rfl) _⟩
          by_cases e : j = k
          · subst e
            rw [if_pos rfl, if_pos (by omega), HM.out]
          · rw [if_neg e]
            by_cases e2 : j < k
            · rw [if_pos e2, if_pos (by omega)]
            · rw [if_neg e2, if_neg (by omega)]
        case measure => simp [intOf]; omega
      · obtain rfl : k = n := by omega
        have HO := Lib.hid (own_of_rowIs_cap (base := base) (size := 1) (n := k) (cap := cap) (by rw [Nat.mul_one]; exact hrow) hg hcap (by unfold maxLen; omega))
        have HX := Lib.hid (show (List.range (k * 1)).map (fun j => if j < k then mInt (k0 + j) else f j) = marks mInt k0 (k * 1) by
          apply List.map_congr_left
          intro j hj
          rw [if_pos (by simpa using hj)])
        clear hrow hrow0
        go_wp2
        go_ret
        exact ⟨ret_int (by simp), by rw [← HX.out]; exact HO.out, hgr⟩

/-! ### In the words of the laws' walks -/
def cost_ints (l : List Int) : Nat := l.length
def cells_ints (l : List Int) : Nat := l.length
theorem cells_le_ints (l : List Int) : cells_ints l ≤ 4 * cost_ints l := by unfold cells_ints cost_ints; omega
def Rd_ints (w : World) (v : Value) (l : List Int) : Prop := Rd w 1 v l.length (intsV l)
def Own_ints (w : World) (lo hi : Nat) (v : Value) (l : List Int) : Prop := OwnS w lo hi 3 1 v l.length (intsV l)
def Held_ints (w : World) (lo hi : Nat) (v : Value) (l : List Int) (k : Int) : Prop := OwnS w lo hi 3 1 v l.length (marks mInt k l.length)
section
variable {w w' : World} {lo hi lo' hi' : Nat} {v : Value} {l : List Int} {k : Int}
theorem Rd_ints.shape (h : Rd_ints w v l) : ∃ A c, v = .slice A (cost_ints l) c ∧ cost_ints l ≤ c ∧ c ≤ maxLen := Rd.shape h
theorem Rd_ints.below (h : Rd_ints w v l) (hb : Below w.heap.size w w') : Rd_ints w' v l := Rd.below h hb
theorem Own_ints.rd (h : Own_ints w lo hi v l) : Rd_ints w v l := OwnS.rd h
theorem Own_ints.below (h : Own_ints w lo hi v l) (hb : Below w.heap.size w w') : Own_ints w' lo hi v l := OwnS.below h hb
theorem Own_ints.keep (h : Own_ints w lo hi v l) (hp : Part lo' hi' w w') (ha : hi ≤ lo' ∨ hi' ≤ lo) : Own_ints w' lo hi v l := OwnS.keep h hp ha
theorem Held_ints.below (h : Held_ints w lo hi v l k) (hb : Below w.heap.size w w') : Held_ints w' lo hi v l k := OwnS.below h hb
theorem Held_ints.keep (h : Held_ints w lo hi v l k) (hp : Part lo' hi' w w') (ha : hi ≤ lo' ∨ hi' ≤ lo) : Held_ints w' lo hi v l k := OwnS.keep h hp ha
end
theorem eq_ints (v u : Value) (l : List Int) (w : World) (h1 : Rd_ints w v l) (h2 : Rd_ints w u l) :
    Calls Try.prog 50 #[v, u] w fun e w' => e = .returned (.bool true) ∧ Below w.heap.size w w' := eqIntS_any v u l w h1 h2
theorem mark_ints (v : Value) (l : List Int) (lo hi : Nat) (k : Int) (w : World) (h : Own_ints w lo hi v l) (h0 : 0 ≤ k) (h1 : k ≤ 10000000) (hn : cells_ints l ≤ 10000000) :
    Calls Try.prog 53 #[v, .int .i64 k] w fun e w' => e = .returned (.int .i64 (k + ((cells_ints l : Nat) : Int))) ∧ Held_ints w' lo hi v l k ∧ Part lo hi w w' :=
  (markIntS_any v l.length lo _ k w h.1 h0 h1 hn).mono fun _ _ hm => by have := MarkedS.of h hm; rw [MarkedS, Nat.mul_one] at this; exact this
theorem held_ints (v : Value) (l : List Int) (lo hi : Nat) (k : Int) (w : World) (h : Held_ints w lo hi v l k) (h0 : 0 ≤ k) (h1 : k ≤ 10000000) (hn : cells_ints l ≤ 10000000) :
    Calls Try.prog 54 #[v, .int .i64 k] w fun e w' => e = .returned (.int .i64 (k + ((cells_ints l : Nat) : Int))) ∧ Below w.heap.size w w' :=
  heldIntS_any v l.length k w (OwnS.rd h) h0 h1 hn
open Go.RowKit
section
variable {H : Type} {enc : TypeId × Value → H} {W : World} {base : Nat} {d : DataW H} {p : List MemPlace} {v : Value}
def ArgInts (w : World) (v : Value) : Prop := ∃ l : List Int, Rd_ints w v l
set_option maxRecDepth 100000 in
theorem arg_ints (hv : Value.okWide Try.prog W .any base 28 v) (h : DataW.Trod enc Try.prog W 0 (fun _ => true) true 28 v d p) : ArgInts W v := by
  obtain ⟨a0, len, cap, rfl⟩ := okWide_slice Try.underlying28 hv
  obtain ⟨fuel, hf⟩ := h
  rcases open_ints Try.underlying28 Try.underlying3 (by kernel_rfl) hf with ⟨hcs, _⟩ | ⟨a, l, c, ss, hcs, _, hl, hm, hz, hx, hcell, hws⟩
  · simp [Value.cells] at hcs
    obtain ⟨rfl, rfl, rfl⟩ := hcs
    exact ⟨[], none, 0, rfl, Nat.le_refl _, Nat.zero_le _, Reads.none_⟩
  · simp [Value.cells] at hcs
    obtain ⟨rfl, rfl, rfl⟩ := hcs
    have hz' : ss.length = cap := by simpa using hz
    have hlen : (ss.take len).length = len := by simp; omega
    refine ⟨ss.take len, ?_⟩
    unfold Rd_ints
    rw [hlen]
    refine ⟨some a, cap, rfl, hl, hm, by rw [intsV_length, hlen, Nat.mul_one], fun hn => ⟨a, rfl, ?_, fun j u hu => ?_⟩⟩
    · have h0 := hcell 0 (by omega)
      have := World.block_lt_of_cell? W _ h0
      rwa [block_of_add] at this
    · have hj : j < len := by
        rcases Nat.lt_or_ge j len with h | h
        · exact h
        · rw [List.getElem?_eq_none (by rw [intsV_length, hlen]; exact h)] at hu; cases hu
      rw [hcell j (by omega)]
      simp only [intsV, List.getElem?_map, List.getElem?_take_of_lt hj] at hu
      rw [List.getElem?_eq_getElem (show j < ss.length by omega)] at hu
      simp at hu
      rw [← hu]
      simp [List.getD, List.getElem?_eq_getElem (show j < ss.length by omega)]
end
end Go.Proofs.Ytbbjkldkjndfaaa

/- The walks of VarText, the program's and the reference's: both return the bytes of the number. -/
namespace Go.Proofs.Ytbbjkldkjndfaaa
open Go.RowKit Go.ChangeShapes

theorem Try.infoU8 : (Try.prog.info? 5).map (fun i => (i.zero, i.size, i.bytes)) = some (some (.int .u8 0), 1, 1) := by kernel_rfl

theorem within_t (n lo hi : Int) (w : World) (h0 : lo ≤ n) (h1 : n ≤ hi) : Calls Try.prog 65 #[.int .i64 n, .int .i64 lo, .int .i64 hi] w fun e w' => e = .returned (.bool true) ∧ w = w' := by
  go_enter Try.func65, Try.ntmps65
  go_wp2
  go_ret
  exact ⟨rfl, rfl⟩
theorem within_f (n lo hi : Int) (w : World) (h : n < lo ∨ hi < n) : Calls Try.prog 65 #[.int .i64 n, .int .i64 lo, .int .i64 hi] w fun e w' => e = .returned (.bool false) ∧ w = w' := by
  by_cases h0 : lo ≤ n
  · have h1 : decide (n ≤ hi) = false := by simp; omega
    clear h
    go_enter Try.func65, Try.ntmps65
    go_wp2
    go_ret
    exact ⟨rfl, rfl⟩
  · clear h
    go_enter Try.func65, Try.ntmps65
    go_wp2
    go_ret
    exact ⟨rfl, rfl⟩
theorem l01In_t (n lo hi : Int) (w : World) (h0 : lo ≤ n) (h1 : n ≤ hi) : Calls Try.prog 69 #[.int .i64 n, .int .i64 lo, .int .i64 hi] w fun e w' => e = .returned (.bool true) ∧ w = w' := by
  go_enter Try.func69, Try.ntmps69
  go_wp2
  go_ret
  exact ⟨rfl, rfl⟩
theorem l01In_f (n lo hi : Int) (w : World) (h : n < lo ∨ hi < n) : Calls Try.prog 69 #[.int .i64 n, .int .i64 lo, .int .i64 hi] w fun e w' => e = .returned (.bool false) ∧ w = w' := by
  by_cases h0 : lo ≤ n
  · have h1 : decide (n ≤ hi) = false := by simp; omega
    clear h
    go_enter Try.func69, Try.ntmps69
    go_wp2
    go_ret
    exact ⟨rfl, rfl⟩
  · clear h
    go_enter Try.func69, Try.ntmps69
    go_wp2
    go_ret
    exact ⟨rfl, rfl⟩

end Go.Proofs.Ytbbjkldkjndfaaa

/- What a law's walk is told of a slice of bytes. -/
namespace Go.Proofs.Ytbbjkldkjndfaaa
open Go.ChangeShapes Go.WideShapes Go.ChangeAt Go.RowKit Go.Deep
section
variable {H : Type} {enc : TypeId × Value → H} {W : World} {base : Nat} {d : DataW H} {p : List MemPlace} {v : Value}
def ArgBytes (w : World) (v : Value) : Prop := ∃ code : List UInt8, Rd w 1 v code.length (bytesV code)
theorem wf_u8 {n : Int} (h : (Lit.int .u8 n).wf = true) : 0 ≤ n ∧ n < 256 := by
  have := bounds_u8 h
  omega
set_option maxRecDepth 100000 in
theorem arg_bytes (hv : Value.okWide Try.prog W .any base 22 v) (h : DataW.Trod enc Try.prog W 0 (fun _ => true) true 22 v d p) : ArgBytes W v := by
  obtain ⟨a0, len, cap, rfl⟩ := okWide_slice Try.underlying22 hv
  obtain ⟨fuel, hf⟩ := h
  rcases open_ints Try.underlying22 Try.underlying5 (by kernel_rfl) hf with ⟨hcs, _⟩ | ⟨a, l, c, zs, hcs, _, hl, hm, hz, hx, hcell, hws⟩
  · simp [Value.cells] at hcs
    obtain ⟨rfl, rfl, rfl⟩ := hcs
    exact ⟨[], none, 0, rfl, Nat.le_refl _, Nat.zero_le _, Reads.none_⟩
  · simp [Value.cells] at hcs
    obtain ⟨rfl, rfl, rfl⟩ := hcs
    have hz' : zs.length = cap := by simpa using hz
    have hlen : ((zs.take len).map fun n => UInt8.ofNat n.toNat).length = len := by simp; omega
    refine ⟨(zs.take len).map fun n => UInt8.ofNat n.toNat, ?_⟩
    rw [hlen]
    refine ⟨some a, cap, rfl, hl, hm, by rw [bytesV_length, hlen, Nat.mul_one], fun hn => ⟨a, rfl, ?_, fun j u hu => ?_⟩⟩
    · have h0 := hcell 0 (by omega)
      have := World.block_lt_of_cell? W _ h0
      rwa [block_of_add] at this
    · have hj : j < len := by
        rcases Nat.lt_or_ge j len with h | h
        · exact h
        · rw [List.getElem?_eq_none (by rw [bytesV_length, hlen]; exact h)] at hu; cases hu
      rw [hcell j (by omega)]
      have hjz : j < zs.length := by omega
      have hw := wf_u8 (hws zs[j] (List.getElem_mem hjz))
      simp only [bytesV, List.map_map, List.getElem?_map, List.getElem?_take_of_lt hj, List.getElem?_eq_getElem hjz, Option.map_some, Function.comp_apply, UInt8.toNat_ofNat'] at hu
      rw [Nat.mod_eq_of_lt (by omega), Int.toNat_of_nonneg hw.1] at hu
      rw [← hu]
      simp [List.getD, List.getElem?_eq_getElem hjz]
end
end Go.Proofs.Ytbbjkldkjndfaaa

/- The laws' own test of a code's length. -/
namespace Go.Proofs.Ytbbjkldkjndfaaa
open Go.RowKit Go.ChangeShapes

set_option maxRecDepth 100000 in
theorem big_t (w : World) (v : Value) (code : List UInt8) (h : Rd w 1 v code.length (bytesV code)) (hn : 1048576 < code.length) : Calls Try.prog 11 #[v] w fun e w' => e = .returned (.bool true) ∧ w = w' := by
  obtain ⟨A, cp, rfl, hnc, hcm⟩ := h.shape
  have t0 : decide ((1048576 : Int) < (code.length : Int)) = true := by simp; omega
  clear h
  go_enter Try.func11, Try.ntmps11
  go_wp2
  go_ret
  exact ⟨rfl, rfl⟩
set_option maxRecDepth 100000 in
theorem big_f (w : World) (v : Value) (code : List UInt8) (h : Rd w 1 v code.length (bytesV code)) (hn : code.length ≤ 1048576) : Calls Try.prog 11 #[v] w fun e w' => e = .returned (.bool false) ∧ w = w' := by
  obtain ⟨A, cp, rfl, hnc, hcm⟩ := h.shape
  have t0 : decide ((1048576 : Int) < (code.length : Int)) = false := by simp; omega
  clear h
  go_enter Try.func11, Try.ntmps11
  go_wp2
  go_ret
  exact ⟨rfl, rfl⟩
end Go.Proofs.Ytbbjkldkjndfaaa

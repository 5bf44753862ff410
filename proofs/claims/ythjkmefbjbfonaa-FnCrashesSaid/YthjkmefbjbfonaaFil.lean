/- Files: copies, sizes and comparisons of the laws, for one file, a slice of files and a disk. -/
import Derived.Test.YthjkmefbjbfonaaOwn
import Derived.Test.YthjkmefbjbfonaaKind
import Derived.Test.YthjkmefbjbfonaaRows
import Derived.WalkKit
namespace Go.Proofs.Ythjkmefbjbfonaa
open Go.RowKit Go.ChangeShapes Go.Deep

structure Fil where
  name : ByteArray
  data : ByteArray
  safe : Int
def Fil.cs (e : Fil) : List Value := [.string e.name, .string e.data, .int .i64 e.safe]
def Fil.ok (e : Fil) : Prop := e.name.size ≤ 9223372036854775807 ∧ e.data.size ≤ 9223372036854775807
def filV (l : List Fil) : List Value := l.flatMap Fil.cs
theorem filV_length (l : List Fil) : (filV l).length = l.length * 3 := flat_length Fil.cs 3 (fun _ => rfl) l
theorem filV_at {l : List Fil} {k : Nat} (h : k < l.length) (f : Nat) (hf : f < 3) : (filV l)[k * 3 + f]? = (l[k].cs)[f]? := flat_at Fil.cs 3 (fun _ => rfl) l k h f hf
theorem filV_one (l : List Fil) : ∀ u ∈ filV l, u.oneCell' = true := by
  intro u hu
  obtain ⟨e, _, he⟩ := List.mem_flatMap.1 hu
  simp only [Fil.cs, List.mem_cons, List.not_mem_nil, or_false] at he
  rcases he with rfl | rfl | rfl <;> rfl
theorem Try.infoFil : (Try.prog.info? 44).map (fun i => (i.zero, i.size, i.bytes)) = some (some (.agg #[.string ⟨#[]⟩, .string ⟨#[]⟩, .int .i64 0]), 3, 40) := by kernel_rfl
def szF (f : Fil) : Nat := f.name.size + f.data.size
def szFs : List Fil → Nat
  | [] => 0
  | f :: r => szF f + szFs r
theorem szFs_drop {l : List Fil} {k : Nat} (h : k < l.length) : szFs (l.drop k) = szF l[k] + szFs (l.drop (k + 1)) := by rw [List.drop_eq_getElem_cons h, szFs]
theorem szF_le : ∀ {l : List Fil} {f : Fil}, f ∈ l → szF f ≤ szFs l
  | g :: r, f, h => by
    rw [szFs]
    rcases List.mem_cons.1 h with rfl | h
    · omega
    · have := szF_le h; omega
/-- The three cells of an element, read. -/
theorem fil_cells {w w0 : World} {b off : Nat} {l : List Fil} (hb : Below w0.heap.size w0 w) (hbl : b < w0.heap.size) (hc : ∀ j u, (filV l)[j]? = some u → w0.cell? ⟨b, off + j, none⟩ = some u) {k : Nat} (hk : k < l.length) (x : Fil) (hx : x = l[k]) :
    w.cell? ⟨b, off + k * 3, none⟩ = some (.string x.name) ∧ w.cell? ⟨b, off + k * 3 + 1, none⟩ = some (.string x.data) ∧ w.cell? ⟨b, off + k * 3 + 2, none⟩ = some (.int .i64 x.safe) := by
  have h := fun f hf => (hb.cell (p := ⟨b, off + (k * 3 + f), none⟩) hbl).trans (hc (k * 3 + f) _ ((filV_at hk f hf).trans (List.getElem?_eq_getElem hf)))
  rw [← hx] at h
  exact ⟨h 0 (by decide), h 1 (by decide), h 2 (by decide)⟩

set_option maxRecDepth 100000 in
theorem toFile_any (x : Fil) (w : World) : Calls Try.prog 92 #[(.agg #[.string x.name, .string x.data, .int .i64 x.safe])] w fun e w' => e = .returned (.agg #[.string x.name, .string x.data, .int .i64 x.safe]) ∧ Below w.heap.size w w' := by
  go_enter Try.func92, Try.ntmps92
  go_wp2
  exact bodyPost_ret (v := (.agg #[.string x.name, .string x.data, .int .i64 x.safe])) (by simp [results, Try.results92, go_sem]) rfl ⟨rfl, (by repeat first | exact Below.refl _ _ | assumption | refine Below.drew ?_ | refine below_drewN ?_ _ | refine Below.calm ?_ (by first | exact Nat.le_refl _ | (simp; done) | (simp; omega) | omega) | refine Below.alloc ?_ (by first | exact Nat.le_refl _ | (simp; done) | (simp; omega) | omega) _ | refine Below.setCell ?_ (by first | exact Nat.le_refl _ | (simp; done) | (simp; omega) | omega) _)⟩
set_option maxRecDepth 100000 in
theorem eqFile_any (x : Fil) (w : World) : Calls Try.prog 95 #[(.agg #[.string x.name, .string x.data, .int .i64 x.safe]), (.agg #[.string x.name, .string x.data, .int .i64 x.safe])] w fun e w' => e = .returned (.bool true) ∧ Below w.heap.size w w' := by
  go_enter Try.func95, Try.ntmps95
  go_wp2
  go_ret
  exact ⟨rfl, (by repeat first | exact Below.refl _ _ | assumption | refine Below.drew ?_ | refine below_drewN ?_ _ | refine Below.calm ?_ (by first | exact Nat.le_refl _ | (simp; done) | (simp; omega) | omega) | refine Below.alloc ?_ (by first | exact Nat.le_refl _ | (simp; done) | (simp; omega) | omega) _ | refine Below.setCell ?_ (by first | exact Nat.le_refl _ | (simp; done) | (simp; omega) | omega) _)⟩
set_option maxRecDepth 100000 in
theorem szFile_any (x : Fil) (left : Int) (w : World) (hx : x.ok) (h0 : 0 ≤ left) (h1 : left ≤ 1048576) :
    Calls Try.prog 91 #[(.agg #[.string x.name, .string x.data, .int .i64 x.safe]), .int .i64 left] w fun e w' => e = .returned (.int .i64 (szv left (szF x))) ∧ Below w.heap.size w w' := by
  obtain ⟨n, d, sf⟩ := x
  obtain ⟨hn, hd⟩ := hx
  simp only at hn hd
  by_cases c1 : left - n.size < 0
  · have HR := Lib.hid (show szv left (szF ⟨n, d, sf⟩) = -1 by unfold szv szF; simp only; rw [if_pos (by omega)])
    go_enter Try.func91, Try.ntmps91
    go_wp2
    go_ret
    exact ⟨ret_int HR.out.symm, (by repeat first | exact Below.refl _ _ | assumption | refine Below.drew ?_ | refine below_drewN ?_ _ | refine Below.calm ?_ (by first | exact Nat.le_refl _ | (simp; done) | (simp; omega) | omega) | refine Below.alloc ?_ (by first | exact Nat.le_refl _ | (simp; done) | (simp; omega) | omega) _ | refine Below.setCell ?_ (by first | exact Nat.le_refl _ | (simp; done) | (simp; omega) | omega) _)⟩
  · by_cases c2 : left - n.size - d.size < 0
    · have HR := Lib.hid (show szv left (szF ⟨n, d, sf⟩) = -1 by unfold szv szF; simp only; rw [if_pos (by omega)])
      go_enter Try.func91, Try.ntmps91
      go_wp2
      go_ret
      exact ⟨ret_int HR.out.symm, (by repeat first | exact Below.refl _ _ | assumption | refine Below.drew ?_ | refine below_drewN ?_ _ | refine Below.calm ?_ (by first | exact Nat.le_refl _ | (simp; done) | (simp; omega) | omega) | refine Below.alloc ?_ (by first | exact Nat.le_refl _ | (simp; done) | (simp; omega) | omega) _ | refine Below.setCell ?_ (by first | exact Nat.le_refl _ | (simp; done) | (simp; omega) | omega) _)⟩
    · have HR := Lib.hid (show szv left (szF ⟨n, d, sf⟩) = left - n.size - d.size by unfold szv szF; simp only; rw [if_neg (by omega)]; omega)
      go_enter Try.func91, Try.ntmps91
      go_wp2
      go_ret
      exact ⟨ret_int HR.out.symm, (by repeat first | exact Below.refl _ _ | assumption | refine Below.drew ?_ | refine below_drewN ?_ _ | refine Below.calm ?_ (by first | exact Nat.le_refl _ | (simp; done) | (simp; omega) | omega) | refine Below.alloc ?_ (by first | exact Nat.le_refl _ | (simp; done) | (simp; omega) | omega) _ | refine Below.setCell ?_ (by first | exact Nat.le_refl _ | (simp; done) | (simp; omega) | omega) _)⟩

set_option maxHeartbeats 1000000 in
set_option maxRecDepth 100000 in
theorem szFileS_any (v : Value) (l : List Fil) (left : Int) (w : World) (h : Rd w 3 v l.length (filV l)) (hok : ∀ f ∈ l, f.ok) (h0 : 0 ≤ left) (h1 : left ≤ 1048576) :
    Calls Try.prog 69 #[v, .int .i64 left] w fun e w' => e = .returned (.int .i64 (szv left (l.length + szFs l))) ∧ Below w.heap.size w w' := by
  obtain ⟨A, c, rfl, hnc, hcm⟩ := h.shape
  unfold maxLen at hcm
  by_cases hneg : left - l.length < 0
  · have HR := Lib.hid (show szv left (l.length + szFs l) = -1 by unfold szv; rw [if_pos (by omega)])
    go_enter Try.func69, Try.ntmps69
    go_wp2
    go_ret
    exact ⟨ret_int HR.out.symm, Below.refl _ _⟩
  · go_enter Try.func69, Try.ntmps69
    go_wp2
    go_loopw [1, 5] (fun u i wr => ∃ (k : Nat) (q : Int), k ≤ l.length ∧ i = .int .i64 k ∧ u = .int .i64 q ∧ 0 ≤ q ∧ q ≤ 1048576 ∧ Hid (q = left - l.length - ((szFs l : Int) - szFs (l.drop k))) ∧ Below w.heap.size w wr) (fun _ i _ => l.length - (intOf i).toNat)
    case atStart => exact ⟨0, left - l.length, Nat.zero_le _, rfl, rfl, by omega, by omega, Lib.hid (by simp), Below.refl _ _⟩
    case round =>
      obtain ⟨k, q, hk, rfl, rfl, hq0, hq1, hgo, hb⟩ := hrel
      by_cases hlt : k < l.length
      · obtain ⟨b, off, c', hv, _, _, hbl, hc⟩ := h.form (by omega) (by omega)
        have hA : A = some ⟨b, off, none⟩ := by injection hv
        subst hA
        obtain ⟨x, hx⟩ : ∃ x, x = l[k] := ⟨_, rfl⟩
        obtain ⟨d0, d1, d2⟩ := fil_cells hb hbl hc hlt x hx
        have hxo : x.ok := hok x (by rw [hx]; exact List.getElem_mem hlt)
        have CZ := Lib.hid (fun w => szFile_any x q w hxo hq0 hq1)
        have HD := Lib.hid (show szFs (l.drop k) = szF x + szFs (l.drop (k + 1)) by rw [szFs_drop hlt, hx])
        have hle := szF_le (l := l) (f := x) (by rw [hx]; exact List.getElem_mem hlt)
        clear hx hv hc hxo
        by_cases hq : q - szF x < 0
        · have HE := Lib.hid (show szv left (l.length + szFs l) = -1 by
            have h2 := hgo.out
            have h3 := HD.out
            have h4 : (szFs (l.drop k) : Int) ≤ szFs l := by
              have : ∀ (l : List Fil) (k : Nat), szFs (l.drop k) ≤ szFs l := fun l => by
                induction l with
                | nil => intro k; simp
                | cons a r ih => intro k; cases k with
                  | zero => simp
                  | succ k => rw [List.drop_succ_cons, szFs]; have := ih k; omega
              exact Int.ofNat_le.2 (this l k)
            unfold szv
            rw [if_pos (by omega)])
          have hz : szv q (szF x) = -1 := by unfold szv; rw [if_pos hq]
          rw [hz] at CZ
          clear hz hgo HD
          go_wp2_with fail
          refine (CZ.out _).mono ?_
          rintro e w1 ⟨rfl, hb1⟩
          go_wp2_with fail
          go_ret
          exact ⟨ret_int HE.out.symm, hb.trans (hb1.mono hb.size)⟩
        · have HG := Lib.hid (show q - szF x = left - l.length - ((szFs l : Int) - szFs (l.drop (k + 1))) by have h2 := hgo.out; have h3 := HD.out; omega)
          have hz : szv q (szF x) = q - szF x := by unfold szv; rw [if_neg hq]
          rw [hz] at CZ
          clear hz hgo HD
          go_wp2_with fail
          refine (CZ.out _).mono ?_
          rintro e w1 ⟨rfl, hb1⟩
          go_wp2_with fail
          go_roundw
          case rel => exact ⟨k + 1, q - szF x, by omega, by go_num, rfl, by omega, by omega, HG, hb.trans (hb1.mono hb.size)⟩
          case measure => simp [intOf]; omega
      · have HE := Lib.hid (show szv left (l.length + szFs l) = q by
          have h2 := hgo.out
          rw [List.drop_of_length_le (by omega), szFs] at h2
          unfold szv
          rw [if_neg (by omega)]
          omega)
        clear hgo
        go_wp2_with fail
        go_ret
        exact ⟨ret_int HE.out.symm, hb⟩

theorem fill3 {w : World} {g n : Nat} {t : TypeId} {z : Nat → Value} {l : List Fil} {k : Nat} (hk : k < l.length) (x : Fil) (hx : x = l[k]) (h : w.rowIs g t n (fun j => if j < k * 3 then (filV l).getD j undef else z j)) :
    (((w.setCell ⟨g, k * 3, none⟩ (.string x.name)).setCell ⟨g, k * 3 + 1, none⟩ (.string x.data)).setCell ⟨g, k * 3 + 2, none⟩ (.int .i64 x.safe)).rowIs g t n (fun j => if j < (k + 1) * 3 then (filV l).getD j undef else z j) :=
  (((h.set (k * 3) _).set (k * 3 + 1) _).set (k * 3 + 2) _).congr (fun j _ => by
    have e := fun f hf => filV_at hk f hf
    rw [← hx] at e
    by_cases h2 : j = k * 3 + 2
    · subst h2; rw [if_pos rfl, if_pos (by omega), List.getD_eq_getElem?_getD, e 2 (by decide)]; rfl
    rw [if_neg h2]
    by_cases h1 : j = k * 3 + 1
    · subst h1; rw [if_pos rfl, if_pos (by omega), List.getD_eq_getElem?_getD, e 1 (by decide)]; rfl
    rw [if_neg h1]
    by_cases h0 : j = k * 3
    · subst h0; rw [if_pos rfl, if_pos (by omega), List.getD_eq_getElem?_getD]; have := e 0 (by decide); rw [Nat.add_zero] at this; rw [this]; rfl
    rw [if_neg h0]
    by_cases hb : j < k * 3
    · rw [if_pos hb, if_pos (by omega)]
    · rw [if_neg hb, if_neg (by omega)])

set_option maxHeartbeats 1000000 in
set_option maxRecDepth 100000 in
theorem toFileS_any (v : Value) (l : List Fil) (w : World) (h : Rd w 3 v l.length (filV l)) (hn : l.length ≤ 1048576) :
    Calls Try.prog 71 #[v] w (MadeRow w 44 3 l.length (filV l)) := by
  obtain ⟨A, c, rfl, hnc, hcm⟩ := h.shape
  obtain ⟨i0, hi, hz0, hz1, hz2⟩ := info_parts Try.infoFil
  unfold maxLen at hcm
  have hmk := fun W => run_make_rowN (P := Try.prog) 35 44 i0 _ Try.underlying35 hi hz0 .i64 .i64 l.length l.length (Nat.le_refl _) (by rw [hz2]; omega) (by omega) W
  rw [hz1] at hmk
  obtain ⟨Z, hZ⟩ : ∃ Z : Nat → Value, Z = fun j => (#[Value.string ⟨#[]⟩, Value.string ⟨#[]⟩, Value.int .i64 0] : Array Value)[j % 3]! := ⟨_, rfl⟩
  have HZ := Lib.hid hZ
  clear hZ
  go_enter Try.func71, Try.ntmps71
  go_wp2
  clear hmk
  go_loopw [4] (fun u4 wr => ∃ k : Nat, k ≤ l.length ∧ u4 = .int .i64 k ∧ wr.rowIs w.heap.size 44 (l.length * 3) (fun j => if j < k * 3 then (filV l).getD j undef else Z j) ∧ Below w.heap.size w wr) (fun u4 _ => l.length - (intOf u4).toNat)
  case atStart => exact ⟨0, Nat.zero_le _, rfl, (rowIs_madeN _ _ _ _).congr (fun j _ => by rw [if_neg (by omega), HZ.out]; rfl), (Below.refl _ _).alloc (Nat.le_refl _) _⟩
  case round =>
    obtain ⟨k, hk, rfl, hrow, hb⟩ := hrel
    by_cases hlt : k < l.length
    · obtain ⟨b, off, c', hv, _, _, hbl, hc⟩ := h.form (by omega) (by omega)
      have hA : A = some ⟨b, off, none⟩ := by injection hv
      subst hA
      obtain ⟨x, hx⟩ : ∃ x, x = l[k] := ⟨_, rfl⟩
      obtain ⟨d0, d1, d2⟩ := fil_cells hb hbl hc hlt x hx
      have HF := Lib.hid (fun (W : World) (hr : W.rowIs w.heap.size 44 (l.length * 3) (fun j => if j < k * 3 then (filV l).getD j undef else Z j)) => fill3 hlt x hx hr)
      clear hv hc hx
      have CT := Lib.hid (fun w => toFile_any x w)
      have HROW := Lib.hid hrow
      clear hrow
      go_wp2_with (go_at_call 92; refine (CT.out _).mono ?_; rintro e w1 ⟨rfl, hb1⟩; have hrow1 := HROW.out.of_block (hb1.block _ HROW.out.lt); have s0 := hrow1.cell (i := k * 3) (by omega); have s1 := hrow1.cell (i := k * 3 + 1) (by omega); have s2 := hrow1.cell (i := k * 3 + 2) (by omega); have z0 := hrow1.frozen (k * 3); have z1 := hrow1.frozen (k * 3 + 1); have z2 := hrow1.frozen (k * 3 + 2); have HR1 := Lib.hid hrow1; clear hrow1)
      go_roundw
      case rel => exact ⟨k + 1, by omega, by go_num, HF.out _ HR1.out, (((hb.trans (hb1.mono hb.size)).setCell (Nat.le_refl _) _).setCell (Nat.le_refl _) _).setCell (Nat.le_refl _) _⟩
      case measure => simp [intOf]; omega
    · obtain rfl : k = l.length := by omega
      have HO := Lib.hid (own_of_rowIs (base := w.heap.size) (size := 3) (n := l.length) hrow (Nat.le_refl _) (by unfold maxLen; omega))
      have HX := Lib.hid (show (List.range (l.length * 3)).map (fun j => if j < l.length * 3 then (filV l).getD j undef else Z j) = filV l by
        apply List.ext_getElem
        · rw [List.length_map, List.length_range, filV_length]
        · intro i h1 h2
          have hi : i < l.length * 3 := by simpa using h1
          rw [List.getElem_map, List.getElem_range, if_pos hi, List.getD_eq_getElem?_getD, List.getElem?_eq_getElem h2]
          rfl)
      clear hrow
      go_wp2
      go_ret
      exact ⟨_, rfl, by rw [← HX.out]; exact HO.out, hb⟩

set_option maxHeartbeats 1000000 in
set_option maxRecDepth 100000 in
theorem eqFileS_any (v u : Value) (l : List Fil) (w : World) (h1 : Rd w 3 v l.length (filV l)) (h2 : Rd w 3 u l.length (filV l)) :
    Calls Try.prog 74 #[v, u] w fun e w' => e = .returned (.bool true) ∧ Below w.heap.size w w' := by
  obtain ⟨A1, c1, rfl, hnc1, hcm1⟩ := h1.shape
  obtain ⟨A2, c2, rfl, hnc2, hcm2⟩ := h2.shape
  unfold maxLen at hcm1 hcm2
  go_enter Try.func74, Try.ntmps74
  go_wp2
  go_loopw [5] (fun i wr => ∃ k : Nat, k ≤ l.length ∧ i = .int .i64 k ∧ Below w.heap.size w wr) (fun i _ => l.length - (intOf i).toNat)
  case atStart => exact ⟨0, Nat.zero_le _, rfl, Below.refl _ _⟩
  case round =>
    obtain ⟨k, hk, rfl, hb⟩ := hrel
    by_cases hlt : k < l.length
    · obtain ⟨b1, o1, _, hv1, _, _, hl1, hc1⟩ := h1.form (by omega) (by omega)
      obtain ⟨b2, o2, _, hv2, _, _, hl2, hc2⟩ := h2.form (by omega) (by omega)
      have hA1 : A1 = some ⟨b1, o1, none⟩ := by injection hv1
      have hA2 : A2 = some ⟨b2, o2, none⟩ := by injection hv2
      subst hA1 hA2
      obtain ⟨x, hx⟩ : ∃ x, x = l[k] := ⟨_, rfl⟩
      obtain ⟨d0, d1, d2⟩ := fil_cells hb hl1 hc1 hlt x hx
      obtain ⟨e0, e1, e2⟩ := fil_cells hb hl2 hc2 hlt x hx
      have hb1 : b1 < wr.heap.size := Nat.lt_of_lt_of_le hl1 hb.size
      have hb2 : b2 < wr.heap.size := Nat.lt_of_lt_of_le hl2 hb.size
      have hk0 : (0 : Int) ≤ (k : Int) := by omega
      have hk1 : (k : Int) < (l.length : Int) := by omega
      have CE := Lib.hid (fun w => eqFile_any x w)
      clear hx hv1 hv2 hc1 hc2
      go_wp2
      first | refine wp_region_calm_on (by kernel_rfl) (by kernel_rfl) ?_ | refine wp_region_calm_lit (by kernel_rfl) (by kernel_rfl) ?_
      repeat (go_big_quiet_step ((go_at_call 95; exact calm_of (CE.out _))))
      refine wpQuiet_nil ?_
      intro _ hw'
      obtain ⟨k1, hw''⟩ := hw'
      subst hw''
      go_wp2
      go_roundw
      case rel => exact ⟨k + 1, by omega, by go_num, Below.calm hb hb.size⟩
      case measure => simp [intOf]; omega
    · go_wp2
      go_ret
      exact ⟨rfl, hb⟩

/-! ### Disks, in the words of the laws' walks -/
def cost_disk (d : List Fil) : Nat := d.length + szFs d
def cells_disk (d : List Fil) : Nat := d.length * 3
theorem cells_le_disk (d : List Fil) : cells_disk d ≤ 4 * cost_disk d := by unfold cells_disk cost_disk; omega
def okF (d : List Fil) : Prop := ∀ f ∈ d, f.ok
def Rd_disk (w : World) (v : Value) (d : List Fil) : Prop := Rd w 3 v d.length (filV d) ∧ okF d
def Own_disk (w : World) (lo hi : Nat) (v : Value) (d : List Fil) : Prop := OwnS w lo hi 44 3 v d.length (filV d) ∧ okF d
section
variable {w w' : World} {lo hi lo' hi' : Nat} {v : Value} {d : List Fil} {k : Int}
theorem Rd_disk.below (h : Rd_disk w v d) (hb : Below w.heap.size w w') : Rd_disk w' v d := ⟨h.1.below hb, h.2⟩
theorem Own_disk.rd (h : Own_disk w lo hi v d) : Rd_disk w v d := ⟨h.1.rd, h.2⟩
theorem Own_disk.below (h : Own_disk w lo hi v d) (hb : Below w.heap.size w w') : Own_disk w' lo hi v d := ⟨h.1.below hb, h.2⟩
theorem Own_disk.keep (h : Own_disk w lo hi v d) (hp : Part lo' hi' w w') (ha : hi ≤ lo' ∨ hi' ≤ lo) : Own_disk w' lo hi v d := ⟨h.1.keep hp ha, h.2⟩
end
set_option maxRecDepth 100000 in
theorem sz_disk (v : Value) (d : List Fil) (left : Int) (w : World) (h : Rd_disk w v d) (h0 : 0 ≤ left) (h1 : left ≤ 1048576) :
    Calls Try.prog 24 #[.agg #[v], .int .i64 left] w fun e w' => e = .returned (.int .i64 (szv left (cost_disk d))) ∧ Below w.heap.size w w' := by
  obtain ⟨W0, hW0⟩ : ∃ W0, W0 = w.alloc (.cells #[v] 47) := ⟨_, rfl⟩
  have hb0 : Below w.heap.size w W0 := by rw [hW0]; exact (Below.refl _ _).alloc (Nat.le_refl _) _
  have C := Lib.hid (szFileS_any v d left W0 (h.1.below hb0) h.2 h0 h1)
  have HW := Lib.hid hW0
  clear hW0
  obtain ⟨q, hq⟩ : ∃ q, q = szv left (cost_disk d) := ⟨_, rfl⟩
  have HQ := Lib.hid (show szv left (d.length + szFs d) = q from hq.symm)
  rw [HQ.out] at C
  rw [← hq]
  have hq2 : q < 0 → q = -1 := fun hn => by
    rw [hq] at hn ⊢
    unfold szv at hn ⊢
    split
    · rfl
    · rename_i hh; rw [if_neg hh] at hn; omega
  clear hq
  by_cases hn : q < 0
  · have := hq2 hn
    subst this
    clear hq2
    go_enter Try.func24, Try.ntmps24
    go_wp2_with fail
    rw [← HW.out]
    refine C.out.mono ?_
    rintro e w1 ⟨rfl, hb1⟩
    go_wp2_with fail
    go_ret
    exact ⟨rfl, hb0.trans (hb1.mono hb0.size)⟩
  · clear hq2
    go_enter Try.func24, Try.ntmps24
    go_wp2_with fail
    rw [← HW.out]
    refine C.out.mono ?_
    rintro e w1 ⟨rfl, hb1⟩
    go_wp2_with fail
    go_ret
    exact ⟨rfl, hb0.trans (hb1.mono hb0.size)⟩
end Go.Proofs.Ythjkmefbjbfonaa

/- The tied card of the law FnFigures: it returns true for every argument, where the listed tables and errors read as the program's text lays them. -/
import Derived.Test.YtfcgijhiedlfgaaDoorFigP
import Derived.Test.YtfcgijhiedlfgaaDoorErrsLaid
import Derived.Test.YtfcgijhiedlfgaaDoorPlaces
import Derived.Test.YtfcgijhiedlfgaaDoorSchedT
import Derived.Test.YtfcgijhiedlfgaaDoorBig
import Derived.Test.YtfcgijhiedlfgaaDoorCards
import Derived.Test.YtfcgijhiedlfgaaDoorTie
import Derived.SevenTiedAt
namespace Go.Proofs.YtfcgijhiedlfgaaDoor
set_option linter.unusedSimpArgs false
set_option linter.unusedSimpArgs false
set_option linter.unusedVariables false
open Go.RowKit Go.ChangeShapes Go.Deep

theorem laid_FnFigures {W : World} (h : laidMetH Tryd.prog Rows.fnFiguresRow.laid W) : Errs W := by
  rw [MakeChecks.laidMetH_plain _ _ _ (by kernel_rfl)] at h
  exact errs_laid h
theorem itoa_len {n : Int} (h0 : 0 ≤ n) (h1 : n < 10000) : (Lib.itoa n).length ≤ 4 := by
  obtain ⟨m, rfl⟩ : ∃ m : Nat, n = m := ⟨n.toNat, by omega⟩
  rw [itoa_nat]
  exact dec_len 3 m (by omega)
/-- Two bytes as a string, wherever they lie. -/
theorem two_str {W : World} {g : Nat} {b6 b7 : Nat} (h6 : b6 < 256) (h7 : b7 < 256) (c0 : W.cell? ⟨g, 0, none⟩ = some (.int .u8 (b6 : Int))) (c1 : W.cell? ⟨g, 1, none⟩ = some (.int .u8 (b7 : Int))) :
    (convert 32 9 (.slice (some ⟨g, 0, none⟩) 2 2)).run Tryd.prog W = .ok (.string ⟨#[UInt8.ofNat b6, UInt8.ofNat b7]⟩) W :=
  run_convert_bytes_arg _ 32 5 Tryd.underlying32 Tryd.underlying5 _ 0 2 2 [(b6 : Int), (b7 : Int)] rfl (fun i hi => by
    match i, hi with
    | 0, _ => exact c0
    | 1, _ => exact c1) 9 Tryd.underlying9

set_option maxHeartbeats 16000000 in
set_option maxRecDepth 100000 in
theorem walk_FnFigures (v0 : Value) (w : World) (a0 : ArgBytes w v0) (hE : Errs w) :
    Calls Tryd.prog 6 #[v0] w fun e w' => e = .returned (.bool true) ∧ Below w.heap.size w w' := by
  obtain ⟨code, hrd⟩ := a0
  by_cases hbig : code.length ≤ 1048576
  · have CB := Lib.hid (big_f w v0 code hrd hbig)
    have CP := Lib.hid (drawPlaces_any w v0 code hrd hbig)
    have hPL := places_length code
    have hPB : ∀ x ∈ places code, 0 ≤ x ∧ x < 10000 := placesGo_bd code _ _
    obtain ⟨P, hP⟩ : ∃ P, P = places code := ⟨_, rfl⟩
    rw [← hP] at CP hPL hPB
    have HE := Lib.hid hE
    clear hP hrd hE hbig
    obtain ⟨p0, p1, p2, p3, p4, p5, p6, p7, rest, rfl⟩ : ∃ p0 p1 p2 p3 p4 p5 p6 p7 rest, P = p0 :: p1 :: p2 :: p3 :: p4 :: p5 :: p6 :: p7 :: rest := by
      match P, hPL with
      | a :: b :: c :: d :: e :: f :: g :: h :: r, _ => exact ⟨a, b, c, d, e, f, g, h, r, rfl⟩
    have g0 := hPB p0 (by simp)
    have g1 := hPB p1 (by simp)
    have g2 := hPB p2 (by simp)
    have g3 := hPB p3 (by simp)
    have g4 := hPB p4 (by simp)
    have g5 := hPB p5 (by simp)
    have g6 := hPB p6 (by simp)
    have g7 := hPB p7 (by simp)
    clear hPB hPL
    -- the numbers
    have hil := itoa_len g5.1 g5.2
    obtain ⟨d, hd⟩ : ∃ d : ByteArray, d = ⟨(Lib.itoa p5).toArray⟩ := ⟨_, rfl⟩
    have hds : d.size ≤ 4 := by rw [hd]; have := strL_size (Lib.itoa p5); unfold strL at this; omega
    have CD := Lib.hid (show ∀ W, Below w.heap.size w W → Calls Tryd.prog 8 #[.int .i64 p5] W (fun e w' => e = .returned (.string d) ∧ Below W.heap.size W w') from fun W hW => by rw [hd]; exact decimal_impl p5 (by omega) (by omega) W (tab10_below HE.out.tab hW))
    obtain ⟨b6, hb6⟩ : ∃ b : Nat, (b : Int) = IntKind.u8.wrap p6 ∧ b < 256 := ⟨(p6 % 256).toNat, by rw [IntKind.wrap_u8]; omega, by omega⟩
    obtain ⟨b7, hb7⟩ : ∃ b : Nat, (b : Int) = IntKind.u8.wrap p7 ∧ b < 256 := ⟨(p7 % 256).toNat, by rw [IntKind.wrap_u8]; omega, by omega⟩
    have y6 : IntKind.u8.wrap p6 = (b6 : Int) := hb6.1.symm
    have y7 : IntKind.u8.wrap p7 = (b7 : Int) := hb7.1.symm
    obtain ⟨x2, hx2⟩ : ∃ x : ByteArray, x = ⟨#[UInt8.ofNat b6, UInt8.ofNat b7]⟩ := ⟨_, rfl⟩
    have hxs : x2.size = 2 := by rw [hx2]; rfl
    have hxs1 : x2.size ≤ 2 := by omega
    have hcv : ∀ W : World, (convert 32 9 (.slice (some ⟨W.heap.size, 0, none⟩) 2 2)).run Tryd.prog (W.alloc (.cells #[.int .u8 (b6 : Int), .int .u8 (b7 : Int)] 5)) = .ok (.string x2) (W.alloc (.cells #[.int .u8 (b6 : Int), .int .u8 (b7 : Int)] 5)) := fun W => by
      rw [hx2]
      exact two_str hb6.2 hb7.2 (by rw [World.cell?_alloc_at _ _ _ _ rfl]; rfl) (by rw [World.cell?_alloc_at _ _ _ _ rfl]; rfl)
    have HCV := Lib.hid hcv
    have HCW := Lib.hid (show ∀ W W2 : World, Below (W.alloc (.cells #[.int .u8 (b6 : Int), .int .u8 (b7 : Int)] 5)).heap.size (W.alloc (.cells #[.int .u8 (b6 : Int), .int .u8 (b7 : Int)] 5)) W2 → (convert 32 9 (.slice (some ⟨W.heap.size, 0, none⟩) 2 2)).run Tryd.prog W2 = .ok (.string x2) W2 from fun W W2 hb => by
      rw [hx2]
      have hlt : W.heap.size < (W.alloc (.cells #[.int .u8 (b6 : Int), .int .u8 (b7 : Int)] 5)).heap.size := by simp
      exact two_str hb6.2 hb7.2 (by rw [hb.cell (p := ⟨W.heap.size, 0, none⟩) hlt, World.cell?_alloc_at _ _ _ _ rfl]; rfl) (by rw [hb.cell (p := ⟨W.heap.size, 1, none⟩) hlt, World.cell?_alloc_at _ _ _ _ rfl]; rfl))
    obtain ⟨t, ht⟩ : ∃ t, t = d ++ x2 := ⟨_, rfl⟩
    have hts : t.size ≤ 6 := by rw [ht, ByteArray.size_append]; omega
    have z1 : ¬ 9223372036854775807 < d.size + x2.size := by omega
    obtain ⟨u1, u2, u3, u4'⟩ := unhex_hex (s := t) (by omega)
    have CH := Lib.hid (fun W => hex_impl_any t W (by omega))
    have CU := Lib.hid (fun W => unhex_impl_any (hexS t) W (by omega))
    rw [u3] at CH
    rw [u1, u2] at CU
    obtain ⟨hs, hhs⟩ : ∃ hs, hs = hexS t := ⟨_, rfl⟩
    rw [← hhs] at CH CU u4'
    obtain ⟨z, hz⟩ : ∃ z : Int, z = 2 * (t.size : Int) := ⟨_, rfl⟩
    have HT := Lib.hid ht
    have l1 : IntKind.i64.wrap (2 * (t.size : Int)) = z := by rw [hz]; exact IntWalk.i64_in _ (by omega)
    have l2 : 2 * (t.size : Int) = z := hz.symm
    have l3 : ((hs.size : Int) == z) = true := beq_iff_eq.2 (by omega)
    obtain ⟨m0, hm0⟩ : ∃ m : Int, m = p0 * 10000 := ⟨_, rfl⟩
    obtain ⟨n, hn⟩ : ∃ n : Int, n = m0 + p1 := ⟨_, rfl⟩
    have k1 : IntKind.i64.wrap (p0 * 10000) = m0 := by rw [hm0]; exact IntWalk.i64_in _ (by omega)
    have k2 : p0 * 10000 = m0 := hm0.symm
    have k3 : IntKind.i64.wrap (m0 + p1) = n := by rw [hn]; exact IntWalk.i64_in _ (by omega)
    have k4 : m0 + p1 = n := hn.symm
    have k5 : IntKind.i64.wrap m0 = m0 := IntWalk.i64_in _ (by omega)
    have k6 : IntKind.i64.wrap n = n := IntWalk.i64_in _ (by omega)
    have hn0 : 0 ≤ n ∧ n ≤ 1000000000 := by omega
    obtain ⟨nn, hnn⟩ : ∃ nn : Nat, n = nn := ⟨n.toNat, by omega⟩
    obtain ⟨dn, hdn⟩ : ∃ dn : ByteArray, dn = ⟨(Lib.itoa n).toArray⟩ := ⟨_, rfl⟩
    have hrn : readNum dn.data.toList = some nn := read_it (by omega) (by rw [hdn, hnn, itoa_nat])
    have hdl : dn.size ≤ 10 := by
      have h1 := dec_len 9 nn (by omega)
      have h2 := strL_size (Lib.itoa n)
      unfold strL at h2
      rw [hdn, h2, hnn, itoa_nat]
      exact h1
    have CD2 := Lib.hid (show ∀ W, Below w.heap.size w W → Calls Tryd.prog 8 #[.int .i64 n] W (fun e w' => e = .returned (.string dn) ∧ Below W.heap.size W w') from fun W hW => by rw [hdn]; exact decimal_impl n (by omega) (by omega) W (tab10_below HE.out.tab hW))
    have CR := Lib.hid (show ∀ W, Below w.heap.size w W → Calls Tryd.prog 15 #[.string dn] W (fun e w' => e = .returned (.tuple #[.int .i64 n, .bool true]) ∧ Below W.heap.size W w') from fun W hW => (readDecimal_impl dn W (by omega) (HE.out.below hW)).mono fun e w' h => by
      obtain ⟨h1, h2⟩ := h
      rw [r0_some hrn, r1_some hrn, ← hnn] at h1
      exact ⟨h1, h2⟩)
    obtain ⟨q2, hq2⟩ : ∃ q : Int, q = p2 - 5000 := ⟨_, rfl⟩
    obtain ⟨q3, hq3⟩ : ∃ q : Int, q = -p3 := ⟨_, rfl⟩
    have hbb := br_bd (n := q2) (lo := q3) (hi := p4) (by omega)
    have hbi := br_id hbb.1 hbb.2
    have CB1 := Lib.hid (fun W => brought_any q2 q3 p4 W (by omega))
    obtain ⟨b, hb⟩ : ∃ b, b = br q2 q3 p4 := ⟨_, rfl⟩
    rw [← hb] at CB1 hbb hbi
    have CB2 := Lib.hid (fun W => brought_any b q3 p4 W (by omega))
    rw [hbi] at CB2
    have i1 : IntKind.i64.wrap (p2 - 5000) = q2 := by rw [hq2]; exact IntWalk.i64_in _ (by omega)
    have i2 : p2 - 5000 = q2 := hq2.symm
    have i3 : IntKind.i64.wrap (-p3) = q3 := by rw [hq3]; exact IntWalk.i64_in _ (by omega)
    have i4 : -p3 = q3 := hq3.symm
    have i5 : IntKind.i64.wrap q3 = q3 := IntWalk.i64_in _ (by omega)
    have i6 : IntKind.i64.wrap q2 = q2 := IntWalk.i64_in _ (by omega)
    have i7 : wrap64 q3 = q3 := IntWalk.wrap64_in _ (by omega)
    have i8 : wrap64 (-p3) = q3 := by rw [hq3]; exact IntWalk.wrap64_in _ (by omega)
    have j1 : decide (q3 ≤ b) = true := decide_eq_true hbb.1
    have j2 : decide (b ≤ p4) = true := decide_eq_true hbb.2
    clear hcv hd hb6 hb7 hx2 hxs ht u1 u2 u3 u4' hhs hz hm0 hn hn0 hnn hdn hrn hq2 hq3 hbb hbi hb g0 g1 g2 g3 g4 g5 g6 g7 hil
    go_enter Tryd.func6, Tryd.ntmps6
    go_wp2_with fail
    refine CB.out.mono ?_
    rintro e w0 ⟨rfl, rfl⟩
    go_wp2_with fail
    refine CP.out.mono ?_
    rintro e w3 ⟨u, rfl, hown, hw3⟩
    obtain ⟨pb, po, pc, rfl, hpc, hpm, hpl, hpcell⟩ := (Rd.of_own hown).form (by omega) (by omega)
    unfold maxLen at hpm
    have E0 := Lib.hid (show w3.cell? ⟨pb, po, none⟩ = some (.int .i64 p0) from hpcell 0 _ rfl)
    have E1 := Lib.hid (hpcell 1 _ rfl)
    have E2 := Lib.hid (hpcell 2 _ rfl)
    have E3 := Lib.hid (hpcell 3 _ rfl)
    have E4 := Lib.hid (hpcell 4 _ rfl)
    have E5 := Lib.hid (hpcell 5 _ rfl)
    have E6 := Lib.hid (hpcell 6 _ rfl)
    have E7 := Lib.hid (hpcell 7 _ rfl)
    have G5 : ∀ kk : Kept w3 none, kk.w.cell? ⟨pb, po + 5, none⟩ = some (.int .i64 p5) := fun kk => ((grown_below (base := w3.heap.size) kk.2 (by simp) (Nat.le_refl _)).cell (p := ⟨pb, po + 5, none⟩) hpl).trans E5.out
    have G6 : ∀ kk : Kept w3 none, kk.w.cell? ⟨pb, po + 6, none⟩ = some (.int .i64 p6) := fun kk => ((grown_below (base := w3.heap.size) kk.2 (by simp) (Nat.le_refl _)).cell (p := ⟨pb, po + 6, none⟩) hpl).trans E6.out
    have G7 : ∀ kk : Kept w3 none, kk.w.cell? ⟨pb, po + 7, none⟩ = some (.int .i64 p7) := fun kk => ((grown_below (base := w3.heap.size) kk.2 (by simp) (Nat.le_refl _)).cell (p := ⟨pb, po + 7, none⟩) hpl).trans E7.out
    clear hpcell hown CP CB
    have hws3 := hw3.size
    have hcv3 := HCV.out w3
    have hcv4 := HCW.out w3 _ ((Below.refl _ _).drew)
    go_wp2_with fail
    refine wp_region_tree (.held 0 (.held 1 (.held 2 (.held 4 (.held 5 (.held 6 (.held 7 (.held 8 (.held 9 (.held 10 (.held 11 (.two 3 12 (.step 12 (.step 13 (.held 14 (.held 15 .nil)))) (.two 3 13 (.step 13 (.held 14 (.held 15 .nil))) (.step 3 (.held 14 (.held 15 .nil)))))))))))))))) (by kernel_rfl) (by kernel_rfl) (KeptS _ none) (KeptS.refl _ _).drew ?_
    (refine wpT_held (by rfl) (by rfl) ?_ (fun W hW => ?_) ?_; rotate_left; (· (obtain ⟨kq, rfl⟩ := hW; go_simp; try with_reducible rfl)); try simp only [Act.put, List.setIfInBounds_toArray, List.set_cons_succ, List.set_cons_zero])
    (refine wpT_held (by rfl) (by rfl) ?_ (fun W hW => ?_) ?_; rotate_left; (· (obtain ⟨kq, rfl⟩ := hW; go_simp; try with_reducible rfl)); try simp only [Act.put, List.setIfInBounds_toArray, List.set_cons_succ, List.set_cons_zero])
    (refine wpT_held (by rfl) (by rfl) ?_ (fun W hW => ?_) ?_; rotate_left; (· (obtain ⟨kq, rfl⟩ := hW; go_simp; try with_reducible rfl)); try simp only [Act.put, List.setIfInBounds_toArray, List.set_cons_succ, List.set_cons_zero])
    (refine wpT_held (by rfl) (by rfl) ?_ (fun W hW => ?_) ?_; rotate_left; (· (obtain ⟨kq, rfl⟩ := hW; go_simp; try with_reducible rfl)); try simp only [Act.put, List.setIfInBounds_toArray, List.set_cons_succ, List.set_cons_zero])
    (refine wpT_held (by rfl) (by rfl) ?_ (fun W hW => ?_) ?_; rotate_left; (· (obtain ⟨kq, rfl⟩ := hW; go_simp; try with_reducible rfl)); try simp only [Act.put, List.setIfInBounds_toArray, List.set_cons_succ, List.set_cons_zero])
    (refine wpT_held (by rfl) (by rfl) ?_ (fun W hW => ?_) ?_; rotate_left; (· (obtain ⟨kq, rfl⟩ := hW; go_simp; try with_reducible rfl)); try simp only [Act.put, List.setIfInBounds_toArray, List.set_cons_succ, List.set_cons_zero])
    (refine wpT_held (by rfl) (by rfl) ?_ (fun W hW => ?_) ?_; rotate_left; (· (obtain ⟨kq, rfl⟩ := hW; go_simp; try with_reducible rfl)); try simp only [Act.put, List.setIfInBounds_toArray, List.set_cons_succ, List.set_cons_zero])
    (refine wpT_held (by rfl) (by rfl) ?_ (fun W hW => ?_) ?_; rotate_left; (· (obtain ⟨kq, rfl⟩ := hW; go_simp; try with_reducible rfl)); try simp only [Act.put, List.setIfInBounds_toArray, List.set_cons_succ, List.set_cons_zero])
    (refine wpT_held (by rfl) (by rfl) ?_ (fun W hW => ?_) ?_; rotate_left; (· (obtain ⟨kq, rfl⟩ := hW; go_simp; try with_reducible rfl)); try simp only [Act.put, List.setIfInBounds_toArray, List.set_cons_succ, List.set_cons_zero])
    (refine wpT_held (by rfl) (by rfl) ?_ (fun W hW => ?_) ?_; rotate_left; (· (obtain ⟨kq, rfl⟩ := hW; go_simp; try with_reducible rfl)); try simp only [Act.put, List.setIfInBounds_toArray, List.set_cons_succ, List.set_cons_zero])
    (refine wpT_held (by rfl) (by rfl) ?_ (fun W hW => ?_) ?_; rotate_left; (· (obtain ⟨kq, rfl⟩ := hW; go_simp; try with_reducible rfl)); try simp only [Act.put, List.setIfInBounds_toArray, List.set_cons_succ, List.set_cons_zero])
    refine wpT_two ?glx1 ?grx1
    case' glx1 =>
      (refine wpT_call 8 (by rfl) (by rfl) (by rfl) Tryd.func8 (by kernel_rfl) (by rfl) (by rfl) ?_; (conv => arg 3; simp [Act.eval]); (((with_reducible refine (CD.out _ (by exact (by repeat first | exact Below.refl _ _ | assumption | refine Below.drew ?_ | refine below_drewN ?_ _ | refine Below.calm ?_ (by first | exact Nat.le_refl _ | (simp; done) | (simp; omega) | omega) | refine Below.alloc ?_ (by first | exact Nat.le_refl _ | (simp; done) | (simp; omega) | omega) _ | refine Below.setCell ?_ (by first | exact Nat.le_refl _ | (simp; done) | (simp; omega) | omega) _))).mono ?_); rintro e w4 ⟨rfl, hb4⟩; have hq4 : Below w3.heap.size w3 w4 := Below.trans (by exact (by repeat first | exact Below.refl _ _ | assumption | refine Below.drew ?_ | refine below_drewN ?_ _ | refine Below.calm ?_ (by first | exact Nat.le_refl _ | (simp; done) | (simp; omega) | omega) | refine Below.alloc ?_ (by first | exact Nat.le_refl _ | (simp; done) | (simp; omega) | omega) _ | refine Below.setCell ?_ (by first | exact Nat.le_refl _ | (simp; done) | (simp; omega) | omega) _)) (hb4.mono (by first | exact Nat.le_refl _ | (simp; done) | (simp; omega))); have hcvy := HCV.out w4; (try (have hcvx : (convert 32 9 (.slice (some ⟨w3.heap.size, 0, none⟩) 2 2)).run Tryd.prog w4 = .ok (.string x2) w4 := HCW.out w3 w4 (((Below.refl _ _).drew).trans hb4))))); refine ⟨_, rfl, ?_, ?_⟩; (· (repeat first | exact KeptS.refl _ _ | exact KeptS.of (only_of_below (by assumption) _) | assumption | refine KeptS.drew ?_ | refine KeptS.alloc ?_ _ | refine KeptS.grown ?_ (by assumption) | refine KeptS.below ?_ (by assumption) | refine KeptS.belowAt ?_ (by assumption) | refine KeptS.setRow ?_ (by simp; done) _ | refine KeptS.setNew ?_ (by simp) _)); try simp only [Act.put, List.setIfInBounds_toArray, List.set_cons_succ, List.set_cons_zero])
      (refine wpT_step (by rfl) (by rfl) (fun K hK => ?_); go_simp; refine hK.out _ _ ?_ ?_; (· (repeat first | exact KeptS.refl _ _ | exact KeptS.of (only_of_below (by assumption) _) | assumption | refine KeptS.drew ?_ | refine KeptS.alloc ?_ _ | refine KeptS.grown ?_ (by assumption) | refine KeptS.below ?_ (by assumption) | refine KeptS.belowAt ?_ (by assumption) | refine KeptS.setRow ?_ (by simp; done) _ | refine KeptS.setNew ?_ (by simp) _)); clear hK K; try simp only [Act.put, List.setIfInBounds_toArray, List.set_cons_succ, List.set_cons_zero])
      (refine wpT_step (by rfl) (by rfl) (fun K hK => ?_); go_simp; refine hK.out _ _ ?_ ?_; (· (repeat first | exact KeptS.refl _ _ | exact KeptS.of (only_of_below (by assumption) _) | assumption | refine KeptS.drew ?_ | refine KeptS.alloc ?_ _ | refine KeptS.grown ?_ (by assumption) | refine KeptS.below ?_ (by assumption) | refine KeptS.belowAt ?_ (by assumption) | refine KeptS.setRow ?_ (by simp; done) _ | refine KeptS.setNew ?_ (by simp) _)); clear hK K; try simp only [Act.put, List.setIfInBounds_toArray, List.set_cons_succ, List.set_cons_zero])
      (refine wpT_held (by rfl) (by rfl) ?_ (fun W hW => ?_) ?_; rotate_left; (· (obtain ⟨kq, rfl⟩ := hW; go_simp; try with_reducible rfl)); try simp only [Act.put, List.setIfInBounds_toArray, List.set_cons_succ, List.set_cons_zero])
      (refine wpT_held (by rfl) (by rfl) ?_ (fun W hW => ?_) ?_; rotate_left; (· (obtain ⟨kq, rfl⟩ := hW; go_simp; try with_reducible rfl)); try simp only [Act.put, List.setIfInBounds_toArray, List.set_cons_succ, List.set_cons_zero])
      refine wpT_nil ?_
      try simp only [List.getElem_toArray, List.getElem_cons_succ, List.getElem_cons_zero]
    case' grx1 =>
      (refine wpT_step (by rfl) (by rfl) (fun K hK => ?_); go_simp; refine hK.out _ _ ?_ ?_; (· (repeat first | exact KeptS.refl _ _ | exact KeptS.of (only_of_below (by assumption) _) | assumption | refine KeptS.drew ?_ | refine KeptS.alloc ?_ _ | refine KeptS.grown ?_ (by assumption) | refine KeptS.below ?_ (by assumption) | refine KeptS.belowAt ?_ (by assumption) | refine KeptS.setRow ?_ (by simp; done) _ | refine KeptS.setNew ?_ (by simp) _)); clear hK K; try simp only [Act.put, List.setIfInBounds_toArray, List.set_cons_succ, List.set_cons_zero])
      refine wpT_two ?glx1r ?grx1r
      case' glx1r =>
        (refine wpT_call 8 (by rfl) (by rfl) (by rfl) Tryd.func8 (by kernel_rfl) (by rfl) (by rfl) ?_; (conv => arg 3; simp [Act.eval]); (((with_reducible refine (CD.out _ (by exact (by repeat first | exact Below.refl _ _ | assumption | refine Below.drew ?_ | refine below_drewN ?_ _ | refine Below.calm ?_ (by first | exact Nat.le_refl _ | (simp; done) | (simp; omega) | omega) | refine Below.alloc ?_ (by first | exact Nat.le_refl _ | (simp; done) | (simp; omega) | omega) _ | refine Below.setCell ?_ (by first | exact Nat.le_refl _ | (simp; done) | (simp; omega) | omega) _))).mono ?_); rintro e w4 ⟨rfl, hb4⟩; have hq4 : Below w3.heap.size w3 w4 := Below.trans (by exact (by repeat first | exact Below.refl _ _ | assumption | refine Below.drew ?_ | refine below_drewN ?_ _ | refine Below.calm ?_ (by first | exact Nat.le_refl _ | (simp; done) | (simp; omega) | omega) | refine Below.alloc ?_ (by first | exact Nat.le_refl _ | (simp; done) | (simp; omega) | omega) _ | refine Below.setCell ?_ (by first | exact Nat.le_refl _ | (simp; done) | (simp; omega) | omega) _)) (hb4.mono (by first | exact Nat.le_refl _ | (simp; done) | (simp; omega))); have hcvy := HCV.out w4; (try (have hcvx : (convert 32 9 (.slice (some ⟨w3.heap.size, 0, none⟩) 2 2)).run Tryd.prog w4 = .ok (.string x2) w4 := HCW.out w3 w4 (((Below.refl _ _).drew).trans hb4))))); refine ⟨_, rfl, ?_, ?_⟩; (· (repeat first | exact KeptS.refl _ _ | exact KeptS.of (only_of_below (by assumption) _) | assumption | refine KeptS.drew ?_ | refine KeptS.alloc ?_ _ | refine KeptS.grown ?_ (by assumption) | refine KeptS.below ?_ (by assumption) | refine KeptS.belowAt ?_ (by assumption) | refine KeptS.setRow ?_ (by simp; done) _ | refine KeptS.setNew ?_ (by simp) _)); try simp only [Act.put, List.setIfInBounds_toArray, List.set_cons_succ, List.set_cons_zero])
        (refine wpT_step (by rfl) (by rfl) (fun K hK => ?_); go_simp; refine hK.out _ _ ?_ ?_; (· (repeat first | exact KeptS.refl _ _ | exact KeptS.of (only_of_below (by assumption) _) | assumption | refine KeptS.drew ?_ | refine KeptS.alloc ?_ _ | refine KeptS.grown ?_ (by assumption) | refine KeptS.below ?_ (by assumption) | refine KeptS.belowAt ?_ (by assumption) | refine KeptS.setRow ?_ (by simp; done) _ | refine KeptS.setNew ?_ (by simp) _)); clear hK K; try simp only [Act.put, List.setIfInBounds_toArray, List.set_cons_succ, List.set_cons_zero])
        (refine wpT_held (by rfl) (by rfl) ?_ (fun W hW => ?_) ?_; rotate_left; (· (obtain ⟨kq, rfl⟩ := hW; go_simp; try with_reducible rfl)); try simp only [Act.put, List.setIfInBounds_toArray, List.set_cons_succ, List.set_cons_zero])
        (refine wpT_held (by rfl) (by rfl) ?_ (fun W hW => ?_) ?_; rotate_left; (· (obtain ⟨kq, rfl⟩ := hW; go_simp; try with_reducible rfl)); try simp only [Act.put, List.setIfInBounds_toArray, List.set_cons_succ, List.set_cons_zero])
        refine wpT_nil ?_
        try simp only [List.getElem_toArray, List.getElem_cons_succ, List.getElem_cons_zero]
      case' grx1r =>
        (refine wpT_step (by rfl) (by rfl) (fun K hK => ?_); go_simp; refine hK.out _ _ ?_ ?_; (· (repeat first | exact KeptS.refl _ _ | exact KeptS.of (only_of_below (by assumption) _) | assumption | refine KeptS.drew ?_ | refine KeptS.alloc ?_ _ | refine KeptS.grown ?_ (by assumption) | refine KeptS.below ?_ (by assumption) | refine KeptS.belowAt ?_ (by assumption) | refine KeptS.setRow ?_ (by simp; done) _ | refine KeptS.setNew ?_ (by simp) _)); clear hK K; try simp only [Act.put, List.setIfInBounds_toArray, List.set_cons_succ, List.set_cons_zero])
        (refine wpT_call 8 (by rfl) (by rfl) (by rfl) Tryd.func8 (by kernel_rfl) (by rfl) (by rfl) ?_; (conv => arg 3; simp [Act.eval]); (((with_reducible refine (CD.out _ (by exact (by repeat first | exact Below.refl _ _ | assumption | refine Below.drew ?_ | refine below_drewN ?_ _ | refine Below.calm ?_ (by first | exact Nat.le_refl _ | (simp; done) | (simp; omega) | omega) | refine Below.alloc ?_ (by first | exact Nat.le_refl _ | (simp; done) | (simp; omega) | omega) _ | refine Below.setCell ?_ (by first | exact Nat.le_refl _ | (simp; done) | (simp; omega) | omega) _))).mono ?_); rintro e w4 ⟨rfl, hb4⟩; have hq4 : Below w3.heap.size w3 w4 := Below.trans (by exact (by repeat first | exact Below.refl _ _ | assumption | refine Below.drew ?_ | refine below_drewN ?_ _ | refine Below.calm ?_ (by first | exact Nat.le_refl _ | (simp; done) | (simp; omega) | omega) | refine Below.alloc ?_ (by first | exact Nat.le_refl _ | (simp; done) | (simp; omega) | omega) _ | refine Below.setCell ?_ (by first | exact Nat.le_refl _ | (simp; done) | (simp; omega) | omega) _)) (hb4.mono (by first | exact Nat.le_refl _ | (simp; done) | (simp; omega))); have hcvy := HCV.out w4; (try (have hcvx : (convert 32 9 (.slice (some ⟨w3.heap.size, 0, none⟩) 2 2)).run Tryd.prog w4 = .ok (.string x2) w4 := HCW.out w3 w4 (((Below.refl _ _).drew).trans hb4))))); refine ⟨_, rfl, ?_, ?_⟩; (· (repeat first | exact KeptS.refl _ _ | exact KeptS.of (only_of_below (by assumption) _) | assumption | refine KeptS.drew ?_ | refine KeptS.alloc ?_ _ | refine KeptS.grown ?_ (by assumption) | refine KeptS.below ?_ (by assumption) | refine KeptS.belowAt ?_ (by assumption) | refine KeptS.setRow ?_ (by simp; done) _ | refine KeptS.setNew ?_ (by simp) _)); try simp only [Act.put, List.setIfInBounds_toArray, List.set_cons_succ, List.set_cons_zero])
        (refine wpT_held (by rfl) (by rfl) ?_ (fun W hW => ?_) ?_; rotate_left; (· (obtain ⟨kq, rfl⟩ := hW; go_simp; try with_reducible rfl)); try simp only [Act.put, List.setIfInBounds_toArray, List.set_cons_succ, List.set_cons_zero])
        (refine wpT_held (by rfl) (by rfl) ?_ (fun W hW => ?_) ?_; rotate_left; (· (obtain ⟨kq, rfl⟩ := hW; go_simp; try with_reducible rfl)); try simp only [Act.put, List.setIfInBounds_toArray, List.set_cons_succ, List.set_cons_zero])
        refine wpT_nil ?_
        try simp only [List.getElem_toArray, List.getElem_cons_succ, List.getElem_cons_zero]
    all_goals
      clear G5 G6 G7 hcv3 hcv4
      go_wp2_with fail
      rw [← HT.out]
      refine (CH.out _).mono ?_
      rintro e w6 ⟨rfl, hb6⟩
      have hq6 : Below w3.heap.size w3 w6 := by first | exact hq4.trans (hb6.mono hq4.size) | exact (hq4.alloc hq4.size _).trans (hb6.mono (by have := hq4.size; simp; omega))
      clear hb6 hb4 hcvy
      try clear hcvx
      go_wp2_with fail
      refine (CU.out _).mono ?_
      rintro e w7 ⟨rfl, hb7⟩
      have hq7 := hq6.trans (hb7.mono hq6.size)
      clear hb7
      have f0 := (hq7.cell (p := ⟨pb, po, none⟩) hpl).trans E0.out
      have f1 := (hq7.cell (p := ⟨pb, po + 1, none⟩) hpl).trans E1.out
      have f2 := (hq7.cell (p := ⟨pb, po + 2, none⟩) hpl).trans E2.out
      have f3 := (hq7.cell (p := ⟨pb, po + 3, none⟩) hpl).trans E3.out
      have f4 := (hq7.cell (p := ⟨pb, po + 4, none⟩) hpl).trans E4.out
      have f5 := (hq7.cell (p := ⟨pb, po + 5, none⟩) hpl).trans E5.out
      have f6 := (hq7.cell (p := ⟨pb, po + 6, none⟩) hpl).trans E6.out
      have f7 := (hq7.cell (p := ⟨pb, po + 7, none⟩) hpl).trans E7.out
      have hpl7 := Nat.lt_of_lt_of_le hpl hq7.size
      go_wp2_with fail
      first | refine wp_region_calm_on (by kernel_rfl) (by kernel_rfl) ?_ | refine wp_region_calm_lit (by kernel_rfl) (by kernel_rfl) ?_
      repeat (go_big_quiet_step (fail))
      refine wpQuiet_nil ?_
      intro _ hw'
      obtain ⟨ka, hw''⟩ := hw'
      subst hw''
      clear f0 f1 f2 f3 f4 f5 f6 f7
      have hqa : Below w3.heap.size w3 ka.w := Below.calm hq7 hq7.size
      have hwa := hw3.trans (hqa.mono hw3.size)
      go_wp2_with fail
      refine (CD2.out _ hwa).mono ?_
      rintro e w8 ⟨rfl, hb8⟩
      have hq8 := hqa.trans (hb8.mono hqa.size)
      have hw8 := hwa.trans (hb8.mono hwa.size)
      clear hb8
      go_wp2_with fail
      refine (CR.out _ hw8).mono ?_
      rintro e w9 ⟨rfl, hb9⟩
      have hq9 := hq8.trans (hb9.mono hq8.size)
      have hw9 := hw8.trans (hb9.mono hw8.size)
      clear hb9
      have f0 := (hq9.cell (p := ⟨pb, po, none⟩) hpl).trans E0.out
      have f1 := (hq9.cell (p := ⟨pb, po + 1, none⟩) hpl).trans E1.out
      have f2 := (hq9.cell (p := ⟨pb, po + 2, none⟩) hpl).trans E2.out
      have f3 := (hq9.cell (p := ⟨pb, po + 3, none⟩) hpl).trans E3.out
      have f4 := (hq9.cell (p := ⟨pb, po + 4, none⟩) hpl).trans E4.out
      have f5 := (hq9.cell (p := ⟨pb, po + 5, none⟩) hpl).trans E5.out
      have f6 := (hq9.cell (p := ⟨pb, po + 6, none⟩) hpl).trans E6.out
      have f7 := (hq9.cell (p := ⟨pb, po + 7, none⟩) hpl).trans E7.out
      have hpl9 := Nat.lt_of_lt_of_le hpl hq9.size
      go_wp2_with fail
      first | refine wp_region_calm_on (by kernel_rfl) (by kernel_rfl) ?_ | refine wp_region_calm_lit (by kernel_rfl) (by kernel_rfl) ?_
      repeat (go_big_quiet_step ((go_at_call 20; exact calm_same (CB1.out _))))
      refine wpQuiet_nil ?_
      intro _ hw'
      obtain ⟨kb, hw''⟩ := hw'
      subst hw''
      have hqb : Below w3.heap.size w3 kb.w := Below.calm hq9 hq9.size
      have hplb := Nat.lt_of_lt_of_le hpl hqb.size
      go_wp2_with fail
      first | refine wp_region_calm_on (by kernel_rfl) (by kernel_rfl) ?_ | refine wp_region_calm_lit (by kernel_rfl) (by kernel_rfl) ?_
      repeat (go_big_quiet_step ((go_at_call 20; exact calm_same (CB2.out _))))
      refine wpQuiet_nil ?_
      intro _ hw'
      obtain ⟨kc, hw''⟩ := hw'
      subst hw''
      go_wp2_with fail
      go_ret
      exact ⟨rfl, Below.calm hw9 hw9.size⟩
  · have CB := Lib.hid (big_t w v0 code hrd (by omega))
    clear hE
    go_enter Tryd.func6, Tryd.ntmps6
    go_wp2_with fail
    refine CB.out.mono ?_
    rintro e w0 ⟨rfl, rfl⟩
    go_wp2_with fail
    go_ret
    exact ⟨rfl, Below.refl _ _⟩

namespace fnFigures
open Go.ChangeShapes Go.WideShapes Go.ChangeAt Go.RowKit
theorem own : ownKnob Tryd.prog.godebug = none := by kernel_rfl
theorem laidOut : laidOutB Tryd.prog = true := by kernel_rfl
/-- The door's own heap meets the condition. -/
theorem door_met (os : Os) (args : Array Value) : laidMetH Tryd.prog Rows.fnFiguresRow.laid ((World.doorLaid Tryd.prog 86 os).forCall (fun _ _ => 0) ⟨#[], args, []⟩).memory :=
  laidMetH_of_parts3 (fuel := 8) (laidMet_of_run' 8 (by kernel_rfl) (by kernel_rfl)) (by kernel_rfl) (by kernel_rfl)

set_option maxRecDepth 100000 in
theorem lifted (os : Os) (started : os.Started) (H : Type) (enc : TypeId × Value → H) :
    ReturnsInHanded {} Tryd.checked os 6 .any (fun w args => (Rows.fnFiguresSpec.pre enc Tryd.prog Tryd.f6 [] false w args ∧ laidMetH Tryd.prog Rows.fnFiguresRow.laid w) ∧ sizedMet enc Tryd.prog Tryd.f6 (OpenSpec.ofChange Rows.fnFiguresSpec) false w args) (Rows.fnFiguresSpec.post enc Tryd.prog Tryd.f6 false true false false) := by
  refine returnsInHanded_of_change_and (C := Tryd.checked) (X := fun w _ => laidMetH Tryd.prog Rows.fnFiguresRow.laid w) (fun _ _ _ hh h => h.of_heap hh) own started (by kernel_rfl) Tryd.func6
    (ChangeSpec.witness_shaped (enc := enc) (C := Tryd.checked) (os := os) (X := fun w _ => laidMetH Tryd.prog Rows.fnFiguresRow.laid w) false (World.doorLaid Tryd.prog 86 os) #[.slice none 0 0] 8 rfl (World.shaped_of_RefB (by kernel_rfl) (by kernel_rfl)) (by kernel_rfl) (by kernel_rfl) (by kernel_rfl) (door_met os _)) ?_
  intro W base args ds gs before hval0 hW _ _ hL _
  have hval : ∀ (j : Nat) t v, Tryd.f6.params[j]? = some t → args[j]? = some v → Value.okWide Tryd.prog W .any base t v := hval0
  have hW' := hW
  obtain ⟨p, q, hA0, hV, rfl, hfz, hnd⟩ := hW
  have hA : DataW.TrodAll enc Tryd.prog W 0 (fun _ => true) true Tryd.f6.params.toList args.toList ds p := hA0
  rw [Tryd.params6] at hA hval
  obtain ⟨v0, vs0, d0, ds0, p0, q0, hargs, rfl, rfl, h0, r0⟩ := trodAll_cons hA
  obtain ⟨rfl, rfl, rfl⟩ := trodAll_nil r0
  obtain rfl : args = #[v0] := by cases args; simp_all
  obtain ⟨rfl, rfl⟩ := trodVars_none hV
  have lt0 : ∀ x ∈ p0, x.block < W.heap.size := by obtain ⟨m, hm⟩ := h0; exact DataW.trod_lt m _ _ _ hm
  have a0 := arg_bytes (hval 0 32 v0 rfl rfl) h0
  clear hA0 hval0
  refine (walk_FnFigures v0 W a0 (laid_FnFigures hL)).mono fun e W' ⟨he, bel⟩ => ?_
  subst he
  exact ⟨_, rfl, _, _, _, [], _, [], hW', trodAll_mk1 (shut_bool Tryd.underlying4 _), (trodAll_cons_mk (Below.trod laidOut (by kernel_rfl) (of_decide_eq_true (by kernel_rfl)) h0 bel lt0) trodAll_mk0), rfl, bel.frame _, fun h => by cases h⟩

theorem over : Rows.fnFiguresRow.holds Tryd.pinned (OpenSpec.ofChange Rows.fnFiguresSpec) :=
  OpenClaim.holds_of_wide 6 Tryd.f6 rfl rfl rfl rfl rfl rfl rfl ⟨rfl, rfl, rfl, rfl, rfl⟩ rfl rfl rfl rfl rfl (by kernel_rfl) Tryd.func6 (by kernel_rfl)
    (of_decide_eq_true (by kernel_rfl)) (by unfold Func.isWrapper; first | (rw [if_pos (by decide +kernel)]; kernel_rfl) | (rw [if_neg (by decide +kernel)]; exact ⟨rfl, rfl⟩))
    (fun os started H enc _ => lifted os started H enc)

/-- The statement: the tied card. -/
theorem proved : Rows.FnFiguresCardSaid :=
  Claim7.holds_tied_plain_at .later [] [.data, .data, .data, .sentinel, .sentinel] true Rows.fnFiguresCard.stood.harness true
    over (fun _ h => by cases h) (by kernel_rfl) (fun _ h => by cases h) fnFigures_row_tie rfl ⟨rfl, rfl⟩ (by kernel_rfl) rfl
    (fun f fn hf hfn => by
      obtain rfl : f = 6 := Option.some.inj ((show Tryd.prog.funcNamed Rows.fnFiguresRow.func = some 6 by kernel_rfl).symm.trans hf) |>.symm
      obtain rfl : fn = Tryd.f6 := (Option.some.inj (Tryd.func6.symm.trans hfn)).symm
      exact ⟨by kernel_rfl, fun j t ht => by
        rw [Tryd.params6] at ht
        have hm : t ∈ [32] := by simpa using Array.mem_of_getElem? ht
        have hall : ([32].all fun u => !Tryd.prog.wantsStandIn u) = true := by kernel_rfl
        exact (show Tryd.prog.wantsStandIn t = false by simpa using List.all_eq_true.1 hall t hm)⟩)
    (by kernel_rfl)
#print axioms proved
end fnFigures

end Go.Proofs.YtfcgijhiedlfgaaDoor

/- The walk of the law FnFiles. -/
import Derived.Test.YthjkmefbjbfonaaDrawK
import Derived.Test.YthjkmefbjbfonaaDecSize
import Derived.Test.YthjkmefbjbfonaaSameF
import Derived.Test.YthjkmefbjbfonaaBig
import Derived.Test.YthjkmefbjbfonaaWriteJ
import Derived.Test.YthjkmefbjbfonaaMoveS
namespace Go.Proofs.Ythjkmefbjbfonaa
set_option linter.unusedSimpArgs false
set_option linter.unusedVariables false
open Go.RowKit Go.ChangeShapes Go.Deep

structure FilesSay (d : List Fil) (more : ByteArray) (a b c e : List Fil) : Prop where
  w1 : writeFileR1 d txLog more = true
  rl : readFileR a txLog = readFileR d txLog ++ more
  rm : readFileR a txMark = readFileR d txMark
  okd : diskOkR d = true
  oka : diskOkR a = true
  okb : diskOkR b = true
  okc : diskOkR c = true
  oke : diskOkR e = true
  early : moveFileR1 a txLog txMark = false
  s1 : syncFileR1 a txLog = true
  m1 : moveFileR1 b txLog txMark = true
  cm : readFileR c txMark = readFileR a txLog
  cl : readFileR c txLog = noText
  c1 : cutFileR1 b txLog 1 = true
  el : (readFileR e txLog).size = 1
  none_ : syncFileR1 d txNope = false
theorem files_say {d : List Fil} (h : DrawnDisk d) {more : ByteArray} (h1 : 1 ≤ more.size) (h2 : more.size ≤ 20) :
    FilesSay d more (writeFileR0 d txLog more) (syncFileR0 (writeFileR0 d txLog more) txLog) (moveFileR0 (syncFileR0 (writeFileR0 d txLog more) txLog) txLog txMark) (cutFileR0 (syncFileR0 (writeFileR0 d txLog more) txLog) txLog 1) := by
  obtain ⟨w1, rl, rm, k, hl, hs⟩ := drawn_written h h1 h2
  obtain ⟨hb, hlb, eb⟩ := hl.synced_
  have hsb : ((syncFileR0 (writeFileR0 d txLog more) txLog)[k]'hb.lt).safe = (((syncFileR0 (writeFileR0 d txLog more) txLog)[k]'hb.lt).data.size : Int) := by rw [eb]; rfl
  have hm := hb.moved
  rw [← hb.move0 hsb] at hm
  refine ⟨w1, rl, rm, h.ok, hl.ok, hb.ok, hm.1, hb.cut.1, hl.early hs _, hl.sync1, hb.move1 hsb, ?_, hm.2.2, hb.cut1, hb.cut.2, ?_⟩
  · rw [hm.2.1, hl.read, eb]; rfl
  · rw [syncFileR1, decide_eq_false h.nope]; rfl
theorem szFs_le {n : Nat} : ∀ {d : List Fil}, (∀ f ∈ d, szF f ≤ n) → szFs d ≤ n * d.length
  | [], _ => by simp [szFs]
  | f :: d, h => by
    have h1 := h f (List.mem_cons_self ..)
    have h2 := szFs_le (d := d) fun x hx => h x (List.mem_cons_of_mem _ hx)
    rw [szFs, List.length_cons, Nat.mul_succ]
    omega
theorem cost_ok {d : List Fil} (h : diskOkR d = true) : cost_disk d ≤ 1048576 := by
  obtain ⟨h1, h2, _⟩ := diskOk_iff.1 h
  have := szFs_le (n := 60010) (d := d) fun f hf => by
    obtain ⟨a, b, _, _⟩ := h2 f hf
    have a' : f.name.size ≤ 10 := by
      revert a
      unfold nmOk
      simp [inB]
      try omega
    unfold szF
    omega
  have h3 : 60010 * d.length ≤ 60010 * 4 := Nat.mul_le_mul_left _ h1
  unfold cost_disk
  omega
theorem read_small {d : List Fil} (h : DrawnDisk d) (nm : ByteArray) : (readFileR d nm).size ≤ 8 := by
  unfold readFileR
  split
  · exact (h.files _ (List.getElem_mem _)).1
  · decide
/-- A disk's variable. -/
def VarD (w : World) (g : Nat) (v : Value) (d : List Fil) : Prop := Blk w g 37 #[v] ∧ Rd_disk w v d
theorem VarD.below {w w' : World} {g : Nat} {v : Value} {d : List Fil} (h : VarD w g v d) (hb : Below w.heap.size w w') : VarD w' g v d := ⟨h.1.belowV hb, h.2.below hb⟩
theorem VarD.new {w : World} {v : Value} {d : List Fil} (h : Rd_disk w v d) : VarD (w.alloc (.cells #[v] 37)) w.heap.size v d := ⟨Blk.new _ _ _, h.below ((Below.refl _ _).alloc (Nat.le_refl _) _)⟩
set_option maxHeartbeats 16000000 in
set_option maxRecDepth 100000 in
theorem walk_FnFiles (v0 : Value) (w : World) (a0 : ArgBytes w v0) :
    Calls Try.prog 6 #[v0] w fun e w' => e = .returned (.bool true) ∧ Below w.heap.size w w' := by
  obtain ⟨code, hrd⟩ := a0
  by_cases hbig : code.length ≤ 1048576
  · have CB := Lib.hid (big_f w v0 code hrd hbig)
    have CD := Lib.hid (fun W (hW : Below w.heap.size w W) => drawDisk_any W v0 code (hrd.below hW) hbig)
    have CM := Lib.hid (fun W => decimal_small code.length W hbig)
    have HDR := Lib.hid (disk_drawn code)
    obtain ⟨A0, c0, hv0, hnc0, hcm0⟩ := hrd.shape
    unfold maxLen at hcm0
    unfold DrawnD at CD
    obtain ⟨d, hd⟩ : ∃ d, d = (diskD code).1 := ⟨_, rfl⟩
    rw [← hd] at CD HDR
    obtain ⟨n0, hn0⟩ : ∃ n0, n0 = code.length := ⟨_, rfl⟩
    subst hv0
    rw [← hn0] at CM CB CD hbig hnc0 ⊢
    clear hd hrd hn0
    go_enter Try.func6, Try.ntmps6
    go_wp2_with fail
    refine CB.out.mono ?_
    rintro e w0 ⟨rfl, rfl⟩
    go_wp2_with fail
    refine (CD.out _ (Below.refl _ _)).mono ?_
    rintro e w1 ⟨A1, c1, u1, rfl, hr1, -, hw1⟩
    obtain ⟨W1, hW1⟩ : ∃ W1, W1 = w1.alloc (.cells #[.slice A1 d.length c1] 37) := ⟨_, rfl⟩
    have V1 := Lib.hid (show VarD W1 w1.heap.size (.slice A1 d.length c1) d by rw [hW1]; exact VarD.new hr1)
    have hB1 : Below w.heap.size w W1 := by rw [hW1]; exact hw1.alloc hw1.size _
    have HW1 := Lib.hid hW1
    clear hr1 hW1 CB
    go_wp2_with fail
    rw [← HW1.out]
    refine (CD.out _ hB1).mono ?_
    rintro e w2 ⟨A2, c2, u2, rfl, hr2, -, hw2⟩
    obtain ⟨W2, hW2⟩ : ∃ W2, W2 = w2.alloc (.cells #[.slice A2 d.length c2] 37) := ⟨_, rfl⟩
    have V2 := Lib.hid (show VarD W2 w2.heap.size (.slice A2 d.length c2) d by rw [hW2]; exact VarD.new hr2)
    have h12 : Below W1.heap.size W1 W2 := by rw [hW2]; exact hw2.alloc hw2.size _
    have HW2 := Lib.hid hW2
    have hB2 := hB1.trans (h12.mono hB1.size)
    have V1 := Lib.hid (V1.out.below h12)
    clear hr2 hW2 CD HW1
    go_wp2_with fail
    rw [← HW2.out]
    refine (CM.out _).mono ?_
    rintro e w3 ⟨more, rfl, hm1, hm2, hw3⟩
    have HS := Lib.hid (files_say HDR.out hm1 hm2)
    have hB3 := hB2.trans (hw3.mono hB2.size)
    have V1 := Lib.hid (V1.out.below hw3)
    have V2 := Lib.hid (V2.out.below hw3)
    have hxs := read_small HDR.out txLog
    obtain ⟨xl, hxl⟩ : ∃ xl, xl = readFileR d txLog := ⟨_, rfl⟩
    obtain ⟨xm, hxm⟩ : ∃ xm, xm = readFileR d txMark := ⟨_, rfl⟩
    obtain ⟨a, ha⟩ : ∃ a, a = writeFileR0 d txLog more := ⟨_, rfl⟩
    rw [← ha] at HS
    obtain ⟨b, hb⟩ : ∃ b, b = syncFileR0 a txLog := ⟨_, rfl⟩
    rw [← hb] at HS
    obtain ⟨c, hc⟩ : ∃ c, c = moveFileR0 b txLog txMark := ⟨_, rfl⟩
    obtain ⟨ee, he⟩ : ∃ ee, ee = cutFileR0 b txLog 1 := ⟨_, rfl⟩
    rw [← hc, ← he] at HS
    obtain ⟨ce, hce⟩ : ∃ ce, ce = moveFileR0 a txLog txMark := ⟨_, rfl⟩
    obtain ⟨cn, hcn⟩ : ∃ cn, cn = syncFileR0 d txNope := ⟨_, rfl⟩
    have hcd := cost_ok HS.out.okd
    have hca := cost_ok HS.out.oka
    have hcb := cost_ok HS.out.okb
    have hcc := cost_ok HS.out.okc
    have hce' := cost_ok HS.out.oke
    have hmz : more.size ≤ 1048576 := by omega
    have hz3 : txLog.size ≤ 1048576 := by decide
    have hz4 : txMark.size ≤ 1048576 := by decide
    have hz5 : txNope.size ≤ 1048576 := by decide
    rw [← hxl] at hxs
    have hsum : ¬ 9223372036854775807 < xl.size + more.size := by omega
    have CW : Hid (∀ W, Rd_disk W (.slice A1 d.length c1) d → Calls Try.prog 27 #[.agg #[.slice A1 d.length c1], .string ⟨#[108, 111, 103]⟩, .string more] W (GivesDB a true W)) := Lib.hid (fun W h => by
      have q := writeFile_impl _ d txLog more W h hcd hz3 hmz
      rw [HS.out.w1, ← ha] at q; exact q)
    have CE : Hid (∀ W A c, Rd_disk W (.slice A a.length c) a → Calls Try.prog 35 #[.agg #[.slice A a.length c], .string ⟨#[108, 111, 103]⟩, .string ⟨#[109, 97, 114, 107]⟩] W (GivesDB ce false W)) := Lib.hid (fun W A c h => by
      have q := moveFile_impl _ a txLog txMark W h hca hz3 hz4
      rw [HS.out.early, ← hce] at q; exact q)
    have CS : Hid (∀ W A c, Rd_disk W (.slice A a.length c) a → Calls Try.prog 36 #[.agg #[.slice A a.length c], .string ⟨#[108, 111, 103]⟩] W (GivesDB b true W)) := Lib.hid (fun W A c h => by
      have q := syncFile_impl _ a txLog W h hca hz3
      rw [HS.out.s1, ← hb] at q; exact q)
    have CMV : Hid (∀ W A cc, Rd_disk W (.slice A b.length cc) b → Calls Try.prog 35 #[.agg #[.slice A b.length cc], .string ⟨#[108, 111, 103]⟩, .string ⟨#[109, 97, 114, 107]⟩] W (GivesDB c true W)) := Lib.hid (fun W A cc h => by
      have q := moveFile_impl _ b txLog txMark W h hcb hz3 hz4
      rw [HS.out.m1, ← hc] at q; exact q)
    have CC : Hid (∀ W A cc, Rd_disk W (.slice A b.length cc) b → Calls Try.prog 37 #[.agg #[.slice A b.length cc], .string ⟨#[108, 111, 103]⟩, .int .i64 1] W (GivesDB ee true W)) := Lib.hid (fun W A cc h => by
      have q := cutFile_impl _ b txLog 1 W h hcb hz3
      rw [HS.out.c1, ← he] at q; exact q)
    have CNN : Hid (∀ W, Rd_disk W (.slice A1 d.length c1) d → Calls Try.prog 36 #[.agg #[.slice A1 d.length c1], .string ⟨#[110, 111, 112, 101]⟩] W (GivesDB cn false W)) := Lib.hid (fun W h => by
      have q := syncFile_impl _ d txNope W h hcd hz5
      rw [HS.out.none_, ← hcn] at q; exact q)
    have RI : Hid (∀ (W : World) A cc (l : List Fil) (nm x : ByteArray), readFileR l nm = x → cost_disk l ≤ 1048576 → nm.size ≤ 1048576 → Rd_disk W (.slice A l.length cc) l → Calls Try.prog 33 #[.agg #[.slice A l.length cc], .string nm] W fun e w' => e = .returned (.string x) ∧ Below W.heap.size W w') := Lib.hid (fun W A cc l nm x hx h1 h2 h => by
      have q := readFile_impl _ l nm W h h1 h2
      rw [hx] at q; exact q)
    have RS : Hid (∀ (W : World) A cc (l : List Fil) (nm x : ByteArray), readFileR l nm = x → cost_disk l ≤ 1048576 → nm.size ≤ 1048576 → Rd_disk W (.slice A l.length cc) l → Calls Try.prog 34 #[.agg #[.slice A l.length cc], .string nm] W fun e w' => e = .returned (.string x) ∧ Below W.heap.size W w') := Lib.hid (fun W A cc l nm x hx h1 h2 h => by
      have q := readFile_spec _ l nm W h h1 h2
      rw [hx] at q; exact q)
    have EAL : Hid (readFileR a ⟨#[108, 111, 103]⟩ = xl ++ more) := Lib.hid (by have q := HS.out.rl; rw [← hxl] at q; exact q)
    have EAM : Hid (readFileR a ⟨#[109, 97, 114, 107]⟩ = xm) := Lib.hid (by have q := HS.out.rm; rw [← hxm] at q; exact q)
    have EDL : Hid (readFileR d ⟨#[108, 111, 103]⟩ = xl) := Lib.hid hxl.symm
    have EDM : Hid (readFileR d ⟨#[109, 97, 114, 107]⟩ = xm) := Lib.hid hxm.symm
    have ECM : Hid (readFileR c ⟨#[109, 97, 114, 107]⟩ = xl ++ more) := Lib.hid (HS.out.cm.trans EAL.out)
    have ECL : Hid (readFileR c ⟨#[108, 111, 103]⟩ = ⟨#[]⟩) := Lib.hid HS.out.cl
    obtain ⟨y, hy⟩ : ∃ y, y = readFileR ee txLog := ⟨_, rfl⟩
    have hy1 : ((y.size : Int) == 1) = true := beq_iff_eq.2 (by rw [hy, HS.out.el]; rfl)
    have EEL : Hid (readFileR ee ⟨#[108, 111, 103]⟩ = y) := Lib.hid hy.symm
    have OK : Hid (∀ (W : World) A cc (l : List Fil), diskOkR l = true → cost_disk l ≤ 1048576 → Rd_disk W (.slice A l.length cc) l → Calls Try.prog 32 #[.agg #[.slice A l.length cc]] W fun e w' => e = .returned (.bool true) ∧ Below W.heap.size W w') := Lib.hid (fun W A cc l h1 h2 h => by
      have q := diskOk_impl' _ l W h h2
      rw [h1] at q; exact q)
    have SM : Hid (∀ W, Rd_disk W (.slice A1 d.length c1) d → Rd_disk W (.slice A2 d.length c2) d → Calls Try.prog 20 #[.agg #[.slice A1 d.length c1], .agg #[.slice A2 d.length c2]] W fun e w' => e = .returned (.bool true) ∧ Below W.heap.size W w') := Lib.hid (fun W h h2 => by
      have q := sameDisk_any _ _ d d W h h2
      rw [decide_eq_true rfl] at q; exact q)
    clear hxl hxm ha hb hc he hce hcn hy HDR CM HW2 hz3 hz4 hz5
    have p1 := V1.out.1.cell 0
    have p1l := V1.out.1.lt
    simp only [List.getElem?_toArray, List.getElem?_cons_zero] at p1
    go_wp2_with fail
    refine (CW.out _ V1.out.2).mono ?_
    rintro e w4 ⟨u4, rfl, ho4, hw4⟩
    obtain ⟨A4, c4, rfl⟩ := ho4.form
    obtain ⟨W4, hW4⟩ : ∃ W4, W4 = w4.alloc (.cells #[.slice A4 a.length c4] 37) := ⟨_, rfl⟩
    have h34 : Below w3.heap.size w3 W4 := by rw [hW4]; exact hw4.alloc hw4.size _
    have V4 := Lib.hid (show VarD W4 w4.heap.size (.slice A4 a.length c4) a by rw [hW4]; exact VarD.new ho4.rd)
    have hB4 := hB3.trans (h34.mono hB3.size)
    have V1 := Lib.hid (V1.out.below h34)
    have V2 := Lib.hid (V2.out.below h34)
    have HW4 := Lib.hid hW4
    clear ho4 hW4 p1 p1l CW
    have p1 := V1.out.1.cell 0
    have p1l := V1.out.1.lt
    have p2 := V2.out.1.cell 0
    have p2l := V2.out.1.lt
    have p4 := V4.out.1.cell 0
    have p4l := V4.out.1.lt
    simp only [List.getElem?_toArray, List.getElem?_cons_zero] at p1 p2 p4
    go_upto_region 7 with (fail)
    rw [← HW4.out]
    first | refine wp_region_calm_on (by kernel_rfl) (by kernel_rfl) ?_ | refine wp_region_calm_lit (by kernel_rfl) (by kernel_rfl) ?_
    repeat (go_big_quiet_step (first | (go_at_call 32; exact calm_of (OK.out _ _ _ d HS.out.okd hcd (V1.out.2.below (Calm.below _)))) | (go_at_call 33; exact calm_of (RI.out _ _ _ a _ _ (by first | exact EAL.out | exact EAM.out) hca (by decide) (V4.out.2.below (Calm.below _)))) | (go_at_call 34; exact calm_of (RS.out _ _ _ d _ _ (by first | exact EDL.out | exact EDM.out) hcd (by decide) (V2.out.2.below (Calm.below _)))) | (go_at_call 20; exact calm_of (SM.out _ (V1.out.2.below (Calm.below _)) (V2.out.2.below (Calm.below _))))))
    refine wpQuiet_nil ?_
    intro _ hw'
    obtain ⟨k1, hw''⟩ := hw'
    subst hw''
    obtain ⟨w5, hw5, hk5⟩ := k1.out
    rw [hk5]
    have hB5 := hB4.trans (hw5.mono hB4.size)
    have V1 := Lib.hid (V1.out.below hw5)
    have V4 := Lib.hid (V4.out.below hw5)
    clear hk5 p1 p1l p2 p2l p4 p4l V2 HW4
    have p6 := V4.out.1.cell 0
    have p6l := V4.out.1.lt
    simp only [List.getElem?_toArray, List.getElem?_cons_zero] at p6
    go_wp2_with fail
    refine (CE.out _ _ _ V4.out.2).mono ?_
    rintro e w6 ⟨u6, rfl, ho6, hw6⟩
    obtain ⟨A6, c6, rfl⟩ := ho6.form
    have Q1_6 := Lib.hid (V1.out.below hw6)
    have Q4_6 := Lib.hid (V4.out.below hw6)
    obtain ⟨W6, hW6⟩ : ∃ W6, W6 = w6.alloc (.cells #[.slice A6 ce.length c6] 37) := ⟨_, rfl⟩
    have hx6 : Below w5.heap.size w5 W6 := by rw [hW6]; exact hw6.alloc hw6.size _
    have V6 := Lib.hid (show VarD W6 w6.heap.size (.slice A6 ce.length c6) ce by rw [hW6]; exact VarD.new ho6.rd)
    have hB6 := hB5.trans (hx6.mono hB5.size)
    have V1 := Lib.hid (V1.out.below hx6)
    have V4 := Lib.hid (V4.out.below hx6)
    have HW6 := Lib.hid hW6
    clear ho6 hW6 p6 p6l
    have p7 := Q4_6.out.1.cell 0
    have p7l := Q4_6.out.1.lt
    simp only [List.getElem?_toArray, List.getElem?_cons_zero] at p7
    go_wp2_with fail
    rw [← HW6.out]
    refine (CS.out _ _ _ V4.out.2).mono ?_
    rintro e w7 ⟨u7, rfl, ho7, hw7⟩
    obtain ⟨A7, c7, rfl⟩ := ho7.form
    have Q1_7 := Lib.hid (V1.out.below hw7)
    have Q4_7 := Lib.hid (V4.out.below hw7)
    obtain ⟨W7, hW7⟩ : ∃ W7, W7 = w7.alloc (.cells #[.slice A7 b.length c7] 37) := ⟨_, rfl⟩
    have hx7 : Below W6.heap.size W6 W7 := by rw [hW7]; exact hw7.alloc hw7.size _
    have V7 := Lib.hid (show VarD W7 w7.heap.size (.slice A7 b.length c7) b by rw [hW7]; exact VarD.new ho7.rd)
    have hB7 := hB6.trans (hx7.mono hB6.size)
    have V1 := Lib.hid (V1.out.below hx7)
    have V4 := Lib.hid (V4.out.below hx7)
    have HW7 := Lib.hid hW7
    clear ho7 hW7 p7 p7l
    go_wp2_with fail
    rw [← HW7.out]
    refine (CMV.out _ _ _ V7.out.2).mono ?_
    rintro e w8 ⟨u8, rfl, ho8, hw8⟩
    obtain ⟨A8, c8, rfl⟩ := ho8.form
    have Q1_8 := Lib.hid (V1.out.below hw8)
    have Q4_8 := Lib.hid (V4.out.below hw8)
    have Q7_8 := Lib.hid (V7.out.below hw8)
    obtain ⟨W8, hW8⟩ : ∃ W8, W8 = w8.alloc (.cells #[.slice A8 c.length c8] 37) := ⟨_, rfl⟩
    have hx8 : Below W7.heap.size W7 W8 := by rw [hW8]; exact hw8.alloc hw8.size _
    have V8 := Lib.hid (show VarD W8 w8.heap.size (.slice A8 c.length c8) c by rw [hW8]; exact VarD.new ho8.rd)
    have hB8 := hB7.trans (hx8.mono hB7.size)
    have V1 := Lib.hid (V1.out.below hx8)
    have V4 := Lib.hid (V4.out.below hx8)
    have V7 := Lib.hid (V7.out.below hx8)
    have HW8 := Lib.hid hW8
    clear ho8 hW8
    have p9 := Q7_8.out.1.cell 0
    have p9l := Q7_8.out.1.lt
    simp only [List.getElem?_toArray, List.getElem?_cons_zero] at p9
    go_wp2_with fail
    rw [← HW8.out]
    refine (CC.out _ _ _ V7.out.2).mono ?_
    rintro e w9 ⟨u9, rfl, ho9, hw9⟩
    obtain ⟨A9, c9, rfl⟩ := ho9.form
    have Q1_9 := Lib.hid (V1.out.below hw9)
    have Q4_9 := Lib.hid (V4.out.below hw9)
    have Q7_9 := Lib.hid (V7.out.below hw9)
    have Q8_9 := Lib.hid (V8.out.below hw9)
    obtain ⟨W9, hW9⟩ : ∃ W9, W9 = w9.alloc (.cells #[.slice A9 ee.length c9] 37) := ⟨_, rfl⟩
    have hx9 : Below W8.heap.size W8 W9 := by rw [hW9]; exact hw9.alloc hw9.size _
    have V9 := Lib.hid (show VarD W9 w9.heap.size (.slice A9 ee.length c9) ee by rw [hW9]; exact VarD.new ho9.rd)
    have hB9 := hB8.trans (hx9.mono hB8.size)
    have V1 := Lib.hid (V1.out.below hx9)
    have V4 := Lib.hid (V4.out.below hx9)
    have V7 := Lib.hid (V7.out.below hx9)
    have V8 := Lib.hid (V8.out.below hx9)
    have HW9 := Lib.hid hW9
    clear ho9 hW9 p9 p9l
    have p10 := Q1_9.out.1.cell 0
    have p10l := Q1_9.out.1.lt
    simp only [List.getElem?_toArray, List.getElem?_cons_zero] at p10
    go_wp2_with fail
    rw [← HW9.out]
    refine (CNN.out _ V1.out.2).mono ?_
    rintro e w10 ⟨u10, rfl, ho10, hw10⟩
    obtain ⟨A10, c10, rfl⟩ := ho10.form
    have Q4_10 := Lib.hid (V4.out.below hw10)
    have Q7_10 := Lib.hid (V7.out.below hw10)
    have Q8_10 := Lib.hid (V8.out.below hw10)
    have Q9_10 := Lib.hid (V9.out.below hw10)
    obtain ⟨W10, hW10⟩ : ∃ W10, W10 = w10.alloc (.cells #[.slice A10 cn.length c10] 37) := ⟨_, rfl⟩
    have hx10 : Below W9.heap.size W9 W10 := by rw [hW10]; exact hw10.alloc hw10.size _
    have V10 := Lib.hid (show VarD W10 w10.heap.size (.slice A10 cn.length c10) cn by rw [hW10]; exact VarD.new ho10.rd)
    have hB10 := hB9.trans (hx10.mono hB9.size)
    have V4 := Lib.hid (V4.out.below hx10)
    have V7 := Lib.hid (V7.out.below hx10)
    have V8 := Lib.hid (V8.out.below hx10)
    have V9 := Lib.hid (V9.out.below hx10)
    have HW10 := Lib.hid hW10
    clear ho10 hW10 p10 p10l
    have p4 := V4.out.1.cell 0
    have p4l := V4.out.1.lt
    have p7 := V7.out.1.cell 0
    have p7l := V7.out.1.lt
    have p8 := V8.out.1.cell 0
    have p8l := V8.out.1.lt
    have p9 := V9.out.1.cell 0
    have p9l := V9.out.1.lt
    simp only [List.getElem?_toArray, List.getElem?_cons_zero] at p4 p7 p8 p9
    go_upto_region 14 with (fail)
    rw [← HW10.out]
    first | refine wp_region_calm_on (by kernel_rfl) (by kernel_rfl) ?_ | refine wp_region_calm_lit (by kernel_rfl) (by kernel_rfl) ?_
    repeat (go_big_quiet_step (first | (go_at_call 32; exact calm_of (OK.out _ _ _ _ (by first | exact HS.out.okb | exact HS.out.okc | exact HS.out.oke) (by first | exact hcb | exact hcc | exact hce') (by first | exact (V7.out.2.below (Calm.below _)) | exact (V8.out.2.below (Calm.below _)) | exact (V9.out.2.below (Calm.below _))))) | (go_at_call 33; exact calm_of (RI.out _ _ _ _ _ _ (by first | exact ECM.out | exact EAL.out | exact ECL.out | exact EEL.out) (by first | exact hca | exact hcc | exact hce') (by decide) (by first | exact (V4.out.2.below (Calm.below _)) | exact (V8.out.2.below (Calm.below _)) | exact (V9.out.2.below (Calm.below _)))))))
    refine wpQuiet_nil ?_
    intro _ hw'
    obtain ⟨k2, hw''⟩ := hw'
    subst hw''
    obtain ⟨w11, hw11, hk11⟩ := k2.out
    rw [hk11]
    go_wp2_with fail
    go_ret
    exact ⟨rfl, hB10.trans (hw11.mono hB10.size)⟩
  · have CB := Lib.hid (big_t w v0 code hrd (by omega))
    go_enter Try.func6, Try.ntmps6
    go_wp2_with fail
    refine CB.out.mono ?_
    rintro e w0 ⟨rfl, rfl⟩
    go_wp2_with fail
    go_ret
    exact ⟨rfl, Below.refl _ _⟩
end Go.Proofs.Ythjkmefbjbfonaa

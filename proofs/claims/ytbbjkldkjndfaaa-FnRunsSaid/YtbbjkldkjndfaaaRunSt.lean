/- Where a draw of a run stands: its cursor, its variable, its result's variable. -/
import Derived.Test.YtbbjkldkjndfaaaRunsD
import Derived.Test.YtbbjkldkjndfaaaRunDoneS
import Derived.Test.YtbbjkldkjndfaaaRunFailsS
import Derived.Test.YtbbjkldkjndfaaaRunFails
import Derived.Test.YtbbjkldkjndfaaaStarted
import Derived.Test.YtbbjkldkjndfaaaRunNew
import Derived.Test.YtbbjkldkjndfaaaGA
namespace Go.Proofs.Ytbbjkldkjndfaaa
set_option linter.unusedSimpArgs false
set_option linter.unusedVariables false
open Go.RowKit Go.ChangeShapes Go.Deep

/-- A run's cells. -/
def rnC (x : Rn) (A : Option Addr) (ca : Nat) (A' : Option Addr) (ca' : Nat) : Array Value := #[.int .i64 x.id, .int .i64 x.plan.prio, .int .i64 x.plan.most, .int .i64 x.plan.wait, .int .i64 x.plan.tasks, .slice A x.plan.edges.length ca, .int .i64 x.state, .slice A' x.tasks.length ca']
def rnZ : Array Value := #[.int .i64 0, .int .i64 0, .int .i64 0, .int .i64 0, .int .i64 0, .slice none 0 0, .int .i64 0, .slice none 0 0]
theorem Own_run.mono {w : World} {lo hi lo' hi' : Nat} {u v : Value} {x : Rn} (h : Own_run w lo hi u v x) (h1 : lo' ≤ lo) (h2 : hi ≤ hi') (h3 : hi' ≤ w.heap.size) : Own_run w lo' hi' u v x := by
  obtain ⟨m, a, b, o1, o2⟩ := h
  exact ⟨m, by omega, by omega, OwnS.mono o1 h1 (Nat.le_refl _) (by omega), OwnS.mono o2 (Nat.le_refl _) h2 h3⟩
structure RunSt (w : World) (B g b3 : Nat) (v : Value) (code : List UInt8) (wr : World) (x : Rn) (A : Option Addr) (ca : Nat) (A' : Option Addr) (ca' : Nat) (d : Nat × Int) : Prop where
  cur : CurAt wr B g v code d
  res : Blk wr w.heap.size 52 rnZ
  var : Blk wr b3 52 (rnC x A ca A' ca')
  own : ∃ lo hi, w.heap.size < lo ∧ (hi ≤ b3 ∨ b3 < lo) ∧ Own_run wr lo hi (.slice A x.plan.edges.length ca) (.slice A' x.tasks.length ca') x
  gw : w.grownBy wr (some g)
  hg : g < w.heap.size
  hb : w.heap.size < b3
  hB : B ≤ g
section
variable {w : World} {B g b3 : Nat} {v : Value} {code : List UInt8} {wr w' w9 : World} {x Y : Rn} {A A1 : Option Addr} {ca c1 : Nat} {A' A2 : Option Addr} {ca' c2 : Nat} {d d' : Nat × Int}
theorem RunSt.draw (h : RunSt w B g b3 v code wr x A ca A' ca' d) (hc : CurAt w' B g v code d') (hg : wr.grownBy w' (some g)) : RunSt w B g b3 v code w' x A ca A' ca' d' := by
  have h1 := h.hg
  have h2 := h.hb
  obtain ⟨lo, hi, q1, q2, ho⟩ := h.own
  exact ⟨hc, h.res.grown hg (by simp; omega), h.var.grown hg (by simp; omega), ⟨lo, hi, q1, q2, Own_run.keep ho (Part.of_grown (lo := g) (hi := g + 1) hg (fun j hj => by injection hj with hj; omega)) (.inr (by omega))⟩, only_trans h.gw hg, h.hg, h.hb, h.hB⟩
theorem RunSt.below (h : RunSt w B g b3 v code wr x A ca A' ca' d) (hb : Below wr.heap.size wr w') : RunSt w B g b3 v code w' x A ca A' ca' d :=
  h.draw (h.cur.below hb) (only_of_below hb _)
theorem RunSt.put (h : RunSt w B g b3 v code wr x A ca A' ca' d) (hb : Below wr.heap.size wr w') (ho : Own_run w' wr.heap.size w'.heap.size (.slice A1 Y.plan.edges.length c1) (.slice A2 Y.tasks.length c2) Y)
    (hp : Part b3 (b3 + 1) w' w9) (hk : Blk w9 b3 52 (rnC Y A1 c1 A2 c2)) : RunSt w B g b3 v code w9 Y A1 c1 A2 c2 d := by
  have h0 := h.below hb
  have h1 := h.hg
  have h2 := h.hb
  have h3 := h.var.lt
  have h4 := h.hB
  have hgp : w'.grownBy w9 (some b3) := ⟨hp.os, hp.tape, hp.output, hp.size, fun i hi hn => hp.block i hi (by
    have : i ≠ b3 := fun e => hn (by rw [e])
    omega)⟩
  exact ⟨h0.cur.keep hgp (fun k hk => by injection hk with hk; omega) (by simp; omega), h0.res.keepV hp (.inl h2), hk, ⟨wr.heap.size, w'.heap.size, by omega, .inr h3, Own_run.keep ho hp (.inr (by omega))⟩,
    ⟨hp.os.trans h0.gw.os, hp.tape.trans h0.gw.tape, hp.output.trans h0.gw.output, Nat.le_trans h0.gw.size hp.size, fun i hi hn => (hp.block i (Nat.lt_of_lt_of_le hi h0.gw.size) (.inl (by omega))).trans (h0.gw.block i hi hn)⟩, h1, h2, h.hB⟩
theorem RunSt.fin (h : RunSt w B g b3 v code wr x A ca A' ca' d) (hp : Part w.heap.size (w.heap.size + 1) wr w9) : Own_run w9 w.heap.size w9.heap.size (.slice A x.plan.edges.length ca) (.slice A' x.tasks.length ca') x ∧ CurAt w9 B g v code d ∧ w.grownBy w9 (some g) := by
  have h1 := h.hg
  have h2 := h.hb
  have h4 := h.hB
  have hgp : wr.grownBy w9 (some w.heap.size) := ⟨hp.os, hp.tape, hp.output, hp.size, fun i hi hn => hp.block i hi (by
    have : i ≠ w.heap.size := fun e => hn (by rw [e])
    omega)⟩
  obtain ⟨lo, hi, q1, q2, ho⟩ := h.own
  have ho' := Own_run.keep ho hp (.inr (by omega))
  exact ⟨Own_run.mono ho' (by omega) (by obtain ⟨m, _, _, _, o2⟩ := ho'; exact o2.2.1) (Nat.le_refl _), h.cur.keep hgp (fun k hk => by injection hk with hk; omega) (by simp; omega),
    ⟨hp.os.trans h.gw.os, hp.tape.trans h.gw.tape, hp.output.trans h.gw.output, Nat.le_trans h.gw.size hp.size, fun i hi hn => (hp.block i (Nat.lt_of_lt_of_le hi h.gw.size) (.inl (by omega))).trans (h.gw.block i hi hn)⟩⟩
theorem RunSt.rd (h : RunSt w B g b3 v code wr x A ca A' ca' d) : Rd_run wr (.slice A x.plan.edges.length ca) (.slice A' x.tasks.length ca') x := by obtain ⟨lo, hi, _, _, ho⟩ := h.own; exact Own_run.rd ho
end
/-- What a draw of a run leaves. -/
def DrewR (w0 : World) (B g : Nat) (v : Value) (code : List UInt8) (x : Rn) (c : Nat × Int) (e : Ending) (w' : World) : Prop :=
  ∃ u u', e = .returned (.agg #[.int .i64 x.id, .int .i64 x.plan.prio, .int .i64 x.plan.most, .int .i64 x.plan.wait, .int .i64 x.plan.tasks, u, .int .i64 x.state, u']) ∧ Own_run w' w0.heap.size w'.heap.size u u' x ∧ CurAt w' B g v code c ∧ w0.grownBy w' (some g)
/-- A list of the call's own, kept by a draw. -/
theorem ints_grown {w w' : World} {lo hi g : Nat} {u : Value} {l : List Int} (h : Own_ints w lo hi u l) (hg : w.grownBy w' (some g)) (hl : g < lo) : Own_ints w' lo hi u l :=
  OwnS.keep h (Part.of_grown (lo := g) (hi := g + 1) hg (fun j hj => by injection hj with hj; omega)) (.inr (by omega))
end Go.Proofs.Ytbbjkldkjndfaaa

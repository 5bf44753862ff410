/- Plain facts of FramesOf and ScanOf; the law of an append of a string's bytes. -/
import Derived.Test.YthjkmefbjbfonaaFrameAt
import Derived.Test.YthjkmefbjbfonaaStrS
import Derived.Lib.AppendStr
namespace Go.Proofs.Ythjkmefbjbfonaa
open Go.RowKit Go.ChangeShapes

section
variable {P : Program}
/-- 'append(out, s...)', s a string, onto a row of the call's own. -/
theorem wpList_append_str {ops : Array Oper} {rest : List Oper} {o : Oper} {a : Act} {Q : Exit → Act → World → Prop} {w0 w : World} (hgd : o.guard = none) (s x : Operand) (t u : TypeId)
    (ho : o.op = .call { callee := .builtin .append, args := #[s, x], argTypes := #[t, u] })
    (base : Nat) (e : TypeId) (i : TypeInfo) (ht : P.underlying t = some (.slice e)) (hu : P.underlying u = some .string) (hi : P.info? e = some i) (hz : i.zero = some (.int .u8 0))
    (hsize : i.size = 1) (hby : i.bytes = 1)
    (v : Value) (n : Nat) (xs : List Value) (hs : a.eval s = v) (hown : w.ownsRow base e 1 v n xs) (hb : Below base w0 w) (hbase : base ≤ w.heap.size)
    (b : ByteArray) (hx : a.eval x = .string b) (hbytes : n + b.size ≤ 1000000000)
    (h : ∀ v' w', w'.ownsRow base e 1 v' (n + b.size) (xs ++ Lib.strCells b) → Below base w0 w' → w.grownBy w' v.ownBlock → wpList P ops Q rest (a.put o.dst v') w') : wpList P ops Q (o :: rest) a w := by
  obtain ⟨v', w', hrun, h2, h3, _⟩ := Lib.run_append_own_string (P := P) (w := w) base t u o.type e i ht hu hi hz hsize hby v n xs hown b (by unfold maxLen; omega) (by omega) hbase
  refine wpList_plain hgd fun K hK => ?_
  unfold Oper.wp execOp
  simp only [ho, resolve, invoke, builtin, Sem.run_bind, Sem.run_pure, Result.andThen_ok, List.map_toArray, List.map_cons, List.map_nil, hs, hx, hrun]
  exact hK _ _ (h v' w' h2 (hb.grown h3 hbase fun k hk => (hown.lt k hk).1) h3)
end

/-- The bytes of frames, one behind the other; nothing where one is none, or they are too long. -/
def framesGo : List ByteArray → List UInt8 → ByteArray
  | [], acc => ⟨acc.toArray⟩
  | b :: r, acc => if (frameOf b).toList = [] ∨ 60000 < acc.length + (frameOf b).size then ⟨#[]⟩ else framesGo r (acc ++ (frameOf b).data.toList)
def framesOf (l : List ByteArray) : ByteArray := framesGo l []
theorem strCells_eq (b : ByteArray) : Lib.strCells b = bytesV b.data.toList := rfl

/-- The bodies that are read from place p on, and where the reading ends. -/
def scanGo (s : ByteArray) : Nat → Int → List ByteArray × Int
  | 0, p => ([], p)
  | f + 1, p => if frameAtE s p < 0 then ([], p) else (frameAtB s p :: (scanGo s f (frameAtE s p)).1, (scanGo s f (frameAtE s p)).2)
def scanL (s : ByteArray) : List ByteArray := if s.size ≤ 60000 then (scanGo s (s.size + 1) 0).1 else []
def scanE (s : ByteArray) : Int := if s.size ≤ 60000 then (scanGo s (s.size + 1) 0).2 else 0
theorem frameAt_bd (s : ByteArray) (p : Int) : frameAtE s p = -1 ∨ (0 ≤ p ∧ p < frameAtE s p ∧ frameAtE s p ≤ (s.size : Int) ∧ (frameAtB s p).size ≤ 400) := by
  unfold frameAtE frameAtB frameAt
  by_cases h : frameNo s p
  · rw [if_pos h]; exact .inl rfl
  · rw [if_neg h]
    by_cases hq : ((sumOf (frameBody s p) : Nat) : Int) = fourAtN s (varAtE s p)
    · rw [if_pos hq]
      have hb := varAt_bd s p
      unfold frameNo at h
      refine .inr ⟨by omega, by show p < varAtE s p + 4 + varAtN s p; omega, by show varAtE s p + 4 + varAtN s p ≤ _; omega, ?_⟩
      show (frameBody s p).size ≤ 400
      unfold frameBody
      rw [size_extract' (by omega)]
      omega
    · rw [if_neg hq]; exact .inl rfl
theorem scanGo_len (s : ByteArray) : ∀ f p, (scanGo s f p).1.length ≤ f
  | 0, _ => by simp [scanGo]
  | f + 1, p => by
    rw [scanGo]
    by_cases h : frameAtE s p < 0
    · rw [if_pos h]; simp
    · rw [if_neg h]; have := scanGo_len s f (frameAtE s p); simp; omega
theorem scanL_len (s : ByteArray) : (scanL s).length ≤ 60001 := by
  unfold scanL
  by_cases h : s.size ≤ 60000
  · rw [if_pos h]; have := scanGo_len s (s.size + 1) 0; omega
  · rw [if_neg h]; simp
end Go.Proofs.Ythjkmefbjbfonaa

/- Plain facts: the bytes of a number in groups of seven bits, and slices of bytes. No program in sight. -/
import Derived.Test.YtfcgijhiedlfgaaDoorWords
namespace Go.Proofs.YtfcgijhiedlfgaaDoor
open Go.RowKit

/-- The cells of bytes. -/
def bytesV (l : List UInt8) : List Value := l.map fun b => .int .u8 (b.toNat : Int)
theorem bytesV_nil : bytesV [] = [] := rfl
theorem bytesV_append (a b : List UInt8) : bytesV (a ++ b) = bytesV a ++ bytesV b := by simp [bytesV]
theorem bytesV_length (a : List UInt8) : (bytesV a).length = a.length := by simp [bytesV]
theorem bytesV_one (a : List UInt8) : ∀ u ∈ bytesV a, u.oneCell' = true := by
  intro u hu
  simp only [bytesV, List.mem_map] at hu
  obtain ⟨b, _, rfl⟩ := hu
  rfl

theorem run_string_own {P : Program} {w : World} {base : Nat} {src dst e : TypeId} {v : Value} {n : Nat} {l : List UInt8} (hs : P.underlying src = some (.slice e)) (he : P.underlying e = some (.int .u8)) (hd : P.underlying dst = some .string)
    (h : w.ownsRow base e 1 v n (bytesV l)) : (convert src dst v).run P w = .ok (.string ⟨l.toArray⟩) w := by
  have hl : l.length = n := by have := h.1; rw [bytesV_length] at this; omega
  subst hl
  rcases h.2 with ⟨rfl, h0⟩ | ⟨g, cap, cur, rfl, _, hg, hn, _, hsz, hx⟩
  · have : l = [] := List.eq_nil_of_length_eq_zero h0
    subst this
    rw [run_convert_bytes_string w src dst e none 0 0 hs he hd]
    simp [Conv.bytesToString]
    rfl
  · refine run_convert_bytes_back w src dst e ⟨g, 0, none⟩ cap l hs he hd fun j hj => ?_
    exact h.cells (g := g) rfl j _ (by simp [bytesV, List.getElem?_eq_getElem hj])

def vtL : Nat → Nat → List UInt8
  | 0, _ => []
  | f + 1, m => if m < 128 then [UInt8.ofNat m] else UInt8.ofNat (m % 128 + 128) :: vtL f (m / 128)

def varText (n : Int) : ByteArray := if 0 ≤ n ∧ n ≤ 1000000000 then ⟨(vtL 5 n.toNat).toArray⟩ else ⟨#[]⟩

theorem vt_step (f m : Nat) (h : m < 128 ^ f) (hm : 128 ≤ m) : ∃ f', f = f' + 1 ∧ 1 ≤ f' ∧ m / 128 < 128 ^ f' ∧ vtL f m = UInt8.ofNat (m % 128 + 128) :: vtL f' (m / 128) := by
  match f, h with
  | 0, h => simp at h; omega
  | f + 1, h =>
    rw [Nat.pow_succ] at h
    have h' := Nat.div_lt_of_lt_mul (by rw [Nat.mul_comm]; exact h : m < 128 * 128 ^ f)
    refine ⟨f, rfl, ?_, h', by rw [vtL, if_neg (by omega)]⟩
    match f, h' with
    | 0, h' => simp at h'; omega
    | f + 1, _ => omega
theorem vt_last (f m : Nat) (h : 1 ≤ f) (hm : m < 128) : vtL f m = [UInt8.ofNat m] := by
  match f, h with
  | f + 1, h => rw [vtL, if_pos hm]

/-- A literal of bytes in a new block, made a string. -/
theorem run_string_block {P : Program} {src dst e : TypeId} (hs : P.underlying src = some (.slice e)) (he : P.underlying e = some (.int .u8)) (hd : P.underlying dst = some .string)
    (w : World) (ns : List Int) (k c : Nat) (hk : ns.length = k) :
    (convert src dst (.slice (some ⟨w.heap.size, 0, none⟩) k c)).run P (w.alloc (.cells (ns.map (Value.int .u8)).toArray e)) = .ok (.string (strOfNums ns)) (w.alloc (.cells (ns.map (Value.int .u8)).toArray e)) := by
  refine run_convert_bytes_arg _ src e hs he _ 0 k c ns hk (fun i hi => ?_) dst hd
  rw [World.cell?_alloc_at _ _ _ _ rfl]
  have : i < ns.length := by omega
  simp [List.getD, List.getElem?_eq_getElem this]

def fourL (n : Int) : List Int := [n / 16777216, n / 65536 % 256, n / 256 % 256, n % 256]
def fourOf (n : Int) : ByteArray := if 0 ≤ n ∧ n ≤ 4294967295 then strOfNums (fourL n) else ⟨#[]⟩

theorem str_inj {a b : ByteArray} (h : a.toList = b.toList) : a = b := by
  rw [ByteArray.toList_eq, ByteArray.toList_eq] at h
  exact ByteArray.ext (Array.toList_inj.1 h)
theorem str_ne {a b : ByteArray} (h : ¬ a = b) : (a.toList == b.toList) = false := by
  rw [beq_eq_false_iff_ne]
  exact fun e => h (str_inj e)
theorem str_eq {a b : ByteArray} (h : a = b) : (a.toList == b.toList) = true := by rw [h]; exact beq_self_eq_true _

/-- Byte i of a string, 0 behind its end. -/
def byteAt (s : ByteArray) (i : Nat) : Nat := (s.data.toList.getD i 0).toNat
theorem byteAt_eq {s : ByteArray} {i : Nat} (h : i < s.size) : (s[i]'h).toNat = byteAt s i := by
  have h' : i < s.data.toList.length := by rw [Array.length_toList]; exact h
  simp only [byteAt, List.getD, List.getElem?_eq_getElem h', Option.getD_some]
  rfl
theorem byteAt_lt (s : ByteArray) (i : Nat) : byteAt s i < 256 := UInt8.toNat_lt _
theorem byteAt_get? {s : ByteArray} {i : Nat} : byteAt s i = (s.data[i]?.getD 0).toNat := by simp [byteAt, List.getD]
theorem byteAt_extract {s : ByteArray} {a b i : Nat} (h : a + i < b) (hb : b ≤ s.size) : byteAt (s.extract a b) i = byteAt s (a + i) := by
  have hb' : b ≤ s.data.size := hb
  rw [byteAt_get?, byteAt_get?, ByteArray.data_extract, Array.getElem?_extract, if_pos (by omega)]
theorem size_extract' {s : ByteArray} {a b : Nat} (hb : b ≤ s.size) : (s.extract a b).size = b - a := by
  rw [ByteArray.size_extract]; omega

theorem bytes_of_string {P : Program} (w : World) (src dst e : TypeId) (s : ByteArray) (hs : P.underlying src = some .string) (hd : P.underlying dst = some (.slice e)) (he : P.underlying e = some (.int .u8)) :
    ∃ cap W1, (convert src dst (.string s)).run P w = .ok (.slice (some ⟨w.heap.size, 0, none⟩) s.size cap) W1 ∧ Below w.heap.size w W1 ∧ w.heap.size < W1.heap.size ∧
      ∀ i, i < s.size → W1.cell? ⟨w.heap.size, i, none⟩ = some (.int .u8 (byteAt s i : Int)) := by
  refine ⟨_, _, run_bytes_of_string w src dst e s hs hd he, ((Below.refl _ _).drew).alloc (Nat.le_refl _) _, by simp, fun i hi => ?_⟩
  rw [show w.heap.size = w.drew.heap.size from rfl, World.cell?_alloc_mark, ← byteAt_eq hi]
  have h' : i < s.data.size := hi
  have h2 : (s.data.map (fun b => Value.int .u8 b.toNat)).size = s.data.size := by simp
  unfold bytesRow
  rw [Array.getElem?_append_left (by rw [h2]; exact h'), Array.getElem?_map, Array.getElem?_eq_getElem h']
  rfl

def fourAt (s : ByteArray) (p : Nat) : Int := (byteAt s p : Int) * 16777216 + (byteAt s (p + 1) : Int) * 65536 + (byteAt s (p + 2) : Int) * 256 + (byteAt s (p + 3) : Int)
theorem vtL_len : ∀ f m, (vtL f m).length ≤ f
  | 0, _ => by simp [vtL]
  | f + 1, m => by
    rw [vtL]
    by_cases h : m < 128
    · rw [if_pos h]; simp
    · rw [if_neg h]; have := vtL_len f (m / 128); simp; omega
theorem varText_size (n : Int) : (varText n).size ≤ 5 := by
  unfold varText
  by_cases h : 0 ≤ n ∧ n ≤ 1000000000
  · rw [if_pos h]; show (vtL 5 n.toNat).toArray.size ≤ 5; simpa using vtL_len 5 n.toNat
  · rw [if_neg h]; show 0 ≤ 5; omega
theorem fourOf_size (n : Int) : (fourOf n).size ≤ 4 := by
  unfold fourOf
  by_cases h : 0 ≤ n ∧ n ≤ 4294967295
  · rw [if_pos h, strOfNums_size]; simp [fourL]
  · rw [if_neg h]; show 0 ≤ 4; omega
/-- What the program's loop holds after k rounds. -/
def fourTo (s : ByteArray) (p : Nat) : Nat → Int
  | 0 => 0
  | k + 1 => 256 * fourTo s p k + (byteAt s (p + k) : Int)
theorem fourTo_bd (s : ByteArray) (p : Nat) : ∀ k, 0 ≤ fourTo s p k ∧ fourTo s p k < 256 ^ k
  | 0 => by simp [fourTo]
  | k + 1 => by
    have := fourTo_bd s p k
    have := byteAt_lt s (p + k)
    rw [fourTo, Int.pow_succ]
    generalize (256 : Int) ^ k = y at *
    omega
theorem fourTo_four (s : ByteArray) (p : Nat) : fourTo s p 4 = fourAt s p := by
  simp only [fourTo, fourAt, Nat.add_zero]
  omega
end Go.Proofs.YtfcgijhiedlfgaaDoor

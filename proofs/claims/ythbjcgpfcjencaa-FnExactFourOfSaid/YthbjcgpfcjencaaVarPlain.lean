/- Plain facts: the bytes of a number in groups of seven bits, and slices of bytes. No program in sight. -/
import Derived.Test.YthbjcgpfcjencaaWords
namespace Go.Proofs.Ythbjcgpfcjencaa
open Go.RowKit

/-- The cells of bytes. -/
def bytesV (l : List UInt8) : List Value := l.map fun b => .int .u8 (b.toNat : Int)
theorem bytesV_nil : bytesV [] = [] := rfl
theorem bytesV_append (a b : List UInt8) : bytesV (a ++ b) = bytesV a ++ bytesV b := by simp [bytesV]
theorem bytesV_length (a : List UInt8) : (bytesV a).length = a.length := by simp [bytesV]
theorem bytesV_one (a : List UInt8) : ∀ u ∈ bytesV a, u.oneCell' = true := by
  intro u hu
  simp only [bytesV, List.mem_map] at hu
  obtain ⟨b, _, rfl⟩ := hu
  rfl

theorem run_string_own {P : Program} {w : World} {base : Nat} {src dst e : TypeId} {v : Value} {n : Nat} {l : List UInt8} (hs : P.underlying src = some (.slice e)) (he : P.underlying e = some (.int .u8)) (hd : P.underlying dst = some .string)
    (h : w.ownsRow base e 1 v n (bytesV l)) : (convert src dst v).run P w = .ok (.string ⟨l.toArray⟩) w := by
  have hl : l.length = n := by have := h.1; rw [bytesV_length] at this; omega
  subst hl
  rcases h.2 with ⟨rfl, h0⟩ | ⟨g, cap, cur, rfl, _, hg, hn, _, hsz, hx⟩
  · have : l = [] := List.eq_nil_of_length_eq_zero h0
    subst this
    rw [run_convert_bytes_string w src dst e none 0 0 hs he hd]
    simp [Conv.bytesToString]
    rfl
  · refine run_convert_bytes_back w src dst e ⟨g, 0, none⟩ cap l hs he hd fun j hj => ?_
    exact h.cells (g := g) rfl j _ (by simp [bytesV, List.getElem?_eq_getElem hj])

def vtL : Nat → Nat → List UInt8
  | 0, _ => []
  | f + 1, m => if m < 128 then [UInt8.ofNat m] else UInt8.ofNat (m % 128 + 128) :: vtL f (m / 128)

def varText (n : Int) : ByteArray := if 0 ≤ n ∧ n ≤ 1000000000 then ⟨(vtL 5 n.toNat).toArray⟩ else ⟨#[]⟩

theorem vt_step (f m : Nat) (h : m < 128 ^ f) (hm : 128 ≤ m) : ∃ f', f = f' + 1 ∧ 1 ≤ f' ∧ m / 128 < 128 ^ f' ∧ vtL f m = UInt8.ofNat (m % 128 + 128) :: vtL f' (m / 128) := by
  match f, h with
  | 0, h => simp at h; omega
  | f + 1, h =>
    rw [Nat.pow_succ] at h
    have h' := Nat.div_lt_of_lt_mul (by rw [Nat.mul_comm]; exact h : m < 128 * 128 ^ f)
    refine ⟨f, rfl, ?_, h', by rw [vtL, if_neg (by omega)]⟩
    match f, h' with
    | 0, h' => simp at h'; omega
    | f + 1, _ => omega
theorem vt_last (f m : Nat) (h : 1 ≤ f) (hm : m < 128) : vtL f m = [UInt8.ofNat m] := by
  match f, h with
  | f + 1, h => rw [vtL, if_pos hm]

/-- A literal of bytes in a new block, made a string. -/
theorem run_string_block {P : Program} {src dst e : TypeId} (hs : P.underlying src = some (.slice e)) (he : P.underlying e = some (.int .u8)) (hd : P.underlying dst = some .string)
    (w : World) (ns : List Int) (k c : Nat) (hk : ns.length = k) :
    (convert src dst (.slice (some ⟨w.heap.size, 0, none⟩) k c)).run P (w.alloc (.cells (ns.map (Value.int .u8)).toArray e)) = .ok (.string (strOfNums ns)) (w.alloc (.cells (ns.map (Value.int .u8)).toArray e)) := by
  refine run_convert_bytes_arg _ src e hs he _ 0 k c ns hk (fun i hi => ?_) dst hd
  rw [World.cell?_alloc_at _ _ _ _ rfl]
  have : i < ns.length := by omega
  simp [List.getD, List.getElem?_eq_getElem this]

def fourL (n : Int) : List Int := [n / 16777216, n / 65536 % 256, n / 256 % 256, n % 256]
def fourOf (n : Int) : ByteArray := if 0 ≤ n ∧ n ≤ 4294967295 then strOfNums (fourL n) else ⟨#[]⟩
end Go.Proofs.Ythbjcgpfcjencaa

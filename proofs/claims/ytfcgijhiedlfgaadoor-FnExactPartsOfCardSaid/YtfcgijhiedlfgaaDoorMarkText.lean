/- The text of a mark. -/
import Derived.Test.YtfcgijhiedlfgaaDoorSlices
import Derived.Test.YtfcgijhiedlfgaaDoorRows
import Derived.WalkKit
namespace Go.Proofs.YtfcgijhiedlfgaaDoor
open Go.RowKit Go.ChangeShapes

def mtGo : Nat → Int → ByteArray → ByteArray
  | 0, _, out => out
  | f + 1, k, out => if 0 < k then mtGo f (k / 10) (strOfNums [48 + k % 10] ++ out) else out
def mtext (k : Int) : ByteArray := if k ≤ 0 then ⟨#[109, 48]⟩ else ⟨#[109]⟩ ++ mtGo k.toNat k ⟨#[]⟩

set_option maxRecDepth 100000 in
theorem markText_any (k : Int) (w : World) (hk : k ≤ 100000000) : Calls Tryd.prog 25 #[.int .i64 k] w fun e w' => e = .returned (.string (mtext k)) ∧ Below w.heap.size w w' := by
  by_cases h0 : k ≤ 0
  · have HR := Lib.hid (show mtext k = ⟨#[109, 48]⟩ by rw [mtext, if_pos h0])
    go_enter Tryd.func25, Tryd.ntmps25
    go_wp2
    go_ret
    exact ⟨ret_str HR.out.symm, Below.refl _ _⟩
  · have HR := Lib.hid (show mtext k = ⟨#[109]⟩ ++ mtGo k.toNat k ⟨#[]⟩ by rw [mtext, if_neg h0])
    go_enter Tryd.func25, Tryd.ntmps25
    go_wp2
    go_loopw [0, 3] (fun u v wr => ∃ (q : Int) (f : Nat) (out : ByteArray), u = .int .i64 q ∧ v = .string out ∧ 0 ≤ q ∧ q ≤ f ∧ (out.size : Int) + q ≤ 100000000 ∧ Hid (mtGo f q out = mtGo k.toNat k ⟨#[]⟩) ∧ Below w.heap.size w wr) (fun u _ _ => (intOf u).toNat)
    case atStart => exact ⟨k, k.toNat, ⟨#[]⟩, rfl, rfl, by omega, by omega, by show (0 : Int) + k ≤ 100000000; omega, Lib.hid rfl, Below.refl _ _⟩
    case round =>
      obtain ⟨q, f, out, rfl, rfl, hq0, hqf, hsz, hgo, hb⟩ := hrel
      by_cases hpos : 0 < q
      · obtain ⟨f, rfl⟩ : ∃ g, f = g + 1 := ⟨f - 1, by omega⟩
        have HG := Lib.hid (show mtGo f (q / 10) (strOfNums [48 + q % 10] ++ out) = mtGo k.toNat k ⟨#[]⟩ by rw [← hgo.out, mtGo, if_pos hpos])
        have hcv := fun w : World => run_string_block (P := Tryd.prog) (dst := 9) Tryd.underlying32 Tryd.underlying5 Tryd.underlying9 w [48 + q % 10] 1 1 rfl
        simp only [List.map_cons, List.map_nil] at hcv
        have hs1 : (strOfNums [48 + q % 10]).size = 1 := strOfNums_size _
        obtain ⟨z, hz⟩ : ∃ z, z = strOfNums [48 + q % 10] := ⟨_, rfl⟩
        rw [← hz] at HG hs1 hcv
        have hs2 : z.size ≤ 1 := by omega
        have HS := Lib.hid (show ((z ++ out).size : Int) = 1 + out.size by rw [ByteArray.size_append]; omega)
        clear hz hs1 hgo
        go_wp2
        go_roundw
        case rel => exact ⟨q / 10, f, z ++ out, rfl, rfl, by omega, by omega, by rw [HS.out]; omega, HG, hb.alloc hb.size _⟩
        case measure => simp [intOf]; omega
      · have HE := Lib.hid (show mtGo k.toNat k ⟨#[]⟩ = out by rw [← hgo.out]; cases f <;> simp [mtGo, hpos])
        clear hgo
        go_wp2
        go_ret
        exact ⟨ret_str (by rw [HR.out, HE.out]), hb⟩
end Go.Proofs.YtfcgijhiedlfgaaDoor

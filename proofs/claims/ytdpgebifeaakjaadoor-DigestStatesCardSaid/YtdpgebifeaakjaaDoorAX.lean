/- The walk of xor: the exclusive or of two byte sequences. -/
import Derived.Test.YtdpgebifeaakjaaDoorK4
import Derived.Test.YtdpgebifeaakjaaDoorL5
namespace Go.Proofs.YtdpgebifeaakjaaDoor
set_option linter.unusedSimpArgs false
set_option linter.unusedVariables false
open Go.RowKit

theorem byteAt_get (s : ByteArray) (j : Nat) (h : j < s.size) : byteAt s j = (bts s)[j]'(by rw [bts_length]; exact h) := by
  have h' : j < (bts s).length := by rw [bts_length]; exact h
  simp [byteAt, h']
theorem xor_list (x y : ByteArray) (h : x.size = y.size) : (List.range x.size).map (fun j => byteAt x j ^^^ byteAt y j) = List.zipWith (· ^^^ ·) (bts x) (bts y) := by
  apply List.ext_getElem
  · simp [bts_length, h]
  · intro i h1 h2
    have hi : i < x.size := by simpa using h1
    simp [byteAt_get x i hi, byteAt_get y i (h ▸ hi)]

set_option maxRecDepth 20000 in
set_option maxHeartbeats 2000000 in
theorem xor_any (x y : ByteArray) (hxy : x.size = y.size) (hs : x.size ≤ maxLen) (w : World) :
    Calls Tryd.prog 37 #[.string x, .string y] w fun e w' => e = .returned (.string (strOf (List.zipWith (· ^^^ ·) (bts x) (bts y)))) ∧ Below w.heap.size w w' := by
  unfold maxLen at hs
  have hcv := Lib.run_convert_string_bytes (P := Tryd.prog) w 9 43 5 x (u := .string) Tryd.underlying9 Tryd.underlying43 Tryd.underlying5
  have hby := Byt.new w x
  have hB0 := below_bytesWorld w 5 x
  generalize Lib.bytesWorld w 5 x = W0 at hcv hby hB0
  generalize grownCap w x.size 0 5 = cap at hcv
  have HXY := hide hxy
  have HXL := hide (xor_list x y hxy)
  clear hxy
  go_enter Tryd.func37, Tryd.ntmps37
  go_wp2_with fail
  clear hcv
  go_loopw [6] (fun s6 W => ∃ k : Nat, k ≤ x.size ∧ s6 = .int .i64 k ∧ Byt W w.heap.size x.size (fun j => if j < k then byteAt x j ^^^ byteAt y j else byteAt x j) ∧ Below w.heap.size w W) (fun s6 _ => x.size - (intOf s6).toNat)
  case atStart => exact ⟨0, by omega, rfl, hby.congr fun j hj => by simp, hB0⟩
  case round =>
    clear hby hB0
    obtain ⟨k, hk, rfl, hby, hB⟩ := hrel
    by_cases hlt : k < x.size
    · have hlt1 : (k : Int) < (x.size : Int) := by omega
      have hix := run_index_str (P := Tryd.prog) Tryd.underlying9 y k (by rw [← HXY.out]; exact hlt)
      have hc := hby.cell hlt
      rw [if_neg (Nat.lt_irrefl k)] at hc
      have hf := hby.free hlt
      have hp : (0 : Int) ≤ (k : Int) := by omega
      go_wp2_with fail
      go_region
      clear hc hf hix
      go_wp2_with fail
      refine ⟨⟨k + 1, by omega, by go_num, ((hby.set hlt (byteAt x k ^^^ byteAt y k)).drew).congr fun j hj => ?_, (hB.setCell (p := ⟨w.heap.size, k, none⟩) (Nat.le_refl _) _).drew⟩, by simp [intOf]; omega⟩
      by_cases e : j = k
      · subst e; rw [if_pos rfl, if_pos (by omega)]
      · rw [if_neg e]
        by_cases l : j < k
        · rw [if_pos l, if_pos (by omega)]
        · rw [if_neg l, if_neg (by omega)]
    · have hlt1 : ¬ (k : Int) < (x.size : Int) := by omega
      have hby' : Byt wr w.heap.size x.size (fun j => byteAt x j ^^^ byteAt y j) := hby.congr fun j hj => by rw [if_pos (by omega)]
      have hcv2 := hby'.str (P := Tryd.prog) cap 43 9 Tryd.underlying43 Tryd.underlying5 Tryd.underlying9
      rw [HXL.out] at hcv2
      clear hby hby'
      go_wp2_with fail
      go_ret
      exact ⟨rfl, hB⟩
end Go.Proofs.YtdpgebifeaakjaaDoor

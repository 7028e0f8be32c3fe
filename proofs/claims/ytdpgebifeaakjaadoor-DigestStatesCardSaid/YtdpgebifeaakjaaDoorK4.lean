/- Bytes of a string made a slice: what the walks of this seat want of them. -/
import Derived.Test.YtdpgebifeaakjaaDoorK2
import Derived.Lib.ConvBytes
namespace Go.Proofs.YtdpgebifeaakjaaDoor
set_option linter.unusedSimpArgs false
set_option linter.unusedVariables false
open Go.RowKit

/-- Block b holds n bytes at its head; it is one that a conversion of a string has made. -/
def Byt (w : World) (b n : Nat) (f : Nat → BitVec 8) : Prop :=
  ∃ C : Array Value, w.heap[b]? = some (.cells C 5 (C.size, C.size + 1)) ∧ n ≤ C.size ∧ ∀ j, j < n → C[j]? = some (U8 (f j))
theorem Byt.lt {w : World} {b n : Nat} {f : Nat → BitVec 8} (h : Byt w b n f) : b < w.heap.size := by
  obtain ⟨C, h, _⟩ := h
  exact (Array.getElem?_eq_some_iff.1 h).1
theorem Byt.cell {w : World} {b n : Nat} {f : Nat → BitVec 8} (h : Byt w b n f) {j : Nat} (hj : j < n) : w.cell? ⟨b, j, none⟩ = some (U8 (f j)) := by
  obtain ⟨C, h, hn, hc⟩ := h
  rw [← hc j hj]
  simp [World.cell?, h]
theorem Byt.free {w : World} {b n : Nat} {f : Nat → BitVec 8} (h : Byt w b n f) {j : Nat} (hj : j < n) : w.frozen? ⟨b, j, none⟩ = false := by
  obtain ⟨C, h, hn, hc⟩ := h
  simp [World.frozen?, h]
  omega
theorem Byt.below {w w' : World} {b n B : Nat} {f : Nat → BitVec 8} (h : Byt w b n f) (hb : Below B w w') (hlt : b < B) : Byt w' b n f := by
  obtain ⟨C, h, hn, hc⟩ := h
  exact ⟨C, (hb.block b hlt).trans h, hn, hc⟩
theorem Byt.set {w : World} {b n : Nat} {f : Nat → BitVec 8} (h : Byt w b n f) {j : Nat} (hj : j < n) (v : BitVec 8) : Byt (w.setCell ⟨b, j, none⟩ (U8 v)) b n (fun i => if i = j then v else f i) := by
  obtain ⟨C, h, hn, hc⟩ := h
  refine ⟨C.setIfInBounds j (U8 v), by simp [World.setCell, Array.getElem?_modify, h], by simpa using hn, fun i hi => ?_⟩
  rw [Array.getElem?_setIfInBounds]
  by_cases e : j = i
  · subst e
    rw [if_pos rfl, if_pos (by omega)]
    simp
  · rw [if_neg e, hc i hi]
    have e2 : ¬ i = j := fun h => e h.symm
    simp [e2]
theorem Byt.congr {w : World} {b n : Nat} {f g : Nat → BitVec 8} (h : Byt w b n f) (e : ∀ j, j < n → f j = g j) : Byt w b n g := by
  obtain ⟨C, h, hn, hc⟩ := h
  exact ⟨C, h, hn, fun j hj => by rw [hc j hj, e j hj]⟩
theorem Byt.drew {w : World} {b n : Nat} {f : Nat → BitVec 8} (h : Byt w b n f) : Byt w.drew b n f := h
theorem Byt.new (w : World) (s : ByteArray) : Byt (Lib.bytesWorld w 5 s) w.heap.size s.size (byteAt s) := by
  refine ⟨_, Lib.bytesWorld_at_new w 5 s, ?_, fun j hj => ?_⟩
  · simp [Lib.bytesCells]
  · have hj2 : j < s.data.size := hj
    have e : byteAt s j = (s.data[j]'hj2).toBitVec := by
      have hl : j < (bts s).length := by rw [bts_length]; exact hj
      simp only [byteAt, List.getD_eq_getElem?_getD, List.getElem?_eq_getElem hl, Option.getD_some]
      simp only [bts, List.getElem_map]; rfl
    rw [e, Lib.bytesCells, Array.getElem?_append_left (by simpa using hj2)]
    rw [Array.getElem?_map, Array.getElem?_eq_getElem hj2]
    rfl
theorem below_bytesWorld (w : World) (e : TypeId) (s : ByteArray) : Below w.heap.size w (Lib.bytesWorld w e s) := by
  refine ⟨?_, ?_, ?_, by rw [Lib.bytesWorld_size]; omega, fun k hk => Lib.bytesWorld_at_old w e s k hk⟩ <;>
  · unfold Lib.bytesWorld World.freeze
    rw [if_neg (by decide)]
    rfl
/-- 'string(b)' of such bytes. -/
theorem Byt.str {P : Program} {w : World} {b n : Nat} {f : Nat → BitVec 8} (h : Byt w b n f) (cap : Nat) (src dst : TypeId) (hs : P.underlying src = some (.slice 5)) (he : P.underlying 5 = some (.int .u8)) (hd : P.underlying dst = some .string) :
    (convert src dst (.slice (some ⟨b, 0, none⟩) n cap)).run P w = .ok (.string (strOf ((List.range n).map f))) w := by
  refine run_bytes_str w src dst 5 b 0 cap _ n (by simp) hs he hd fun j hj => ?_
  have hj' : j < n := by simpa using hj
  rw [Nat.zero_add, h.cell hj']
  simp
theorem range_getD (l : List (BitVec 8)) : (List.range l.length).map (fun j => l.getD j 0#8) = l := by
  apply List.ext_getElem (by simp)
  intro i h1 h2
  simp at h1 h2
  simp [h2]
end Go.Proofs.YtdpgebifeaakjaaDoor

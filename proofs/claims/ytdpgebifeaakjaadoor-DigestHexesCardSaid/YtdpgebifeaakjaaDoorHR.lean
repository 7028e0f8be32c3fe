/- The walks of the specification's Hex and Unhex. -/
import Derived.Test.YtdpgebifeaakjaaDoorH2
import Derived.Test.YtdpgebifeaakjaaDoorAX
import Derived.OwnWalk
import Derived.StillTactics
import Derived.Deep.RegionHeld3
import Derived.Deep.AppendLies
namespace Go.Proofs.YtdpgebifeaakjaaDoor
set_option linter.unusedSimpArgs false
set_option linter.unusedVariables false
open Go.RowKit

theorem info5' : (Tryd.prog.info? 5).map (fun i => (i.zero, i.size, i.bytes)) = some (some (.int .u8 0), 1, 1) := by kernel_rfl
theorem cells_two_u8 (W : World) (u v : Value) (t : Nat) : ∀ j c, [u, v][j]? = some c → (W.alloc (.cells #[u, v] t)).cell? ((⟨W.heap.size, 0, none⟩ : Addr).add j) = some c := by
  intro j c hj
  rw [Addr.add_lit, (Blk.new W #[u, v] t).cell, Nat.zero_add]
  simpa using hj
/-- The letters of the first k bytes. -/
def hexUp (d : Nat → BitVec 8) (k : Nat) : List Value := ((List.range (2 * k)).map (hexCell d)).map U8
theorem hexUp_length (d : Nat → BitVec 8) (k : Nat) : (hexUp d k).length = 2 * k := by simp [hexUp]
theorem hexUp_next (d : Nat → BitVec 8) (k : Nat) : hexUp d k ++ [U8 (hexDig (d k / 16#8)), U8 (hexDig (d k % 16#8))] = hexUp d (k + 1) := by
  unfold hexUp
  rw [show 2 * (k + 1) = 2 * k + 1 + 1 by omega, List.range_succ, List.range_succ]
  simp only [List.map_append, List.map_cons, List.map_nil, List.append_assoc, List.cons_append, List.nil_append]
  rw [hexCell, if_pos (by omega), hexCell, if_neg (by omega), show 2 * k / 2 = k by omega, show (2 * k + 1) / 2 = k by omega]
theorem owns_far {W : World} {base e size n : Nat} {v : Value} {xs : List Value} (h : W.ownsRow base e size v n xs) {k : Nat} (hk : k < base) : v.ownBlock ≠ some k := fun e => by
  have := (h.lt _ e).1
  omega
theorem ownsRow_slice' {W : World} {base e size n : Nat} {v : Value} {xs : List Value} (h : W.ownsRow base e size v n xs) : ∃ p k c, v = .slice p k c := by
  rcases h.2 with ⟨rfl, _⟩ | ⟨g, cap, cur, rfl, _⟩
  · exact ⟨_, _, _, rfl⟩
  · exact ⟨_, _, _, rfl⟩

set_option maxRecDepth 20000 in
set_option maxHeartbeats 2000000 in
theorem rhex_any (d : Nat → BitVec 8) (w : World) :
    Calls Tryd.prog 21 #[.agg (A8 16 d)] w fun e w' => e = .returned (.string (strOf (hexList d))) ∧ Below w.heap.size w w' := by
  obtain ⟨i0, hi, hz0, hz1, hz2⟩ := info_parts info5'
  have hbx := box23 d
  have hB0 : Below w.heap.size w (w.alloc (.cells (A8 16 d) 23)) := (Below.refl _ _).alloc (Nat.le_refl _) _
  have h1 := Blk.new w (A8 16 d) 23
  go_enter Tryd.func21, Tryd.ntmps21
  go_wp2_with fail
  go_loopw [3, 4] (fun s3 s4 W => ∃ k : Nat, k ≤ 16 ∧ s4 = .int .i64 k ∧ Blk W w.heap.size (A8 16 d) 23 ∧ W.ownsRow (w.heap.size + 1) 5 1 s3 (hexUp d k).length (hexUp d k) ∧ Below w.heap.size w W ∧ w.heap.size + 1 ≤ W.heap.size) (fun _ s4 _ => 16 - (intOf s4).toNat)
  case atStart => exact ⟨0, by omega, rfl, h1, World.ownsRow_nil _ _ _ _, hB0, by simp⟩
  case round =>
    clear h1 hB0
    obtain ⟨k, hk, rfl, h1, hrow, hB, hsz⟩ := hrel
    by_cases hlt : k < 16
    · have hlt1 : (k : Int) < 16 := by omega
      have hc := h1.cell k
      rw [A8.get _ hlt] at hc
      have hp : (0 : Int) ≤ (k : Int) := by omega
      obtain ⟨x, hx⟩ : ∃ x, d k = x := ⟨_, rfl⟩
      rw [hx] at hc
      have hnx := hexUp_next d k
      rw [hx] at hnx
      have hi1 := index_digits (x / 16#8) (div16 _)
      have hi2 := index_digits (x % 16#8) (mod16 _)
      have HNX := hide hnx
      clear hnx hx
      go_wp2_with fail
      have ak := owns_far hrow (k := w.heap.size) (by omega)
      have hlk : w.heap.size < wr.heap.size := by omega
      go_region_held3 (fun w' => w'.cell? ⟨w.heap.size, k, none⟩ = some (U8 x))
        (first | go_keep | (rw [hgrow.cell_far _ (by simp; omega) (Ne.symm ak)]; assumption))
        ((refine step_append_lies _ (by rfl) _ _ _ (by rfl) (w.heap.size + 1) 5 i0 _ 1 1 Tryd.underlying43 hi hz0 hz1 hz2 rfl (by omega) _ (hexUp d k).length (hexUp d k) (by rfl) ((hrow.alloc _).drew)
            ⟨wr.heap.size, 0, none⟩ 2 2 [U8 (hexDig (x / 16#8)), U8 (hexDig (x % 16#8))] (by rfl) (by rfl) (World.news_of_block (cs := #[U8 (hexDig (x / 16#8)), U8 (hexDig (x % 16#8))]) (t := 5) (fr := (0, 0)) (heap_alloc_new wr _)) (by simp [Value.oneCell'])
            (by omega) (by rw [hexUp_length]; unfold maxLen; omega) (by rw [hexUp_length]; omega) (by simp; omega) (wr.heap.size + 1) (by simp) ?_; intro gg cap w1 hown1 hgrow hat hlt))
      all_goals
        have hb2 : Blk w1 w.heap.size (A8 16 d) 23 := (hgrow.block w.heap.size (by simp; omega) (Ne.symm ak)).trans (h1.alloc _)
        have hB2 : Below w.heap.size w w1 := ((hB.alloc hB.size _).drew).grown hgrow (by simp; omega) (fun q e => by have := (hrow.lt q e).1; omega)
        have hsz2 : w.heap.size + 1 ≤ w1.heap.size := by have := hgrow.size; simp at this; omega
        have HE := hide (show (hexUp d k).length + 2 = (hexUp d (k + 1)).length by rw [hexUp_length, hexUp_length]; omega)
        rw [HNX.out] at hown1
        clear hc hi1 hi2 hp h1 hrow hB hsz hgrow ak hlk
        go_wp2_with fail
        exact ⟨⟨k + 1, by omega, by go_num, hb2, by rw [HE.out] at hown1 ⊢; exact hown1, hB2, hsz2⟩, by simp [intOf]; omega⟩
    · have hlt1 : ¬ (k : Int) < 16 := by omega
      have hlen : (hexUp d k).length = 32 := by rw [hexUp_length]; omega
      have hd : hexUp d k = (hexList d).map U8 := by rw [hexUp, hexList, show k = 16 by omega]
      rw [hlen, hd] at hrow
      clear hlen hd
      obtain ⟨g, cap, rfl, _, _⟩ := hrow.form (by omega)
      have hconv : (convert 43 9 (.slice (some ⟨g, 0, none⟩) 32 cap)).run Tryd.prog wr = .ok (.string (strOf (hexList d))) wr := by
        refine run_bytes_str wr 43 9 5 _ 0 cap _ 32 (by simp [hexList]) Tryd.underlying43 Tryd.underlying5 Tryd.underlying9 fun j hj => ?_
        rw [Nat.zero_add, World.ownsRow.cellAt hrow _ (by simpa [hexList] using hj), List.getElem?_map, List.getElem?_eq_getElem hj]
        rfl
      clear hrow
      go_wp2_with fail
      go_ret
      exact ⟨rfl, hB⟩
end Go.Proofs.YtdpgebifeaakjaaDoor

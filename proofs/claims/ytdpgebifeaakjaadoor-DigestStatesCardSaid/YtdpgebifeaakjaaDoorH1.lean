/- The walk of Hex: a digest in hexadecimal. -/
import Derived.Test.YtdpgebifeaakjaaDoorS11
import Derived.BigRegion
namespace Go.Proofs.YtdpgebifeaakjaaDoor
set_option linter.unusedSimpArgs false
set_option linter.unusedVariables false
open Go.RowKit

/-- A digit's letter. -/
def hexDig (x : BitVec 8) : BitVec 8 := if x.toNat < 10 then 48#8 + x else 87#8 + x
/-- The letters of a digest. -/
def hexCell (d : Nat → BitVec 8) (j : Nat) : BitVec 8 := if j % 2 = 0 then hexDig (d (j / 2) / 16#8) else hexDig (d (j / 2) % 16#8)
def hexList (d : Nat → BitVec 8) : List (BitVec 8) := (List.range 32).map (hexCell d)

theorem hexDig_q : ∀ (x : BitVec 8), x.toNat < 16 → byteAt ⟨#[48, 49, 50, 51, 52, 53, 54, 55, 56, 57, 97, 98, 99, 100, 101, 102]⟩ x.toNat = hexDig x := by decide +kernel
theorem run_index_strK {P : Program} {T : TypeId} (hT : P.underlying T = some .string) (s : ByteArray) (q : IntKind) (k : Nat) (h : k < s.size) (w : World) :
    (Instr.index T (.string s) (.int q (k : Int))).run P w = .ok (U8 (byteAt s k)) w := by
  have e : byteAt s k = (s[k]'h).toBitVec := by
    have hl : k < (bts s).length := by rw [bts_length]; exact h
    simp only [byteAt, List.getD_eq_getElem?_getD, List.getElem?_eq_getElem hl, Option.getD_some]
    simp only [bts, List.getElem_map]; rfl
  rw [e]
  simp [Instr.index, go_sem, run_underlying hT, h]
  rfl
theorem index_digits (x : BitVec 8) (h : x.toNat < 16) (w : World) :
    (Instr.index 9 (.string ⟨#[48, 49, 50, 51, 52, 53, 54, 55, 56, 57, 97, 98, 99, 100, 101, 102]⟩) (.int .u8 (n8 x))).run Tryd.prog w = .ok (U8 (hexDig x)) w := by
  have := run_index_strK (P := Tryd.prog) (T := 9) Tryd.underlying9 ⟨#[48, 49, 50, 51, 52, 53, 54, 55, 56, 57, 97, 98, 99, 100, 101, 102]⟩ .u8 x.toNat h w
  rw [hexDig_q x h] at this
  exact this
theorem box23 (d : Nat → BitVec 8) (w : World) : (Instr.box 23 (.agg (A8 16 d))).run Tryd.prog w = .ok (.pointer (some ⟨w.heap.size, 0, none⟩)) (w.alloc (.cells (A8 16 d) 23)) := by kernel_rfl
theorem div16 (x : BitVec 8) : (x / 16#8).toNat < 16 := by have := x.isLt; rw [BitVec.toNat_udiv]; show x.toNat / 16 < 16; omega
theorem mod16 (x : BitVec 8) : (x % 16#8).toNat < 16 := by rw [BitVec.toNat_umod]; exact Nat.mod_lt _ (by decide)

theorem hex_round (d : Nat → BitVec 8) (m : Nat) : ((A8 32 fun j => if j < 2 * m then hexCell d j else 0#8).setIfInBounds (2 * m) (U8 (hexDig (d m / 16#8)))).setIfInBounds (2 * m + 1) (U8 (hexDig (d m % 16#8))) = A8 32 fun j => if j < 2 * (m + 1) then hexCell d j else 0#8 := by
  rw [A8.set, A8.set]
  refine A8.ext fun j hj => ?_
  by_cases e1 : j = 2 * m + 1
  · rw [if_pos e1, if_pos (by omega), hexCell, e1, if_neg (by omega), show (2 * m + 1) / 2 = m by omega]
  · rw [if_neg e1]
    by_cases e0 : j = 2 * m
    · rw [if_pos e0, if_pos (by omega), hexCell, e0, if_pos (by omega), show (2 * m) / 2 = m by omega]
    · rw [if_neg e0]
      by_cases e : j < 2 * m
      · rw [if_pos e, if_pos (by omega)]
      · rw [if_neg e, if_neg (by omega)]

set_option maxRecDepth 20000 in
set_option maxHeartbeats 2000000 in
theorem hex_any (d : Nat → BitVec 8) (w : World) :
    Calls Tryd.prog 20 #[.agg (A8 16 d)] w fun e w' => e = .returned (.string (strOf (hexList d))) ∧ Below w.heap.size w w' := by
  have hbx := box23 d
  have hB0 : Below w.heap.size w ((w.alloc (.cells (A8 16 d) 23)).alloc (.cells (A8 32 fun _ => 0#8) 69)) := ((Below.refl _ _).alloc (Nat.le_refl _) _).alloc (by simp) _
  have h1 := (Blk.new w (A8 16 d) 23).alloc (.cells (A8 32 fun _ => 0#8) 69)
  have h3 := Blk.new (w.alloc (.cells (A8 16 d) 23)) (A8 32 fun _ => 0#8) 69
  rw [World.size_alloc] at h3
  go_enter Tryd.func20, Tryd.ntmps20
  go_wp2_with (refine wp_loadRow rfl 23 _ rfl _ rfl h1 Tryd.underlying23 rfl size23 (A8.size _ _) ?_)
  have hcells : (A8 32 fun _ => 0#8) = A8 32 fun j => if j < 2 * 0 then hexCell d j else 0#8 := A8.ext fun j hj => by
    rw [if_neg (by omega)]
  rw [hcells] at h3
  clear h1 hcells hbx
  go_loopw [7] (fun s7 W => ∃ m : Nat, m ≤ 16 ∧ s7 = .int .i64 m ∧ Blk W (w.heap.size + 1) (A8 32 fun j => if j < 2 * m then hexCell d j else 0#8) 69 ∧ Below w.heap.size w W) (fun s7 _ => 16 - (intOf s7).toNat)
  case atStart => exact ⟨0, by omega, rfl, h3, hB0⟩
  case round =>
    clear h3 hB0
    obtain ⟨m, hm, rfl, h3, hB⟩ := hrel
    by_cases hm8 : m < 16
    · have hm81 : (m : Int) < 16 := by omega
      have hix := index_A8 (P := Tryd.prog) Tryd.underlying23 Tryd.sizeOf5 Tryd.isAgg5 d .i64 m hm8
      have hi1 := index_digits (d m / 16#8) (div16 _)
      have hi2 := index_digits (d m % 16#8) (mod16 _)
      have hf0 := h3.free (2 * m)
      have hf1 := h3.free (2 * m + 1)
      have hc0 := h3.cell (2 * m)
      have hc1 := h3.cell (2 * m + 1)
      rw [A8.get _ (by omega)] at hc0 hc1
      have hw0 : IntKind.i64.wrap (2 * (m : Int)) = 2 * (m : Int) := IntWalk.i64_in _ (by omega)
      have hw1 : IntKind.i64.wrap (2 * (m : Int) + 1) = 2 * (m : Int) + 1 := IntWalk.i64_in _ (by omega)
      have hp : (0 : Int) ≤ 2 * (m : Int) := by omega
      have hp0 : 2 * (m : Int) < 32 := by omega
      have hp1 : 2 * (m : Int) + 1 < 32 := by omega
      have hp2 : (0 : Int) ≤ 2 * (m : Int) + 1 := by omega
      go_wp2_with fail
      obtain ⟨x, hx⟩ : ∃ x, d m = x := ⟨_, rfl⟩
      rw [hx] at hi1 hi2 ⊢
      have HX := hide hx
      clear hx
      go_region
      have h4 := ((h3.set (2 * m) (U8 (hexDig (x / 16#8)))).set (2 * m + 1) (U8 (hexDig (x % 16#8)))).drew
      rw [← HX.out, hex_round, HX.out] at h4
      have hB4 := ((hB.setCell (p := ⟨w.heap.size + 1, 2 * m, none⟩) (by simp) (U8 (hexDig (x / 16#8)))).setCell (p := ⟨w.heap.size + 1, 2 * m + 1, none⟩) (by simp) (U8 (hexDig (x % 16#8)))).drew
      clear hi1 hi2 hf0 hf1 hc0 hc1 hw0 hw1 hp hp0 hp1 hp2 hix
      go_wp2_with fail
      exact ⟨⟨m + 1, by omega, by go_num, h4, hB4⟩, by simp [intOf]; omega⟩
    · have hm81 : ¬ (m : Int) < 16 := by omega
      have hs := sliceAt_arr_all (P := Tryd.prog) Tryd.underlying69 Tryd.sizeOf5 ⟨w.heap.size + 1, 0, none⟩
      have hconv : (convert 43 9 (.slice (some ⟨w.heap.size + 1, 0, none⟩) 32 32)).run Tryd.prog wr = .ok (.string (strOf (hexList d))) wr := by
        refine run_bytes_str wr 43 9 5 _ 0 32 _ 32 ?_ Tryd.underlying43 Tryd.underlying5 Tryd.underlying9 fun j hj => ?_
        · rw [hexList, List.length_map, List.length_range]
        · have hj8 : j < 32 := by
            rw [hexList, List.length_map, List.length_range] at hj; exact hj
          have hq := h3.cell j
          rw [A8.get _ (by omega), if_pos (by omega)] at hq
          rw [Nat.zero_add, hq]
          simp [hexList]
      go_wp2_with fail
      go_ret
      exact ⟨rfl, hB⟩
end Go.Proofs.YtdpgebifeaakjaaDoor

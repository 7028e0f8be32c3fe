/- The walk of the hasher's method finished. -/
import Derived.Test.YtdpgebifeaakjaaDoorS9
import Derived.Test.YtdpgebifeaakjaaDoorK3
namespace Go.Proofs.YtdpgebifeaakjaaDoor
set_option linter.unusedSimpArgs false
set_option linter.unusedVariables false
open Go.RowKit
@[go_sem] theorem lit69 : (#[Value.int .u8 0, Value.int .u8 0, Value.int .u8 0, Value.int .u8 0, Value.int .u8 0, Value.int .u8 0, Value.int .u8 0, Value.int .u8 0, Value.int .u8 0, Value.int .u8 0, Value.int .u8 0, Value.int .u8 0, Value.int .u8 0, Value.int .u8 0, Value.int .u8 0, Value.int .u8 0, Value.int .u8 0, Value.int .u8 0, Value.int .u8 0, Value.int .u8 0, Value.int .u8 0, Value.int .u8 0, Value.int .u8 0, Value.int .u8 0, Value.int .u8 0, Value.int .u8 0, Value.int .u8 0, Value.int .u8 0, Value.int .u8 0, Value.int .u8 0, Value.int .u8 0, Value.int .u8 0] : Array Value) = A8 32 fun _ => 0#8 := by kernel_rfl
theorem size69 : (Tryd.prog.info? 69).map (·.size) = some 32 := by kernel_rfl
theorem size5 : (Tryd.prog.info? 5).map (·.size) = some 1 := by kernel_rfl

/-- How many bytes stand in front of the length, behind r bytes that are left. -/
def padZ (r : Nat) : Nat := if r ≤ 55 then 56 - r else 120 - r
def padCell (z : Nat) (x : BitVec 64) (j : Nat) : BitVec 8 :=
  if j = 0 then 128#8 else if j < z then 0#8 else (x >>> (56 - 8 * ((j - z : Nat) : Int)).toNat).setWidth 8
def padList (r : Nat) (x : BitVec 64) : List (BitVec 8) := (List.range (padZ r + 8)).map (padCell (padZ r) x)
def lenOfSl : Value → Nat | .slice _ n _ => n | _ => 0
/-- The bytes of a digest. -/
def digestOf (h : Nat → BitVec 32) (j : Nat) : BitVec 8 := (h (j / 4) >>> (24 - 8 * (j % 4))).setWidth 8

theorem digest_round (H : Nat → BitVec 32) (m : Nat) : ((((A8 32 fun j => if j < 4 * m then digestOf H j else 0#8).setIfInBounds (4 * m) (U8 ((H m >>> 24).setWidth 8))).setIfInBounds (4 * m + 1) (U8 ((H m >>> 16).setWidth 8))).setIfInBounds (4 * m + 2) (U8 ((H m >>> 8).setWidth 8))).setIfInBounds (4 * m + 3) (U8 ((H m).setWidth 8)) = A8 32 fun j => if j < 4 * (m + 1) then digestOf H j else 0#8 := by
  rw [A8.set, A8.set, A8.set, A8.set]
  refine A8.ext fun j hj => ?_
  by_cases e3 : j = 4 * m + 3
  · rw [if_pos e3, if_pos (by omega), digestOf, e3, show (4 * m + 3) / 4 = m by omega, show 24 - 8 * ((4 * m + 3) % 4) = 0 by omega, BitVec.ushiftRight_zero]
  · rw [if_neg e3]
    by_cases e2 : j = 4 * m + 2
    · rw [if_pos e2, if_pos (by omega), digestOf, e2, show (4 * m + 2) / 4 = m by omega, show 24 - 8 * ((4 * m + 2) % 4) = 8 by omega]
    · rw [if_neg e2]
      by_cases e1 : j = 4 * m + 1
      · rw [if_pos e1, if_pos (by omega), digestOf, e1, show (4 * m + 1) / 4 = m by omega, show 24 - 8 * ((4 * m + 1) % 4) = 16 by omega]
      · rw [if_neg e1]
        by_cases e0 : j = 4 * m
        · rw [if_pos e0, if_pos (by omega), digestOf, e0, show (4 * m) / 4 = m by omega, show 24 - 8 * ((4 * m) % 4) = 24 by omega]
        · rw [if_neg e0]
          by_cases e : j < 4 * m
          · rw [if_pos e, if_pos (by omega)]
          · rw [if_neg e, if_neg (by omega)]

set_option maxRecDepth 20000 in
set_option maxHeartbeats 8000000 in
theorem finished_any (h k : Nat → BitVec 32) (rest : ByteArray) (len : Int) (b : Nat) (hr : rest.size < 64) (hl0 : 0 ≤ len) (hl : len ≤ 4611686018427387904) (w : World) (hb : Blk w b (hasherC h rest len k) 128) :
    Calls Tryd.prog 74 #[.pointer (some ⟨b, 0, none⟩)] w fun e w' => e = .returned (.agg (A8 32 (digestOf (addH k h (bts rest ++ padList rest.size (BitVec.ofInt 64 len * 8#64)))))) ∧ But b w w' := by
  have hc9 := hb.cell 9
  rw [hasherC_len] at hc9
  have hmk : ∀ w, (Instr.makeSlice 43 (.int .i64 1) (.int .i64 128)).run Tryd.prog w = .ok (.slice (some ⟨w.heap.size, 0, none⟩) 1 128) (w.alloc (.cells (A8 128 fun _ => 0#8) 5)) := fun w => by kernel_rfl
  have hlt := hb.lt
  go_enter Tryd.func74, Tryd.ntmps74
  have hB1 := Blk.new (w.alloc (.cells (A8 32 fun _ => 0#8) 69)) (A8 128 fun _ => 0#8) 5
  rw [World.size_alloc] at hB1
  have hcp := hB1.cell 0
  have hfp := hB1.free 0
  rw [A8.get _ (by omega)] at hcp
  go_wp2_with fail
  clear hcp hfp hmk hc9
  have hW : (w.alloc (.cells (A8 32 fun _ => 0#8) 69)).alloc (.cells ((A8 128 fun _ => 0#8).setIfInBounds 0 (.int .u8 128)) 5) = (w.alloc (.cells (A8 32 fun _ => 0#8) 69)).alloc (.cells (A8 128 fun j => if j = 0 then 128#8 else 0#8) 5) := by
    rw [← A8.set]; rfl
  rw [hW]
  clear hW hB1
  have ho := (Blk.new w (A8 32 fun _ => 0#8) 69).alloc (.cells (A8 128 fun j => if j = 0 then 128#8 else 0#8) 5)
  have hp := Blk.new (w.alloc (.cells (A8 32 fun _ => 0#8) 69)) (A8 128 fun j => if j = 0 then 128#8 else 0#8) 5
  rw [World.size_alloc] at hp
  have hbb := (hb.alloc (.cells (A8 32 fun _ => 0#8) 69)).alloc (.cells (A8 128 fun j => if j = 0 then 128#8 else 0#8) 5)
  have hB : Below w.heap.size w ((w.alloc (.cells (A8 32 fun _ => 0#8) 69)).alloc (.cells (A8 128 fun j => if j = 0 then 128#8 else 0#8) 5)) := ((Below.refl _ _).alloc (Nat.le_refl _) _).alloc (by simp) _
  go_loopw [4] (fun s4 X => ∃ n : Nat, 1 ≤ n ∧ n ≤ padZ rest.size ∧ s4 = .slice (some ⟨w.heap.size + 1, 0, none⟩) n 128 ∧ Blk X b (hasherC h rest len k) 128 ∧ Blk X w.heap.size (A8 32 fun _ => 0#8) 69 ∧ Blk X (w.heap.size + 1) (A8 128 fun j => if j = 0 then 128#8 else 0#8) 5 ∧ Below w.heap.size w X) (fun s4 _ => padZ rest.size - lenOfSl s4)
  case atStart => exact ⟨1, Nat.le_refl _, by unfold padZ; split <;> omega, rfl, hbb, ho, hp, hB⟩
  case round =>
    clear hb ho hp hbb hB
    obtain ⟨n, hn1, hn, rfl, hb, ho, hp, hB⟩ := hrel
    have hc8 := hb.cell 8
    rw [hasherC_rest] at hc8
    have hzz : padZ rest.size ≤ 64 := by unfold padZ; split <;> omega
    by_cases hz : n = padZ rest.size
    · have ht : (((rest.size : Int) + (n : Int)) % 64 != 56) = false := by
        have : ((rest.size : Int) + (n : Int)) % 64 = 56 := by rw [hz]; unfold padZ; split <;> omega
        rw [this]; rfl
      have HZ := hide hz
      clear hz
      go_wp2_with fail
      have hcells : (A8 128 fun j => if j = 0 then 128#8 else 0#8) = A8 128 fun j => if j < n + 0 then padCell n (BitVec.ofInt 64 len * 8#64) j else 0#8 := A8.ext fun j hj => by
        unfold padCell
        by_cases h0 : j = 0
        · rw [if_pos h0, if_pos (by omega), if_pos h0]
        · rw [if_neg h0]
          by_cases h1 : j < n
          · rw [if_pos (by omega), if_neg h0, if_pos h1]
          · rw [if_neg (by omega)]
      rw [hcells] at hp
      clear hcells hc8
      go_loopw [4, 32] (fun s4 s32 X => ∃ i : Nat, i ≤ 8 ∧ s32 = .int .i64 i ∧ s4 = .slice (some ⟨w.heap.size + 1, 0, none⟩) (n + i) 128 ∧ Blk X b (hasherC h rest len k) 128 ∧ Blk X w.heap.size (A8 32 fun _ => 0#8) 69 ∧ Blk X (w.heap.size + 1) (A8 128 fun j => if j < n + i then padCell n (BitVec.ofInt 64 len * 8#64) j else 0#8) 5 ∧ Below w.heap.size w X) (fun _ s32 _ => 8 - (intOf s32).toNat)
      case atStart => exact ⟨0, by omega, rfl, rfl, hb, ho, hp, hB⟩
      case round =>
        clear hb ho hp hB
        obtain ⟨i, hi, rfl, rfl, hb, ho, hp, hB⟩ := hrel
        by_cases hi8 : i < 8
        · have hi81 : (i : Int) < 8 := by omega
          have hsh : (0 : Int) ≤ 56 - 8 * (i : Int) := by omega
          have hsh8 : 8 * (i : Int) ≤ 56 := by omega
          have hv : (wr.alloc (.cells #[U8 (((BitVec.ofInt 64 len * 8#64) >>> (56 - 8 * i)).setWidth 8)] 5)).cell? ⟨wr.heap.size, 0, none⟩ = some (U8 (((BitVec.ofInt 64 len * 8#64) >>> (56 - 8 * i)).setWidth 8)) := by
            rw [(Blk.new _ _ _).cell]; rfl
          have HV := hide hv; clear hv
          have hpa := hp.alloc (.cells #[U8 (((BitVec.ofInt 64 len * 8#64) >>> (56 - 8 * i)).setWidth 8)] 5)
          go_wp2_with (at_builtin; go_loud (refine wp_append1 rfl _ _ 43 rfl Tryd.underlying43 size5 (w.heap.size + 1) (n + i) 128 rfl wr.heap.size 1 rfl hpa HV.out rfl (by omega) (by omega) ?_); intro X1 hu1 hp1)
          clear hpa
          have hcells : (Row 128 fun j => if j = n + i then U8 (((BitVec.ofInt 64 len * 8#64) >>> (56 - 8 * i)).setWidth 8) else (fun j => U8 ((fun j => if j < n + i then padCell n (BitVec.ofInt 64 len * 8#64) j else 0#8) j)) j) = A8 128 fun j => if j < n + (i + 1) then padCell n (BitVec.ofInt 64 len * 8#64) j else 0#8 := Row.ext fun j hj => by
            dsimp only
            by_cases e : j = n + i
            · rw [if_pos e, if_pos (by omega), padCell, if_neg (by omega), if_neg (by omega)]
              rw [show (56 - 8 * ((j - n : Nat) : Int)).toNat = 56 - 8 * i by omega]
            · rw [if_neg e]
              by_cases e2 : j < n + i
              · rw [if_pos e2, if_pos (by omega)]
              · rw [if_neg e2, if_neg (by omega)]
          rw [hcells] at hp1
          exact ⟨⟨i + 1, by omega, by go_num, rfl, (hb.alloc _).upd hu1 (by omega), (ho.alloc _).upd hu1 (by omega), hp1, hu1.below (hB.alloc hB.size _) (by omega)⟩, by simp [intOf]; omega⟩
        · have hi81 : ¬ (i : Int) < 8 := by omega
          have hconv : (convert 43 9 (.slice (some ⟨w.heap.size + 1, 0, none⟩) (n + i) 128)).run Tryd.prog wr = .ok (.string (strOf (padList rest.size (BitVec.ofInt 64 len * 8#64)))) wr := by
            refine run_bytes_str wr 43 9 5 _ 0 128 _ (n + i) ?_ Tryd.underlying43 Tryd.underlying5 Tryd.underlying9 fun j hj => ?_
            · rw [padList, List.length_map, List.length_range, ← HZ.out]; omega
            · have hj8 : j < n + 8 := by
                rw [padList, List.length_map, List.length_range, ← HZ.out] at hj; exact hj
              have hq := hp.cell j
              rw [A8.get _ (by omega), if_pos (by omega)] at hq
              rw [Nat.zero_add, hq]
              simp [padList, ← HZ.out]
          have hpl : (strOf (padList rest.size (BitVec.ofInt 64 len * 8#64))).size ≤ 4611686018427387903 := by
            rw [size_strOf, padList, List.length_map, List.length_range]; omega
          have hbp := bts_strOf (padList rest.size (BitVec.ofInt 64 len * 8#64))
          obtain ⟨S, hS⟩ : ∃ S, strOf (padList rest.size (BitVec.ofInt 64 len * 8#64)) = S := ⟨_, rfl⟩
          rw [hS] at hconv hpl hbp
          have HBP := hide hbp
          clear hbp hS
          go_wp2_with fail
          refine (add_any h k rest len b S (by omega) hpl hl0 hl wr hb).mono ?_
          rintro e W ⟨rfl, hBut, hb2⟩
          have ho2 := ho.but hBut (by omega)
          have hH : (Row 8 fun i => (fun i => if i < 8 then U32 (addH k h (bts rest ++ bts S) i) else if i = 8 then .string (strOf (addRest (bts rest ++ bts S))) else if i = 9 then .int .i64 (len + S.size) else U32 (k (i - 10))) (0 + i)) = A32 8 (addH k h (bts rest ++ bts S)) := Row.ext fun i hi => by
            dsimp only
            rw [Nat.zero_add, if_pos hi]
          obtain ⟨H, hHe⟩ : ∃ H, addH k h (bts rest ++ bts S) = H := ⟨_, rfl⟩
          rw [hHe] at hb2 hH
          rw [HBP.out] at hHe
          have HHE := hide hHe
          clear hHe
          go_wp2_with (refine wp_loadMid rfl 61 _ rfl b 0 rfl hb2 Tryd.underlying61 rfl size61 (by omega) hH ?_)
          have hBw := (But.of_below (b := b) hB).trans hBut
          have hcells : (A8 32 fun _ => 0#8) = A8 32 fun j => if j < 4 * 0 then digestOf H j else 0#8 := A8.ext fun j hj => by
            rw [if_neg (by omega)]
          rw [hcells] at ho2
          clear hcells hH hb2 hb hB ho hp hBut hconv hpl
          go_loopw [54] (fun s54 X => ∃ i : Nat, i ≤ 8 ∧ s54 = .int .i64 i ∧ Blk X w.heap.size (A8 32 fun j => if j < 4 * i then digestOf H j else 0#8) 69 ∧ But b w X) (fun s54 _ => 8 - (intOf s54).toNat)
          case atStart => exact ⟨0, by omega, rfl, ho2, hBw⟩
          case round =>
            clear ho2 hBw
            obtain ⟨m, hm, rfl, ho, hB⟩ := hrel
            by_cases hm8 : m < 8
            · have hm81 : (m : Int) < 8 := by omega
              have hf0 := ho.free (4 * m)
              have hf1 := ho.free (4 * m + 1)
              have hf2 := ho.free (4 * m + 2)
              have hf3 := ho.free (4 * m + 3)
              have hc0 := ho.cell (4 * m)
              have hc1 := ho.cell (4 * m + 1)
              have hc2 := ho.cell (4 * m + 2)
              have hc3 := ho.cell (4 * m + 3)
              rw [A8.get _ (by omega)] at hc0 hc1 hc2 hc3
              have hlo := ho.lt
              have hix := index_A32 (P := Tryd.prog) Tryd.underlying61 Tryd.sizeOf42 Tryd.isAgg42 H .i64 m hm8
              go_wp2_with fail
              have hb4 := (((ho.set (4 * m) (U8 ((H m >>> 24).setWidth 8))).set (4 * m + 1) (U8 ((H m >>> 16).setWidth 8))).set (4 * m + 2) (U8 ((H m >>> 8).setWidth 8))).set (4 * m + 3) (U8 ((H m).setWidth 8))
              rw [digest_round] at hb4
              exact ⟨⟨m + 1, by omega, by go_num, hb4, (((hB.setCell (.inr (Nat.le_refl _)) _).setCell (.inr (Nat.le_refl _)) _).setCell (.inr (Nat.le_refl _)) _).setCell (.inr (Nat.le_refl _)) _⟩, by simp [intOf]; omega⟩
            · have hm81 : ¬ (m : Int) < 8 := by omega
              have hcells : (A8 32 fun j => if j < 4 * m then digestOf H j else 0#8) = A8 32 (digestOf H) := A8.ext fun j hj => by
                rw [if_pos (by omega)]
              rw [hcells] at ho
              go_wp2_with (first | (refine wp_loadRow rfl 69 _ rfl _ rfl ho Tryd.underlying69 rfl size69 (A8.size _ _) ?_) | (refine wp_storeRow rfl 69 _ _ rfl _ rfl rfl ho size69 (A8.size _ _) (A8.size _ _) (A8.one _) rfl ?_; intro W0 hu0 hb3))
              rw [HHE.out]
              exact ret_row rfl w.heap.size rfl hb3 Tryd.underlying69 rfl size69 (A8.size _ _) rfl ⟨rfl, hB.upd hu0 (.inr (Nat.le_refl _))⟩
    · have ht : (((rest.size : Int) + (n : Int)) % 64 != 56) = true := by
        have : ((rest.size : Int) + (n : Int)) % 64 ≠ 56 := by revert hz hn; unfold padZ; split <;> omega
        simpa using this
      have hv : (wr.alloc (.cells #[.int .u8 0] 5)).cell? ⟨wr.heap.size, 0, none⟩ = some (.int .u8 0) := by
        rw [(Blk.new _ _ _).cell]; rfl
      have HV := hide hv; clear hv
      have hn' : n < padZ rest.size := by omega
      go_wp2_with (at_builtin; go_loud (refine wp_append1 rfl _ _ 43 rfl Tryd.underlying43 size5 (w.heap.size + 1) n 128 rfl wr.heap.size 1 rfl (hp.alloc _) HV.out rfl (by omega) (by omega) ?_); intro X1 hu1 hp1)
      have hcells : (Row 128 fun j => if j = n then Value.int .u8 0 else (fun i => U8 ((fun j => if j = 0 then 128#8 else 0#8) i)) j) = A8 128 fun j => if j = 0 then 128#8 else 0#8 := Row.ext fun j hj => by
        dsimp only
        by_cases e : j = n
        · rw [if_pos e, if_neg (by omega)]; rfl
        · rw [if_neg e]
      rw [hcells] at hp1
      exact ⟨⟨n + 1, by omega, by omega, rfl, (hb.alloc _).upd hu1 (by omega), (ho.alloc _).upd hu1 (by omega), hp1, hu1.below (hB.alloc hB.size _) (by omega)⟩, by simp [lenOfSl]; omega⟩
end Go.Proofs.YtdpgebifeaakjaaDoor

/- The walk of DigestBursts: true. -/
import Derived.Test.YtdpgebifeaakjaaDoorSN
import Derived.Test.YtdpgebifeaakjaaDoorL3
import Derived.Test.YtdpgebifeaakjaaDoorK4
namespace Go.Proofs.YtdpgebifeaakjaaDoor
set_option linter.unusedSimpArgs false
set_option linter.unusedVariables false
open Go.RowKit

theorem tab_below' {w w' : World} (h : TabAt 3 Lib.deBruijn64tab w) (h3 : 3 < w.heap.size) (hb : Below w.heap.size w w') : TabAt 3 Lib.deBruijn64tab w' :=
  fun j hj => (hb.cell (p := ⟨3, j, none⟩) h3).trans (h j hj)
theorem amt64 (k : Nat) (h : k < 2 ^ 63) : (n64 (BitVec.ofNat 64 k)).toNat = k := by
  unfold n64
  rw [BitVec.toNat_ofNat, Nat.mod_eq_of_lt (by omega), Int.toNat_natCast]
theorem amt64i (n : Int) (k : Nat) (e : n = (k : Int)) (h : k < 2 ^ 63) : (n64 (BitVec.ofInt 64 n)).toNat = k := by
  rw [e, BitVec.ofInt_natCast, amt64 k h]
theorem flip_cell (l : List (BitVec 8)) (n j : Nat) (hn : n / 8 < l.length) : (flipL l n).getD j 0#8 = if j = n / 8 then l.getD (n / 8) 0#8 ^^^ (1#8 <<< (n % 8)) else l.getD j 0#8 := by
  rw [flipL]
  simp only [List.getD_eq_getElem?_getD, List.getElem?_set]
  by_cases e : n / 8 = j
  · subst e; simp [hn]
  · rw [if_neg e, if_neg (fun h => e h.symm)]
theorem str_same (a : ByteArray) : (a.toList == a.toList) = true := by simp
theorem str_differ {a b : ByteArray} (h : bts a ≠ bts b) : (a.toList == b.toList) = false := by
  rw [beq_eq_false_iff_ne]
  intro e
  rw [ByteArray.toList_eq, ByteArray.toList_eq] at e
  exact h (by rw [bts, bts, e])
theorem bit_test (b : BitVec 32) (k : Nat) : (b >>> k &&& 1#32 == 1#32) = b.getLsbD k := by
  rw [low_test, BitVec.getLsbD_ushiftRight, Nat.add_zero]

set_option maxRecDepth 100000 in
set_option maxHeartbeats 2000000 in
theorem bursts_any (s : ByteArray) (at_ : Nat) (hat : at_ < 65536) (bits : BitVec 32) (hs : s.size ≤ maxLen) (w : World) (hT : TabAt 3 Lib.deBruijn64tab w) (h3 : 3 < w.heap.size) :
    Calls Tryd.prog 5 #[.string s, .int .u16 at_, U32 bits] w fun e w' => e = .returned (.bool true) ∧ Below w.heap.size w w' := by
  unfold maxLen at hs
  have hcv := Lib.run_convert_string_bytes (P := Tryd.prog) w 9 43 5 s (u := .string) Tryd.underlying9 Tryd.underlying43 Tryd.underlying5
  have hby := Byt.new w s
  have hB0 := below_bytesWorld w 5 s
  generalize Lib.bytesWorld w 5 s = W0 at hcv hby hB0
  generalize grownCap w s.size 0 5 = cap at hcv
  have hs3 : (3000 : Int) < (s.size : Int) ∨ ¬ (3000 : Int) < (s.size : Int) := by omega
  rcases hs3 with h30 | h30
  · go_enter Tryd.func5, Tryd.ntmps5
    go_wp2_with fail
    refine (sane_any _ hT h3).mono ?_
    rintro e w' ⟨rfl, hB⟩
    go_wp2_with fail
    go_ret
    exact ⟨rfl, hB⟩
  · by_cases h0 : s.size = 0
    · have h01 : ((s.size : Int) == 0) = true := by simp [h0]
      clear h0
      go_enter Tryd.func5, Tryd.ntmps5
      go_wp2_with fail
      refine (sane_any _ hT h3).mono ?_
      rintro e w' ⟨rfl, hB⟩
      go_wp2_with fail
      go_ret
      exact ⟨rfl, hB⟩
    · have h01 : ((s.size : Int) == 0) = false := by simp [h0]
      have hpos : (0 : Int) < s.size := by omega
      clear h0
      cases hb0 : (bits == 0#32)
      · go_enter Tryd.func5, Tryd.ntmps5
        go_wp2_with fail
        clear hcv
        have h8 : (8 : Int) * (s.size : Int) ≤ 24000 := by omega
        obtain ⟨first, hfirst⟩ : ∃ first : Nat, at_ % (8 * s.size) = first := ⟨_, rfl⟩
        have hfi : (at_ : Int) % (8 * (s.size : Int)) = (first : Int) := by rw [← hfirst]; simp
        have hfl : first < 8 * s.size := by rw [← hfirst]; exact Nat.mod_lt _ (by omega)
        rw [hfi]
        clear hfirst hfi
        go_loopw [9] (fun s9 W => ∃ k : Nat, k ≤ 32 ∧ first + k ≤ 8 * s.size ∧ s9 = .int .i64 k ∧ Byt W w.heap.size s.size (fun j => (burst (bts s) first bits k).getD j 0#8) ∧ Below w.heap.size w W) (fun s9 _ => 32 - (intOf s9).toNat)
        case atStart => exact ⟨0, by omega, by omega, rfl, hby, hB0⟩
        case round =>
          clear hby hB0
          obtain ⟨k, hk, hkl, rfl, hby, hB⟩ := hrel
          by_cases hgo : k < 32 ∧ first + k < 8 * s.size
          · obtain ⟨hk32, hl⟩ := hgo
            have hk1 : (k : Int) < 32 := by omega
            have hl1 : (first : Int) + (k : Int) < 8 * (s.size : Int) := by omega
            have ha1 := amt64 k (by omega)
            have hbt := bit_test bits k
            cases hbk : bits.getLsbD k
            · rw [hbk] at hbt
              go_wp2_with fail
              refine ⟨⟨k + 1, by omega, by omega, by go_num, hby.congr fun j hj => ?_, hB⟩, by simp [intOf]; omega⟩
              rw [burst, hbk]; rfl
            · rw [hbk] at hbt
              have hq : (first + k) / 8 < s.size := by omega
              have hc := hby.cell hq
              have hf := hby.free hq
              have ha2 := amt64i (((first : Int) + (k : Int)) % 8) ((first + k) % 8) (by omega) (by omega)
              go_wp2_with fail
              refine ⟨⟨k + 1, by omega, by omega, by go_num, (hby.set hq _).congr fun j hj => ?_, hB.setCell (Nat.le_refl _) _⟩, by simp [intOf]; omega⟩
              rw [burst, hbk, if_pos rfl, flip_cell _ _ _ (by rw [burst_length, bts_length]; exact hq), List.getD_eq_getElem?_getD]
              rfl
          · have hlist : (List.range s.size).map (fun j => (burst (bts s) first bits k).getD j 0#8) = burst (bts s) first bits k := by
              have := range_getD (burst (bts s) first bits k)
              rw [burst_length, bts_length] at this
              exact this
            have hlaw := burst_law (bts s) first bits k hk (by rw [bts_length]; exact hkl)
            have hcase : ¬ (k : Int) < 32 ∨ (k : Int) < 32 ∧ ¬ (first : Int) + (k : Int) < 8 * (s.size : Int) := by omega
            clear hgo
            generalize burst (bts s) first bits k = L at hby hlist hlaw
            have hSs : (strOf L).size = s.size := by rw [← hlist, size_strOf, List.length_map, List.length_range]
            have hSm : (strOf L).size ≤ maxLen := by rw [hSs]; unfold maxLen; omega
            have hSb := bts_strOf L
            have HC := hide (hby.str (P := Tryd.prog) cap 43 9 Tryd.underlying43 Tryd.underlying5 Tryd.underlying9)
            have HLI := hide hlist
            have HSB := hide hSb
            have HSS := hide hSs
            clear hlist hSb hSs
            rcases hcase with hk1 | ⟨hk1, hl1⟩
            all_goals
              go_wp2_with fail
              refine (sane_any wr (tab_below' hT h3 hB) (Nat.lt_of_lt_of_le h3 hB.size)).mono ?_
              rintro e W1 ⟨rfl, hB1⟩
              have hby1 := hby.below hB1 hby.lt
              have hcv2 := hby1.str (P := Tryd.prog) cap 43 9 Tryd.underlying43 Tryd.underlying5 Tryd.underlying9
              rw [HLI.out] at hcv2
              have hB2 := hB.trans (hB1.mono hB.size)
              by_cases hL : L = bts s
              · have hS : strOf L = s := by rw [hL, strOf_bts]
                rw [hS] at hcv2
                clear hlaw hL hS hSm
                go_wp2_with fail
                go_ret
                exact ⟨rfl, hB2⟩
              · have hne : ((strOf L).toList == s.toList) = false := str_differ (by rw [HSB.out]; exact hL)
                have hcrc : (crc L != crc (bts s)) = true := by
                  rw [bne_iff_ne]
                  exact hlaw.resolve_left hL
                clear hlaw hL
                generalize strOf L = S at hcv2 hne HSB hSm
                go_wp2_with fail
                refine (crc_any S _ hSm).mono ?_
                rintro e W2 ⟨rfl, hB3⟩
                rw [HSB.out]
                go_wp2_with fail
                refine (crc_any s _ hs).mono ?_
                rintro e W3 ⟨rfl, hB4⟩
                have hB5 := hB2.trans (hB3.mono hB2.size)
                have hB6 := hB5.trans (hB4.mono hB5.size)
                go_wp2_with fail
                go_ret
                exact ⟨rfl, hB6⟩
      · go_enter Tryd.func5, Tryd.ntmps5
        go_wp2_with fail
        refine (sane_any _ hT h3).mono ?_
        rintro e w' ⟨rfl, hB⟩
        go_wp2_with fail
        go_ret
        exact ⟨rfl, hB⟩
end Go.Proofs.YtdpgebifeaakjaaDoor

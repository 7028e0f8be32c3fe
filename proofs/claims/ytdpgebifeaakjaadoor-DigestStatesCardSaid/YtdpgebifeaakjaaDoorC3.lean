/- The walks of the CRC functions: the product of two matrices, and the shift. -/
import Derived.Test.YtdpgebifeaakjaaDoorC2
namespace Go.Proofs.YtdpgebifeaakjaaDoor
set_option linter.unusedSimpArgs false
set_option linter.unusedVariables false
open Go.RowKit

set_option maxHeartbeats 400000 in
theorem after_any (m n : Nat → BitVec 32) (w : World) :
    Calls Tryd.prog 101 #[.agg (A32 32 m), .agg (A32 32 n)] w fun e w' => e = .returned (.agg (A32 32 (matAfter m n))) ∧ Below w.heap.size w w' := by
  go_enter Tryd.func101, Tryd.ntmps101
  have hb1 := (((Blk.new w (A32 32 m) 155).alloc (.cells (A32 32 n) 155)).alloc (.cells (A32 32 fun _ => 0#32) 155))
  have hb2 := ((Blk.new (w.alloc (.cells (A32 32 m) 155)) (A32 32 n) 155).alloc (.cells (A32 32 fun _ => 0#32) 155))
  have hb3 := (Blk.new ((w.alloc (.cells (A32 32 m) 155)).alloc (.cells (A32 32 n) 155)) (A32 32 fun _ => 0#32) 155)
  have hB := (((Below.refl w.heap.size w).alloc (Nat.le_refl _) (.cells (A32 32 m) 155)).alloc (by simp) (.cells (A32 32 n) 155)).alloc (by simp; omega) (.cells (A32 32 fun _ => 0#32) 155)
  rw [World.size_alloc] at hb2
  rw [World.size_alloc, World.size_alloc] at hb3
  go_wp2_with (refine wp_loadRow rfl 155 _ rfl _ rfl hb2 Tryd.underlying155 rfl size155 (A32.size _ _) ?_)
  go_loopw [8] (fun s8 W => ∃ k : Nat, k ≤ 32 ∧ s8 = .int .i64 k ∧ Blk W w.heap.size (A32 32 m) 155 ∧ Blk W (w.heap.size + 1 + 1) (A32 32 fun i => if i < k then matAfter m n i else 0#32) 155 ∧ Below w.heap.size w W) (fun s8 _ => 32 - (intOf s8).toNat)
  case atStart => exact ⟨0, by omega, rfl, hb1, hb3, hB⟩
  case round =>
    clear hb1 hb2 hb3 hB
    obtain ⟨k, hk, rfl, hb1, hb3, hB⟩ := hrel
    by_cases hlt : k < 32
    · have hix := index_A32 (P := Tryd.prog) Tryd.underlying155 Tryd.sizeOf42 Tryd.isAgg42 n .i64 k hlt
      have hlt1 : (k : Int) < 32 := by omega
      go_wp2_with (first | (refine wp_loadRow rfl 155 _ rfl _ rfl hb1 Tryd.underlying155 rfl size155 (A32.size _ _) ?_) | (go_at_call 103; refine (of_any _ _ _).mono ?_; rintro e W1 ⟨rfl, hB1⟩; have hb31 := hb3.below hB1 hb3.lt; have hb11 := hb1.below hB1 hb1.lt; have hB2 := hB.trans (hB1.mono hB.size); have hc : W1.cell? ⟨w.heap.size + 1 + 1, k, none⟩ = some (U32 0#32) := (by rw [hb31.cell, A32.get _ hlt, if_neg (by omega)]); have hf := hb31.free k))
      have hb32 := hb31.set k (U32 (matAfter m n k))
      rw [A32.step] at hb32
      exact ⟨⟨k + 1, by omega, by go_num, hb11.other (by simp; omega) _, hb32, hB2.setCell (p := ⟨w.heap.size + 1 + 1, k, none⟩) (by simp; omega) _⟩, by simp [intOf]; omega⟩
    · obtain rfl : k = 32 := by omega
      go_wp2_with (first | (refine wp_loadRow rfl 155 _ rfl _ rfl hb3 Tryd.underlying155 rfl size155 (A32.size _ _) ?_) | (refine wp_storeRow rfl 155 _ _ rfl _ rfl rfl hb3 size155 (A32.size _ _) (A32.size _ _) (A32.one _) rfl ?_; intro W1 hu hb4))
      refine ret_row rfl (w.heap.size + 1 + 1) rfl hb4 Tryd.underlying155 rfl size155 (A32.size _ _) rfl ⟨?_, hu.below hB (by omega)⟩
      rw [A32.ext (fill_all _ _)]

/-- The shift of a word by n bytes: the loop, and the whole. -/
def shiftGo : Nat → Nat → (Nat → BitVec 32) → (Nat → BitVec 32) → (Nat → BitVec 32)
  | 0, _, _, all => all
  | f + 1, n, step, all => if n = 0 then all else shiftGo f (n / 2) (matAfter step step) (if n % 2 = 1 then matAfter step all else all)
def step0 (i : Nat) : BitVec 32 := crcBit (1#32 <<< i)
def sq (m : Nat → BitVec 32) : Nat → BitVec 32 := matAfter m m
def shiftAll (n : Nat) : Nat → BitVec 32 := shiftGo 64 n (sq (sq (sq step0))) matUnit
def crcShift (c : BitVec 32) (n : Nat) : BitVec 32 := if eqRow 32 (shiftAll n) matUnit then c else matOf (shiftAll n) c

theorem size42 : (Tryd.prog.info? 42).map (·.size) = some 1 := by kernel_rfl
def sqN : Nat → (Nat → BitVec 32)
  | 0 => step0
  | n + 1 => sq (sqN n)

theorem and1_i64 (m : Nat) (h : m < 2 ^ 63) : bits .and .i64 (m : Int) 1 = ((m % 2 : Nat) : Int) := by
  have e : (BitVec.ofInt 64 (m : Int) &&& BitVec.ofInt 64 1).toNat = m % 2 := by
    rw [BitVec.toNat_and]
    have e1 : (BitVec.ofInt 64 (m : Int)).toNat = m := by
      rw [BitVec.toNat_ofInt, ← Int.natCast_emod, Int.toNat_natCast, Nat.mod_eq_of_lt (by omega)]
    have e2 : (BitVec.ofInt 64 1).toNat = 1 := by decide
    rw [e1, e2, Nat.and_one_is_mod]
  show IntKind.i64.wrap ((BitVec.ofInt 64 (m : Int) &&& BitVec.ofInt 64 1).toNat : Int) = _
  rw [e, IntWalk.i64_in _ (by omega)]

set_option maxHeartbeats 1000000 in
theorem shift_any (c : BitVec 32) (n : Nat) (hn : n < 2 ^ 63) (w : World) :
    Calls Tryd.prog 65 #[U32 c, .int .i64 n] w fun e w' => e = .returned (U32 (crcShift c n)) ∧ Below w.heap.size w w' := by
  have hn1 : (n : Int) ≤ 9223372036854775807 := by omega
  go_enter Tryd.func65, Tryd.ntmps65
  go_wp2_with (refine wp_storeRow rfl 155 _ _ rfl _ rfl rfl (Blk.new _ _ _) size155 (A32.size _ _) (A32.size _ _) (A32.one _) rfl ?_; intro W0 hu0 hb0)
  have hB0 : Below w.heap.size w W0 := hu0.below ((Below.refl _ _).alloc (Nat.le_refl _) _) (Nat.le_refl _)
  clear hu0
  go_loopw [9] (fun s9 W => ∃ k : Nat, k ≤ 32 ∧ s9 = .int .i64 k ∧ Blk W w.heap.size (A32 32 fun i => if i < k then step0 i else 0#32) 155 ∧ Below w.heap.size w W) (fun s9 _ => 32 - (intOf s9).toNat)
  case atStart => exact ⟨0, by omega, rfl, hb0, hB0⟩
  case round =>
    clear hb0 hB0
    obtain ⟨k, hk, rfl, hb, hB⟩ := hrel
    by_cases hlt : k < 32
    · have hlt1 : (k : Int) < 32 := by omega
      have hc : wr.cell? ⟨w.heap.size, k, none⟩ = some (U32 0#32) := by rw [hb.cell, A32.get _ hlt, if_neg (by omega)]
      have hf := hb.free k
      go_wp2_with (go_at_call 100; refine (bit_any _ _).mono ?_; rintro e w' ⟨rfl, rfl⟩)
      have hb' := hb.set k (U32 (step0 k))
      rw [A32.step] at hb'
      exact ⟨⟨k + 1, by omega, by go_num, hb', hB.setCell (p := ⟨w.heap.size, k, none⟩) (Nat.le_refl _) _⟩, by simp [intOf]; omega⟩
    · rw [A32.ext (fun i hi => if_pos (by omega)) (g := step0)] at hb
      have hlt1 : ¬ (k : Int) < 32 := by omega
      clear hlt hk W0
      go_wp2_with fail
      go_loopw [18] (fun s18 W => ∃ j : Nat, j ≤ 3 ∧ s18 = .int .i64 j ∧ Blk W w.heap.size (A32 32 (sqN j)) 155 ∧ Below w.heap.size w W) (fun s18 _ => 3 - (intOf s18).toNat)
      case atStart => exact ⟨0, by omega, rfl, hb, hB⟩
      case round =>
        clear hb hB
        obtain ⟨j, hj, rfl, hb, hB⟩ := hrel
        by_cases hlt : j < 3
        · have hlt1 : (j : Int) < 3 := by omega
          go_wp2_with (first | (refine wp_loadRow rfl 155 _ rfl _ rfl hb Tryd.underlying155 rfl size155 (A32.size _ _) ?_) | (go_at_call 101; refine (after_any _ _ _).mono ?_; rintro e W1 ⟨rfl, hB1⟩; have hb1 := hb.below hB1 hb.lt; have hB2 := hB.trans (hB1.mono hB.size)) | (refine wp_storeRow rfl 155 _ _ rfl _ rfl rfl hb1 size155 (A32.size _ _) (A32.size _ _) (A32.one _) rfl ?_; intro W2 hu2 hb2))
          exact ⟨⟨j + 1, by omega, by go_num, hb2, hu2.below hB2 (Nat.le_refl _)⟩, by simp [intOf]; omega⟩
        · have hlt2 : ¬ (j : Int) < 3 := by omega
          rw [show sqN j = sqN 3 by rw [show j = 3 by omega]] at hb
          clear hlt hj
          go_wp2_with (first | (go_at_call 102; refine (unit_any _).mono ?_; rintro e W1 ⟨rfl, hB1⟩; have hb1 := (hb.below hB1 hb.lt).alloc (.cells (A32 32 fun _ => 0#32) 155); have hB2 := (hB.trans (hB1.mono hB.size)).alloc (by have := hB.size; have := hB1.size; omega) (.cells (A32 32 fun _ => 0#32) 155); have hsz := hb.lt; have hsz1 := hB1.size) | (refine wp_storeRow rfl 155 _ _ rfl _ rfl rfl (Blk.new _ _ _) size155 (A32.size _ _) (A32.size _ _) (A32.one _) rfl ?_; intro W2 hu2 hb2))
          obtain ⟨B1, hB1e⟩ : ∃ B1, B1 = W1.heap.size := ⟨_, rfl⟩
          rw [← hB1e] at hb2 hu2 hsz1 ⊢
          have hlt1 : w.heap.size < B1 := by omega
          have hb3 := hb1.upd hu2 (by omega)
          have hB3 := hu2.below hB2 (by omega)
          clear hb1 hB2 hu2 hb hB hB1e hsz hsz1
          go_loopw [1] (fun s1 W => ∃ (f m : Nat) (st all : Nat → BitVec 32), s1 = .int .i64 m ∧ m ≤ n ∧ m < 2 ^ f ∧ Blk W w.heap.size (A32 32 st) 155 ∧ Blk W B1 (A32 32 all) 155 ∧ Below w.heap.size w W ∧ shiftGo f m st all = shiftAll n) (fun s1 _ => (intOf s1).toNat)
          case atStart => exact ⟨64, n, _, _, rfl, Nat.le_refl _, by omega, hb3, hb2, hB3, rfl⟩
          case round =>
            clear hb3 hb2 hB3
            obtain ⟨f, m, st, all, rfl, hm, hf, hb1, hb2, hB, hS⟩ := hrel
            have HS := hide hS; clear hS
            have HF := hide hf; clear hf
            by_cases hm0 : 0 < m
            · have hm1 : (0 : Int) < m := by omega
              have hm2 : (m : Int) ≤ 9223372036854775807 := by omega
              obtain ⟨f, rfl⟩ : ∃ f', f = f' + 1 := by
                cases f with
                | zero => have := HF.out; omega
                | succ f => exact ⟨f, rfl⟩
              have hS := HS.out
              rw [shiftGo, if_neg (by omega)] at hS
              by_cases hodd : m % 2 = 1
              · have hbit : (bits BinOp.and IntKind.i64 (m : Int) 1 == 1) = true := by rw [and1_i64 m (by omega), hodd]; rfl
                rw [if_pos hodd] at hS
                have HS2 := hide hS; clear hS hodd
                go_wp2_with (first | (refine wp_loadRow rfl 155 _ rfl w.heap.size rfl hb1 Tryd.underlying155 rfl size155 (A32.size _ _) ?_) | (refine wp_loadRow rfl 155 _ rfl B1 rfl hb2 Tryd.underlying155 rfl size155 (A32.size _ _) ?_) | (go_at_call 101; refine (after_any _ _ _).mono ?_; rintro e W1 ⟨rfl, hB1⟩; replace hb1 := hb1.below hB1 hb1.lt; replace hb2 := hb2.below hB1 hb2.lt; replace hB := hB.trans (hB1.mono hB.size); clear hB1) | (refine wp_storeRow rfl 155 _ _ rfl B1 rfl rfl hb2 size155 (A32.size _ _) (A32.size _ _) (A32.one _) rfl ?_; intro W2 hu hb3; replace hb1 := hb1.upd hu (by omega); replace hB := hu.below hB (by omega); clear hb2; have hb2 := hb3; clear hb3 hu) | (refine wp_storeRow rfl 155 _ _ rfl w.heap.size rfl rfl hb1 size155 (A32.size _ _) (A32.size _ _) (A32.one _) rfl ?_; intro W2 hu hb3; replace hb2 := hb2.upd hu (by omega); replace hB := hu.below hB (by omega); clear hb1; have hb1 := hb3; clear hb3 hu))
                exact ⟨⟨f, m / 2, _, _, by go_num, by omega, by have := HF.out; omega, hb1, hb2, hB, HS2.out⟩, by simp [intOf]; omega⟩
              · have hbit : (bits BinOp.and IntKind.i64 (m : Int) 1 == 1) = false := by rw [and1_i64 m (by omega), show m % 2 = 0 by omega]; rfl
                rw [if_neg hodd] at hS
                have HS2 := hide hS; clear hS hodd
                go_wp2_with (first | (refine wp_loadRow rfl 155 _ rfl w.heap.size rfl hb1 Tryd.underlying155 rfl size155 (A32.size _ _) ?_) | (refine wp_loadRow rfl 155 _ rfl B1 rfl hb2 Tryd.underlying155 rfl size155 (A32.size _ _) ?_) | (go_at_call 101; refine (after_any _ _ _).mono ?_; rintro e W1 ⟨rfl, hB1⟩; replace hb1 := hb1.below hB1 hb1.lt; replace hb2 := hb2.below hB1 hb2.lt; replace hB := hB.trans (hB1.mono hB.size); clear hB1) | (refine wp_storeRow rfl 155 _ _ rfl B1 rfl rfl hb2 size155 (A32.size _ _) (A32.size _ _) (A32.one _) rfl ?_; intro W2 hu hb3; replace hb1 := hb1.upd hu (by omega); replace hB := hu.below hB (by omega); clear hb2; have hb2 := hb3; clear hb3 hu) | (refine wp_storeRow rfl 155 _ _ rfl w.heap.size rfl rfl hb1 size155 (A32.size _ _) (A32.size _ _) (A32.one _) rfl ?_; intro W2 hu hb3; replace hb2 := hb2.upd hu (by omega); replace hB := hu.below hB (by omega); clear hb1; have hb1 := hb3; clear hb3 hu))
                exact ⟨⟨f, m / 2, _, _, by go_num, by omega, by have := HF.out; omega, hb1, hb2, hB, HS2.out⟩, by simp [intOf]; omega⟩
            · have hm1 : ¬ (0 : Int) < m := by omega
              have hall : all = shiftAll n := by
                have h := HS.out
                rw [show m = 0 by omega] at h
                cases f with
                | zero => exact h
                | succ f => rw [shiftGo, if_pos rfl] at h; exact h
              have HA := hide hall; clear hall
              have hgd : Tryd.prog.eqGuardType Tryd.prog.depth 155 = false := by kernel_rfl
              obtain ⟨b, hbe⟩ : ∃ b, eqRow 32 all matUnit = b := ⟨_, rfl⟩
              have heq := eql_A32 (P := Tryd.prog) Tryd.underlying155 size42 Tryd.isAgg42 Tryd.underlying42 all matUnit
              rw [hbe] at heq
              have HBE := hide hbe; clear hbe
              go_wp2_with fail
              refine wp_region_held_drew (S := fun W => Blk W B1 (A32 32 all) 155) (by kernel_rfl) hb2.drew (fun hS => ?_)
              refine wpAnyH_take (i := 0) (v := .agg (A32 32 all)) rfl (by kernel_rfl) (by kernel_rfl) (by kernel_rfl) (fun _ _ _ h => h) (Or.inl ⟨by rfl, fun W hW => run_exec_loadRow _ 155 _ rfl B1 rfl hW Tryd.underlying155 rfl size155 (A32.size _ _)⟩) hS ?_
              refine wpAnyH_ready (rs := [1]) (by kernel_rfl) (by simp) ?_
              refine AllReadyH.cons rfl (fun K hK => ?_) AllReadyH.nil
              go_simp
              refine (unit_any _).mono ?_
              rintro e W1 ⟨rfl, hB1'⟩
              have hB1 : Below wr.heap.size wr W1 := below_undrew hB1'
              clear hB1'
              refine hK.out _ _ (hb2.below hB1 hb2.lt) (fun hb3 => ?_)
              refine wpAnyH_ready (rs := [2]) (by kernel_rfl) (by simp) ?_
              refine AllReadyH.cons rfl (fun K hK => ?_) AllReadyH.nil
              go_simp
              refine hK.out _ _ hb3 (fun _ => ?_)
              refine wpAnyH_done (by kernel_rfl) ?_ _
              have hB2 : Below w.heap.size w W1 := hB.trans (hB1.mono hB.size)
              cases b
              · go_wp2_with (first | (refine wp_loadRow rfl 155 _ rfl B1 rfl hb3 Tryd.underlying155 rfl size155 (A32.size _ _) ?_) | (go_at_call 103; refine (of_any _ _ _).mono ?_; rintro e W3 ⟨rfl, hB3⟩))
                go_ret
                exact ⟨retU32 (by rw [crcShift, ← HA.out, if_neg (by rw [HBE.out]; decide)]), hB2.trans (hB3.mono hB2.size)⟩
              · go_wp2_with fail
                go_ret
                exact ⟨retU32 (by rw [crcShift, ← HA.out, if_pos HBE.out]), hB2⟩
end Go.Proofs.YtdpgebifeaakjaaDoor

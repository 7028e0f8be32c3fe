/- The walk of the SHA constants. -/
import Derived.Test.YtdpgebifeaakjaaDoorS2
import Derived.Test.YtdpgebifeaakjaaDoorS5
import Derived.Test.YtdpgebifeaakjaaDoorK2
namespace Go.Proofs.YtdpgebifeaakjaaDoor
set_option linter.unusedSimpArgs false
set_option linter.unusedVariables false
open Go.RowKit
@[go_sem] theorem lit61 : (#[Value.int .u32 0, Value.int .u32 0, Value.int .u32 0, Value.int .u32 0, Value.int .u32 0, Value.int .u32 0, Value.int .u32 0, Value.int .u32 0] : Array Value) = A32 8 fun _ => 0#32 := by kernel_rfl
set_option maxRecDepth 20000 in
@[go_sem] theorem lit123 : (#[Value.int .u32 0, Value.int .u32 0, Value.int .u32 0, Value.int .u32 0, Value.int .u32 0, Value.int .u32 0, Value.int .u32 0, Value.int .u32 0, Value.int .u32 0, Value.int .u32 0, Value.int .u32 0, Value.int .u32 0, Value.int .u32 0, Value.int .u32 0, Value.int .u32 0, Value.int .u32 0, Value.int .u32 0, Value.int .u32 0, Value.int .u32 0, Value.int .u32 0, Value.int .u32 0, Value.int .u32 0, Value.int .u32 0, Value.int .u32 0, Value.int .u32 0, Value.int .u32 0, Value.int .u32 0, Value.int .u32 0, Value.int .u32 0, Value.int .u32 0, Value.int .u32 0, Value.int .u32 0, Value.int .u32 0, Value.int .u32 0, Value.int .u32 0, Value.int .u32 0, Value.int .u32 0, Value.int .u32 0, Value.int .u32 0, Value.int .u32 0, Value.int .u32 0, Value.int .u32 0, Value.int .u32 0, Value.int .u32 0, Value.int .u32 0, Value.int .u32 0, Value.int .u32 0, Value.int .u32 0, Value.int .u32 0, Value.int .u32 0, Value.int .u32 0, Value.int .u32 0, Value.int .u32 0, Value.int .u32 0, Value.int .u32 0, Value.int .u32 0, Value.int .u32 0, Value.int .u32 0, Value.int .u32 0, Value.int .u32 0, Value.int .u32 0, Value.int .u32 0, Value.int .u32 0, Value.int .u32 0] : Array Value) = A32 64 fun _ => 0#32 := by kernel_rfl
theorem size61 : (Tryd.prog.info? 61).map (·.size) = some 8 := by kernel_rfl
theorem size123 : (Tryd.prog.info? 123).map (·.size) = some 64 := by kernel_rfl

set_option maxRecDepth 20000 in
set_option maxHeartbeats 2000000 in
theorem constants_any (w : World) :
    Calls Tryd.prog 70 #[] w fun e w' => e = .returned (.tuple #[.agg (A32 8 startK), .agg (A32 64 roundK)]) ∧ Below w.heap.size w w' := by
  go_enter Tryd.func70, Tryd.ntmps70
  go_wp2_with (go_at_call 105; refine (primes_any _).mono ?_; rintro e W1 ⟨rfl, hB1⟩)
  go_loopw [5] (fun s5 W => ∃ k : Nat, k ≤ 64 ∧ s5 = .int .i64 k ∧ Blk W w.heap.size (A32 8 fun i => if i < k then startK i else 0#32) 61 ∧ Blk W (w.heap.size + 1) (A32 64 fun i => if i < k then roundK i else 0#32) 123 ∧ Below w.heap.size w W) (fun s5 _ => 64 - (intOf s5).toNat)
  case atStart =>
    have h1 := (Blk.new w (A32 8 fun _ => 0#32) 61).alloc (.cells (A32 64 fun _ => 0#32) 123)
    have h2 := Blk.new (w.alloc (.cells (A32 8 fun _ => 0#32) 61)) (A32 64 fun _ => 0#32) 123
    have h3 : Below w.heap.size w ((w.alloc (.cells (A32 8 fun _ => 0#32) 61)).alloc (.cells (A32 64 fun _ => 0#32) 123)) := ((Below.refl _ _).alloc (Nat.le_refl _) _).alloc (by simp) _
    rw [World.size_alloc] at h2
    exact ⟨0, by omega, rfl, h1.below hB1 h1.lt, h2.below hB1 h2.lt, h3.trans (hB1.mono h3.size)⟩
  case round =>
    obtain ⟨k, hk, rfl, hb1, hb2, hB⟩ := hrel
    by_cases hlt : k < 64
    · have hlt1 : (k : Int) < 64 := by omega
      have hix := index_A64 (P := Tryd.prog) Tryd.underlying160 Tryd.sizeOf159 Tryd.isAgg159 primeAt .i64 k hlt
      obtain ⟨g1, g2, g3, g4, g5, g6, g7⟩ := round_facts k hlt
      have HC : ∀ w, Calls Tryd.prog 109 #[.float .f64 (fp k)] w fun e w' => e = .returned (.float .f64 (cuC k)) ∧ w = w' := cbrt2_any _ _ g1 g2
      have hm := fun w : World => run_float_arith (P := Tryd.prog) w .mul 163 .f64 _ _ _ g3
      have HR : ∀ w, Calls Tryd.prog 106 #[.float .f64 (cuG k), U64 (primeAt k <<< 32), .func (.func 110) #[] #[]] w fun e w' => e = .returned (U32 (roundK k)) ∧ Below w.heap.size w w' := by
        intro w; rw [← g7]; exact root_cube _ _ _ g4 g5 g6 w
      clear g1 g2 g3 g4 g5 g6 g7
      have HC' := hide HC; have HR' := hide HR; clear HC HR
      by_cases h8 : k < 8
      · have h81 : (k : Int) < 8 := by omega
        obtain ⟨g1, g2, g3, g4, g5, g6⟩ := start_facts k h8
        have HS : ∀ w, Calls Tryd.prog 107 #[.float .f64 (fp k)] w fun e w' => e = .returned (.float .f64 (sqC k)) ∧ w = w' := sqrt_any _ _ g1
        have hm2 := fun w : World => run_float_arith (P := Tryd.prog) w .mul 163 .f64 _ _ _ g2
        have HT : ∀ w, Calls Tryd.prog 106 #[.float .f64 (sqG k), U64 (primeAt k), .func (.func 108) #[] #[]] w fun e w' => e = .returned (U32 (startK k)) ∧ Below w.heap.size w w' := by
          intro w; rw [← g6]; exact root_square _ _ _ g3 g4 g5 w
        clear g1 g2 g3 g4 g5 g6
        have HS' := hide HS; have HT' := hide HT; clear HS HT
        go_wp2_with (go_at_call 107; refine (HS'.out _).mono ?_; rintro e w' ⟨rfl, rfl⟩)
        refine (HT'.out _).mono ?_
        rintro e W2 ⟨rfl, hB2⟩
        have hb11 := hb1.below hB2 hb1.lt
        have hb21 := hb2.below hB2 hb2.lt
        have hB3 := hB.trans (hB2.mono hB.size)
        have hc : W2.cell? ⟨w.heap.size, k, none⟩ = some (U32 0#32) := (by rw [hb11.cell, A32.get _ h8, if_neg (Nat.lt_irrefl k)])
        have hf := hb11.free k
        clear hB2
        go_wp2_with (go_at_call 109; refine (HC'.out _).mono ?_; rintro e w' ⟨rfl, rfl⟩)
        refine (HR'.out _).mono ?_
        rintro e W3 ⟨rfl, hB4⟩
        have hb12 := hb11.set k (U32 (startK k))
        rw [A32.step] at hb12
        have hb22 := hb21.other (a := ⟨w.heap.size, k, none⟩) (by simp) (U32 (startK k))
        have hB5 := hB3.setCell (p := ⟨w.heap.size, k, none⟩) (Nat.le_refl _) (U32 (startK k))
        have hb13 := hb12.below hB4 hb12.lt
        have hb23 := hb22.below hB4 hb22.lt
        have hB6 := hB5.trans (hB4.mono hB5.size)
        have hc2 : W3.cell? ⟨w.heap.size + 1, k, none⟩ = some (U32 0#32) := (by rw [hb23.cell, A32.get _ hlt, if_neg (Nat.lt_irrefl k)])
        have hf2 := hb23.free k
        clear hB4 hb12 hb22 hB5 hc hf hb11 hb21 hB3
        go_wp2_with fail
        have hb24 := hb23.set k (U32 (roundK k))
        rw [A32.step] at hb24
        exact ⟨⟨k + 1, by omega, by go_num, hb13.other (by simp) _, hb24, hB6.setCell (p := ⟨w.heap.size + 1, k, none⟩) (by simp) _⟩, by simp [intOf]; omega⟩
      · have h81 : ¬ (k : Int) < 8 := by omega
        go_wp2_with (first | (go_at_call 109; refine (HC'.out _).mono ?_; rintro e w' ⟨rfl, rfl⟩) | (go_at_call 106; refine (HR'.out _).mono ?_; rintro e W2 ⟨rfl, hB2⟩; have hb21 := hb2.below hB2 hb2.lt; have hc : W2.cell? ⟨w.heap.size + 1, k, none⟩ = some (U32 0#32) := (by rw [hb21.cell, A32.get _ hlt, if_neg (Nat.lt_irrefl k)]); have hf := hb21.free k))
        have hb11 := hb1.below hB2 hb1.lt
        have hB3 := hB.trans (hB2.mono hB.size)
        have hb22 := hb21.set k (U32 (roundK k))
        rw [A32.step] at hb22
        rw [A32.ext (g := fun i => if i < k + 1 then startK i else 0#32) (fun i hi => by rw [if_pos (by omega), if_pos (by omega)])] at hb11
        exact ⟨⟨k + 1, by omega, by go_num, hb11.other (by simp) _, hb22, hB3.setCell (p := ⟨w.heap.size + 1, k, none⟩) (by simp) _⟩, by simp [intOf]; omega⟩
    · have hlt1 : ¬ (k : Int) < 64 := by omega
      rw [A32.ext (g := startK) (fun i hi => if_pos (by omega))] at hb1
      rw [A32.ext (g := roundK) (fun i hi => if_pos (by omega))] at hb2
      go_wp2_with fail
      refine wp_region_held_drew (S := fun W => Blk W w.heap.size (A32 8 startK) 61 ∧ Blk W (w.heap.size + 1) (A32 64 roundK) 123 ∧ Below w.heap.size w W) (by kernel_rfl) ⟨hb1.drew, hb2.drew, hB.drew⟩ (fun hS => ?_)
      refine wpAnyH_take (i := 0) (v := .agg (A32 8 startK)) rfl (by kernel_rfl) (by kernel_rfl) (by kernel_rfl) (fun _ _ _ h => h) (Or.inl ⟨by rfl, fun W hW => run_exec_loadRow _ 61 _ rfl w.heap.size rfl hW.1 Tryd.underlying61 rfl size61 (A32.size _ _)⟩) hS ?_
      refine wpAnyH_take (i := 1) (v := .agg (A32 64 roundK)) rfl (by kernel_rfl) (by kernel_rfl) (by kernel_rfl) (fun _ _ _ h => h) (Or.inl ⟨by rfl, fun W hW => run_exec_loadRow _ 123 _ rfl (w.heap.size + 1) rfl hW.2.1 Tryd.underlying123 rfl size123 (A32.size _ _)⟩) hS ?_
      refine wpAnyH_ready (rs := [2]) (by kernel_rfl) (by simp) ?_
      refine AllReadyH.cons rfl (fun K hK => ?_) AllReadyH.nil
      rw [if_pos (by rfl)]
      refine op_storeRow 61 _ _ rfl w.heap.size rfl rfl hS.1 size61 (A32.size _ _) (A32.size _ _) (A32.one _) rfl (fun w2 hu hb3 => ?_)
      refine hK.out _ _ ⟨hb3, hS.2.1.upd hu (by omega), hu.below hS.2.2 (Nat.le_refl _)⟩ (fun hS2 => ?_)
      refine wpAnyH_ready (rs := [3]) (by kernel_rfl) (by simp) ?_
      refine AllReadyH.cons rfl (fun K hK => ?_) AllReadyH.nil
      rw [if_pos (by rfl)]
      refine op_storeRow 123 _ _ rfl (w.heap.size + 1) rfl rfl hS2.2.1 size123 (A32.size _ _) (A32.size _ _) (A32.one _) rfl (fun w3 hu2 hb4 => ?_)
      refine hK.out _ _ ⟨hS2.1.upd hu2 (by omega), hb4, hu2.below hS2.2.2 (by omega)⟩ (fun hS3 => ?_)
      refine wpAnyH_done (by kernel_rfl) ?_ _
      go_wp2_with fail
      exact ret_row2 rfl w.heap.size (w.heap.size + 1) rfl rfl (run_loadVar_Blk hS3.1 Tryd.underlying61 rfl size61 (A32.size _ _)) (run_loadVar_Blk hS3.2.1 Tryd.underlying123 rfl size123 (A32.size _ _)) rfl ⟨rfl, hS3.2.2⟩
end Go.Proofs.YtdpgebifeaakjaaDoor

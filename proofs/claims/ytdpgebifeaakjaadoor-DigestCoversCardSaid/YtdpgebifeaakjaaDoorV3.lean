/- The walks of the specification's Cover and of DigestCovers. -/
import Derived.Test.YtdpgebifeaakjaaDoorV2
namespace Go.Proofs.YtdpgebifeaakjaaDoor
set_option linter.unusedSimpArgs false
set_option linter.unusedVariables false
open Go.RowKit

theorem size37 : (Tryd.prog.info? 37).map (·.size) = some 2 := by kernel_rfl
theorem build37e (w : World) : (Instr.build 37 #[(1, .int .i64 1)]).run Tryd.prog w = .ok (.agg #[.slice none 0 0, .int .i64 1]) w := by kernel_rfl
theorem build37 (p : Option Addr) (k c : Nat) (w : World) : (Instr.build 37 #[(0, .slice p k c)]).run Tryd.prog w = .ok (.agg #[.slice p k c, .int .i64 0]) w := by kernel_rfl

set_option maxRecDepth 100000 in
set_option maxHeartbeats 1000000 in
theorem rcover_bad (a b : Int) (h : a < 0 ∨ b < a ∨ 1099511627776 < b) (w : World) :
    Calls Tryd.prog 23 #[.int .i64 a, .int .i64 b] w fun e w' => e = .returned (.agg #[.slice none 0 0, .int .i64 1]) ∧ Below w.heap.size w w' := by
  have hN := Blk.new w #[.slice none 0 0, .int .i64 0] 37
  have hB : Below w.heap.size w (w.alloc (.cells #[.slice none 0 0, .int .i64 0] 37)) := (Below.refl _ w).alloc (Nat.le_refl _) _
  have hbe := build37e
  go_enter Tryd.func23, Tryd.ntmps23
  by_cases h0 : a < 0
  · clear h
    go_wp2_with fail
    exact ret_row rfl w.heap.size rfl (Blk.new _ _ _) Tryd.underlying37 rfl size37 rfl rfl ⟨rfl, (Below.refl _ w).alloc (Nat.le_refl _) _⟩
  · by_cases h1 : b < a
    · clear h
      go_wp2_with fail
      exact ret_row rfl w.heap.size rfl (Blk.new _ _ _) Tryd.underlying37 rfl size37 rfl rfl ⟨rfl, (Below.refl _ w).alloc (Nat.le_refl _) _⟩
    · have h2 : (1099511627776 : Int) < b := by omega
      clear h
      go_wp2_with fail
      exact ret_row rfl w.heap.size rfl (Blk.new _ _ _) Tryd.underlying37 rfl size37 rfl rfl ⟨rfl, (Below.refl _ w).alloc (Nat.le_refl _) _⟩

set_option maxRecDepth 100000 in
set_option maxHeartbeats 1000000 in
theorem rcover_ok (a b : Nat) (hab : a ≤ b) (hb : b ≤ 1099511627776) (w : World) :
    Calls Tryd.prog 23 #[.int .i64 a, .int .i64 b] w fun e w' => ∃ v, e = .returned (.agg #[v, .int .i64 0]) ∧ SlB w' v (coverL a b) ∧ Below w.heap.size w w' := by
  have h0 : ¬ (a : Int) < 0 := by omega
  have h1 : ¬ (b : Int) < (a : Int) := by omega
  have h2 : ¬ (1099511627776 : Int) < (b : Int) := by omega
  have hN := Blk.new w #[.slice none 0 0, .int .i64 0] 37
  have hB : Below w.heap.size w (w.alloc (.cells #[.slice none 0 0, .int .i64 0] 37)) := (Below.refl _ w).alloc (Nat.le_refl _) _
  go_enter Tryd.func23, Tryd.ntmps23
  go_wp2_with fail
  refine (rcover_any a b hab hb _).mono ?_
  rintro e W1 ⟨v, rfl, hown, hB1⟩
  obtain ⟨p, k, c, rfl⟩ := ownsRow_slice hown
  have hN1 := hN.below hB1 (by simp)
  have hB2 := hB.trans (hB1.mono (by simp))
  have hbd := build37 p k c
  have hS := SlB.of_owns hown
  have hlt := hown.lt
  have HS := hide hS
  clear hS hown hB hB1 hN
  have hc0 := hN1.cell 0
  have hc1 := hN1.cell 1
  have hf0 := hN1.free 0
  have hf1 := hN1.free 1
  simp at hc0 hc1
  go_wp2_with fail
  have hN2 : Blk ((W1.setCell ⟨w.heap.size, 0, none⟩ (.slice p k c)).setCell ⟨w.heap.size, 1, none⟩ (.int .i64 0)) w.heap.size #[.slice p k c, .int .i64 0] 37 := (hN1.set 0 (.slice p k c)).set 1 (.int .i64 0)
  refine ret_row rfl w.heap.size rfl hN2 Tryd.underlying37 rfl size37 rfl rfl ⟨_, rfl, ?_, (hB2.setCell (p := ⟨w.heap.size, 0, none⟩) (Nat.le_refl _) _).setCell (p := ⟨w.heap.size, 1, none⟩) (Nat.le_refl _) _⟩
  obtain ⟨q, d, e, hc⟩ := HS.out
  refine ⟨q, d, e, fun j x hx => ?_⟩
  obtain ⟨g, o, hq, c1, c2⟩ := hc j x hx
  have hg : g ≠ w.heap.size := by
    cases e
    subst hq
    have := (hlt g rfl).1
    simp at this
    omega
  have hs : ((W1.setCell ⟨w.heap.size, 0, none⟩ (.slice p k c)).setCell ⟨w.heap.size, 1, none⟩ (.int .i64 0)).heap[g]? = W1.heap[g]? :=
    (Below.heap_setCell _ _ _ _ hg).trans (Below.heap_setCell _ _ _ _ hg)
  exact ⟨g, o, hq, (World.cell?_of_block hs).trans c1, (World.cell?_of_block hs).trans c2⟩
end Go.Proofs.YtdpgebifeaakjaaDoor

/- The walk of DigestCovers. -/
import Derived.Test.YtdpgebifeaakjaaDoorV3
namespace Go.Proofs.YtdpgebifeaakjaaDoor
set_option linter.unusedSimpArgs false
set_option linter.unusedVariables false
open Go.RowKit

theorem tab_below {w w' : World} (h : TabAt 3 Lib.deBruijn64tab w) (h3 : 3 < w.heap.size) (hb : Below w.heap.size w w') : TabAt 3 Lib.deBruijn64tab w' :=
  fun j hj => (hb.cell (p := ⟨3, j, none⟩) h3).trans (h j hj)

set_option maxRecDepth 100000 in
set_option maxHeartbeats 2000000 in
theorem covers_core (a b er : Int) (L : List (Nat × Nat)) (hL : L.length ≤ 1099511627776) (w : World) (hT : TabAt 3 Lib.deBruijn64tab w) (h3 : 3 < w.heap.size)
    (c22 : ∀ w, TabAt 3 Lib.deBruijn64tab w → 3 < w.heap.size → Calls Tryd.prog 22 #[.int .i64 a, .int .i64 b] w fun e w' => ∃ v, e = .returned (.tuple #[v, .int .i64 er]) ∧ SlB w' v L ∧ Below w.heap.size w w')
    (c23 : ∀ w, Calls Tryd.prog 23 #[.int .i64 a, .int .i64 b] w fun e w' => ∃ v, e = .returned (.agg #[v, .int .i64 er]) ∧ SlB w' v L ∧ Below w.heap.size w w') :
    Calls Tryd.prog 4 #[.int .i64 a, .int .i64 b] w fun e w' => e = .returned (.bool true) ∧ Below w.heap.size w w' := by
  go_enter Tryd.func4, Tryd.ntmps4
  go_wp2_with fail
  refine (c22 w hT h3).mono ?_
  rintro e W1 ⟨u, rfl, hu, hB⟩
  obtain ⟨p, c, rfl, _⟩ := id hu
  have HU := hide hu
  clear hu
  go_wp2_with fail
  refine (c23 W1).mono ?_
  rintro e W2 ⟨v, rfl, hv, hB2⟩
  obtain ⟨q, d, rfl, _⟩ := id hv
  replace HU := hide (HU.out.below hB2)
  replace hB := hB.trans (hB2.mono hB.size)
  clear hB2
  have hB3 := hB.alloc hB.size (.cells #[.slice q L.length d, .int .i64 er] 37)
  have hN := Blk.new W2 #[.slice q L.length d, .int .i64 er] 37
  have hn : Below W2.heap.size W2 (W2.alloc (.cells #[.slice q L.length d, .int .i64 er] 37)) := (Below.refl _ _).alloc (Nat.le_refl _) _
  replace HU := hide (HU.out.below hn)
  have HV := hide (hv.below hn)
  clear hv hn hB
  go_wp2_with fail
  refine (sane_any _ (tab_below hT h3 hB3) (Nat.lt_of_lt_of_le h3 hB3.size)).mono ?_
  rintro e W3 ⟨rfl, hB4⟩
  replace HU := hide (HU.out.below hB4)
  replace HV := hide (HV.out.below hB4)
  have hN3 := hN.below hB4 hN.lt
  have hB5 := hB3.trans (hB4.mono hB3.size)
  clear hB4 hB3 hN
  have n0 := hN3.cell 0
  have n1 := hN3.cell 1
  simp at n0 n1
  go_wp2_with fail
  refine (blocks_any _ _ L L W3 HU.out HV.out hL).mono ?_
  rintro e W4 ⟨rfl, k, rfl⟩
  rw [show decide (L = L) = true from by simp]
  clear HU HV
  go_wp2_with fail
  go_ret
  exact ⟨rfl, ⟨hB5.os, hB5.tape, hB5.output, hB5.size, hB5.block⟩⟩

theorem nil_SlB (W : World) : SlB W (.slice none 0 0) [] := ⟨none, 0, rfl, fun j x hx => by simp at hx⟩
/-- DigestCovers returns true, whatever the numbers. -/
theorem covers_any (a b : Int) (w : World) (hT : TabAt 3 Lib.deBruijn64tab w) (h3 : 3 < w.heap.size) :
    Calls Tryd.prog 4 #[.int .i64 a, .int .i64 b] w fun e w' => e = .returned (.bool true) ∧ Below w.heap.size w w' := by
  by_cases h : a < 0 ∨ b < a ∨ 1099511627776 < b
  · exact covers_core a b 1 [] (by decide) w hT h3 (fun w _ _ => (cover_bad a b h w).mono fun e w' he => ⟨_, he.1, nil_SlB _, he.2⟩)
      (fun w => (rcover_bad a b h w).mono fun e w' he => ⟨_, he.1, nil_SlB _, he.2⟩)
  · obtain ⟨m, rfl⟩ : ∃ m : Nat, a = m := ⟨a.toNat, by omega⟩
    obtain ⟨n, rfl⟩ : ∃ n : Nat, b = n := ⟨b.toNat, by omega⟩
    have hmn : m ≤ n := by omega
    have hn : n ≤ 1099511627776 := by omega
    exact covers_core m n 0 (coverL m n) (Nat.le_trans (coverL_length m n) (by omega)) w hT h3
      (fun w hT h3 => (cover_ok m n hmn hn w hT h3).mono fun e w' ⟨v, he, ho, hb⟩ => ⟨v, he, SlB.of_owns ho, hb⟩)
      (fun w => (rcover_ok m n hmn hn w).mono fun e w' ⟨v, he, ho, hb⟩ => ⟨v, he, ho, hb⟩)
end Go.Proofs.YtdpgebifeaakjaaDoor

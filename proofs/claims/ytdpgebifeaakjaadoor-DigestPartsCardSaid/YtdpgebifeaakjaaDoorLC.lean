/- A slice of numbers that came in, opened. -/
import Derived.Test.YtdpgebifeaakjaaDoorLO
import Derived.Test.YtdpgebifeaakjaaDoorPP
import Derived.OpenShut
namespace Go.Proofs.YtdpgebifeaakjaaDoor
set_option linter.unusedSimpArgs false
set_option linter.unusedVariables false
open Go.ChangeShapes Go.WideShapes Go.ChangeAt Go.RowKit

set_option maxRecDepth 20000 in
theorem open_cuts {H : Type} {enc : TypeId × Value → H} {W : World} {base b0 : Nat} {spare : Nat → Bool} {held : Bool} {r : Reach} {v : Value} {d : DataW H} {p : List MemPlace}
    (hv : Value.okWide Tryd.prog W r b0 76 v) (h : DataW.Trod enc Tryd.prog W base spare held 76 v d p) : ∃ (n : Nat) (c : Nat → Nat), Cuts W v n c ∧ n ≤ maxLen := by
  obtain ⟨a0, len, cap, rfl⟩ := okWide_slice Tryd.underlying76 hv
  obtain ⟨fuel, hf⟩ := h
  rcases open_ints Tryd.underlying76 Tryd.underlying41 (by kernel_rfl) hf with ⟨hcs, hx⟩ | ⟨a, len', cap', zs, hcs, hb, hle, hmax, hlen, hx, hcell, hwf⟩
  · simp [Value.cells] at hcs
    obtain ⟨rfl, rfl, rfl⟩ := hcs
    exact ⟨0, fun _ => 0, ⟨none, 0, rfl, fun j hj => by omega⟩, by decide⟩
  · simp [Value.cells] at hcs
    obtain ⟨rfl, rfl, rfl⟩ := hcs
    refine ⟨len, fun j => (zs.getD j 0).toNat, ⟨some a, cap, rfl, fun j hj => ?_⟩, Nat.le_trans hle hmax⟩
    have hz : j < zs.length := by rw [hlen]; split <;> omega
    obtain ⟨b, off, rfl, hc⟩ := ints_at hcell (by omega)
    have hm : zs.getD j 0 ∈ zs := by
      rw [List.getD, List.getElem?_eq_getElem hz]
      exact List.getElem_mem hz
    obtain ⟨k0, k1⟩ := bounds_u16 (hwf _ hm)
    refine ⟨b, off, rfl, ?_, ?_⟩
    · rw [hc j hz]
      show some (Value.int .u16 (zs.getD j 0)) = some (Value.int .u16 ((zs.getD j 0).toNat : Int))
      rw [Int.toNat_of_nonneg k0]
    · show (zs.getD j 0).toNat < 65536
      exact (Int.toNat_lt k0).2 (Int.lt_of_le_of_lt k1 (by decide))
end Go.Proofs.YtdpgebifeaakjaaDoor

/- A digest that came in, opened. -/
import Derived.Test.YtdpgebifeaakjaaDoorLF
namespace Go.Proofs.YtdpgebifeaakjaaDoor
set_option linter.unusedSimpArgs false
set_option linter.unusedVariables false
open Go.ChangeShapes Go.WideShapes Go.ChangeAt Go.RowKit

theorem cells5 : Tryd.prog.cellsOf 5 = 1 := by kernel_rfl
/-- Cells that read as n bytes are n bytes. -/
theorem bytes_of_row {H : Type} {enc : TypeId × Value → H} {W : World} {base : Nat} {spare : Nat → Bool} {held : Bool} {fuel T n : Nat} {cs : List Value} {x : DataW H × List MemPlace}
    (ht : Tryd.prog.underlying T = some (.array n 5)) (hn : cs.length = n) (h : DataW.trod enc Tryd.prog W base spare held fuel T cs = some x) : ∃ f : Nat → BitVec 8, cs = (A8 n f).toList := by
  obtain ⟨xs, m, _, _, _, hxn, hel⟩ := DataW.trod_array ht h
  have key : ∀ i, i < n → ∃ b : BitVec 8, cs[i]? = some (U8 b) := fun i hi => by
    have hi' := hel i hi
    rw [cells5, Nat.mul_one, List.getElem?_eq_getElem (by omega)] at hi'
    obtain ⟨k, e1, _, e3⟩ := DataW.trod_int Tryd.underlying5 hi'
    obtain ⟨k0, k1⟩ := bounds_u8 e3
    have hc : cs[i]? = some (.int .u8 k) := by
      have := congrArg (fun l => l[0]?) e1
      simpa using this
    exact ⟨BitVec.ofInt 8 k, by rw [hc, U8_lit k k0 (by omega)]⟩
  refine ⟨fun i => match cs[i]? with | some (.int _ k) => BitVec.ofInt 8 k | _ => 0#8, ?_⟩
  apply List.ext_getElem?
  intro i
  by_cases hi : i < n
  · obtain ⟨b, hb⟩ := key i hi
    have hr : (A8 n fun i => match cs[i]? with | some (.int _ k) => BitVec.ofInt 8 k | _ => 0#8).toList[i]? = some (U8 (match cs[i]? with | some (.int _ k) => BitVec.ofInt 8 k | _ => 0#8)) := by
      rw [Array.getElem?_toList, A8.get _ hi]
    rw [hr, hb]
    simp only [ofInt_n8]
  · rw [List.getElem?_eq_none (by omega), List.getElem?_eq_none (by rw [Array.length_toList, A8.size]; omega)]
theorem cells23 : Tryd.prog.cellsOf 23 = 16 := by kernel_rfl
theorem okWide_arr {P : Program} {w : World} {r : Reach} {b0 t n e : Nat} {v : Value} (hu : P.underlying t = some (.array n e)) (hv : Value.okWide P w r b0 t v) : ∃ cs, v = .agg cs ∧ cs.size = P.cellsOf t := by
  unfold Value.okWide at hv
  rw [hu] at hv
  obtain ⟨cs, h1, h2, _⟩ := hv
  exact ⟨cs, h1, h2⟩
set_option maxRecDepth 20000 in
theorem open_dig {H : Type} {enc : TypeId × Value → H} {W : World} {base b0 : Nat} {spare : Nat → Bool} {held : Bool} {r : Reach} {v : Value} {d : DataW H} {p : List MemPlace}
    (hv : Value.okWide Tryd.prog W r b0 23 v) (h : DataW.Trod enc Tryd.prog W base spare held 23 v d p) : ∃ f : Nat → BitVec 8, v = .agg (A8 16 f) := by
  obtain ⟨cs, rfl, hsz⟩ := okWide_arr Tryd.underlying23 hv
  rw [cells23] at hsz
  obtain ⟨fuel, hf⟩ := h
  obtain ⟨f, hc⟩ := bytes_of_row (n := 16) Tryd.underlying23 hsz hf
  refine ⟨f, ?_⟩
  have : cs = A8 16 f := by
    rw [← Array.toList_inj]
    exact hc
  rw [this]
end Go.Proofs.YtdpgebifeaakjaaDoor

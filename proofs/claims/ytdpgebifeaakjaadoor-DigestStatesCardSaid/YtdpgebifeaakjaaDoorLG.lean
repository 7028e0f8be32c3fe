/- What the row's condition on the round constants gives the walks; a state that came in, opened. -/
import Derived.Test.YtdpgebifeaakjaaDoorLO
import Derived.Test.YtdpgebifeaakjaaDoorRE
namespace Go.Proofs.YtdpgebifeaakjaaDoor
set_option linter.unusedSimpArgs false
set_option linter.unusedVariables false
open Go.ChangeShapes Go.WideShapes Go.ChangeAt Go.RowKit

def laid3 : List (String × DataW Unit) := [("math/bits.deBruijn32tab", Rows.laid_math_bits_deBruijn32tab), ("math/bits.deBruijn64tab", Rows.laid_math_bits_deBruijn64tab), ("understory/understoryref02.constants", Rows.laid_understory_understoryref02_constants)]
theorem gK : Tryd.prog.globalNamed "understory/understoryref02.constants" = some 0 := by kernel_rfl
theorem gtK : (Tryd.prog.globals[0]?).map (·.type) = some 123 := by kernel_rfl
theorem cells42 : Tryd.prog.cellsOf 42 = 1 := by kernel_rfl
theorem laidK_eq {H : Type} : (Rows.laid_understory_understoryref02_constants : DataW H) = .agg (roundList.map fun k : Nat => .lit (.int .u32 (k : Int))) := by kernel_rfl
/-- An array of words that reads as listed holds them. -/
theorem words_of_trod {H : Type} {enc : TypeId × Value → H} {W : World} {base : Nat} {spare : Nat → Bool} {held : Bool} {fuel T n : Nat} {cs : List Value} {L : List Nat} {p : List MemPlace}
    (ht : Tryd.prog.underlying T = some (.array n 42)) (hL : L.length = n) (h : DataW.trod enc Tryd.prog W base spare held fuel T cs = some (.agg (L.map fun k : Nat => .lit (.int .u32 (k : Int))), p)) :
    ∀ i, i < n → cs[i]? = some (.int .u32 ((L.getD i 0 : Nat) : Int)) := by
  intro i hi
  obtain ⟨xs, m, _, hx, _, hn, hel⟩ := DataW.trod_array ht h
  simp only [Prod.mk.injEq, DataW.agg.injEq] at hx
  have hi' := hel i hi
  rw [cells42, Nat.mul_one] at hi'
  have hix : i < xs.length := by omega
  rw [List.getElem?_eq_getElem hix] at hi'
  obtain ⟨k, e1, e2, _⟩ := DataW.trod_int Tryd.underlying42 hi'
  have hk : (xs.map (·.1))[i]? = some (.lit (.int .u32 k)) := by
    rw [List.getElem?_map, List.getElem?_eq_getElem hix, e2]; rfl
  rw [← hx.1, List.getElem?_map, List.getElem?_eq_getElem (by omega : i < L.length)] at hk
  have hk' : ((L[i]'(by omega) : Nat) : Int) = k := by simpa using hk
  have hc : cs[i]? = some (.int .u32 k) := by
    have := congrArg (fun l => l[0]?) e1
    simpa using this
  rw [hc, ← hk']
  simp [List.getD_eq_getElem?_getD, List.getElem?_eq_getElem (by omega : i < L.length)]
theorem roundList_small : roundList.all (fun k => decide (k < 4294967296)) = true := by decide +kernel
theorem roundK_lit (j : Nat) : Value.int .u32 ((roundList.getD j 0 : Nat) : Int) = U32 (roundK j) := by
  have h : roundList.getD j 0 < 4294967296 := by
    by_cases hj : j < roundList.length
    · rw [List.getD, List.getElem?_eq_getElem hj]
      exact of_decide_eq_true (List.all_eq_true.1 roundList_small _ (List.getElem_mem hj))
    · rw [List.getD, List.getElem?_eq_none (by omega)]; decide
  rw [U32_lit _ (by omega) (by omega), roundK, BitVec.ofInt_natCast]
theorem laid3_parts {W : World} (h : laidMetH Tryd.prog laid3 W) : TabAt 3 Lib.deBruijn64tab W ∧ KAt W := by
  rw [MakeChecks.laidMetH_plain _ _ _ (by kernel_rfl)] at h
  obtain ⟨ps, ⟨g0, t0, cs0, f0, p0, q0, hg0, ht0, hv0, hd0, ⟨g1, t1, cs1, f1, p1, q1, hg1, ht1, hv1, hd1, ⟨g2, t2, cs2, f2, p2, q2, hg2, ht2, hv2, hd2, _, _⟩, _⟩, _⟩, _, _⟩ := h
  obtain rfl := Option.some.inj (g64.symm.trans hg1)
  obtain rfl := Option.some.inj (gt64.symm.trans ht1)
  obtain rfl := Option.some.inj (gK.symm.trans hg2)
  obtain rfl := Option.some.inj (gtK.symm.trans ht2)
  refine ⟨fun j hj => ?_, fun j hj => ?_⟩
  · have hj64 : j < 64 := hj
    have hb := bytes_of_trod (L := Lib.deBruijn64tab) Tryd.underlying185 rfl hd1 j hj64
    have := World.var?_cell hg1 hv1 j
    rw [this, ← Array.getElem?_toList]
    exact hb
  · rw [laidK_eq] at hd2
    have hb := words_of_trod (L := roundList) Tryd.underlying123 (by decide +kernel) hd2 j hj
    have := World.var?_cell hg2 hv2 j
    rw [this, ← Array.getElem?_toList, hb, roundK_lit]
theorem tab_of_laid3 {W : World} (h : laidMetH Tryd.prog laid3 W) : TabAt 3 Lib.deBruijn64tab W := (laid3_parts h).1
theorem k_of_laid3 {W : World} (h : laidMetH Tryd.prog laid3 W) : KAt W := (laid3_parts h).2
theorem door_met3 (os : Os) (args : Array Value) : laidMetH Tryd.prog laid3 ((World.doorLaid Tryd.prog 400 os).forCall (fun _ _ => 0) ⟨#[], args, []⟩).memory :=
  laidMetH_of_parts3 (fuel := 8) (laidMet_of_run' 8 (by kernel_rfl) (by kernel_rfl)) (by kernel_rfl) (by kernel_rfl)
end Go.Proofs.YtdpgebifeaakjaaDoor

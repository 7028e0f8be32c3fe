/- What the row's condition on the library's table gives the walks; a start that meets it. -/
import Derived.Test.YtdpgebifeaakjaaDoorRows
import Derived.Test.YtdpgebifeaakjaaDoorSN
import Derived.ProofKit
import Derived.LaidMore
import Derived.OpenShut
import Derived.Stop.Joined
namespace Go.Proofs.YtdpgebifeaakjaaDoor
set_option linter.unusedSimpArgs false
set_option linter.unusedVariables false
open Go.ChangeShapes Go.WideShapes Go.ChangeAt Go.RowKit

theorem own : ownKnob Tryd.prog.godebug = none := by kernel_rfl
theorem g32 : Tryd.prog.globalNamed "math/bits.deBruijn32tab" = some 2 := by kernel_rfl
theorem g64 : Tryd.prog.globalNamed "math/bits.deBruijn64tab" = some 3 := by kernel_rfl
theorem gt64 : (Tryd.prog.globals[3]?).map (·.type) = some 185 := by kernel_rfl
theorem gt32 : (Tryd.prog.globals[2]?).map (·.type) = some 69 := by kernel_rfl
def laid2 : List (String × DataW Unit) := [("math/bits.deBruijn32tab", Rows.laid_math_bits_deBruijn32tab), ("math/bits.deBruijn64tab", Rows.laid_math_bits_deBruijn64tab)]

/-- An array of bytes that reads as listed holds them. -/
theorem bytes_of_trod {H : Type} {enc : TypeId × Value → H} {W : World} {base : Nat} {spare : Nat → Bool} {held : Bool} {fuel T n : Nat} {cs : List Value} {L : List Nat} {p : List MemPlace}
    (ht : Tryd.prog.underlying T = some (.array n 5)) (hL : L.length = n) (h : DataW.trod enc Tryd.prog W base spare held fuel T cs = some (.agg (L.map fun k : Nat => .lit (.int .u8 (k : Int))), p)) :
    ∀ i, i < n → cs[i]? = some (.int .u8 ((L.getD i 0 : Nat) : Int)) := by
  intro i hi
  obtain ⟨xs, m, _, hx, _, hn, hel⟩ := DataW.trod_array ht h
  simp only [Prod.mk.injEq, DataW.agg.injEq] at hx
  have c5 : Tryd.prog.cellsOf 5 = 1 := by kernel_rfl
  have hi' := hel i hi
  rw [c5, Nat.mul_one] at hi'
  have hix : i < xs.length := by omega
  rw [List.getElem?_eq_getElem hix] at hi'
  obtain ⟨k, e1, e2, _⟩ := DataW.trod_int Tryd.underlying5 hi'
  have hk : (xs.map (·.1))[i]? = some (.lit (.int .u8 k)) := by
    rw [List.getElem?_map, List.getElem?_eq_getElem hix, e2]; rfl
  rw [← hx.1, List.getElem?_map, List.getElem?_eq_getElem (by omega : i < L.length)] at hk
  have hk' : ((L[i]'(by omega) : Nat) : Int) = k := by simpa using hk
  have hc : cs[i]? = some (.int .u8 k) := by
    have := congrArg (fun l => l[0]?) e1
    simpa using this
  rw [hc, ← hk']
  simp [List.getD_eq_getElem?_getD, List.getElem?_eq_getElem (by omega : i < L.length)]

theorem tab_of_laid {W : World} (h : laidMetH Tryd.prog laid2 W) : TabAt 3 Lib.deBruijn64tab W := by
  rw [MakeChecks.laidMetH_plain _ _ _ (by kernel_rfl)] at h
  obtain ⟨ps, ⟨g0, t0, cs0, f0, p0, q0, hg0, ht0, hv0, hd0, ⟨g1, t1, cs1, f1, p1, q1, hg1, ht1, hv1, hd1, _, _⟩, _⟩, _, _⟩ := h
  obtain rfl := Option.some.inj (g64.symm.trans hg1)
  obtain rfl := Option.some.inj (gt64.symm.trans ht1)
  intro j hj
  have hj64 : j < 64 := hj
  have hb := bytes_of_trod (L := Lib.deBruijn64tab) Tryd.underlying185 rfl hd1 j hj64
  have := World.var?_cell hg1 hv1 j
  rw [this, ← Array.getElem?_toList]
  exact hb

theorem door_met (os : Os) (args : Array Value) : laidMetH Tryd.prog laid2 ((World.doorLaid Tryd.prog 400 os).forCall (fun _ _ => 0) ⟨#[], args, []⟩).memory :=
  laidMetH_of_parts3 (fuel := 8) (laidMet_of_run' 8 (by kernel_rfl) (by kernel_rfl)) (by kernel_rfl) (by kernel_rfl)
end Go.Proofs.YtdpgebifeaakjaaDoor

/- A frontier that came in, opened. -/
import Derived.Test.YtdpgebifeaakjaaDoorMJ
import Derived.Deep.Slices
namespace Go.Proofs.YtdpgebifeaakjaaDoor
set_option linter.unusedSimpArgs false
set_option linter.unusedVariables false
open Go.ChangeShapes Go.WideShapes Go.ChangeAt Go.RowKit

theorem digs_of_trod {H : Type} {enc : TypeId × Value → H} {W : World} {base : Nat} {spare : Nat → Bool} {held : Bool} {fuel : Nat} {cs : List Value} {x : DataW H × List MemPlace}
    (hf : DataW.trod enc Tryd.prog W base spare held fuel 80 cs = some x) : ∃ (q : Option Addr) (n cap : Nat) (D : Nat → Nat → BitVec 8), cs = [.slice q n cap] ∧ Digs W (.slice q n cap) n D ∧ n ≤ maxLen := by
  obtain ⟨d, p⟩ := x
  rcases Go.Deep.open_slice Tryd.underlying80 hf with ⟨hcs, hx⟩ | ⟨a, len, cap, m, n, E, Pl, hcs, hb, hle, hmax, hm, hx, hel⟩
  · exact ⟨none, 0, 0, fun _ _ => 0#8, hcs, ⟨none, 0, rfl, Nat.le_refl _, fun j hj => by omega⟩, by decide⟩
  · have hlm : len ≤ m := by rw [hm]; split <;> omega
    have key : ∀ i, i < len → ∃ f : Nat → BitVec 8, ∀ j, j < 16 → W.cell? ((a.add (i * 16)).add j) = some (U8 (f j)) := fun i hi => by
      obtain ⟨cs', h1, h2⟩ := hel i (by omega)
      rw [cells23] at h1
      obtain ⟨_, hl, hc⟩ := World.cells?_some h1
      obtain ⟨f, hcf⟩ := bytes_of_row (n := 16) Tryd.underlying23 hl h2
      refine ⟨f, fun j hj => ?_⟩
      rw [hc j (by omega), hcf, Array.getElem?_toList, A8.get _ hj]
    obtain ⟨D, hD⟩ := Go.Deep.choose_lt (α := Nat → BitVec 8) (p := fun i f => ∀ j, j < 16 → W.cell? ((a.add (i * 16)).add j) = some (U8 (f j))) (n := len) key
    refine ⟨some a, len, cap, D, hcs, ⟨some a, cap, rfl, hle, fun i hi => ?_⟩, Nat.le_trans hle hmax⟩
    have hp := hD i hi
    obtain ⟨b, o, spot⟩ := a
    have hspot : spot = none := by simpa [Addr.add] using World.cell?_spot (hD 0 (by omega) 0 (by omega))
    subst hspot
    refine ⟨b, o, rfl, fun j v hv => ?_⟩
    have hj : j < 16 := by
      have := (List.getElem?_eq_some_iff.1 hv).1
      rw [Array.length_toList, A8.size] at this
      exact this
    rw [Array.getElem?_toList, A8.get _ hj] at hv
    have hv' : U8 (D i j) = v := by simpa using hv
    have := hp j hj
    rw [Go.WideShapes.add_plain, Go.WideShapes.add_plain] at this
    rw [this, hv']
theorem fields94 : Tryd.prog.fieldsOf 94 = #[{ name := "N", type := 3, offset := 0, embedded := false, tag := "", pkgPath := "", byteOffset := 0 }, { name := "Tops", type := 80, offset := 1, embedded := false, tag := "", pkgPath := "", byteOffset := 8 }] := by kernel_rfl
set_option maxRecDepth 20000 in
/-- A frontier that came in. -/
theorem open_frontier {H : Type} {enc : TypeId × Value → H} {W : World} {base b0 : Nat} {spare : Nat → Bool} {held : Bool} {r : Reach} {v : Value} {d : DataW H} {p : List MemPlace}
    (hv : Value.okWide Tryd.prog W r b0 94 v) (hd : DataW.Trod enc Tryd.prog W base spare held 94 v d p) : ∃ (N : Int) (q : Option Addr) (n cap : Nat) (D : Nat → Nat → BitVec 8), v = .agg #[.int .i64 N, .slice q n cap] ∧ Digs W (.slice q n cap) n D ∧ n ≤ maxLen := by
  obtain ⟨cs, rfl, hsz⟩ := okWide_struct Tryd.underlying94 hv
  rw [show Tryd.prog.cellsOf 94 = 2 by kernel_rfl] at hsz
  obtain ⟨fuel, hf⟩ := hd
  have hf' : DataW.trod enc Tryd.prog W base spare held fuel 94 cs.toList = some (d, p) := hf
  obtain ⟨xs, n, _, _, hl, hlen, hel⟩ := DataW.trod_struct Tryd.underlying94 hf'
  have hlen3 : xs.length = 2 := hlen
  have f0 := hel 0 { name := "N", type := 3, offset := 0, embedded := false, tag := "", pkgPath := "", byteOffset := 0 } rfl
  have f1 := hel 1 { name := "Tops", type := 80, offset := 1, embedded := false, tag := "", pkgPath := "", byteOffset := 8 } rfl
  rw [List.getElem?_eq_getElem (by omega)] at f0 f1
  have c80 : Tryd.prog.cellsOf 80 = 1 := by kernel_rfl
  have c3 : Tryd.prog.cellsOf 3 = 1 := by kernel_rfl
  try dsimp only at f0 f1
  rw [c3, List.drop_zero] at f0
  rw [c80] at f1
  obtain ⟨k, e1, _, _⟩ := DataW.trod_int Tryd.underlying3 f0
  obtain ⟨q, m, cap, D, e2, hD, hm⟩ := digs_of_trod f1
  refine ⟨k, q, m, cap, D, ?_, hD, hm⟩
  have hlc : cs.toList.length = 2 := by rw [Array.length_toList]; exact hsz
  congr 1
  rw [← Array.toList_inj]
  match h : cs.toList, hlc with
  | [u, v], _ =>
    rw [h] at e1 e2
    simp at e1 e2
    rw [e1, e2]
end Go.Proofs.YtdpgebifeaakjaaDoor

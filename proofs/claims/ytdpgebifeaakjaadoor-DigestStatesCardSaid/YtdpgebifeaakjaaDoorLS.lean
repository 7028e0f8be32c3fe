/- A state that came in, opened; a state compared with itself. -/
import Derived.Test.YtdpgebifeaakjaaDoorLG
import Derived.Laws.StructEq
namespace Go.Proofs.YtdpgebifeaakjaaDoor
set_option linter.unusedSimpArgs false
set_option linter.unusedVariables false
open Go.ChangeShapes Go.WideShapes Go.ChangeAt Go.RowKit

theorem eqA32 (d : Nat) (f : Nat → BitVec 32) (w : World) : (Op.equalIn (d + 2) 61 (.agg (A32 8 f)) (.agg (A32 8 f))).run Tryd.prog w = .ok true w := by
  have hE1 : Tryd.prog.cellsOf 42 = 1 := cells42
  obtain ⟨i, hi, _⟩ := Option.map_eq_some_iff.1 size42
  rw [run_equalIn_array w _ _ _ Tryd.underlying61 hi]
  have := run_eqItems_Row (P := Tryd.prog) (n := 8) (d := d + 1) hE1 Tryd.isAgg42 (fun i => U32 (f i)) (fun i => U32 (f i)) (fun i => f i == f i) (fun i w _ => by
    refine (run_equalIn_int w d 42 .u32 .u32 _ _ Tryd.underlying42).trans ?_
    rw [eq_n32]) w (List.range 8) (by simp)
  unfold A32
  rw [this]
  simp
theorem part63a (h : Nat → BitVec 32) (rest : ByteArray) (len : Int) (w : World) : (part 61 (stG h rest len) 0).run Tryd.prog w = .ok (.agg (A32 8 h)) w := by kernel_rfl
theorem part63b (h : Nat → BitVec 32) (rest : ByteArray) (len : Int) (w : World) : (part 9 (stG h rest len) 8).run Tryd.prog w = .ok (.string rest) w := by kernel_rfl
theorem part63c (h : Nat → BitVec 32) (rest : ByteArray) (len : Int) (w : World) : (part 3 (stG h rest len) 9).run Tryd.prog w = .ok (.int .i64 len) w := by kernel_rfl
theorem fields63 : Tryd.prog.fieldsOf 63 = #[{ name := "H", type := 61, offset := 0, embedded := false, tag := "", pkgPath := "", byteOffset := 0 }, { name := "Rest", type := 9, offset := 8, embedded := false, tag := "", pkgPath := "", byteOffset := 32 }, { name := "Len", type := 3, offset := 9, embedded := false, tag := "", pkgPath := "", byteOffset := 48 }] := by kernel_rfl
theorem eql63 (h : Nat → BitVec 32) (rest : ByteArray) (len : Int) (w : World) : (binOp .eql 63 (.agg (stG h rest len)) (.agg (stG h rest len))).run Tryd.prog w = .ok (.bool true) w := by
  have e1 : (Op.equalIn 9999 9 (.string rest) (.string rest)).run Tryd.prog w = .ok true w := by
    rw [run_equalIn_string w 9998 9 rest rest Tryd.underlying9]
    simp
  have e2 : (Op.equalIn 9999 3 (.int .i64 len) (.int .i64 len)).run Tryd.prog w = .ok true w := by
    rw [run_equalIn_int w 9998 3 .i64 .i64 _ _ Tryd.underlying3]
    simp
  have e0 := eqA32 9997 h w
  rw [run_eql_struct, run_equalIn_struct w 9999 63 _ _ (by rw [fields63]; exact Tryd.underlying63) (by kernel_rfl), fields63]
  simp [Op.eqFields, part63a, part63b, part63c, e0, e1, e2]
set_option maxRecDepth 20000 in
/-- A state that came in. -/
theorem open_state {H : Type} {enc : TypeId × Value → H} {W : World} {base b0 : Nat} {spare : Nat → Bool} {held : Bool} {r : Reach} {v : Value} {d : DataW H} {p : List MemPlace}
    (hv : Value.okWide Tryd.prog W r b0 63 v) (hd : DataW.Trod enc Tryd.prog W base spare held 63 v d p) : ∃ (h : Nat → BitVec 32) (rest : ByteArray) (len : Int), v = .agg (stG h rest len) := by
  obtain ⟨cs, rfl, hsz⟩ := okWide_struct Tryd.underlying63 hv
  rw [show Tryd.prog.cellsOf 63 = 10 by kernel_rfl] at hsz
  obtain ⟨fuel, hf⟩ := hd
  have hf' : DataW.trod enc Tryd.prog W base spare held fuel 63 cs.toList = some (d, p) := hf
  obtain ⟨xs, n, _, _, hl, hlen, hel⟩ := DataW.trod_struct Tryd.underlying63 hf'
  have hlen3 : xs.length = 3 := hlen
  have f0 := hel 0 { name := "H", type := 61, offset := 0, embedded := false, tag := "", pkgPath := "", byteOffset := 0 } rfl
  have f1 := hel 1 { name := "Rest", type := 9, offset := 8, embedded := false, tag := "", pkgPath := "", byteOffset := 32 } rfl
  have f2 := hel 2 { name := "Len", type := 3, offset := 9, embedded := false, tag := "", pkgPath := "", byteOffset := 48 } rfl
  rw [List.getElem?_eq_getElem (by omega)] at f0 f1 f2
  have c61 : Tryd.prog.cellsOf 61 = 8 := by kernel_rfl
  have c9 : Tryd.prog.cellsOf 9 = 1 := by kernel_rfl
  have c3 : Tryd.prog.cellsOf 3 = 1 := by kernel_rfl
  try dsimp only at f0 f1 f2
  rw [c61, List.drop_zero] at f0
  rw [c9] at f1
  rw [c3] at f2
  obtain ⟨s, e1, _⟩ := DataW.trod_string Tryd.underlying9 f1
  obtain ⟨k, e2, _, _⟩ := DataW.trod_int Tryd.underlying3 f2
  have hlc : cs.toList.length = 10 := by rw [Array.length_toList]; exact hsz
  obtain ⟨ys, m, _, _, _, hyn, hyel⟩ := DataW.trod_array Tryd.underlying61 f0
  have key : ∀ i, i < 8 → ∃ b : BitVec 32, cs[i]? = some (U32 b) := fun i hi => by
    have hi' := hyel i hi
    rw [cells42, Nat.mul_one, List.getElem?_eq_getElem (by omega)] at hi'
    obtain ⟨q, q1, _, q3⟩ := DataW.trod_int Tryd.underlying42 hi'
    obtain ⟨k0, k1⟩ := bounds_u32 q3
    have hc : cs[i]? = some (.int .u32 q) := by
      have := congrArg (fun l => l[0]?) q1
      rw [← Array.getElem?_toList]
      simpa [List.getElem?_take, hi] using this
    exact ⟨BitVec.ofInt 32 q, by rw [hc, U32_lit q k0 (by omega)]⟩
  have h8 : cs[8]? = some (.string s) := by
    have := congrArg (fun l => l[0]?) e1
    rw [← Array.getElem?_toList]
    simpa using this
  have h9 : cs[9]? = some (.int .i64 k) := by
    have := congrArg (fun l => l[0]?) e2
    rw [← Array.getElem?_toList]
    simpa using this
  refine ⟨fun i => match cs[i]? with | some (.int _ k) => BitVec.ofInt 32 k | _ => 0#32, s, k, ?_⟩
  congr 1
  apply Array.ext_getElem?
  intro i
  by_cases hi : i < 8
  · obtain ⟨b, hb⟩ := key i hi
    rw [stG, Row.get _ (by omega), if_pos hi, hb]
    simp only [ofInt_n32]
  · by_cases h8' : i = 8
    · subst h8'; rw [h8, stG.rest]
    · by_cases h9' : i = 9
      · subst h9'; rw [h9, stG.len]
      · rw [Array.getElem?_eq_none (by omega), Array.getElem?_eq_none (by rw [stG.size]; omega)]
end Go.Proofs.YtdpgebifeaakjaaDoor

/- What came in through the door. -/
import Derived.Test.YtdpgebifeaakjaaDoorRows
import Derived.Test.YtdpgebifeaakjaaDoorMF
import Derived.ProofKit
import Derived.LaidMore
import Derived.OpenShut
import Derived.Stop.Joined
import Derived.Carry
import Derived.SevenTiedAt
import Derived.Test.YtdpgebifeaakjaaDoorMH
import Derived.Laws.StructEq

/- What the row's condition on the library's table gives the walks; a start that meets it. -/
namespace Go.Proofs.YtdpgebifeaakjaaDoor
set_option linter.unusedSimpArgs false
set_option linter.unusedVariables false
open Go.ChangeShapes Go.WideShapes Go.ChangeAt Go.RowKit

theorem own : ownKnob Tryd.prog.godebug = none := by kernel_rfl
theorem g32 : Tryd.prog.globalNamed "math/bits.deBruijn32tab" = some 2 := by kernel_rfl
theorem g64 : Tryd.prog.globalNamed "math/bits.deBruijn64tab" = some 3 := by kernel_rfl
theorem gt64 : (Tryd.prog.globals[3]?).map (·.type) = some 185 := by kernel_rfl
theorem gt32 : (Tryd.prog.globals[2]?).map (·.type) = some 69 := by kernel_rfl
def laid2 : List (String × DataW Unit) := [("math/bits.deBruijn32tab", Rows.laid_math_bits_deBruijn32tab), ("math/bits.deBruijn64tab", Rows.laid_math_bits_deBruijn64tab)]

/-- An array of bytes that reads as listed holds them. -/
theorem bytes_of_trod {H : Type} {enc : TypeId × Value → H} {W : World} {base : Nat} {spare : Nat → Bool} {held : Bool} {fuel T n : Nat} {cs : List Value} {L : List Nat} {p : List MemPlace}
    (ht : Tryd.prog.underlying T = some (.array n 5)) (hL : L.length = n) (h : DataW.trod enc Tryd.prog W base spare held fuel T cs = some (.agg (L.map fun k : Nat => .lit (.int .u8 (k : Int))), p)) :
    ∀ i, i < n → cs[i]? = some (.int .u8 ((L.getD i 0 : Nat) : Int)) := by
  intro i hi
  obtain ⟨xs, m, _, hx, _, hn, hel⟩ := DataW.trod_array ht h
  simp only [Prod.mk.injEq, DataW.agg.injEq] at hx
  have c5 : Tryd.prog.cellsOf 5 = 1 := by kernel_rfl
  have hi' := hel i hi
  rw [c5, Nat.mul_one] at hi'
  have hix : i < xs.length := by omega
  rw [List.getElem?_eq_getElem hix] at hi'
  obtain ⟨k, e1, e2, _⟩ := DataW.trod_int Tryd.underlying5 hi'
  have hk : (xs.map (·.1))[i]? = some (.lit (.int .u8 k)) := by
    rw [List.getElem?_map, List.getElem?_eq_getElem hix, e2]; rfl
  rw [← hx.1, List.getElem?_map, List.getElem?_eq_getElem (by omega : i < L.length)] at hk
  have hk' : ((L[i]'(by omega) : Nat) : Int) = k := by simpa using hk
  have hc : cs[i]? = some (.int .u8 k) := by
    have := congrArg (fun l => l[0]?) e1
    simpa using this
  rw [hc, ← hk']
  simp [List.getD_eq_getElem?_getD, List.getElem?_eq_getElem (by omega : i < L.length)]

theorem tab_of_laid {W : World} (h : laidMetH Tryd.prog laid2 W) : TabAt 3 Lib.deBruijn64tab W := by
  rw [MakeChecks.laidMetH_plain _ _ _ (by kernel_rfl)] at h
  obtain ⟨ps, ⟨g0, t0, cs0, f0, p0, q0, hg0, ht0, hv0, hd0, ⟨g1, t1, cs1, f1, p1, q1, hg1, ht1, hv1, hd1, _, _⟩, _⟩, _, _⟩ := h
  obtain rfl := Option.some.inj (g64.symm.trans hg1)
  obtain rfl := Option.some.inj (gt64.symm.trans ht1)
  intro j hj
  have hj64 : j < 64 := hj
  have hb := bytes_of_trod (L := Lib.deBruijn64tab) Tryd.underlying185 rfl hd1 j hj64
  have := World.var?_cell hg1 hv1 j
  rw [this, ← Array.getElem?_toList]
  exact hb

theorem door_met (os : Os) (args : Array Value) : laidMetH Tryd.prog laid2 ((World.doorLaid Tryd.prog 400 os).forCall (fun _ _ => 0) ⟨#[], args, []⟩).memory :=
  laidMetH_of_parts3 (fuel := 8) (laidMet_of_run' 8 (by kernel_rfl) (by kernel_rfl)) (by kernel_rfl) (by kernel_rfl)
end Go.Proofs.YtdpgebifeaakjaaDoor

/- The frame of a law's row: the arguments read as they read before where nothing old has turned; no parameter wants a stand-in. -/
namespace Go.Proofs.YtdpgebifeaakjaaDoor
set_option linter.unusedSimpArgs false
set_option linter.unusedVariables false
open Go.ChangeShapes Go.WideShapes Go.ChangeAt Go.RowKit

theorem laidOut_ok : laidOutB Tryd.prog = true := by kernel_rfl
theorem trodAll_stays_of {P : Program} (hl : laidOutB P = true) {H : Type} {enc : TypeId × Value → H} {W W' : World} (hb : Below W.heap.size W W') :
    ∀ (ts : List TypeId) (vs : List Value) (ds : List (DataW H)) (p : List MemPlace), (ts.all fun t => P.readableRec t && decide (t < P.types.size)) = true →
      DataW.TrodAll enc P W 0 (fun _ => true) true ts vs ds p → (∀ x ∈ p, x.block < W.heap.size) → DataW.TrodAll enc P W' 0 (fun b => decide (b < W.heap.size)) true ts vs ds p := by
  intro ts
  induction ts with
  | nil =>
    intro vs ds p _ h _
    obtain ⟨rfl, rfl, rfl⟩ := trodAll_nil h
    exact trodAll_mk0
  | cons t ts ih =>
    intro vs ds p hr h hlt
    obtain ⟨v, vs', d, ds', p1, p2, rfl, rfl, rfl, h1, h2⟩ := trodAll_cons h
    rw [List.all_cons, Bool.and_eq_true, Bool.and_eq_true, decide_eq_true_eq] at hr
    exact trodAll_cons_mk (Below.trod hl hr.1.1 hr.1.2 h1 hb fun x hx => hlt x (List.mem_append_left _ hx))
      (ih vs' ds' p2 hr.2 h2 fun x hx => hlt x (List.mem_append_right _ hx))
/-- All arguments read behind the call as they read before. -/
theorem trodAll_stays {H : Type} {enc : TypeId × Value → H} {W W' : World} (hb : Below W.heap.size W W') (ts : List TypeId) (vs : List Value) (ds : List (DataW H)) (p : List MemPlace)
    (hr : (ts.all fun t => Tryd.prog.readableRec t && decide (t < Tryd.prog.types.size)) = true) (h : DataW.TrodAll enc Tryd.prog W 0 (fun _ => true) true ts vs ds p) (hlt : ∀ x ∈ p, x.block < W.heap.size) :
    DataW.TrodAll enc Tryd.prog W' 0 (fun b => decide (b < W.heap.size)) true ts vs ds p := trodAll_stays_of laidOut_ok hb ts vs ds p hr h hlt
theorem no_stand_ins (ts : Array TypeId) (h : (ts.toList.all fun t => !Tryd.prog.wantsStandIn t) = true) : ∀ (j : Nat) t, ts[j]? = some t → Tryd.prog.wantsStandIn t = false := by
  intro j t ht
  rw [List.all_eq_true] at h
  have := h t (by rw [Array.mem_toList_iff]; exact Array.mem_of_getElem? ht)
  simpa using this
end Go.Proofs.YtdpgebifeaakjaaDoor

/- A digest that came in, opened. -/
namespace Go.Proofs.YtdpgebifeaakjaaDoor
set_option linter.unusedSimpArgs false
set_option linter.unusedVariables false
open Go.ChangeShapes Go.WideShapes Go.ChangeAt Go.RowKit

theorem cells5 : Tryd.prog.cellsOf 5 = 1 := by kernel_rfl
/-- Cells that read as n bytes are n bytes. -/
theorem bytes_of_row {H : Type} {enc : TypeId × Value → H} {W : World} {base : Nat} {spare : Nat → Bool} {held : Bool} {fuel T n : Nat} {cs : List Value} {x : DataW H × List MemPlace}
    (ht : Tryd.prog.underlying T = some (.array n 5)) (hn : cs.length = n) (h : DataW.trod enc Tryd.prog W base spare held fuel T cs = some x) : ∃ f : Nat → BitVec 8, cs = (A8 n f).toList := by
  obtain ⟨xs, m, _, _, _, hxn, hel⟩ := DataW.trod_array ht h
  have key : ∀ i, i < n → ∃ b : BitVec 8, cs[i]? = some (U8 b) := fun i hi => by
    have hi' := hel i hi
    rw [cells5, Nat.mul_one, List.getElem?_eq_getElem (by omega)] at hi'
    obtain ⟨k, e1, _, e3⟩ := DataW.trod_int Tryd.underlying5 hi'
    obtain ⟨k0, k1⟩ := bounds_u8 e3
    have hc : cs[i]? = some (.int .u8 k) := by
      have := congrArg (fun l => l[0]?) e1
      simpa using this
    exact ⟨BitVec.ofInt 8 k, by rw [hc, U8_lit k k0 (by omega)]⟩
  refine ⟨fun i => match cs[i]? with | some (.int _ k) => BitVec.ofInt 8 k | _ => 0#8, ?_⟩
  apply List.ext_getElem?
  intro i
  by_cases hi : i < n
  · obtain ⟨b, hb⟩ := key i hi
    have hr : (A8 n fun i => match cs[i]? with | some (.int _ k) => BitVec.ofInt 8 k | _ => 0#8).toList[i]? = some (U8 (match cs[i]? with | some (.int _ k) => BitVec.ofInt 8 k | _ => 0#8)) := by
      rw [Array.getElem?_toList, A8.get _ hi]
    rw [hr, hb]
    simp only [ofInt_n8]
  · rw [List.getElem?_eq_none (by omega), List.getElem?_eq_none (by rw [Array.length_toList, A8.size]; omega)]
theorem cells23 : Tryd.prog.cellsOf 23 = 16 := by kernel_rfl
theorem okWide_arr {P : Program} {w : World} {r : Reach} {b0 t n e : Nat} {v : Value} (hu : P.underlying t = some (.array n e)) (hv : Value.okWide P w r b0 t v) : ∃ cs, v = .agg cs ∧ cs.size = P.cellsOf t := by
  unfold Value.okWide at hv
  rw [hu] at hv
  obtain ⟨cs, h1, h2, _⟩ := hv
  exact ⟨cs, h1, h2⟩
set_option maxRecDepth 20000 in
theorem open_dig {H : Type} {enc : TypeId × Value → H} {W : World} {base b0 : Nat} {spare : Nat → Bool} {held : Bool} {r : Reach} {v : Value} {d : DataW H} {p : List MemPlace}
    (hv : Value.okWide Tryd.prog W r b0 23 v) (h : DataW.Trod enc Tryd.prog W base spare held 23 v d p) : ∃ f : Nat → BitVec 8, v = .agg (A8 16 f) := by
  obtain ⟨cs, rfl, hsz⟩ := okWide_arr Tryd.underlying23 hv
  rw [cells23] at hsz
  obtain ⟨fuel, hf⟩ := h
  obtain ⟨f, hc⟩ := bytes_of_row (n := 16) Tryd.underlying23 hsz hf
  refine ⟨f, ?_⟩
  have : cs = A8 16 f := by
    rw [← Array.toList_inj]
    exact hc
  rw [this]
end Go.Proofs.YtdpgebifeaakjaaDoor

/- What the row's condition on the round constants gives the walks; a state that came in, opened. -/
namespace Go.Proofs.YtdpgebifeaakjaaDoor
set_option linter.unusedSimpArgs false
set_option linter.unusedVariables false
open Go.ChangeShapes Go.WideShapes Go.ChangeAt Go.RowKit

def laid3 : List (String × DataW Unit) := [("math/bits.deBruijn32tab", Rows.laid_math_bits_deBruijn32tab), ("math/bits.deBruijn64tab", Rows.laid_math_bits_deBruijn64tab), ("understory/understoryref02.constants", Rows.laid_understory_understoryref02_constants)]
theorem gK : Tryd.prog.globalNamed "understory/understoryref02.constants" = some 0 := by kernel_rfl
theorem gtK : (Tryd.prog.globals[0]?).map (·.type) = some 123 := by kernel_rfl
theorem cells42 : Tryd.prog.cellsOf 42 = 1 := by kernel_rfl
theorem laidK_eq {H : Type} : (Rows.laid_understory_understoryref02_constants : DataW H) = .agg (roundList.map fun k : Nat => .lit (.int .u32 (k : Int))) := by kernel_rfl
/-- An array of words that reads as listed holds them. -/
theorem words_of_trod {H : Type} {enc : TypeId × Value → H} {W : World} {base : Nat} {spare : Nat → Bool} {held : Bool} {fuel T n : Nat} {cs : List Value} {L : List Nat} {p : List MemPlace}
    (ht : Tryd.prog.underlying T = some (.array n 42)) (hL : L.length = n) (h : DataW.trod enc Tryd.prog W base spare held fuel T cs = some (.agg (L.map fun k : Nat => .lit (.int .u32 (k : Int))), p)) :
    ∀ i, i < n → cs[i]? = some (.int .u32 ((L.getD i 0 : Nat) : Int)) := by
  intro i hi
  obtain ⟨xs, m, _, hx, _, hn, hel⟩ := DataW.trod_array ht h
  simp only [Prod.mk.injEq, DataW.agg.injEq] at hx
  have hi' := hel i hi
  rw [cells42, Nat.mul_one] at hi'
  have hix : i < xs.length := by omega
  rw [List.getElem?_eq_getElem hix] at hi'
  obtain ⟨k, e1, e2, _⟩ := DataW.trod_int Tryd.underlying42 hi'
  have hk : (xs.map (·.1))[i]? = some (.lit (.int .u32 k)) := by
    rw [List.getElem?_map, List.getElem?_eq_getElem hix, e2]; rfl
  rw [← hx.1, List.getElem?_map, List.getElem?_eq_getElem (by omega : i < L.length)] at hk
  have hk' : ((L[i]'(by omega) : Nat) : Int) = k := by simpa using hk
  have hc : cs[i]? = some (.int .u32 k) := by
    have := congrArg (fun l => l[0]?) e1
    simpa using this
  rw [hc, ← hk']
  simp [List.getD_eq_getElem?_getD, List.getElem?_eq_getElem (by omega : i < L.length)]
theorem roundList_small : roundList.all (fun k => decide (k < 4294967296)) = true := by decide +kernel
theorem roundK_lit (j : Nat) : Value.int .u32 ((roundList.getD j 0 : Nat) : Int) = U32 (roundK j) := by
  have h : roundList.getD j 0 < 4294967296 := by
    by_cases hj : j < roundList.length
    · rw [List.getD, List.getElem?_eq_getElem hj]
      exact of_decide_eq_true (List.all_eq_true.1 roundList_small _ (List.getElem_mem hj))
    · rw [List.getD, List.getElem?_eq_none (by omega)]; decide
  rw [U32_lit _ (by omega) (by omega), roundK, BitVec.ofInt_natCast]
theorem laid3_parts {W : World} (h : laidMetH Tryd.prog laid3 W) : TabAt 3 Lib.deBruijn64tab W ∧ KAt W := by
  rw [MakeChecks.laidMetH_plain _ _ _ (by kernel_rfl)] at h
  obtain ⟨ps, ⟨g0, t0, cs0, f0, p0, q0, hg0, ht0, hv0, hd0, ⟨g1, t1, cs1, f1, p1, q1, hg1, ht1, hv1, hd1, ⟨g2, t2, cs2, f2, p2, q2, hg2, ht2, hv2, hd2, _, _⟩, _⟩, _⟩, _, _⟩ := h
  obtain rfl := Option.some.inj (g64.symm.trans hg1)
  obtain rfl := Option.some.inj (gt64.symm.trans ht1)
  obtain rfl := Option.some.inj (gK.symm.trans hg2)
  obtain rfl := Option.some.inj (gtK.symm.trans ht2)
  refine ⟨fun j hj => ?_, fun j hj => ?_⟩
  · have hj64 : j < 64 := hj
    have hb := bytes_of_trod (L := Lib.deBruijn64tab) Tryd.underlying185 rfl hd1 j hj64
    have := World.var?_cell hg1 hv1 j
    rw [this, ← Array.getElem?_toList]
    exact hb
  · rw [laidK_eq] at hd2
    have hb := words_of_trod (L := roundList) Tryd.underlying123 (by decide +kernel) hd2 j hj
    have := World.var?_cell hg2 hv2 j
    rw [this, ← Array.getElem?_toList, hb, roundK_lit]
theorem tab_of_laid3 {W : World} (h : laidMetH Tryd.prog laid3 W) : TabAt 3 Lib.deBruijn64tab W := (laid3_parts h).1
theorem k_of_laid3 {W : World} (h : laidMetH Tryd.prog laid3 W) : KAt W := (laid3_parts h).2
theorem door_met3 (os : Os) (args : Array Value) : laidMetH Tryd.prog laid3 ((World.doorLaid Tryd.prog 400 os).forCall (fun _ _ => 0) ⟨#[], args, []⟩).memory :=
  laidMetH_of_parts3 (fuel := 8) (laidMet_of_run' 8 (by kernel_rfl) (by kernel_rfl)) (by kernel_rfl) (by kernel_rfl)
end Go.Proofs.YtdpgebifeaakjaaDoor

/- A state that came in, opened; a state compared with itself. -/
namespace Go.Proofs.YtdpgebifeaakjaaDoor
set_option linter.unusedSimpArgs false
set_option linter.unusedVariables false
open Go.ChangeShapes Go.WideShapes Go.ChangeAt Go.RowKit

theorem eqA32 (d : Nat) (f : Nat → BitVec 32) (w : World) : (Op.equalIn (d + 2) 61 (.agg (A32 8 f)) (.agg (A32 8 f))).run Tryd.prog w = .ok true w := by
  have hE1 : Tryd.prog.cellsOf 42 = 1 := cells42
  obtain ⟨i, hi, _⟩ := Option.map_eq_some_iff.1 size42
  rw [run_equalIn_array w _ _ _ Tryd.underlying61 hi]
  have := run_eqItems_Row (P := Tryd.prog) (n := 8) (d := d + 1) hE1 Tryd.isAgg42 (fun i => U32 (f i)) (fun i => U32 (f i)) (fun i => f i == f i) (fun i w _ => by
    refine (run_equalIn_int w d 42 .u32 .u32 _ _ Tryd.underlying42).trans ?_
    rw [eq_n32]) w (List.range 8) (by simp)
  unfold A32
  rw [this]
  simp
theorem part63a (h : Nat → BitVec 32) (rest : ByteArray) (len : Int) (w : World) : (part 61 (stG h rest len) 0).run Tryd.prog w = .ok (.agg (A32 8 h)) w := by kernel_rfl
theorem part63b (h : Nat → BitVec 32) (rest : ByteArray) (len : Int) (w : World) : (part 9 (stG h rest len) 8).run Tryd.prog w = .ok (.string rest) w := by kernel_rfl
theorem part63c (h : Nat → BitVec 32) (rest : ByteArray) (len : Int) (w : World) : (part 3 (stG h rest len) 9).run Tryd.prog w = .ok (.int .i64 len) w := by kernel_rfl
theorem fields63 : Tryd.prog.fieldsOf 63 = #[{ name := "H", type := 61, offset := 0, embedded := false, tag := "", pkgPath := "", byteOffset := 0 }, { name := "Rest", type := 9, offset := 8, embedded := false, tag := "", pkgPath := "", byteOffset := 32 }, { name := "Len", type := 3, offset := 9, embedded := false, tag := "", pkgPath := "", byteOffset := 48 }] := by kernel_rfl
theorem eql63 (h : Nat → BitVec 32) (rest : ByteArray) (len : Int) (w : World) : (binOp .eql 63 (.agg (stG h rest len)) (.agg (stG h rest len))).run Tryd.prog w = .ok (.bool true) w := by
  have e1 : (Op.equalIn 9999 9 (.string rest) (.string rest)).run Tryd.prog w = .ok true w := by
    rw [run_equalIn_string w 9998 9 rest rest Tryd.underlying9]
    simp
  have e2 : (Op.equalIn 9999 3 (.int .i64 len) (.int .i64 len)).run Tryd.prog w = .ok true w := by
    rw [run_equalIn_int w 9998 3 .i64 .i64 _ _ Tryd.underlying3]
    simp
  have e0 := eqA32 9997 h w
  rw [run_eql_struct, run_equalIn_struct w 9999 63 _ _ (by rw [fields63]; exact Tryd.underlying63) (by kernel_rfl), fields63]
  simp [Op.eqFields, part63a, part63b, part63c, e0, e1, e2]
set_option maxRecDepth 20000 in
/-- A state that came in. -/
theorem open_state {H : Type} {enc : TypeId × Value → H} {W : World} {base b0 : Nat} {spare : Nat → Bool} {held : Bool} {r : Reach} {v : Value} {d : DataW H} {p : List MemPlace}
    (hv : Value.okWide Tryd.prog W r b0 63 v) (hd : DataW.Trod enc Tryd.prog W base spare held 63 v d p) : ∃ (h : Nat → BitVec 32) (rest : ByteArray) (len : Int), v = .agg (stG h rest len) := by
  obtain ⟨cs, rfl, hsz⟩ := okWide_struct Tryd.underlying63 hv
  rw [show Tryd.prog.cellsOf 63 = 10 by kernel_rfl] at hsz
  obtain ⟨fuel, hf⟩ := hd
  have hf' : DataW.trod enc Tryd.prog W base spare held fuel 63 cs.toList = some (d, p) := hf
  obtain ⟨xs, n, _, _, hl, hlen, hel⟩ := DataW.trod_struct Tryd.underlying63 hf'
  have hlen3 : xs.length = 3 := hlen
  have f0 := hel 0 { name := "H", type := 61, offset := 0, embedded := false, tag := "", pkgPath := "", byteOffset := 0 } rfl
  have f1 := hel 1 { name := "Rest", type := 9, offset := 8, embedded := false, tag := "", pkgPath := "", byteOffset := 32 } rfl
  have f2 := hel 2 { name := "Len", type := 3, offset := 9, embedded := false, tag := "", pkgPath := "", byteOffset := 48 } rfl
  rw [List.getElem?_eq_getElem (by omega)] at f0 f1 f2
  have c61 : Tryd.prog.cellsOf 61 = 8 := by kernel_rfl
  have c9 : Tryd.prog.cellsOf 9 = 1 := by kernel_rfl
  have c3 : Tryd.prog.cellsOf 3 = 1 := by kernel_rfl
  try dsimp only at f0 f1 f2
  rw [c61, List.drop_zero] at f0
  rw [c9] at f1
  rw [c3] at f2
  obtain ⟨s, e1, _⟩ := DataW.trod_string Tryd.underlying9 f1
  obtain ⟨k, e2, _, _⟩ := DataW.trod_int Tryd.underlying3 f2
  have hlc : cs.toList.length = 10 := by rw [Array.length_toList]; exact hsz
  obtain ⟨ys, m, _, _, _, hyn, hyel⟩ := DataW.trod_array Tryd.underlying61 f0
  have key : ∀ i, i < 8 → ∃ b : BitVec 32, cs[i]? = some (U32 b) := fun i hi => by
    have hi' := hyel i hi
    rw [cells42, Nat.mul_one, List.getElem?_eq_getElem (by omega)] at hi'
    obtain ⟨q, q1, _, q3⟩ := DataW.trod_int Tryd.underlying42 hi'
    obtain ⟨k0, k1⟩ := bounds_u32 q3
    have hc : cs[i]? = some (.int .u32 q) := by
      have := congrArg (fun l => l[0]?) q1
      rw [← Array.getElem?_toList]
      simpa [List.getElem?_take, hi] using this
    exact ⟨BitVec.ofInt 32 q, by rw [hc, U32_lit q k0 (by omega)]⟩
  have h8 : cs[8]? = some (.string s) := by
    have := congrArg (fun l => l[0]?) e1
    rw [← Array.getElem?_toList]
    simpa using this
  have h9 : cs[9]? = some (.int .i64 k) := by
    have := congrArg (fun l => l[0]?) e2
    rw [← Array.getElem?_toList]
    simpa using this
  refine ⟨fun i => match cs[i]? with | some (.int _ k) => BitVec.ofInt 32 k | _ => 0#32, s, k, ?_⟩
  congr 1
  apply Array.ext_getElem?
  intro i
  by_cases hi : i < 8
  · obtain ⟨b, hb⟩ := key i hi
    rw [stG, Row.get _ (by omega), if_pos hi, hb]
    simp only [ofInt_n32]
  · by_cases h8' : i = 8
    · subst h8'; rw [h8, stG.rest]
    · by_cases h9' : i = 9
      · subst h9'; rw [h9, stG.len]
      · rw [Array.getElem?_eq_none (by omega), Array.getElem?_eq_none (by rw [stG.size]; omega)]
end Go.Proofs.YtdpgebifeaakjaaDoor

/- The walk of DigestStates: true. -/
namespace Go.Proofs.YtdpgebifeaakjaaDoor
set_option linter.unusedSimpArgs false
set_option linter.unusedVariables false
open Go.RowKit

/-- An array loaded, whether the load is guarded or not. -/
theorem wp_loadRun {P : Program} {ops : Array Oper} {rest : List Oper} {o : Oper} {a : Act} {w : World} {Q : Exit → Act → World → Prop} (hw : Region.wanted o (yielded ops a.tmps) = true) (ty : TypeId) (x : Operand) (ho : o.op = .load ty x)
    (b off : Nat) (hx : a.eval x = .pointer (some ⟨b, off, none⟩)) {C : Array Value} (hrun : (loadVar ty ⟨b, off, none⟩).run P w = .ok (.agg C) w)
    (h : wpList P ops Q rest (a.put o.dst (.agg C)) w) : wpList P ops Q (o :: rest) a w := by
  refine wpList_step fun K hK => ?_
  rw [if_pos hw]
  unfold Oper.wp execOp
  simp only [ho, hx, Instr.loadAt, Instr.sureAddr, Sem.run_bind, Sem.run_pure, Result.andThen_ok, hrun]
  exact hK _ _ h
theorem run63 {W : World} {b : Nat} {h : Nat → BitVec 32} {r : ByteArray} {l : Int} {E : TypeId} (k : Blk W b (stG h r l) E) : (loadVar 63 ⟨b, 0, none⟩).run Tryd.prog W = .ok (.agg (stG h r l)) W :=
  run_loadVar_Blk k Tryd.underlying63 rfl size63 (stG.size _ _ _)
theorem run67 {W : World} {b : Nat} {h : Nat → BitVec 32} {r : ByteArray} {l e : Int} {E : TypeId} (k : Blk W b (stE h r l e) E) : (loadVar 63 ⟨b, 0, none⟩).run Tryd.prog W = .ok (.agg (stG h r l)) W := by
  have hr : W.rangeAt b 0 (stG h r l).toList := by
    unfold stE at k
    unfold stG
    refine k.rangeAt 0 10 _ (by omega) (fun j hj => ?_)
    rw [Nat.zero_add]
    by_cases h1 : j < 8
    · rw [if_pos h1, if_pos h1]
    · by_cases h2 : j = 8
      · rw [if_neg h1, if_neg h1, if_pos h2, if_pos h2]
      · rw [if_neg h1, if_neg h1, if_neg h2, if_neg h2, if_pos (by omega)]
  have := run_loadVar_mid W b 0 63 (stG h r l).toList _ hr Tryd.underlying63 rfl (by rw [Array.length_toList, stG.size]; exact size63)
  rw [Array.toArray_toList] at this
  exact this
theorem run69 {W : World} {b : Nat} {D : Nat → BitVec 8} {E : TypeId} (k : Blk W b (A8 32 D) E) : (loadVar 69 ⟨b, 0, none⟩).run Tryd.prog W = .ok (.agg (A8 32 D)) W :=
  run_loadVar_Blk k Tryd.underlying69 rfl size69 (A8.size _ _)
theorem run73 {W : World} {b : Nat} {D : Nat → BitVec 8} {e : Int} {E : TypeId} (k : Blk W b (dgE D e) E) : (loadVar 69 ⟨b, 0, none⟩).run Tryd.prog W = .ok (.agg (A8 32 D)) W := by
  have hr : W.rangeAt b 0 (A8 32 D).toList := by
    unfold dgE at k
    unfold A8
    exact k.rangeAt 0 32 _ (by omega) (fun j hj => by rw [Nat.zero_add, if_pos hj])
  have := run_loadVar_mid W b 0 69 (A8 32 D).toList _ hr Tryd.underlying69 rfl (by rw [Array.length_toList, A8.size]; exact size69)
  rw [Array.toArray_toList] at this
  exact this

set_option maxRecDepth 100000 in
set_option maxHeartbeats 2000000 in
theorem states_any (h : Nat → BitVec 32) (rest : ByteArray) (len : Int) (s : ByteArray) (hs : s.size ≤ maxLen) (w : World) (hT : TabAt 3 Lib.deBruijn64tab w) (hKK : KAt w) (h3 : 3 < w.heap.size) :
    Calls Tryd.prog 8 #[.agg (stG h rest len), .string s] w fun e w' => e = .returned (.bool true) ∧ Below w.heap.size w w' := by
  have hw0 := hKK.pos
  have hbx := box63g h rest len
  have k1 := Blk.new w (stG h rest len) 63
  have hB : Below w.heap.size w (w.alloc (.cells (stG h rest len) 63)) := (Below.refl _ _).alloc (Nat.le_refl _) _
  have h8 := k1.cell 8
  rw [stG.rest] at h8
  have hshort : (3000 : Int) < (rest.size : Int) ∨ ¬ (3000 : Int) < (rest.size : Int) ∧ (3000 : Int) < (s.size : Int) ∨ ¬ (3000 : Int) < (rest.size : Int) ∧ ¬ (3000 : Int) < (s.size : Int) := by omega
  rcases hshort with hh | ⟨hh, hh'⟩ | ⟨hh, hh'⟩
  · go_enter Tryd.func8, Tryd.ntmps8
    go_wp2_with fail
    refine (sane_any _ (tabC hT h3 hB) (Nat.lt_of_lt_of_le h3 hB.size)).mono ?_
    rintro e w' ⟨rfl, hb⟩
    go_wp2_with fail
    go_ret
    exact ⟨rfl, hB.trans (hb.mono hB.size)⟩
  · go_enter Tryd.func8, Tryd.ntmps8
    go_wp2_with fail
    refine (sane_any _ (tabC hT h3 hB) (Nat.lt_of_lt_of_le h3 hB.size)).mono ?_
    rintro e w' ⟨rfl, hb⟩
    go_wp2_with fail
    go_ret
    exact ⟨rfl, hB.trans (hb.mono hB.size)⟩
  · have hrm : rest.size ≤ maxLen := by unfold maxLen; omega
    have c1 := fun w => addp_any h rest len hrm s (by omega) w
    have c2 := fun w hk => radd_any h rest len hrm s (by omega) w hk
    have c3 := fun w => endp_any h rest len hrm w
    have c4 := fun w hk => rend_any h rest len hrm w hk
    rw [addAns_eq] at c1
    generalize addS h rest len s = A at c1 c2
    obtain ⟨ah, ar, al, ae⟩ := A
    generalize endAns h rest len = E at c3 c4
    obtain ⟨eD, ee⟩ := E
    dsimp only at c1 c2 c3 c4
    go_enter Tryd.func8, Tryd.ntmps8
    go_wp2_with (refine wp_loadRow rfl 63 _ rfl w.heap.size rfl k1 Tryd.underlying63 rfl size63 (stG.size _ _ _) ?_)
    clear h8 hh hh'
    refine (c1 _).mono ?_
    rintro e W1 ⟨rfl, hb⟩
    replace k1 := k1.below hb k1.lt
    replace hB := hB.trans (hb.mono hB.size)
    have n5 := Blk.new W1 (stG (fun _ => 0#32) ByteArray.empty 0) 63
    have l1 := k1.lt
    go_wp2_with (first | (refine wp_storeRow (C' := stG ah ar al) rfl 63 _ _ rfl _ rfl rfl n5 size63 (stG.size _ _ _) (stG.size _ _ _) (stG.one _ _ _) rfl ?_; intro W2 hu k5) | (refine wp_loadRow rfl 63 _ rfl w.heap.size rfl ((k1.alloc _).upd hu (by omega)) Tryd.underlying63 rfl size63 (stG.size _ _ _) ?_))
    replace hB := hu.below (hB.alloc hB.size (.cells (stG (fun _ => 0#32) ByteArray.empty 0) 63)) (by omega)
    replace k1 := (k1.alloc (.cells (stG (fun _ => 0#32) ByteArray.empty 0) 63)).upd hu (by omega)
    have l2 := k5.lt
    clear n5 hu hb
    refine (c2 _ (hKK.below hw0 hB)).mono ?_
    rintro e W3 ⟨rfl, hb⟩
    replace k1 := k1.below hb k1.lt
    replace k5 := k5.below hb k5.lt
    replace hB := hB.trans (hb.mono hB.size)
    have n7 := Blk.new W3 (stE (fun _ => 0#32) ByteArray.empty 0 0) 67
    have l3 := k5.lt
    go_wp2_with (first | (refine wp_storeRow (C' := stE ah ar al ae) rfl 67 _ _ rfl _ rfl rfl n7 size67 (stE.size _ _ _ _) (stE.size _ _ _ _) (stE.one _ _ _ _) rfl ?_; intro W4 hu k7) | (refine wp_loadRow rfl 63 _ rfl w.heap.size rfl ((k1.alloc _).upd hu (by omega)) Tryd.underlying63 rfl size63 (stG.size _ _ _) ?_))
    replace hB := hu.below (hB.alloc hB.size (.cells (stE (fun _ => 0#32) ByteArray.empty 0 0) 67)) (by omega)
    replace k1 := (k1.alloc (.cells (stE (fun _ => 0#32) ByteArray.empty 0 0) 67)).upd hu (by omega)
    replace k5 := (k5.alloc (.cells (stE (fun _ => 0#32) ByteArray.empty 0 0) 67)).upd hu (by omega)
    have l4 := k7.lt
    clear n7 hu hb
    refine (c3 _).mono ?_
    rintro e W5 ⟨rfl, hb⟩
    replace k1 := k1.below hb k1.lt
    replace k5 := k5.below hb k5.lt
    replace k7 := k7.below hb k7.lt
    replace hB := hB.trans (hb.mono hB.size)
    have n8 := Blk.new W5 (A8 32 fun _ => 0#8) 69
    have l5 := k7.lt
    go_wp2_with (first | (refine wp_storeRow (C' := A8 32 eD) rfl 69 _ _ rfl _ rfl rfl n8 size69 (A8.size _ _) (A8.size _ _) (A8.one _) rfl ?_; intro W6 hu k8) | (refine wp_loadRow rfl 63 _ rfl w.heap.size rfl ((k1.alloc _).upd hu (by omega)) Tryd.underlying63 rfl size63 (stG.size _ _ _) ?_))
    replace hB := hu.below (hB.alloc hB.size (.cells (A8 32 fun _ => 0#8) 69)) (by omega)
    replace k5 := (k5.alloc (.cells (A8 32 fun _ => 0#8) 69)).upd hu (by omega)
    replace k7 := (k7.alloc (.cells (A8 32 fun _ => 0#8) 69)).upd hu (by omega)
    have l6 := k8.lt
    clear n8 hu hb k1
    refine (c4 _ (hKK.below hw0 hB)).mono ?_
    rintro e W7 ⟨rfl, hb⟩
    replace k5 := k5.below hb k5.lt
    replace k7 := k7.below hb k7.lt
    replace k8 := k8.below hb k8.lt
    replace hB := hB.trans (hb.mono hB.size)
    have n10 := Blk.new W7 (dgE (fun _ => 0#8) 0) 73
    have l7 := k8.lt
    go_wp2_with (refine wp_storeRow (C' := dgE eD ee) rfl 73 _ _ rfl _ rfl rfl n10 size73 (dgE.size _ _) (dgE.size _ _) (dgE.one _ _) rfl ?_; intro W8 hu k10)
    replace hB := hu.below (hB.alloc hB.size (.cells (dgE (fun _ => 0#8) 0) 73)) (by omega)
    replace k5 := (k5.alloc (.cells (dgE (fun _ => 0#8) 0) 73)).upd hu (by omega)
    replace k7 := (k7.alloc (.cells (dgE (fun _ => 0#8) 0) 73)).upd hu (by omega)
    replace k8 := (k8.alloc (.cells (dgE (fun _ => 0#8) 0) 73)).upd hu (by omega)
    clear n10 hu hb
    refine (sane_any _ (tabC hT h3 hB) (Nat.lt_of_lt_of_le h3 hB.size)).mono ?_
    rintro e W9 ⟨rfl, hb⟩
    replace k5 := k5.below hb k5.lt
    replace k7 := k7.below hb k7.lt
    replace k8 := k8.below hb k8.lt
    replace k10 := k10.below hb k10.lt
    replace hB := hB.trans (hb.mono hB.size)
    have q7 := k7.cell 10
    have q10 := k10.cell 32
    rw [stE, Row.get _ (by omega), if_neg (by omega), if_neg (by omega), if_neg (by omega)] at q7
    rw [dgE, Row.get _ (by omega), if_neg (by omega)] at q10
    have heq1 := eql63 ah ar al
    have heq2 := eql_same (P := Tryd.prog) Tryd.underlying69 size5 Tryd.isAgg5 Tryd.underlying5 eD
    have r5 := run63 k5
    have r7 := run67 k7
    have r8 := run69 k8
    have r10 := run73 k10
    clear k5 k7 k8 k10 hb c1 c2 c3 c4
    go_wp2_with (first | (refine wp_loadRun (by rfl) 63 _ rfl _ 0 rfl r5 ?_) | (refine wp_loadRun (by rfl) 63 _ rfl _ 0 rfl r7 ?_) | (refine wp_loadRun (by rfl) 69 _ rfl _ 0 rfl r8 ?_) | (refine wp_loadRun (by rfl) 69 _ rfl _ 0 rfl r10 ?_))
    go_ret
    exact ⟨rfl, hB⟩
end Go.Proofs.YtdpgebifeaakjaaDoor

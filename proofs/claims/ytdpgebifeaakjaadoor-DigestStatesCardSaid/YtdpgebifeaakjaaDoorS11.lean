/- The walk of Sum256 and of Sum: one string hashed. -/
import Derived.Test.YtdpgebifeaakjaaDoorS10
import Derived.Laws.CopyOwn
namespace Go.Proofs.YtdpgebifeaakjaaDoor
set_option linter.unusedSimpArgs false
set_option linter.unusedVariables false
open Go.RowKit

/-- The state at the start, without the round numbers. -/
def stateC (h : Nat → BitVec 32) : Array Value := Row 10 fun i => if i < 8 then U32 (h i) else if i = 8 then .string ByteArray.empty else .int .i64 0
theorem build63 (h : Nat → BitVec 32) (w : World) : (Instr.build 63 #[(0, .agg (A32 8 h))]).run Tryd.prog w = .ok (.agg (stateC h)) w := by kernel_rfl
theorem build128 (h k : Nat → BitVec 32) (w : World) : (Instr.build 128 #[(0, .agg (stateC h)), (1, .agg (A32 64 k))]).run Tryd.prog w = .ok (.agg (hasherC h ByteArray.empty 0 k)) w := by kernel_rfl
theorem box128 (h k : Nat → BitVec 32) (w : World) : (Instr.box 128 (.agg (hasherC h ByteArray.empty 0 k))).run Tryd.prog w = .ok (.pointer (some ⟨w.heap.size, 0, none⟩)) (w.alloc (.cells (hasherC h ByteArray.empty 0 k) 128)) := by kernel_rfl

/-- The digest of a byte sequence, as the program reckons it. -/
def sha (l : List (BitVec 8)) (j : Nat) : BitVec 8 :=
  digestOf (addH roundK (addH roundK startK l) (addRest l ++ padList (addRest l).length (BitVec.ofInt 64 l.length * 8#64))) j

theorem addRest_lt (l : List (BitVec 8)) : (addRest l).length < 64 := by
  unfold addRest; rw [List.length_drop]; omega

set_option maxRecDepth 20000 in
set_option maxHeartbeats 2000000 in
theorem sum256_any (s : ByteArray) (hs : s.size ≤ 4611686018427387903) (w : World) :
    Calls Tryd.prog 43 #[.string s] w fun e w' => e = .returned (.agg (A8 32 (sha (bts s)))) ∧ Below w.heap.size w w' := by
  have c70 := constants_any
  have hb63 := build63 startK
  have hb128 := build128 startK roundK
  have hx128 := box128 startK roundK
  go_enter Tryd.func43, Tryd.ntmps43
  have ho := Blk.new w (A8 32 fun _ => 0#8) 69
  go_wp2_with fail
  refine (c70 _).mono ?_
  rintro e W ⟨rfl, hB⟩
  have hszW : w.heap.size + 1 ≤ W.heap.size := by have := hB.size; simpa using this
  have hBb : Below w.heap.size w W := ((Below.refl _ _).alloc (Nat.le_refl _) _).trans (hB.mono (by simp))
  have ho1 := ho.below hB (by simp)
  have ho2 := (ho1.alloc (.cells (A32 8 fun _ => 0#32) 61)).alloc (.cells (A32 64 fun _ => 0#32) 123)
  have h3 := (Blk.new W (A32 8 fun _ => 0#32) 61).alloc (.cells (A32 64 fun _ => 0#32) 123)
  have h4 := Blk.new (W.alloc (.cells (A32 8 fun _ => 0#32) 61)) (A32 64 fun _ => 0#32) 123
  rw [World.size_alloc] at h4
  have hBc : Below w.heap.size w ((W.alloc (.cells (A32 8 fun _ => 0#32) 61)).alloc (.cells (A32 64 fun _ => 0#32) 123)) := (hBb.alloc (by omega) _).alloc (by simp; omega) _
  clear hB ho ho1 hBb
  go_wp2_with (first
    | (refine wp_storeRow rfl 61 _ _ rfl _ rfl rfl h3 size61 (A32.size _ _) (A32.size _ _) (A32.one _) rfl ?_; intro W1 hu1 h31; have h41 := h4.upd hu1 (by omega))
    | (refine wp_storeRow rfl 123 _ _ rfl _ rfl rfl h41 size123 (A32.size _ _) (A32.size _ _) (A32.one _) rfl ?_; intro W2 hu2 h42; have h32 := h31.upd hu2 (by omega))
    | (refine wp_loadRow rfl 61 _ rfl _ rfl h32 Tryd.underlying61 rfl size61 (A32.size _ _) ?_)
    | (refine wp_loadRow rfl 123 _ rfl _ rfl h42 Tryd.underlying123 rfl size123 (A32.size _ _) ?_))
  have hBd := hu2.below (hu1.below hBc (by omega)) (by omega)
  have hsz2 : w.heap.size ≤ W2.heap.size := hBd.size
  have ho3 := ((ho2.upd hu1 (by omega)).upd hu2 (by omega)).alloc (.cells (hasherC startK ByteArray.empty 0 roundK) 128)
  have hh := Blk.new W2 (hasherC startK ByteArray.empty 0 roundK) 128
  have hlt := ho3.lt
  have hlt2 := ((ho2.upd hu1 (by omega)).upd hu2 (by omega)).lt
  refine (add_any startK roundK ByteArray.empty 0 W2.heap.size s (by decide) hs (by omega) (by omega) _ hh).mono ?_
  rintro e W3 ⟨rfl, hBut3, hh3⟩
  have hBe : Below w.heap.size w W3 := hBut3.onto (hBd.alloc hsz2 _) hsz2 (by simp; omega)
  have ho4 := ho3.but hBut3 (by omega)
  clear ho3 ho2 hh h3 h4 hBc hBd
  go_wp2_with fail
  have hemp : bts ByteArray.empty = [] := rfl
  rw [hemp, List.nil_append] at hh3
  refine (finished_any _ roundK _ _ _ (by rw [size_strOf]; exact addRest_lt _) (by omega) (by omega) _ hh3).mono ?_
  rintro e W4 ⟨rfl, hBut4⟩
  have hBf : Below w.heap.size w W4 := hBut4.onto hBe hsz2 (hBe.size)
  have ho5 := ho4.but hBut4 (by omega)
  clear ho4 hh3
  go_wp2_with (first | (refine wp_storeRow rfl 69 _ _ rfl _ rfl rfl ho5 size69 (A8.size _ _) (A8.size _ _) (A8.one _) rfl ?_; intro W5 hu5 ho6))
  refine ret_row rfl w.heap.size rfl ho6 Tryd.underlying69 rfl size69 (A8.size _ _) rfl ⟨?_, hu5.below hBf (by omega)⟩
  rw [bts_strOf, size_strOf, ← bts_length s]
  try rfl

@[go_sem] theorem lit23 : (#[Value.int .u8 0, Value.int .u8 0, Value.int .u8 0, Value.int .u8 0, Value.int .u8 0, Value.int .u8 0, Value.int .u8 0, Value.int .u8 0, Value.int .u8 0, Value.int .u8 0, Value.int .u8 0, Value.int .u8 0, Value.int .u8 0, Value.int .u8 0, Value.int .u8 0, Value.int .u8 0] : Array Value) = A8 16 fun _ => 0#8 := by kernel_rfl
theorem size23 : (Tryd.prog.info? 23).map (·.size) = some 16 := by kernel_rfl
set_option maxRecDepth 20000 in
set_option maxHeartbeats 2000000 in
theorem sum_any (s : ByteArray) (hs : s.size ≤ 4611686018427387903) (w : World) :
    Calls Tryd.prog 61 #[.string s] w fun e w' => e = .returned (.agg (A8 16 (sha (bts s)))) ∧ Below w.heap.size w w' := by
  have c43 := sum256_any s hs
  generalize sha (bts s) = d at c43 ⊢
  go_enter Tryd.func61, Tryd.ntmps61
  have ho := Blk.new w (A8 16 fun _ => 0#8) 23
  go_wp2_with fail
  refine (c43 _).mono ?_
  rintro e W ⟨rfl, hB⟩
  have hszW : w.heap.size + 1 ≤ W.heap.size := by have := hB.size; simpa using this
  have hBb : Below w.heap.size w W := ((Below.refl _ _).alloc (Nat.le_refl _) _).trans (hB.mono (by simp))
  have ho1 := ho.below hB (by simp)
  have ho2 := ho1.alloc (.cells (A8 32 fun _ => 0#8) 69)
  have h3 := Blk.new W (A8 32 fun _ => 0#8) 69
  go_wp2_with (refine wp_storeRow rfl 69 _ _ rfl _ rfl rfl h3 size69 (A8.size _ _) (A8.size _ _) (A8.one _) rfl ?_; intro W1 hu1 h31; have ho3 := ho2.upd hu1 (by omega))
  have hs1 := sliceAt_arr_all (P := Tryd.prog) Tryd.underlying23 Tryd.sizeOf5 ⟨w.heap.size, 0, none⟩
  have hs2 := sliceAt_arr_all (P := Tryd.prog) Tryd.underlying69 Tryd.sizeOf5 ⟨W.heap.size, 0, none⟩
  go_still_tail 2, (by kernel_rfl)
  change wpList _ _ _ _ _ W1.drew
  have ho4 := ho3.drew
  have h32 := h31.drew
  have hBc : Below w.heap.size w W1.drew := (hu1.below (hBb.alloc (by omega) _) (by omega)).drew
  have hlt := ho1.lt
  generalize W1.drew = W2 at ho4 h32 hBc ⊢
  clear ho ho1 ho2 ho3 h3 h31 hB hBb hu1
  refine wpList_copy_own rfl _ _ 43 43 rfl 5 Tryd.underlying43 size5 w.heap.size 0 16 16 ⟨W.heap.size, 0, none⟩ 32 32 rfl rfl (A8 16 fun _ => 0#8) 23 ho4 (A8 16 d).toList ?_ ?_ ?_ ?_ ?_
  · rw [Array.length_toList, A8.size]; rfl
  · intro j v hj
    rw [Array.getElem?_toList] at hj
    have hj16 : j < 16 := by
      have := (Array.getElem?_eq_some_iff.1 hj).1
      rwa [A8.size] at this
    rw [A8.get _ hj16] at hj
    rw [Addr.add_lit, h32.cell, Nat.zero_add, A8.get _ (by omega)]
    exact hj
  · rw [Array.length_toList, A8.size, A8.size]; decide
  · intro v hv
    have := Array.all_eq_true'.1 (A8.one (n := 16) d) v (by simpa using hv)
    exact this
  have hcells : (((A8 16 fun _ => 0#8).toList.take 0) ++ ((A8 16 d).toList ++ (A8 16 fun _ => 0#8).toList.drop (0 + (A8 16 d).toList.length))).toArray = A8 16 d := by
    rw [List.take_zero, List.nil_append, List.drop_eq_nil_of_le (by rw [Array.length_toList, Array.length_toList, A8.size, A8.size]; decide), List.append_nil, Array.toArray_toList]
  rw [hcells]
  have ho5 := ho4.setRow (A8 16 d)
  have hu2 := Upd.setRow W2 w.heap.size (A8 16 d)
  generalize W2.setRow w.heap.size (A8 16 d) = W3 at ho5 hu2 ⊢
  have hBd := hu2.below hBc (Nat.le_refl _)
  clear hcells ho4 h32 hBc hu2
  go_wp2_with (first
    | (refine wp_loadRow rfl 23 _ rfl _ rfl ho5 Tryd.underlying23 rfl size23 (A8.size _ _) ?_)
    | (refine wp_storeRow rfl 23 _ _ rfl _ rfl rfl ho5 size23 (A8.size _ _) (A8.size _ _) (A8.one _) rfl ?_; intro W4 hu3 ho6))
  exact ret_row rfl w.heap.size rfl ho6 Tryd.underlying23 rfl size23 (A8.size _ _) rfl ⟨rfl, hu3.below hBd (Nat.le_refl _)⟩
end Go.Proofs.YtdpgebifeaakjaaDoor

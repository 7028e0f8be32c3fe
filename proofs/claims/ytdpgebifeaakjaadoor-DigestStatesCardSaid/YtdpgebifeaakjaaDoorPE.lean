/- The walk of End. -/
import Derived.Test.YtdpgebifeaakjaaDoorPA
namespace Go.Proofs.YtdpgebifeaakjaaDoor
set_option linter.unusedSimpArgs false
set_option linter.unusedVariables false
open Go.RowKit

/-- What End answers. -/
def endAns (h : Nat → BitVec 32) (rest : ByteArray) (len : Int) : (Nat → BitVec 8) × Int :=
  if validB rest len = true then (digestOf (addH roundK h (bts rest ++ padList rest.size (BitVec.ofInt 64 len * 8#64))), 0) else (fun _ => 0#8, 2)

set_option maxRecDepth 20000 in
set_option maxHeartbeats 2000000 in
theorem endp_any (h : Nat → BitVec 32) (rest : ByteArray) (len : Int) (hr : rest.size ≤ maxLen) (w : World) :
    Calls Tryd.prog 40 #[.agg (stG h rest len)] w fun e w' => e = .returned (.tuple #[.agg (A8 32 (endAns h rest len).1), .int .i64 (endAns h rest len).2]) ∧ Below w.heap.size w w' := by
  have c70 := constants_any
  have hbx := box63g h rest len
  have hb128 := build128g h roundK rest len
  have hx128 := box128g h roundK rest len
  have hV := fun w => valid_any h rest len hr w
  have hn := (Blk.new w (stG h rest len) 63).alloc (.cells (A8 32 fun _ => 0#8) 69)
  have ho := Blk.new (w.alloc (.cells (stG h rest len) 63)) (A8 32 fun _ => 0#8) 69
  have hB : Below w.heap.size w ((w.alloc (.cells (stG h rest len) 63)).alloc (.cells (A8 32 fun _ => 0#8) 69)) := ((Below.refl _ _).alloc (Nat.le_refl _) _).alloc (by simp) _
  rw [World.size_alloc] at ho
  go_enter Tryd.func40, Tryd.ntmps40
  go_wp2_with (refine wp_loadRow rfl 63 _ rfl w.heap.size rfl hn Tryd.underlying63 rfl size63 (stG.size _ _ _) ?_)
  refine (hV _).mono ?_
  rintro e W ⟨rfl, hB1⟩
  have hn1 := hn.below hB1 hn.lt
  have ho1 := ho.below hB1 ho.lt
  have hBb := hB.trans (hB1.mono hB.size)
  clear hn ho hB hB1
  by_cases hv : validB rest len = true
  · obtain ⟨g0, g1, g2⟩ := validB_facts hv
    have hrs : rest.size < 64 := by omega
    go_wp2_with fail
    refine (c70 _).mono ?_
    rintro e W0 ⟨rfl, hB0⟩
    have hszW : w.heap.size + 1 + 1 ≤ W0.heap.size := by have := ho1.lt; have := hB0.size; omega
    have hBe : Below w.heap.size w W0 := hBb.trans (hB0.mono hBb.size)
    have hn2 := ((hn1.below hB0 hn1.lt).alloc (.cells (A32 8 fun _ => 0#32) 61)).alloc (.cells (A32 64 fun _ => 0#32) 123)
    have ho2 := ((ho1.below hB0 ho1.lt).alloc (.cells (A32 8 fun _ => 0#32) 61)).alloc (.cells (A32 64 fun _ => 0#32) 123)
    have h3 := (Blk.new W0 (A32 8 fun _ => 0#32) 61).alloc (.cells (A32 64 fun _ => 0#32) 123)
    have h4 := Blk.new (W0.alloc (.cells (A32 8 fun _ => 0#32) 61)) (A32 64 fun _ => 0#32) 123
    rw [World.size_alloc] at h4
    have hBc : Below w.heap.size w ((W0.alloc (.cells (A32 8 fun _ => 0#32) 61)).alloc (.cells (A32 64 fun _ => 0#32) 123)) := (hBe.alloc (by omega) _).alloc (by simp; omega) _
    clear hB0 hn1 ho1 hBe hBb
    go_upto_region 4 with (first
      | (refine wp_storeRow rfl 61 _ _ rfl _ rfl rfl h3 size61 (A32.size _ _) (A32.size _ _) (A32.one _) rfl ?_; intro W1 hu1 h31; have h41 := h4.upd hu1 (by omega))
      | (refine wp_storeRow rfl 123 _ _ rfl _ rfl rfl h41 size123 (A32.size _ _) (A32.size _ _) (A32.one _) rfl ?_; intro W2 hu2 h42))
    have hn3 := (hn2.upd hu1 (by omega)).upd hu2 (by omega)
    apply wp_region_lit
    refine wp_loadRow (t := 63) (C := stG h rest len) (n := 10) rfl 63 (.tmp 1) rfl w.heap.size rfl hn3 Tryd.underlying63 rfl size63 (stG.size _ _ _) ?_
    refine wp_loadRow (t := 123) (C := A32 64 roundK) (n := 64) rfl 123 (.tmp 5) rfl (W0.heap.size + 1) rfl h42 Tryd.underlying123 rfl size123 (A32.size _ _) ?_
    refine wp_buildL rfl 128 #[(0, .tmp 14), (1, .tmp 15)] rfl #[(0, .agg (stG h rest len)), (1, .agg (A32 64 roundK))] rfl (.agg (hasherC h rest len roundK)) hb128 ?_
    go_wp2_with fail
    have hBd := hu2.below (hu1.below hBc (by omega)) (by omega)
    have hsz2 : w.heap.size ≤ W2.heap.size := hBd.size
    have ho3 := ((ho2.upd hu1 (by omega)).upd hu2 (by omega)).alloc (.cells (hasherC h rest len roundK) 128)
    have hh := Blk.new W2 (hasherC h rest len roundK) 128
    have hlt := ho3.lt
    have hlt2 := ((ho2.upd hu1 (by omega)).upd hu2 (by omega)).lt
    refine (finished_any h roundK rest len _ hrs (by omega) (by omega) _ hh).mono ?_
    rintro e W3 ⟨rfl, hBut3⟩
    have hBe : Below w.heap.size w W3 := hBut3.onto (hBd.alloc hsz2 _) hsz2 (by simp; omega)
    have ho4 := ho3.but hBut3 (by omega)
    clear ho3 ho2 hh h3 h4 hBc hBd
    go_wp2_with (first
      | (refine wp_storeRow rfl 69 _ _ rfl _ rfl rfl ho4 size69 (A8.size _ _) (A8.size _ _) (A8.one _) rfl ?_; intro W4 hu4 ho5))
    exact ret_row_tmp rfl (w.heap.size + 1) rfl rfl (run_loadVar_Blk ho5 Tryd.underlying69 rfl size69 (A8.size _ _)) rfl ⟨by rw [endAns, if_pos hv]; rfl, hu4.below hBe (by omega)⟩
  · have hv' : validB rest len = false := by
      cases e : validB rest len
      · rfl
      · exact absurd e hv
    go_wp2_with (first | (refine wp_storeRow rfl 69 _ _ rfl _ rfl rfl ho1 size69 (A8.size _ _) (A8.size _ _) (A8.one _) rfl ?_; intro W3 hu3 ho3))
    exact ret_row_tmp rfl (w.heap.size + 1) rfl rfl (run_loadVar_Blk ho3 Tryd.underlying69 rfl size69 (A8.size _ _)) rfl ⟨by rw [endAns, if_neg hv]; rfl, hu3.below hBb (by omega)⟩
end Go.Proofs.YtdpgebifeaakjaaDoor

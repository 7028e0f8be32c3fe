/- Owned rows of digests: what stays, and steps of Grow. -/
import Derived.Test.YtdpgebifeaakjaaDoorFP
import Derived.Test.YtdpgebifeaakjaaDoorMK
namespace Go.Proofs.YtdpgebifeaakjaaDoor
set_option linter.unusedSimpArgs false
set_option linter.unusedVariables false
open Go.RowKit

theorem cell_upd {W W' : World} {b : Nat} {a : Addr} {v : Value} (h : W.cell? a = some v) (hu : Upd b W W') (hne : a.block ≠ b) : W'.cell? a = some v := (World.cell?_of_block (hu.block _ hne)).trans h
theorem rangeAt_upd {W W' : World} {b g o : Nat} {cs : List Value} (h : W.rangeAt g o cs) (hu : Upd b W W') (hne : g ≠ b) : W'.rangeAt g o cs := fun j v hv => cell_upd (h j v hv) hu hne
theorem ownsRow_upd2 {W W' : World} {base k cap b g : Nat} {n : Nat} {xs : List Value} (h : W.ownsRow base 23 16 (.slice (some ⟨g, 0, none⟩) k cap) n xs) (hu : Upd b W W') (hne : g ≠ b) : W'.ownsRow base 23 16 (.slice (some ⟨g, 0, none⟩) k cap) n xs := by
  obtain ⟨h0, ⟨h1, _⟩ | ⟨g', cap', cur, h1, h2, hh, h3⟩⟩ := h
  · cases h1
  · injection h1 with e1 e2 e3
    injection e1 with e1
    injection e1 with e1
    subst e1
    exact ⟨h0, .inr ⟨g, cap', cur, by rw [e2, e3], h2, (hu.block g hne).trans hh, h3⟩⟩
theorem grown_blk {X w1 : World} {tmp : Obj} {base k : Nat} {v : Value} {xs : List Value} (hrow : X.ownsRow base 23 16 v k xs) (hgrow : (X.alloc tmp).grownBy w1 v.ownBlock) {g : Nat} {C : Array Value} {t : TypeId} (hg : Blk X g C t) (ht : t ≠ 23) : Blk w1 g C t := by
  have e1 : w1.heap[g]? = X.heap[g]? := by
    rw [hgrow.block g (by have := Blk.lt hg; simp; omega) (by
      rcases ownsRow_other hrow hg ht with h | h
      · rw [h]; simp
      · exact fun e => h e.symm)]
    exact Below.heap_alloc _ _ _ (Blk.lt hg)
  exact e1.trans hg
theorem grow_fin {w W W8 : World} {tmp : Obj} {b6 k : Nat} {gp vp : Option Addr} {gc vn vc : Nat} {C : Array Value} {z0 z1 : Value} {D : Nat → Nat → BitVec 8} {x : Nat → BitVec 8} (hB : Below w.heap.size w W)
    (hown : W.ownsRow (w.heap.size + 1 + 1 + 1) 23 16 (.slice gp k gc) k (digCells D k)) (hg8 : (W.alloc tmp).grownBy W8 (Value.slice gp k gc).ownBlock)
    (hown8 : W8.ownsRow (w.heap.size + 1 + 1 + 1) 23 16 (.slice vp vn vc) (k + 1) (digCells D k ++ digCells (fun _ => x) 1)) (kf8 : Blk W8 b6 C 94) (kr8 : Blk W8 (w.heap.size + 1 + 1) #[z0, z1] 94) (h46 : w.heap.size + 1 + 1 < b6) (A : Value) :
    Blk (((W8.setCell ⟨b6, 1, none⟩ (.slice vp vn vc)).setCell ⟨w.heap.size + 1 + 1, 0, none⟩ A).setCell ⟨w.heap.size + 1 + 1, 1, none⟩ (.slice vp vn vc)) (w.heap.size + 1 + 1) #[A, .slice vp vn vc] 94 ∧
      Digs (((W8.setCell ⟨b6, 1, none⟩ (.slice vp vn vc)).setCell ⟨w.heap.size + 1 + 1, 0, none⟩ A).setCell ⟨w.heap.size + 1 + 1, 1, none⟩ (.slice vp vn vc)) (.slice vp vn vc) (k + 1) (snocT k D x) ∧
      Below w.heap.size w (((W8.setCell ⟨b6, 1, none⟩ (.slice vp vn vc)).setCell ⟨w.heap.size + 1 + 1, 0, none⟩ A).setCell ⟨w.heap.size + 1 + 1, 1, none⟩ (.slice vp vn vc)) := by
  rw [digCells, digCells, List.nil_append, digCells_snoc] at hown8
  have kr9 := kr8.other (a := ⟨b6, 1, none⟩) (by simp; omega) (.slice vp vn vc)
  have kr10 := kr9.set 0 A
  have kr11 := kr10.set 1 (.slice vp vn vc)
  have o9 := hown8.kept (grownBy_setCell W8 ⟨b6, 1, none⟩ (.slice vp vn vc)) (ownsRow_other hown8 kf8 (by decide))
  have o10 := o9.kept (grownBy_setCell _ ⟨w.heap.size + 1 + 1, 0, none⟩ A) (ownsRow_other o9 kr9 (by decide))
  have o11 := o10.kept (grownBy_setCell _ ⟨w.heap.size + 1 + 1, 1, none⟩ (.slice vp vn vc)) (ownsRow_other o10 kr10 (by decide))
  refine ⟨kr11, Digs.of_owns o11, ?_⟩
  have hB8 : Below w.heap.size w W8 := (hB.alloc hB.size tmp).grown hg8 (by have := hB.size; simp; omega) (fun q e => by have := (hown.lt q e).1; omega)
  exact ((hB8.setCell (p := ⟨b6, 1, none⟩) (by simp; omega) _).setCell (p := ⟨w.heap.size + 1 + 1, 0, none⟩) (by simp; omega) _).setCell (p := ⟨w.heap.size + 1 + 1, 1, none⟩) (by simp; omega) _
theorem ownsRow_range {W : World} {base k cap g : Nat} {T : Nat → Nat → BitVec 8} (h : W.ownsRow base 23 16 (.slice (some ⟨g, 0, none⟩) k cap) k (digCells T k)) (j : Nat) (hj : j < k) : W.rangeAt g (0 + j * 16) (A8 16 (T j)).toList := by
  obtain ⟨p, c, e0, _, hd⟩ := Digs.of_owns h
  obtain ⟨g', o', e1, r1⟩ := hd j hj
  injection e0 with e0 e2 e3
  subst e0
  injection e1 with e1
  injection e1 with e1 e4
  subst e1 e4
  exact r1
theorem ownsRow_le {W : World} {base k cap : Nat} {p : Option Addr} {T : Nat → Nat → BitVec 8} (h : W.ownsRow base 23 16 (.slice p k cap) k (digCells T k)) : k ≤ cap := by
  obtain ⟨p', c, e0, h, _⟩ := Digs.of_owns h
  injection e0 with e0 e2 e3
  omega
theorem and_one_odd (m : Nat) (hm : m < 1099511627776) (h : m % 2 = 1) : bits BinOp.and IntKind.i64 (m : Int) 1 = 1 := by
  have hh := bits_mask .i64 63 (by decide) (fun n h h' => IntWalk.i64_in n (by omega)) 1 (by decide) (m : Int) (by omega) (by omega)
  have h7 : ((2 : Int) ^ 1) = 2 := by decide
  rw [h7] at hh
  refine hh.trans ?_
  omega
theorem and_one_even (m : Nat) (hm : m < 1099511627776) (h : m % 2 = 0) : bits BinOp.and IntKind.i64 (m : Int) 1 = 0 := by
  have hh := bits_mask .i64 63 (by decide) (fun n h h' => IntWalk.i64_in n (by omega)) 1 (by decide) (m : Int) (by omega) (by omega)
  have h7 : ((2 : Int) ^ 1) = 2 := by decide
  rw [h7] at hh
  refine hh.trans ?_
  omega
theorem size94 : (Tryd.prog.info? 94).map (·.size) = some 2 := by kernel_rfl
theorem ownsRow_upd {W W' : World} {base k b : Nat} {v : Value} {xs : List Value} {C : Array Value} {t : TypeId} (h : W.ownsRow base 23 16 v k xs) (hu : Upd b W W') (hb : Blk W b C t) (ht : t ≠ 23) : W'.ownsRow base 23 16 v k xs := by
  have ho := ownsRow_other h hb ht
  obtain ⟨h0, h1 | ⟨g, cap, cur, rfl, h2, hh, h3⟩⟩ := h
  · exact ⟨h0, .inl h1⟩
  · refine ⟨h0, .inr ⟨g, cap, cur, rfl, h2, ?_, h3⟩⟩
    rw [hu.block g fun e => ?_]
    · exact hh
    · rcases ho with ho | ho
      · cases ho
      · exact ho (by rw [e]; rfl)
end Go.Proofs.YtdpgebifeaakjaaDoor

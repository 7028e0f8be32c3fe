/- The digests of a proof that have not been used: take. -/
import Derived.Test.YtdpgebifeaakjaaDoorFF
import Derived.Test.YtdpgebifeaakjaaDoorPM
namespace Go.Proofs.YtdpgebifeaakjaaDoor
set_option linter.unusedSimpArgs false
set_option linter.unusedVariables false
open Go.RowKit

/-- The panic that ends a check. -/
def refusedP : List PanicEntry := [{ v := .iface 167 (.agg #[]), recovered := false }]
/-- Of the blocks that were there, only b is turned. -/
structure Mods (b : Nat) (w w' : World) : Prop where
  os : w'.os = w.os
  tape : w'.tape = w.tape
  output : w'.output = w.output
  size : w.heap.size ≤ w'.heap.size
  block : ∀ k, k < w.heap.size → k ≠ b → w'.heap[k]? = w.heap[k]?
theorem Mods.refl (b : Nat) (w : World) : Mods b w w := ⟨rfl, rfl, rfl, Nat.le_refl _, fun _ _ _ => rfl⟩
theorem Mods.of_below {b : Nat} {w w' : World} (h : Below w.heap.size w w') : Mods b w w' := ⟨h.os, h.tape, h.output, h.size, fun k hk _ => h.block k hk⟩
theorem Mods.trans {b : Nat} {x y z : World} (h : Mods b x y) (k : Mods b y z) : Mods b x z :=
  ⟨k.os.trans h.os, k.tape.trans h.tape, k.output.trans h.output, Nat.le_trans h.size k.size, fun i hi hb => (k.block i (Nat.lt_of_lt_of_le hi h.size) hb).trans (h.block i hi hb)⟩
theorem Mods.upd {b : Nat} {x y z : World} (h : Mods b x y) (k : Upd b y z) : Mods b x z :=
  ⟨k.os.trans h.os, k.tape.trans h.tape, k.output.trans h.output, by rw [k.size]; exact h.size, fun i hi hb => (k.block i hb).trans (h.block i hi hb)⟩
theorem Mods.new {b c : Nat} {x y z : World} (h : Mods b x y) (k : Upd c y z) (hc : x.heap.size ≤ c) : Mods b x z :=
  ⟨k.os.trans h.os, k.tape.trans h.tape, k.output.trans h.output, by rw [k.size]; exact h.size, fun i hi hb => (k.block i (by omega)).trans (h.block i hi hb)⟩
theorem Mods.alloc {b : Nat} {x y : World} (h : Mods b x y) (o : Obj) : Mods b x (y.alloc o) := h.trans (Mods.of_below ((Below.refl _ _).alloc (Nat.le_refl _) o))
theorem Blk.mods {b g : Nat} {w w' : World} {C : Array Value} {t : TypeId} (h : Blk w g C t) (hm : Mods b w w') (hne : g ≠ b) : Blk w' g C t := (hm.block g h.lt hne).trans h
theorem Mods.below {b B : Nat} {w w' : World} (h : Mods b w w') (hb : B ≤ b) (hw : B ≤ w.heap.size) : Below B w w' :=
  ⟨h.os, h.tape, h.output, h.size, fun k hk => h.block k (by omega) (by omega)⟩
theorem digs_ne' {W : World} {g o k c b : Nat} {T : Nat → Nat → BitVec 8} {C : Array Value} {t : TypeId} (h : Digs W (.slice (some ⟨g, o, none⟩) k c) k T) (hk : 0 < k) (hb : Blk W b C t) (hC : ∀ (j : Nat) (f : BitVec 8), C[j]? ≠ some (U8 f)) : g ≠ b := by
  rintro rfl
  obtain ⟨p, c', e, _, hd⟩ := h
  injection e with e1 e2 e3
  subst e1
  obtain ⟨g', o', e, r⟩ := hd 0 hk
  injection e with e
  injection e with e4 e5
  subst e4 e5
  have hc := r 0 _ (by rw [Array.getElem?_toList, A8.get _ (by omega)])
  rw [hb.cell] at hc
  exact hC _ _ hc
theorem digs_mods {W W' : World} {p : Option Addr} {k c b : Nat} {T : Nat → Nat → BitVec 8} {C : Array Value} {t : TypeId} (h : Digs W (.slice p k c) k T) (hm : Mods b W W') (hb : Blk W b C t) (hC : ∀ (j : Nat) (f : BitVec 8), C[j]? ≠ some (U8 f)) : Digs W' (.slice p k c) k T := by
  have hh := h
  obtain ⟨p', c', e, hc, hd⟩ := h
  injection e with e1 e2 e3
  subst e1 e3
  refine ⟨p, c, rfl, hc, fun j hj => ?_⟩
  obtain ⟨g, o, rfl, r⟩ := hd j hj
  refine ⟨g, o, rfl, fun i v hv => ?_⟩
  have hcell := r i v hv
  exact (World.cell?_of_block (hm.block g (World.block_lt_of_cell? W _ hcell) (digs_ne' hh (by omega) hb hC))).trans hcell
theorem slices_not_u8 (a b c : Option Addr) (x1 x2 x3 y1 y2 y3 : Nat) : ∀ (j : Nat) (f : BitVec 8), (#[Value.slice a x1 y1, .slice b x2 y2, .slice c x3 y3] : Array Value)[j]? ≠ some (U8 f) := by
  intro j f h
  match j, h with
  | 0, h => injection h with h; cases h
  | 1, h => injection h with h; cases h
  | 2, h => injection h with h; cases h
  | j + 3, h => cases h
set_option maxRecDepth 20000 in
set_option maxHeartbeats 400000 in
theorem take_none (b : Nat) (p : Option Addr) (c : Nat) (w : World) (hq : w.cell? ⟨b, 0, none⟩ = some (.slice p 0 c)) :
    Calls Tryd.prog 115 #[.pointer (some ⟨b, 0, none⟩)] w fun e w' => e = .panicked refusedP ∧ Below w.heap.size w w' := by
  have hq2 := cell_below hq ((Below.refl _ _).alloc (Nat.le_refl _) (.cells (A8 16 fun _ => 0#8) 23))
  have hB : Below w.heap.size w (w.alloc (.cells (A8 16 fun _ => 0#8) 23)) := (Below.refl _ _).alloc (Nat.le_refl _) _
  go_enter Tryd.func115, Tryd.ntmps115
  go_wp2_with fail
  exact ⟨rfl, rfl, hB⟩
/-- Where a slice of digests goes on behind its first one. -/
def tailP (c g o : Nat) : Option Addr := if c = 1 then some ⟨g, o, none⟩ else some ⟨g, o + 16, none⟩
theorem digs_tailP {W : World} {g o c k : Nat} {T : Nat → Nat → BitVec 8} (h : Digs W (.slice (some ⟨g, o, none⟩) (k + 1) c) (k + 1) T) : Digs W (.slice (tailP c g o) k (c - 1)) k fun j => T (j + 1) := digs_tail h rfl
theorem tailP_block {c g o g' o' : Nat} {s : Option Nat} (h : tailP c g o = some ⟨g', o', s⟩) : g' = g := by
  unfold tailP at h
  split at h
  · injection h with h; injection h with h; exact h.symm
  · injection h with h; injection h with h; exact h.symm
theorem ownsRow_mods {W W' : World} {base e size k b : Nat} {v : Value} {xs : List Value} {C : Array Value} {t : TypeId} (h : W.ownsRow base e size v k xs) (hm : Mods b W W') (hb : Blk W b C t) (ht : t ≠ e) : W'.ownsRow base e size v k xs := by
  have ho := ownsRow_other h hb ht
  obtain ⟨h0, h1 | ⟨g, cap, cur, rfl, h2, hh, h3⟩⟩ := h
  · exact ⟨h0, .inl h1⟩
  · refine ⟨h0, .inr ⟨g, cap, cur, rfl, h2, ?_, h3⟩⟩
    rw [hm.block g (Array.getElem?_eq_some_iff.1 hh).1 fun e => ?_]
    · exact hh
    · rcases ho with ho | ho
      · cases ho
      · exact ho (by rw [e]; rfl)
set_option maxRecDepth 20000 in
set_option maxHeartbeats 800000 in
theorem take_some (b g o k c : Nat) (T : Nat → Nat → BitVec 8) (q r : Option Addr) (n1 c1 n2 c2 : Nat) (w : World) (hf : Blk w b #[.slice (some ⟨g, o, none⟩) (k + 1) c, .slice q n1 c1, .slice r n2 c2] 142) (hd : Digs w (.slice (some ⟨g, o, none⟩) (k + 1) c) (k + 1) T) :
    Calls Tryd.prog 115 #[.pointer (some ⟨b, 0, none⟩)] w fun e w' => e = .returned (.agg (A8 16 (T 0))) ∧ Blk w' b #[.slice (tailP c g o) k (c - 1), .slice q n1 c1, .slice r n2 c2] 142 ∧ Mods b w w' := by
  obtain ⟨p', c', e0, hc, hdd⟩ := id hd
  injection e0 with e1 e2 e3
  subst e1 e3
  obtain ⟨g', o', e, r0⟩ := hdd 0 (by omega)
  injection e with e
  injection e with e4 e5
  subst e4 e5
  rw [Nat.zero_mul, Nat.add_zero] at r0
  have k0 := Blk.new w (A8 16 fun _ => 0#8) 23
  have hm : Mods b w (w.alloc (.cells (A8 16 fun _ => 0#8) 23)) := (Mods.refl b w).alloc _
  have lb := hf.lt
  have kf := hf.alloc (.cells (A8 16 fun _ => 0#8) 23)
  have r1 := rangeAt_below r0 ((Below.refl _ _).alloc (Nat.le_refl _) (.cells (A8 16 fun _ => 0#8) 23))
  obtain ⟨W1, hW1⟩ : ∃ W1, w.alloc (.cells (A8 16 fun _ => 0#8) 23) = W1 := ⟨_, rfl⟩
  rw [hW1] at k0 hm kf r1
  have rr := run_loadVar_mid W1 g o 23 (A8 16 (T 0)).toList _ r1 Tryd.underlying23 rfl (by rw [Array.length_toList, A8.size]; exact size23)
  rw [Array.toArray_toList] at rr
  have q1 := kf.cell 0
  have hk0 : (0 : Int) < (k : Int) + 1 := by omega
  have hk1 : ¬ ((k : Int) + 1 ≤ 0) := by omega
  have hk2 : ¬ ((k : Int) + 1 = 0) := by omega
  have hk3 : ((k : Int) + 1 == 0) = false := beq_eq_false_iff_ne.2 hk2
  have hk4 : (1 : Int) ≤ (k : Int) + 1 := by omega
  have n3 := Blk.new W1 (A8 16 fun _ => 0#8) 23
  have l0 := k0.lt
  clear e2 hdd
  by_cases hc1 : c = 1
  · subst hc1
    obtain rfl : k = 0 := by omega
    go_enter Tryd.func115, Tryd.ntmps115
    go_wp2_with (first | (refine wp_loadRun (by rfl) 23 _ rfl g o rfl rr ?_) | (refine wp_storeRow (C' := A8 16 (T 0)) rfl 23 _ _ rfl _ rfl rfl n3 size23 (A8.size _ _) (A8.size _ _) (A8.one _) rfl ?_; intro W3 hu k3; have hb3 : Below W1.heap.size W1 W3 := hu.below ((Below.refl _ _).alloc (Nat.le_refl _) _) (Nat.le_refl _); have kf3 := kf.below hb3 kf.lt; have k03 := k0.below hb3 k0.lt; have q3 := kf3.cell 0; have f3 := kf3.free 0; have k3s := k3.other (a := ⟨b, 0, none⟩) (by simp; omega) (.slice (some ⟨g, o, none⟩) 0 0); have k0s := k03.other (a := ⟨b, 0, none⟩) (by simp; omega) (.slice (some ⟨g, o, none⟩) 0 0)) | (refine wp_loadRow rfl 23 _ rfl W1.heap.size rfl k3s Tryd.underlying23 rfl size23 (A8.size _ _) ?_) | (refine wp_storeRow (C' := A8 16 (T 0)) rfl 23 _ _ rfl w.heap.size rfl rfl k0s size23 (A8.size _ _) (A8.size _ _) (A8.one _) rfl ?_; intro W4 hu4 k4))
    have m1 := (hm.trans (Mods.of_below hb3)).upd (upd_setCell W3 b 0 (.slice (some ⟨g, o, none⟩) 0 0))
    have m2 := m1.new hu4 (Nat.le_refl _)
    have kz := (kf3.set 0 (.slice (some ⟨g, o, none⟩) 0 0)).upd hu4 (by omega)
    refine ret_row rfl w.heap.size rfl k4 Tryd.underlying23 rfl size23 (A8.size _ _) rfl ?_
    exact ⟨rfl, kz, m2⟩
  · have hc2 : ¬ 1 = c := fun h => hc1 h.symm
    go_enter Tryd.func115, Tryd.ntmps115
    go_wp2_with (first | (refine wp_loadRun (by rfl) 23 _ rfl g o rfl rr ?_) | (refine wp_storeRow (C' := A8 16 (T 0)) rfl 23 _ _ rfl _ rfl rfl n3 size23 (A8.size _ _) (A8.size _ _) (A8.one _) rfl ?_; intro W3 hu k3; have hb3 : Below W1.heap.size W1 W3 := hu.below ((Below.refl _ _).alloc (Nat.le_refl _) _) (Nat.le_refl _); have kf3 := kf.below hb3 kf.lt; have k03 := k0.below hb3 k0.lt; have q3 := kf3.cell 0; have f3 := kf3.free 0; have k3s := k3.other (a := ⟨b, 0, none⟩) (by simp; omega) (.slice (some ⟨g, o + 16, none⟩) k (c - 1)); have k0s := k03.other (a := ⟨b, 0, none⟩) (by simp; omega) (.slice (some ⟨g, o + 16, none⟩) k (c - 1))) | (refine wp_loadRow rfl 23 _ rfl W1.heap.size rfl k3s Tryd.underlying23 rfl size23 (A8.size _ _) ?_) | (refine wp_storeRow (C' := A8 16 (T 0)) rfl 23 _ _ rfl w.heap.size rfl rfl k0s size23 (A8.size _ _) (A8.size _ _) (A8.one _) rfl ?_; intro W4 hu4 k4))
    have m1 := (hm.trans (Mods.of_below hb3)).upd (upd_setCell W3 b 0 (.slice (some ⟨g, o + 16, none⟩) k (c - 1)))
    have m2 := m1.new hu4 (Nat.le_refl _)
    have kz := (kf3.set 0 (.slice (some ⟨g, o + 16, none⟩) k (c - 1))).upd hu4 (by omega)
    refine ret_row rfl w.heap.size rfl k4 Tryd.underlying23 rfl size23 (A8.size _ _) rfl ?_
    rw [show tailP c g o = some ⟨g, o + 16, none⟩ from if_neg hc1]
    exact ⟨rfl, kz, m2⟩
end Go.Proofs.YtdpgebifeaakjaaDoor

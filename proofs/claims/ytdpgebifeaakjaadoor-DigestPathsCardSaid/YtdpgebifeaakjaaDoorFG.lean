/- The walk of the specification's give. -/
import Derived.Test.YtdpgebifeaakjaaDoorGB
import Derived.Test.YtdpgebifeaakjaaDoorRJ2
import Derived.Test.YtdpgebifeaakjaaDoorAH
namespace Go.Proofs.YtdpgebifeaakjaaDoor
set_option linter.unusedSimpArgs false
set_option linter.unusedVariables false
open Go.RowKit

/-- A digest, and two slices behind it. -/
def partC (d : Nat → BitVec 8) (u v : Value) : Array Value := Row 18 fun i => if i < 16 then U8 (d i) else if i = 16 then u else v
theorem partC.size (d : Nat → BitVec 8) (u v : Value) : (partC d u v).size = 18 := Row.size _ _
theorem partC.one (d : Nat → BitVec 8) (u v : Value) (hu : u.oneCell' = true) (hv : v.oneCell' = true) : (partC d u v).all (·.oneCell') = true := Row.all fun i hi => by
  split
  · rfl
  · split
    · exact hu
    · exact hv
theorem size174 : (Tryd.prog.info? 174).map (·.size) = some 18 := by kernel_rfl
theorem build174 (d : Nat → BitVec 8) (p : Option Addr) (k c : Nat) (q : Option Addr) (l e : Nat) (w : World) : (Instr.build 174 #[(0, .agg (A8 16 d)), (1, .slice p k c), (2, .slice q l e)]).run Tryd.prog w = .ok (.agg (partC d (.slice p k c) (.slice q l e))) w := by kernel_rfl
@[go_sem] theorem lit174 : (#[Value.int .u8 0, Value.int .u8 0, Value.int .u8 0, Value.int .u8 0, Value.int .u8 0, Value.int .u8 0, Value.int .u8 0, Value.int .u8 0, Value.int .u8 0, Value.int .u8 0, Value.int .u8 0, Value.int .u8 0, Value.int .u8 0, Value.int .u8 0, Value.int .u8 0, Value.int .u8 0, Value.slice none 0 0, Value.slice none 0 0] : Array Value) = partC (fun _ => 0#8) (.slice none 0 0) (.slice none 0 0) := by kernel_rfl
theorem partC.range {W : World} {b : Nat} {d : Nat → BitVec 8} {u v : Value} (h : Blk W b (partC d u v) 174) : W.rangeAt b 0 (A8 16 d).toList :=
  Blk.rangeAt (F := fun i => if i < 16 then U8 (d i) else if i = 16 then u else v) h 0 16 (fun i => U8 (d i)) (by omega) fun j hj => by
    rw [Nat.zero_add, if_pos hj]
theorem partC.cell16 {W : World} {b : Nat} {d : Nat → BitVec 8} {u v : Value} (h : Blk W b (partC d u v) 174) : W.cell? ⟨b, 16, none⟩ = some u := by
  rw [h.cell, partC, Row.get _ (by omega)]; rfl
theorem partC.cell17 {W : World} {b : Nat} {d : Nat → BitVec 8} {u v : Value} (h : Blk W b (partC d u v) 174) : W.cell? ⟨b, 17, none⟩ = some v := by
  rw [h.cell, partC, Row.get _ (by omega)]; rfl
/-- A slice of blocks, with its capacity. -/
def SlC (w : World) (v : Value) (l : List (Nat × Nat)) : Prop :=
  ∃ p c, v = .slice p l.length c ∧ l.length ≤ c ∧ ∀ j x, l[j]? = some x → ∃ g o, p = some ⟨g, o, none⟩ ∧ w.cell? ⟨g, o + j * 2, none⟩ = some (.int .i64 (x.1 : Int)) ∧ w.cell? ⟨g, o + j * 2 + 1, none⟩ = some (.int .i64 (x.2 : Int))
theorem SlC.below {W W' : World} {u : Value} {l : List (Nat × Nat)} (h : SlC W u l) (hb : Below W.heap.size W W') : SlC W' u l := by
  obtain ⟨p, c, rfl, hlc, hc⟩ := h
  refine ⟨p, c, rfl, hlc, fun j x hx => ?_⟩
  obtain ⟨g, o, hp, h1, h2⟩ := hc j x hx
  exact ⟨g, o, hp, cell_below h1 hb, cell_below h2 hb⟩
theorem SlC.of_owns {W : World} {base : Nat} {v : Value} {l : List (Nat × Nat)} (h : W.ownsRow base 106 2 v l.length (cellsOf l)) : SlC W v l := by
  obtain ⟨p, c, e, hc⟩ := SlB.of_owns h
  refine ⟨p, c, e, ?_, hc⟩
  rcases h.2 with ⟨h1, h0⟩ | ⟨g, cap, cur, h1, _, _, h4, _⟩
  · omega
  · rw [e] at h1
    injection h1 with _ _ h1
    omega
theorem exec_slice1 {o : Oper} {W : World} (ρ : Operand → Value) (ty e : TypeId) (s : Nat) (x : Operand) (ho : o.op = .slice ty x (some (.const (.int .i64 1))) none none) (g off k c : Nat) (hx : ρ x = .slice (some ⟨g, off, none⟩) k c) (hlow : ρ (.const (.int .i64 1)) = .int .i64 1)
    (hu : Tryd.prog.underlying ty = some (.slice e)) (hs : (Tryd.prog.info? e).map (·.size) = some s) (hk : 1 ≤ k) :
    (execOp ρ o).run Tryd.prog W = .ok (.value (.slice (if c = 1 then some ⟨g, off, none⟩ else some ⟨g, off + s, none⟩) (k - 1) (c - 1))) W := by
  have hu' := run_underlying (P := Tryd.prog) (w := W) hu
  obtain ⟨i, hi, hs'⟩ := Option.map_eq_some_iff.1 hs
  have hk2 : (1 : Int) ≤ (k : Int) := by omega
  unfold execOp
  by_cases hc : c = 1
  · simp [ho, hx, hlow, Instr.sliceAt, Instr.slice, Instr.sliceBounds, Instr.sliceBound, hu', sizeOf, typeInfo, hi, hs', asIntOf, hk2, hc, go_sem]
  · simp [ho, hx, hlow, Instr.sliceAt, Instr.slice, Instr.sliceBounds, Instr.sliceBound, hu', sizeOf, typeInfo, hi, hs', asIntOf, hk2, hc, go_sem]
theorem slC_tail {W : World} {bg bo c : Nat} {x : Nat × Nat} {R : List (Nat × Nat)} {p1 : Option Addr} (h : SlC W (.slice (some ⟨bg, bo, none⟩) (R.length + 1) c) (x :: R)) (hp : (if c = 1 then some ⟨bg, bo, none⟩ else some ⟨bg, bo + 2, none⟩) = p1) : SlC W (.slice p1 R.length (c - 1)) R := by
  obtain ⟨p, c', e, hlc, hc⟩ := h
  injection e with e1 e2 e3
  subst e1 e3
  rw [List.length_cons] at hlc
  refine ⟨p1, c - 1, rfl, by omega, fun j y hy => ?_⟩
  have hj := (List.getElem?_eq_some_iff.1 hy).1
  rw [if_neg (by omega)] at hp
  obtain ⟨g, o, e, h1, h2⟩ := hc (j + 1) y (by rw [List.getElem?_cons_succ]; exact hy)
  injection e with e
  injection e with e4 e5
  subst e4 e5
  refine ⟨bg, bo + 2, hp.symm, ?_, ?_⟩
  · rw [show bo + 2 + j * 2 = bo + (j + 1) * 2 by omega]; exact h1
  · rw [show bo + 2 + j * 2 + 1 = bo + (j + 1) * 2 + 1 by omega]; exact h2
theorem digs_tail {W : World} {g o c k : Nat} {T : Nat → Nat → BitVec 8} {p1 : Option Addr} (h : Digs W (.slice (some ⟨g, o, none⟩) (k + 1) c) (k + 1) T) (hp : (if c = 1 then some ⟨g, o, none⟩ else some ⟨g, o + 16, none⟩) = p1) : Digs W (.slice p1 k (c - 1)) k fun j => T (j + 1) := by
  obtain ⟨p, c', e, hlc, hc⟩ := h
  injection e with e1 e2 e3
  subst e1 e3
  refine ⟨p1, c - 1, rfl, by omega, fun j hj => ?_⟩
  rw [if_neg (by omega)] at hp
  obtain ⟨g', o', e, h1⟩ := hc (j + 1) (by omega)
  injection e with e
  injection e with e4 e5
  subst e4 e5
  refine ⟨g, o + 16, hp.symm, ?_⟩
  rw [show o + 16 + j * 16 = o + (j + 1) * 16 by omega]; exact h1
set_option maxRecDepth 20000 in
set_option maxHeartbeats 2000000 in
theorem give_base (x : Nat × Nat) (R : List (Nat × Nat)) (a b : Nat) (T : Nat → Nat → BitVec 8) (v1 v2 : Value) (w : World) (hb : b = a + x.2) (hb2 : b ≤ 1099511627776) (h1 : SlC w v1 (x :: R)) (h2 : Digs w v2 (R.length + 1) T) :
    Calls Tryd.prog 117 #[v1, v2, .int .i64 (a : Int), .int .i64 (b : Int)] w fun e w' => ∃ u1 u2, e = .returned (.agg (partC (T 0) u1 u2)) ∧ SlC w' u1 R ∧ Digs w' u2 R.length (fun j => T (j + 1)) ∧ Below w.heap.size w w' := by
  have h11 := h1
  have h22 := h2
  obtain ⟨p, c, rfl, hc, hcell⟩ := h1
  obtain ⟨bg, bo, rfl, c0, c1⟩ := hcell 0 x rfl
  rw [List.length_cons] at h11 hc ⊢
  obtain ⟨q, c2, rfl, hc2, hd⟩ := h2
  obtain ⟨g, o, rfl, r0⟩ := hd 0 (by omega)
  rw [Nat.zero_mul, Nat.add_zero] at r0 c1
  have hg : g < w.heap.size := World.block_lt_of_cell? w _ (r0 0 _ (by rw [Array.getElem?_toList, A8.get _ (by omega)]))
  obtain ⟨p1, hp1⟩ : ∃ p1 : Option Addr, (if c = 1 then some ⟨bg, bo, none⟩ else some ⟨bg, bo + 2, none⟩) = p1 := ⟨_, rfl⟩
  obtain ⟨p2, hp2⟩ : ∃ p2 : Option Addr, (if c2 = 1 then some ⟨g, o, none⟩ else some ⟨g, o + 16, none⟩) = p2 := ⟨_, rfl⟩
  have d1 := slC_tail h11 hp1
  have d2 := digs_tail h22 hp2
  have ko := Blk.new w (partC (fun _ => 0#8) (.slice none 0 0) (.slice none 0 0)) 174
  have hB : Below w.heap.size w (w.alloc (.cells (partC (fun _ => 0#8) (.slice none 0 0) (.slice none 0 0)) 174)) := (Below.refl _ _).alloc (Nat.le_refl _) _
  obtain ⟨W1, hW1⟩ : ∃ W1, w.alloc (.cells (partC (fun _ => 0#8) (.slice none 0 0) (.slice none 0 0)) 174) = W1 := ⟨_, rfl⟩
  rw [hW1] at ko hB
  have c1' := cell_below c1 hB
  have hbm : (b : Int) - (a : Int) = (x.2 : Int) := by omega
  have hr0 : (0 : Int) < (R.length : Int) + 1 := by omega
  have hr1 : ¬ ((R.length : Int) + 1 ≤ 0) := by omega
  have hw1 : wrap64 (x.2 : Int) = (x.2 : Int) := by unfold wrap64; omega
  have HP := hide hp1
  have HQ := hide hp2
  clear h11 h22 hcell hd hc hc2 c0 hp1 hp2 hb
  go_enter Tryd.func117, Tryd.ntmps117
  go_wp2_with fail
  have hp1 := HP.out
  have hp2 := HQ.out
  refine wp_region_held_drew (S := fun w' => w'.rangeAt g o (A8 16 (T 0)).toList) (by kernel_rfl) (rangeAt_below r0 hB.drew) (fun hS => ?_)
  simp only [List.size_toArray, List.length_cons, List.length_nil, Nat.reduceAdd, Array.replicate_succ, Array.replicate_zero, List.push_toArray, List.nil_append, List.cons_append]
  refine take_at (i := 0) 20 (.slice (some ⟨g, o, none⟩) (R.length + 1) c2) rfl rfl (by kernel_rfl) (by kernel_rfl) (by kernel_rfl) (fun _ _ _ h => h) (Or.inl ⟨by rfl, fun W hW => by go_simp⟩) hS ?_
  try simp only [List.setIfInBounds_toArray, List.set_cons_zero, List.set_cons_succ]
  refine take_at (i := 1) 21 (.pointer (some ⟨g, o, none⟩)) rfl rfl (by kernel_rfl) (by kernel_rfl) (by kernel_rfl) (fun _ _ _ h => h) (Or.inl ⟨by rfl, fun W hW => by go_simp⟩) hS ?_
  try simp only [List.setIfInBounds_toArray, List.set_cons_zero, List.set_cons_succ]
  refine take_at (i := 2) 22 (.agg (A8 16 (T 0))) rfl rfl (by kernel_rfl) (by kernel_rfl) (by kernel_rfl) (fun _ _ _ h => h) (Or.inl ⟨by rfl, fun W hW => exec_load_range _ 23 _ rfl g o rfl hW Tryd.underlying23 rfl size23 (A8.size _ _)⟩) hS ?_
  try simp only [List.setIfInBounds_toArray, List.set_cons_zero, List.set_cons_succ]
  refine take_at (i := 3) 23 (.slice (some ⟨bg, bo, none⟩) (R.length + 1) c) rfl rfl (by kernel_rfl) (by kernel_rfl) (by kernel_rfl) (fun _ _ _ h => h) (Or.inl ⟨by rfl, fun W hW => by go_simp⟩) hS ?_
  try simp only [List.setIfInBounds_toArray, List.set_cons_zero, List.set_cons_succ]
  refine take_at (i := 4) 24 (.slice p1 R.length (c - 1)) rfl rfl (by kernel_rfl) (by kernel_rfl) (by kernel_rfl) (fun _ _ _ h => h) (Or.inl ⟨by rfl, fun W hW => by rw [← hp1]; exact exec_slice1 _ 33 106 2 _ rfl bg bo (R.length + 1) c rfl rfl Tryd.underlying33 (by kernel_rfl) (by omega)⟩) hS ?_
  try simp only [List.setIfInBounds_toArray, List.set_cons_zero, List.set_cons_succ]
  refine take_at (i := 5) 25 (.slice (some ⟨g, o, none⟩) (R.length + 1) c2) rfl rfl (by kernel_rfl) (by kernel_rfl) (by kernel_rfl) (fun _ _ _ h => h) (Or.inl ⟨by rfl, fun W hW => by go_simp⟩) hS ?_
  try simp only [List.setIfInBounds_toArray, List.set_cons_zero, List.set_cons_succ]
  refine take_at (i := 6) 26 (.slice p2 R.length (c2 - 1)) rfl rfl (by kernel_rfl) (by kernel_rfl) (by kernel_rfl) (fun _ _ _ h => h) (Or.inl ⟨by rfl, fun W hW => by rw [← hp2]; exact exec_slice1 _ 80 23 16 _ rfl g o (R.length + 1) c2 rfl rfl Tryd.underlying80 size23 (by omega)⟩) hS ?_
  try simp only [List.setIfInBounds_toArray, List.set_cons_zero, List.set_cons_succ]
  refine take_at (i := 7) 27 (.agg (partC (T 0) (.slice p1 R.length (c - 1)) (.slice p2 R.length (c2 - 1)))) rfl rfl (by kernel_rfl) (by kernel_rfl) (by kernel_rfl) (fun _ _ _ h => h) (Or.inl ⟨by rfl, fun W hW => exec_build _ 174 #[(0, .tmp 22), (1, .tmp 24), (2, .tmp 26)] rfl #[(0, .agg (A8 16 (T 0))), (1, .slice p1 R.length (c - 1)), (2, .slice p2 R.length (c2 - 1))] rfl _ (build174 _ _ _ _ _ _ _)⟩) hS ?_
  try simp only [List.setIfInBounds_toArray, List.set_cons_zero, List.set_cons_succ]
  refine wpAnyH_ready (rs := [8]) (by kernel_rfl) (by simp) ?_
  refine allReadyH_store rfl rfl (C' := partC (T 0) (.slice p1 R.length (c - 1)) (.slice p2 R.length (c2 - 1))) 174 (.tmp 8) (.tmp 27) rfl w.heap.size rfl rfl ko.drew size174 (partC.size _ _ _) (partC.size _ _ _) (partC.one _ _ _ rfl rfl) rfl (fun W9 hu k9 => ?_)
  refine ⟨rangeAt_upd hS hu (by omega), fun hS => ?_⟩
  try simp only [Act.put, List.getElem_toArray, List.getElem_cons_succ, List.getElem_cons_zero, List.setIfInBounds_toArray, List.set_cons_zero, List.set_cons_succ]
  refine wpAnyH_done (by kernel_rfl) ?_ _
  go_wp2_with fail
  exact ret_row rfl w.heap.size rfl k9 Tryd.underlying174 rfl size174 (partC.size _ _ _) rfl ⟨_, _, rfl, d1.below (hu.below hB.drew (Nat.le_refl _)), d2.below (hu.below hB.drew (Nat.le_refl _)), hu.below hB.drew (Nat.le_refl _)⟩
theorem cover_parts {a M b : Nat} {x : Nat × Nat} {R : List (Nat × Nat)} (hb : b = a + M) (hb2 : b ≤ 1099511627776) (h0 : 0 < M) (hf : Fits a M) (hc : coverL a b = x :: R) :
    ∃ k, 2 ^ k ≤ M ∧ M < 2 ^ (k + 1) ∧ x = (a, 2 ^ k) ∧ R = coverL (a + 2 ^ k) b ∧ Fits (a + 2 ^ k) (M - 2 ^ k) := by
  subst hb
  obtain ⟨k, h1, h2⟩ := pow_of M h0 (by omega)
  rw [coverL_step hb2 hf h1 h2] at hc
  injection hc with e1 e2
  exact ⟨k, h1, h2, e1.symm, by rw [← e2, show a + 2 ^ k + (M - 2 ^ k) = a + M by omega], hf.next h1 h2⟩
set_option maxRecDepth 20000 in
set_option maxHeartbeats 2000000 in
theorem give_any : ∀ (R : List (Nat × Nat)) (x : Nat × Nat) (a M b : Nat) (T : Nat → Nat → BitVec 8) (v1 v2 : Value) (w : World), b = a + M → b ≤ 1099511627776 → 0 < M → Fits a M → coverL a b = x :: R → SlC w v1 (x :: R) → Digs w v2 (R.length + 1) T → KAt w →
    Calls Tryd.prog 117 #[v1, v2, .int .i64 (a : Int), .int .i64 (b : Int)] w fun e w' => ∃ p k c q l f, e = .returned (.agg (partC (topF R.length (T R.length) T) (.slice p k c) (.slice q l f))) ∧ Below w.heap.size w w' := by
  intro R
  induction R with
  | nil =>
    intro x a M b T v1 v2 w hb hb2 h0 hf hc h1 h2 hKK
    obtain ⟨k, m1, m2, rfl, m4, m5⟩ := cover_parts hb hb2 h0 hf hc
    have hM : M = 2 ^ k := by
      apply Classical.byContradiction
      intro hn
      rw [coverL_cons (by omega)] at m4
      cases m4
    refine (give_base (a, 2 ^ k) [] a b T v1 v2 w (by rw [hb, hM]) hb2 h1 h2).mono ?_
    rintro e w' ⟨u1, u2, rfl, ⟨p, c, rfl, _⟩, ⟨q, f, rfl, _⟩, hB⟩
    exact ⟨_, _, _, _, _, _, rfl, hB⟩
  | cons y R ih =>
    intro x a M b T v1 v2 w hb hb2 h0 hf hc h1 h2 hKK
    obtain ⟨k, m1, m2, rfl, m4, m5⟩ := cover_parts hb hb2 h0 hf hc
    have hM : 2 ^ k < M := by
      apply Classical.byContradiction
      intro hn
      rw [coverL_nil (by omega)] at m4
      cases m4
    have hk : k + 1 ≤ 64 := by
      apply Classical.byContradiction
      intro hn
      have : 2 ^ 41 ≤ 2 ^ k := Nat.pow_le_pow_right (by decide) (by omega)
      omega
    have hh := halfN_of M k hM (by omega) hk
    have hp : 0 < 2 ^ k := Nat.two_pow_pos k
    have c82 := fun w => rhalf_any M (by omega) (by omega) w
    rw [hh] at c82
    obtain ⟨s, hs⟩ : ∃ s, 2 ^ k = s := ⟨_, rfl⟩
    rw [hs] at m1 m4 m5 hM hp c82 h1
    clear m2 hh hc hs
    have hsum : (a : Int) + (s : Int) ≤ 1099511627776 := by clear hk m5 m4 c82 ih hKK; omega
    have base : ∀ W, Below w.heap.size w W → Calls Tryd.prog 117 #[v1, v2, .int .i64 (a : Int), .int .i64 ((a : Int) + (s : Int))] W fun e w' => ∃ u1 u2, e = .returned (.agg (partC (T 0) u1 u2)) ∧ SlC w' u1 (y :: R) ∧ Digs w' u2 (R.length + 1) (fun j => T (j + 1)) ∧ Below W.heap.size W w' := by
      intro W hB
      have := give_base (a, s) (y :: R) a (a + s) T v1 v2 W rfl (by omega) (h1.below hB) (h2.below hB)
      rw [Int.natCast_add] at this
      exact this
    have recu : ∀ u1 u2 W, SlC W u1 (y :: R) → Digs W u2 (R.length + 1) (fun j => T (j + 1)) → KAt W → Calls Tryd.prog 117 #[u1, u2, .int .i64 ((a : Int) + (s : Int)), .int .i64 (b : Int)] W fun e w' => ∃ p k c q l f, e = .returned (.agg (partC (topF R.length (T (R.length + 1)) fun j => T (j + 1)) (.slice p k c) (.slice q l f))) ∧ Below W.heap.size W w' := by
      intro u1 u2 W hu1 hu2 hk
      have := ih y (a + s) (M - s) b (fun j => T (j + 1)) u1 u2 W (by omega) hb2 (by omega) m5 m4.symm hu1 hu2 hk
      rw [Int.natCast_add] at this
      exact this
    obtain ⟨D2, hD2⟩ : ∃ D2, topF R.length (T (R.length + 1)) (fun j => T (j + 1)) = D2 := ⟨_, rfl⟩
    rw [hD2] at recu
    have hD : topF (R.length + 1) (T (R.length + 1)) T = nodeD (T 0) D2 := by
      rw [topF_first, hD2]
    have HD := hide hD
    obtain ⟨p, c, rfl, hc, hcell⟩ := h1
    obtain ⟨bg, bo, rfl, c0, c1⟩ := hcell 0 _ rfl
    rw [Nat.zero_mul, Nat.add_zero] at c1
    dsimp only at c1
    have h22 := h2
    obtain ⟨q, c2, rfl, hc2, hd⟩ := h2
    have ko := Blk.new w (partC (fun _ => 0#8) (.slice none 0 0) (.slice none 0 0)) 174
    have hB : Below w.heap.size w (w.alloc (.cells (partC (fun _ => 0#8) (.slice none 0 0) (.slice none 0 0)) 174)) := (Below.refl _ _).alloc (Nat.le_refl _) _
    obtain ⟨W1, hW1⟩ : ∃ W1, w.alloc (.cells (partC (fun _ => 0#8) (.slice none 0 0) (.slice none 0 0)) 174) = W1 := ⟨_, rfl⟩
    rw [hW1] at ko hB
    have c1' := cell_below c1 hB
    have hbm : (b : Int) - (a : Int) = (M : Int) := by omega
    have hr0 : (0 : Int) < (R.length : Int) + 1 + 1 := by omega
    have hr1 : ¬ ((R.length : Int) + 1 + 1 ≤ 0) := by omega
    have hne2 : ¬ (s : Int) = (M : Int) := by omega
    have hne : ((s : Int) == (M : Int)) = false := beq_eq_false_iff_ne.2 hne2
    have l0 := ko.lt
    have BASE := hide base; have REC := hide recu; have C82 := hide c82
    clear base recu c82 ih hD hD2 hcell hd hc hc2 c0 hb m4 m5 m1 hk hp h22 hf hM
    have hw2 := wrap_small a s hsum
    have hw1 : wrap64 (M : Int) = (M : Int) := by clear hw2; unfold wrap64; omega
    go_enter Tryd.func117, Tryd.ntmps117
    go_wp2_with fail
    refine (C82.out _).mono ?_
    rintro e w' ⟨rfl, rfl⟩
    go_wp2_with fail
    refine (BASE.out _ hB).mono ?_
    rintro e W2 ⟨u1, u2, rfl, s1, s2, hb⟩
    replace ko := ko.below hb ko.lt
    replace hB := hB.trans (hb.mono hB.size)
    clear hb c1'
    have n10 := Blk.new W2 (partC (fun _ => 0#8) (.slice none 0 0) (.slice none 0 0)) 174
    obtain ⟨a1, a2, rfl, _⟩ := id s1
    obtain ⟨a3, a4, rfl, _⟩ := id s2
    go_wp2_with (refine wp_storeRow (C' := partC (T 0) (.slice a1 (y :: R).length a2) (.slice a3 (R.length + 1) a4)) rfl 174 _ _ rfl _ rfl rfl n10 size174 (partC.size _ _ _) (partC.size _ _ _) (partC.one _ _ _ rfl rfl) rfl ?_; intro W3 hu k10; have q16 := partC.cell16 k10; have q17 := partC.cell17 k10)
    have hb3 : Below W2.heap.size W2 W3 := hu.below ((Below.refl _ _).alloc (Nat.le_refl _) _) (Nat.le_refl _)
    have l10 := ko.lt
    replace ko := ko.below hb3 ko.lt
    replace s1 := s1.below hb3
    replace s2 := s2.below hb3
    replace hB := hB.trans (hb3.mono hB.size)
    clear hb3 hu n10
    generalize W2.heap.size = b10 at k10 q16 q17 l10 ⊢
    refine (REC.out _ _ _ s1 s2 (hKK.below hKK.pos hB)).mono ?_
    rintro e W5 ⟨e1, m1, d1, e2, m2, d2, rfl, hb⟩
    have l11 := k10.lt
    have l12 := hb.size
    replace ko := ko.below hb ko.lt
    replace k10 := k10.below hb k10.lt
    replace hB := hB.trans (hb.mono hB.size)
    clear hb s1 s2 q16 q17
    have n11 := Blk.new W5 (partC (fun _ => 0#8) (.slice none 0 0) (.slice none 0 0)) 174
    go_wp2_with (refine wp_storeRow (C' := partC D2 (.slice e1 m1 d1) (.slice e2 m2 d2)) rfl 174 _ _ rfl _ rfl rfl n11 size174 (partC.size _ _ _) (partC.size _ _ _) (partC.one _ _ _ rfl rfl) rfl ?_; intro W8 hu k11)
    have hb3 : Below W5.heap.size W5 W8 := hu.below ((Below.refl _ _).alloc (Nat.le_refl _) _) (Nat.le_refl _)
    replace ko := ko.below hb3 ko.lt
    replace k10 := k10.below hb3 k10.lt
    replace hB := hB.trans (hb3.mono hB.size)
    clear hw1 hw2
    have l13 : w.heap.size < W5.heap.size := by omega
    clear hb3 hu n11
    generalize W5.heap.size = b11 at k11 l13 ⊢
    refine wp_region_held_drew (S := fun w' => Blk w' b10 (partC (T 0) (.slice a1 (y :: R).length a2) (.slice a3 (R.length + 1) a4)) 174 ∧ Blk w' b11 (partC D2 (.slice e1 m1 d1) (.slice e2 m2 d2)) 174) (by kernel_rfl) (⟨k10.drew, k11.drew⟩) (fun hS => ?_)
    simp only [List.size_toArray, List.length_cons, List.length_nil, Nat.reduceAdd, Array.replicate_succ, Array.replicate_zero, List.push_toArray, List.nil_append, List.cons_append]
    refine take_at (i := 0) 46 (.pointer (some ⟨b10, 0, none⟩)) rfl rfl (by kernel_rfl) (by kernel_rfl) (by kernel_rfl) (fun _ _ _ h => h) (Or.inl ⟨by rfl, fun W hW => by go_simp⟩) hS ?_
    try simp only [List.setIfInBounds_toArray, List.set_cons_zero, List.set_cons_succ]
    refine take_at (i := 1) 47 (.agg (A8 16 (T 0))) rfl rfl (by kernel_rfl) (by kernel_rfl) (by kernel_rfl) (fun _ _ _ h => h) (Or.inl ⟨by rfl, fun W hW => exec_load_range _ 23 _ rfl b10 0 rfl (partC.range hW.1) Tryd.underlying23 rfl size23 (A8.size _ _)⟩) hS ?_
    try simp only [List.setIfInBounds_toArray, List.set_cons_zero, List.set_cons_succ]
    refine take_at (i := 2) 48 (.pointer (some ⟨b11, 0, none⟩)) rfl rfl (by kernel_rfl) (by kernel_rfl) (by kernel_rfl) (fun _ _ _ h => h) (Or.inl ⟨by rfl, fun W hW => by go_simp⟩) hS ?_
    try simp only [List.setIfInBounds_toArray, List.set_cons_zero, List.set_cons_succ]
    refine take_at (i := 3) 49 (.agg (A8 16 D2)) rfl rfl (by kernel_rfl) (by kernel_rfl) (by kernel_rfl) (fun _ _ _ h => h) (Or.inl ⟨by rfl, fun W hW => exec_load_range _ 23 _ rfl b11 0 rfl (partC.range hW.2) Tryd.underlying23 rfl size23 (A8.size _ _)⟩) hS ?_
    try simp only [List.setIfInBounds_toArray, List.set_cons_zero, List.set_cons_succ]
    refine take_at (i := 5) 51 (.pointer (some ⟨b11, 16, none⟩)) rfl rfl (by kernel_rfl) (by kernel_rfl) (by kernel_rfl) (fun _ _ _ h => h) (Or.inl ⟨by rfl, fun W hW => by go_simp⟩) hS ?_
    try simp only [List.setIfInBounds_toArray, List.set_cons_zero, List.set_cons_succ]
    refine take_at (i := 6) 52 (.slice e1 m1 d1) rfl rfl (by kernel_rfl) (by kernel_rfl) (by kernel_rfl) (fun _ _ _ h => h) (Or.inl ⟨by rfl, fun W hW => by have hc := partC.cell16 hW.2; go_simp⟩) hS ?_
    try simp only [List.setIfInBounds_toArray, List.set_cons_zero, List.set_cons_succ]
    refine take_at (i := 7) 53 (.pointer (some ⟨b11, 17, none⟩)) rfl rfl (by kernel_rfl) (by kernel_rfl) (by kernel_rfl) (fun _ _ _ h => h) (Or.inl ⟨by rfl, fun W hW => by go_simp⟩) hS ?_
    try simp only [List.setIfInBounds_toArray, List.set_cons_zero, List.set_cons_succ]
    refine take_at (i := 8) 54 (.slice e2 m2 d2) rfl rfl (by kernel_rfl) (by kernel_rfl) (by kernel_rfl) (fun _ _ _ h => h) (Or.inl ⟨by rfl, fun W hW => by have hc := partC.cell17 hW.2; go_simp⟩) hS ?_
    try simp only [List.setIfInBounds_toArray, List.set_cons_zero, List.set_cons_succ]
    refine wpAnyH_ready (rs := [4]) (by kernel_rfl) (by simp) ?_
    refine AllReadyH.cons rfl (fun K hK => ?_) AllReadyH.nil
    go_simp
    refine (rnode_any _ _ _ (hKK.below hKK.pos hB.drew)).mono ?_
    rintro e X9 ⟨rfl, hb⟩
    refine hK.out _ _ (⟨hS.1.below hb hS.1.lt, hS.2.below hb hS.2.lt⟩) (fun hS => ?_)
    clear hK K
    replace ko := ko.drew.below hb ko.lt
    replace hB := hB.drew.trans (hb.mono hB.size)
    try simp only [Act.put, List.getElem_toArray, List.getElem_cons_succ, List.getElem_cons_zero, List.setIfInBounds_toArray, List.set_cons_zero, List.set_cons_succ]
    refine take_at (i := 9) 55 (.agg (partC (nodeD (T 0) D2) (.slice e1 m1 d1) (.slice e2 m2 d2))) rfl rfl (by kernel_rfl) (by kernel_rfl) (by kernel_rfl) (fun _ _ _ h => h) (Or.inl ⟨by rfl, fun W hW => exec_build _ 174 #[(0, .tmp 50), (1, .tmp 52), (2, .tmp 54)] rfl #[(0, .agg (A8 16 (nodeD (T 0) D2))), (1, .slice e1 m1 d1), (2, .slice e2 m2 d2)] rfl _ (build174 _ _ _ _ _ _ _)⟩) hS ?_
    try simp only [List.setIfInBounds_toArray, List.set_cons_zero, List.set_cons_succ]
    refine wpAnyH_ready (rs := [10]) (by kernel_rfl) (by simp) ?_
    refine allReadyH_store rfl rfl (C' := partC (nodeD (T 0) D2) (.slice e1 m1 d1) (.slice e2 m2 d2)) 174 (.tmp 8) (.tmp 55) rfl w.heap.size rfl rfl ko size174 (partC.size _ _ _) (partC.size _ _ _) (partC.one _ _ _ rfl rfl) rfl (fun W9 hu k9 => ?_)
    refine ⟨⟨hS.1.upd hu (by omega), hS.2.upd hu (by omega)⟩, fun hS => ?_⟩
    try simp only [Act.put, List.getElem_toArray, List.getElem_cons_succ, List.getElem_cons_zero, List.setIfInBounds_toArray, List.set_cons_zero, List.set_cons_succ]
    refine wpAnyH_done (by kernel_rfl) ?_ _
    go_wp2_with fail
    exact ret_row rfl w.heap.size rfl k9 Tryd.underlying174 rfl size174 (partC.size _ _ _) rfl ⟨_, _, _, _, _, _, by rw [HD.out], hu.below hB (Nat.le_refl _)⟩
end Go.Proofs.YtdpgebifeaakjaaDoor

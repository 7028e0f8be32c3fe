/- The walk of top. -/
import Derived.Test.YtdpgebifeaakjaaDoorG3
import Derived.Test.YtdpgebifeaakjaaDoorTL
namespace Go.Proofs.YtdpgebifeaakjaaDoor
set_option linter.unusedSimpArgs false
set_option linter.unusedVariables false
open Go.RowKit
theorem size106 : (Tryd.prog.info? 106).map (·.size) = some 2 := by kernel_rfl
theorem eql_block (a b c d : Int) (w : World) : (binOp .eql 106 (.agg #[.int .i64 a, .int .i64 b]) (.agg #[.int .i64 c, .int .i64 d])).run Tryd.prog w = .ok (.bool (a == c && b == d)) w := by
  have hf : Tryd.prog.fieldsOf 106 = #[{ name := "At", type := 3, offset := 0, embedded := false, tag := "", pkgPath := "", byteOffset := 0 }, { name := "Size", type := 3, offset := 1, embedded := false, tag := "", pkgPath := "", byteOffset := 8 }] := by
    simp [Program.fieldsOf, Tryd.underlying106]
  rw [run_eql_struct, run_equalIn_struct _ _ _ _ _ (by rw [hf]; exact Tryd.underlying106) Tryd.stoodInHeld106, hf]
  have p1 : ∀ (x y : Int) (w : World), (part 3 #[.int .i64 x, .int .i64 y] 0).run Tryd.prog w = .ok (.int .i64 x) w := fun _ _ _ => by kernel_rfl
  have p2 : ∀ (x y : Int) (w : World), (part 3 #[.int .i64 x, .int .i64 y] 1).run Tryd.prog w = .ok (.int .i64 y) w := fun _ _ _ => by kernel_rfl
  have q : ∀ (x y : Int) (w : World), (Op.equalIn 9999 3 (.int .i64 x) (.int .i64 y)).run Tryd.prog w = .ok (x == y) w := fun x y w => run_equalIn_int w 9998 3 .i64 _ x y Tryd.underlying3
  by_cases h1 : a = c
  · by_cases h2 : b = d
    · simp [Op.eqFields, p1, p2, q, h1, h2]
    · simp [Op.eqFields, p1, p2, q, h1, h2]
  · simp [Op.eqFields, p1, p2, q, h1]
theorem exec_eql106 {o : Oper} {w : World} (ρ : Operand → Value) (x y : Operand) (ho : o.op = .binOp .eql 106 x y 106) {a b c d : Int} (hx : ρ x = .agg #[.int .i64 a, .int .i64 b]) (hy : ρ y = .agg #[.int .i64 c, .int .i64 d]) :
    (execOp ρ o).run Tryd.prog w = .ok (.value (.bool (a == c && b == d))) w := by
  unfold execOp
  simp [ho, hx, hy, eql_block, eqGuard, go_sem]
/-- A forest that is read; q is the counter. -/
structure FtR (b q : Nat) (A : List (Nat × Nat)) (n : Nat) (T : Nat → Nat → BitVec 8) (lv : Value) (bp : Option Addr) (bc : Nat) (tp : Option Addr) (tc : Nat) (W : World) : Prop where
  blk : Blk W b #[lv, .slice bp A.length bc, .slice tp n tc] 142
  bl : SlC W (.slice bp A.length bc) A
  tl : Digs W (.slice tp n tc) n T
  ne : b ≠ q
  nb : ∀ g o, bp = some ⟨g, o, none⟩ → g ≠ q
  nt : ∀ g o, tp = some ⟨g, o, none⟩ → g ≠ q
theorem FtR.mods {b q : Nat} {A : List (Nat × Nat)} {n : Nat} {T : Nat → Nat → BitVec 8} {lv : Value} {bp : Option Addr} {bc : Nat} {tp : Option Addr} {tc : Nat} {W W' : World} (h : FtR b q A n T lv bp bc tp tc W) (hm : Mods q W W') : FtR b q A n T lv bp bc tp tc W' := by
  have cell : ∀ (g o : Nat) (v : Value), g ≠ q → W.cell? ⟨g, o, none⟩ = some v → W'.cell? ⟨g, o, none⟩ = some v := fun g o v hg hc => (World.cell?_of_block (hm.block g (World.block_lt_of_cell? W _ hc) hg)).trans hc
  refine ⟨h.blk.mods hm h.ne, ?_, ?_, h.ne, h.nb, h.nt⟩
  · obtain ⟨p, c, e, h1, h2⟩ := h.bl
    refine ⟨p, c, e, h1, fun j x hx => ?_⟩
    obtain ⟨g, o, hp, c0, c1⟩ := h2 j x hx
    injection e with e1
    have := h.nb g o (e1.trans hp)
    exact ⟨g, o, hp, cell _ _ _ this c0, cell _ _ _ this c1⟩
  · obtain ⟨p, c, e, h1, h2⟩ := h.tl
    refine ⟨p, c, e, h1, fun j hj => ?_⟩
    obtain ⟨g, o, hp, hr⟩ := h2 j hj
    injection e with e1
    have := h.nt g o (e1.trans hp)
    exact ⟨g, o, hp, fun i v hv => cell _ _ _ this (hr i v hv)⟩
theorem FtR.drew {b q : Nat} {A : List (Nat × Nat)} {n : Nat} {T : Nat → Nat → BitVec 8} {lv : Value} {bp : Option Addr} {bc : Nat} {tp : Option Addr} {tc : Nat} {W : World} (h : FtR b q A n T lv bp bc tp tc W) : FtR b q A n T lv bp bc tp tc W.drew := h.mods (Mods.of_below (Below.refl _ _).drew)
theorem FtR.below {b q : Nat} {A : List (Nat × Nat)} {n : Nat} {T : Nat → Nat → BitVec 8} {lv : Value} {bp : Option Addr} {bc : Nat} {tp : Option Addr} {tc : Nat} {W W' : World} (h : FtR b q A n T lv bp bc tp tc W) (hb : Below W.heap.size W W') : FtR b q A n T lv bp bc tp tc W' := h.mods (Mods.of_below hb)
theorem FtR.at {b q : Nat} {A : List (Nat × Nat)} {n : Nat} {T : Nat → Nat → BitVec 8} {lv : Value} {bp : Option Addr} {bc : Nat} {tp : Option Addr} {tc : Nat} {W : World} (h : FtR b q A n T lv bp bc tp tc W) {j : Nat} {x : Nat × Nat} (hj : A[j]? = some x) (hn : j < n) :
    ∃ bg bo tg to, bp = some ⟨bg, bo, none⟩ ∧ tp = some ⟨tg, to, none⟩ ∧ W.rangeAt bg (bo + j * 2) #[.int .i64 (x.1 : Int), .int .i64 (x.2 : Int)].toList ∧ W.rangeAt tg (to + j * 16) (A8 16 (T j)).toList := by
  obtain ⟨p, c, e, h1, h2⟩ := h.bl
  obtain ⟨p', c', e', h1', h2'⟩ := h.tl
  obtain ⟨bg, bo, rfl, c0, c1⟩ := h2 j x hj
  obtain ⟨tg, to, rfl, hr⟩ := h2' j hn
  injection e with e
  injection e' with e'
  refine ⟨bg, bo, tg, to, e, e', fun i v hv => ?_, hr⟩
  match i, hv with
  | 0, hv => injection hv with hv; subst hv; exact c0
  | 1, hv => injection hv with hv; subst hv; exact c1
  | i + 2, hv => cases hv
set_option maxRecDepth 20000 in
set_option maxHeartbeats 1000000 in
theorem ftop_zero (b q a : Nat) (w : World) : Calls Tryd.prog 116 #[.pointer (some ⟨b, 0, none⟩), .int .i64 (a : Int), .int .i64 (a : Int), .pointer (some ⟨q, 0, none⟩)] w fun e' w' => e' = .returned (.agg (A8 16 (sha []))) ∧ Below w.heap.size w w' := by
  have k0 := Blk.new w (A8 16 fun _ => 0#8) 23
  have hB : Below w.heap.size w (w.alloc (.cells (A8 16 fun _ => 0#8) 23)) := (Below.refl _ _).alloc (Nat.le_refl _) _
  have c0 := fun w => sum_any ⟨#[]⟩ (by decide) w
  go_enter Tryd.func116, Tryd.ntmps116
  go_wp2_with fail
  refine (c0 _).mono ?_
  rintro e W1 ⟨rfl, hb⟩
  replace hB := hB.trans (hb.mono hB.size)
  replace k0 := k0.below hb k0.lt
  go_wp2_with (refine wp_storeRow (C' := A8 16 (sha [])) rfl 23 _ _ rfl _ rfl rfl k0 size23 (A8.size _ _) (A8.size _ _) (A8.one _) rfl ?_; intro W4 hu k9)
  exact ret_row rfl w.heap.size rfl k9 Tryd.underlying23 rfl size23 (A8.size _ _) rfl ⟨rfl, hu.below hB (Nat.le_refl _)⟩
set_option maxRecDepth 20000 in
set_option maxHeartbeats 1000000 in
theorem ftop_base (b q o a m e n bc tc : Nat) (bp tp : Option Addr) (A : List (Nat × Nat)) (T : Nat → Nat → BitVec 8) (lv : Value) (w : World) (hm : 0 < m) (he : e = a + m) (hb : e ≤ 1099511627776) (hA : A.length ≤ 1000) (hx : A[o]? = some (a, m)) (hn : o < n)
    (hf : FtR b q A n T lv bp bc tp tc w) (hq : Blk w q #[.int .i64 (o : Int)] 3) :
    Calls Tryd.prog 116 #[.pointer (some ⟨b, 0, none⟩), .int .i64 (a : Int), .int .i64 (e : Int), .pointer (some ⟨q, 0, none⟩)] w fun e' w' => e' = .returned (.agg (A8 16 (T o))) ∧ Blk w' q #[.int .i64 ((o + 1 : Nat) : Int)] 3 ∧ Mods q w w' := by
  have ho := (List.getElem?_eq_some_iff.1 hx).1
  have k0 := Blk.new w (A8 16 fun _ => 0#8) 23
  have hM := (Mods.refl q w).alloc (.cells (A8 16 fun _ => 0#8) 23)
  have kq := hq.alloc (.cells (A8 16 fun _ => 0#8) 23)
  have hqw := hq.lt
  have ff := hf.mods hM
  obtain ⟨W1, hW1⟩ : ∃ W1, w.alloc (.cells (A8 16 fun _ => 0#8) 23) = W1 := ⟨_, rfl⟩
  have hB1 : Below w.heap.size w W1 := by rw [← hW1]; exact (Below.refl _ _).alloc (Nat.le_refl _) _
  have hbw := hf.blk.lt
  have hat := hf.at hx hn
  rw [hW1] at k0 hM kq ff
  obtain ⟨s, hs⟩ : ∃ s, s = m := ⟨_, rfl⟩
  obtain ⟨bg, bo, tg, to, rfl, rfl, hr, rt⟩ := hat
  have htw : tg < w.heap.size := World.block_lt_of_cell? w _ (rt 0 _ (by rw [Array.getElem?_toList, A8.get _ (by omega)]))
  replace hr := rangeAt_below hr hB1
  replace rt := rangeAt_below rt hB1
  have kb := ff.blk
  have hbq : ((a : Int) == (a : Int) && (s : Int) == (m : Int)) = true := by subst hs; simp
  dsimp only at hr
  rw [← hs] at hr
  have hne : ¬ (a : Int) = (e : Int) := by omega
  have hne2 : ((a : Int) == (e : Int)) = false := beq_eq_false_iff_ne.2 hne
  have hsub : (e : Int) - (a : Int) = (m : Int) := by omega
  have hwm : IntKind.i64.wrap (m : Int) = (m : Int) := IntWalk.i64_in _ (by omega)
  have hwo : IntKind.i64.wrap (o : Int) = (o : Int) := IntWalk.i64_in _ (by omega)
  have hwo1 : IntKind.i64.wrap ((o : Int) + 1) = (o : Int) + 1 := IntWalk.i64_in _ (by omega)
  have ho1 : (o : Int) < (A.length : Int) := by omega
  have ho2 : ¬ (A.length : Int) ≤ (o : Int) := by omega
  have ho3 : (o : Int) < (n : Int) := by omega
  have ho4 : ¬ (n : Int) ≤ (o : Int) := by omega
  have HS := hide hs
  clear hf he hx hs hm
  go_enter Tryd.func116, Tryd.ntmps116
  go_upto_region 3 with (fail)
  try rw [hW1]
  clear hW1
  refine wp_region_held_drew (S := fun w' => Blk w' q #[.int .i64 (o : Int)] 3 ∧ Blk w' b #[lv, .slice (some ⟨bg, bo, none⟩) A.length bc, .slice (some ⟨tg, to, none⟩) n tc] 142) (by kernel_rfl) (⟨kq.drew, kb.drew⟩) (fun hS => ?_)
  simp only [List.size_toArray, List.length_cons, List.length_nil, Nat.reduceAdd, Array.replicate_succ, Array.replicate_zero, List.push_toArray, List.nil_append, List.cons_append]
  refine take_at (i := 0) 15 (.pointer (some ⟨q, 0, none⟩)) rfl rfl (by kernel_rfl) (by kernel_rfl) (by kernel_rfl) (fun _ _ _ h => h) (Or.inl ⟨by rfl, fun W hW => by go_simp⟩) hS ?_
  try simp only [List.setIfInBounds_toArray, List.set_cons_zero, List.set_cons_succ]
  refine take_at (i := 1) 16 (.pointer (some ⟨q, 0, none⟩)) rfl rfl (by kernel_rfl) (by kernel_rfl) (by kernel_rfl) (fun _ _ _ h => h) (Or.inl ⟨by rfl, fun W hW => by go_simp⟩) hS ?_
  try simp only [List.setIfInBounds_toArray, List.set_cons_zero, List.set_cons_succ]
  refine take_at (i := 2) 17 (.int .i64 (o : Int)) rfl rfl (by kernel_rfl) (by kernel_rfl) (by kernel_rfl) (fun _ _ _ h => h) (Or.inl ⟨by rfl, fun W hW => by have hc := hW.1.cell 0; go_simp⟩) hS ?_
  try simp only [List.setIfInBounds_toArray, List.set_cons_zero, List.set_cons_succ]
  refine take_at (i := 3) 18 (.pointer (some ⟨b, 0, none⟩)) rfl rfl (by kernel_rfl) (by kernel_rfl) (by kernel_rfl) (fun _ _ _ h => h) (Or.inl ⟨by rfl, fun W hW => by go_simp⟩) hS ?_
  try simp only [List.setIfInBounds_toArray, List.set_cons_zero, List.set_cons_succ]
  refine take_at (i := 4) 19 (.pointer (some ⟨b, 0, none⟩)) rfl rfl (by kernel_rfl) (by kernel_rfl) (by kernel_rfl) (fun _ _ _ h => h) (Or.inl ⟨by rfl, fun W hW => by go_simp⟩) hS ?_
  try simp only [List.setIfInBounds_toArray, List.set_cons_zero, List.set_cons_succ]
  refine take_at (i := 5) 20 (.pointer (some ⟨b, 1, none⟩)) rfl rfl (by kernel_rfl) (by kernel_rfl) (by kernel_rfl) (fun _ _ _ h => h) (Or.inl ⟨by rfl, fun W hW => by go_simp⟩) hS ?_
  try simp only [List.setIfInBounds_toArray, List.set_cons_zero, List.set_cons_succ]
  refine take_at (i := 6) 21 (.slice (some ⟨bg, bo, none⟩) A.length bc) rfl rfl (by kernel_rfl) (by kernel_rfl) (by kernel_rfl) (fun _ _ _ h => h) (Or.inl ⟨by rfl, fun W hW => by have hc := hW.2.cell 1; go_simp⟩) hS ?_
  try simp only [List.setIfInBounds_toArray, List.set_cons_zero, List.set_cons_succ]
  refine take_at (i := 7) 22 (.int .i64 (A.length : Int)) rfl rfl (by kernel_rfl) (by kernel_rfl) (by kernel_rfl) (fun _ _ _ h => h) (Or.inl ⟨by rfl, fun W hW => by go_simp⟩) hS ?_
  try simp only [List.setIfInBounds_toArray, List.set_cons_zero, List.set_cons_succ]
  refine take_at (i := 8) 23 (.bool false) rfl rfl (by kernel_rfl) (by kernel_rfl) (by kernel_rfl) (fun _ _ _ h => h) (Or.inl ⟨by rfl, fun W hW => by go_simp⟩) hS ?_
  try simp only [List.setIfInBounds_toArray, List.set_cons_zero, List.set_cons_succ]
  refine wpAnyH_done (by kernel_rfl) ?_ _
  go_upto_region 5 with (fail)
  refine wp_region_held_drew (S := fun w' => Blk w' q #[.int .i64 (o : Int)] 3 ∧ Blk w' b #[lv, .slice (some ⟨bg, bo, none⟩) A.length bc, .slice (some ⟨tg, to, none⟩) n tc] 142 ∧ w'.rangeAt bg (bo + o * 2) #[.int .i64 (a : Int), .int .i64 (s : Int)].toList) (by kernel_rfl) (⟨kq.drew, kb.drew, rangeAt_below hr (Below.refl _ _).drew⟩) (fun hS => ?_)
  simp only [List.size_toArray, List.length_cons, List.length_nil, Nat.reduceAdd, Array.replicate_succ, Array.replicate_zero, List.push_toArray, List.nil_append, List.cons_append]
  refine take_at (i := 0) 26 (.pointer (some ⟨b, 0, none⟩)) rfl rfl (by kernel_rfl) (by kernel_rfl) (by kernel_rfl) (fun _ _ _ h => h) (Or.inl ⟨by rfl, fun W hW => by go_simp⟩) hS ?_
  try simp only [List.setIfInBounds_toArray, List.set_cons_zero, List.set_cons_succ]
  refine take_at (i := 1) 27 (.pointer (some ⟨b, 0, none⟩)) rfl rfl (by kernel_rfl) (by kernel_rfl) (by kernel_rfl) (fun _ _ _ h => h) (Or.inl ⟨by rfl, fun W hW => by go_simp⟩) hS ?_
  try simp only [List.setIfInBounds_toArray, List.set_cons_zero, List.set_cons_succ]
  refine take_at (i := 2) 28 (.pointer (some ⟨b, 1, none⟩)) rfl rfl (by kernel_rfl) (by kernel_rfl) (by kernel_rfl) (fun _ _ _ h => h) (Or.inl ⟨by rfl, fun W hW => by go_simp⟩) hS ?_
  try simp only [List.setIfInBounds_toArray, List.set_cons_zero, List.set_cons_succ]
  refine take_at (i := 3) 29 (.slice (some ⟨bg, bo, none⟩) A.length bc) rfl rfl (by kernel_rfl) (by kernel_rfl) (by kernel_rfl) (fun _ _ _ h => h) (Or.inl ⟨by rfl, fun W hW => by have hc := hW.2.1.cell 1; go_simp⟩) hS ?_
  try simp only [List.setIfInBounds_toArray, List.set_cons_zero, List.set_cons_succ]
  refine take_at (i := 4) 30 (.pointer (some ⟨q, 0, none⟩)) rfl rfl (by kernel_rfl) (by kernel_rfl) (by kernel_rfl) (fun _ _ _ h => h) (Or.inl ⟨by rfl, fun W hW => by go_simp⟩) hS ?_
  try simp only [List.setIfInBounds_toArray, List.set_cons_zero, List.set_cons_succ]
  refine take_at (i := 5) 31 (.pointer (some ⟨q, 0, none⟩)) rfl rfl (by kernel_rfl) (by kernel_rfl) (by kernel_rfl) (fun _ _ _ h => h) (Or.inl ⟨by rfl, fun W hW => by go_simp⟩) hS ?_
  try simp only [List.setIfInBounds_toArray, List.set_cons_zero, List.set_cons_succ]
  refine take_at (i := 6) 32 (.int .i64 (o : Int)) rfl rfl (by kernel_rfl) (by kernel_rfl) (by kernel_rfl) (fun _ _ _ h => h) (Or.inl ⟨by rfl, fun W hW => by have hc := hW.1.cell 0; go_simp⟩) hS ?_
  try simp only [List.setIfInBounds_toArray, List.set_cons_zero, List.set_cons_succ]
  refine take_at (i := 7) 33 (.pointer (some ⟨bg, bo + o * 2, none⟩)) rfl rfl (by kernel_rfl) (by kernel_rfl) (by kernel_rfl) (fun _ _ _ h => h) (Or.inl ⟨by rfl, fun W hW => by go_simp⟩) hS ?_
  try simp only [List.setIfInBounds_toArray, List.set_cons_zero, List.set_cons_succ]
  refine take_at (i := 8) 34 (.agg #[.int .i64 (a : Int), .int .i64 (s : Int)]) rfl rfl (by kernel_rfl) (by kernel_rfl) (by kernel_rfl) (fun _ _ _ h => h) (Or.inl ⟨by rfl, fun W hW => exec_load_range _ 106 _ rfl bg (bo + o * 2) rfl hW.2.2 Tryd.underlying106 rfl size106 rfl⟩) hS ?_
  try simp only [List.setIfInBounds_toArray, List.set_cons_zero, List.set_cons_succ]
  refine take_at (i := 9) 35 (.int .i64 (a : Int)) rfl rfl (by kernel_rfl) (by kernel_rfl) (by kernel_rfl) (fun _ _ _ h => h) (Or.inl ⟨by rfl, fun W hW => by go_simp⟩) hS ?_
  try simp only [List.setIfInBounds_toArray, List.set_cons_zero, List.set_cons_succ]
  refine take_at (i := 10) 36 (.int .i64 (e : Int)) rfl rfl (by kernel_rfl) (by kernel_rfl) (by kernel_rfl) (fun _ _ _ h => h) (Or.inl ⟨by rfl, fun W hW => by go_simp⟩) hS ?_
  try simp only [List.setIfInBounds_toArray, List.set_cons_zero, List.set_cons_succ]
  refine take_at (i := 11) 37 (.int .i64 (a : Int)) rfl rfl (by kernel_rfl) (by kernel_rfl) (by kernel_rfl) (fun _ _ _ h => h) (Or.inl ⟨by rfl, fun W hW => by go_simp⟩) hS ?_
  try simp only [List.setIfInBounds_toArray, List.set_cons_zero, List.set_cons_succ]
  refine take_at (i := 12) 38 (.int .i64 (m : Int)) rfl rfl (by kernel_rfl) (by kernel_rfl) (by kernel_rfl) (fun _ _ _ h => h) (Or.inl ⟨by rfl, fun W hW => by go_simp⟩) hS ?_
  try simp only [List.setIfInBounds_toArray, List.set_cons_zero, List.set_cons_succ]
  refine take_at (i := 13) 39 (.agg #[.int .i64 (a : Int), .int .i64 (m : Int)]) rfl rfl (by kernel_rfl) (by kernel_rfl) (by kernel_rfl) (fun _ _ _ h => h) (Or.inl ⟨by rfl, fun W hW => by go_simp⟩) hS ?_
  try simp only [List.setIfInBounds_toArray, List.set_cons_zero, List.set_cons_succ]
  refine take_at (i := 14) 40 (.bool true) rfl rfl (by kernel_rfl) (by kernel_rfl) (by kernel_rfl) (fun _ _ _ h => h) (Or.inl ⟨by rfl, fun W hW => (exec_eql106 _ _ _ rfl rfl rfl).trans (by rw [hbq])⟩) hS ?_
  try simp only [List.setIfInBounds_toArray, List.set_cons_zero, List.set_cons_succ]
  refine wpAnyH_done (by kernel_rfl) ?_ _
  have cq := kq.cell 0
  have fq := kq.free 0
  have hM2 := hM.upd (upd_setCell W1 q 0 (.int .i64 ((o : Int) + 1)))
  have kq2 := kq.set 0 (.int .i64 ((o : Int) + 1))
  go_upto_region 7 with (fail)
  replace k0 := (k0.other (a := ⟨q, 0, none⟩) (by simp; omega) (.int .i64 ((o : Int) + 1))).drew.drew
  replace kb := (kb.other (a := ⟨q, 0, none⟩) (by simp; exact ff.ne) (.int .i64 ((o : Int) + 1))).drew.drew
  have rt2 : (W1.setCell ⟨q, 0, none⟩ (.int .i64 ((o : Int) + 1))).drew.drew.rangeAt tg (to + o * 16) (A8 16 (T o)).toList := rangeAt_below (rangeAt_upd rt (upd_setCell W1 q 0 (.int .i64 ((o : Int) + 1))) (ff.nt tg to rfl)) (Below.refl _ _).drew.drew
  replace kq2 := kq2.drew.drew
  replace hM2 := (hM2.trans (Mods.of_below (Below.refl _ _).drew)).trans (Mods.of_below (Below.refl _ _).drew)
  obtain ⟨W3, hW3⟩ : ∃ W3, (W1.setCell ⟨q, 0, none⟩ (.int .i64 ((o : Int) + 1))).drew.drew = W3 := ⟨_, rfl⟩
  rw [hW3] at k0 kb rt2 kq2 hM2 ⊢
  clear hW3 rt kq cq fq hM hr
  have rt := rt2
  replace kq : Blk W3 q #[.int .i64 ((o : Int) + 1)] 3 := kq2
  clear rt2 kq2
  refine wp_region_held_drew (S := fun w' => Blk w' q #[.int .i64 ((o : Int) + 1)] 3 ∧ Blk w' b #[lv, .slice (some ⟨bg, bo, none⟩) A.length bc, .slice (some ⟨tg, to, none⟩) n tc] 142 ∧ w'.rangeAt tg (to + o * 16) (A8 16 (T o)).toList) (by kernel_rfl) (⟨kq.drew, kb.drew, rangeAt_below rt (Below.refl _ _).drew⟩) (fun hS => ?_)
  simp only [List.size_toArray, List.length_cons, List.length_nil, Nat.reduceAdd, Array.replicate_succ, Array.replicate_zero, List.push_toArray, List.nil_append, List.cons_append]
  refine take_at (i := 0) 46 (.pointer (some ⟨b, 0, none⟩)) rfl rfl (by kernel_rfl) (by kernel_rfl) (by kernel_rfl) (fun _ _ _ h => h) (Or.inl ⟨by rfl, fun W hW => by go_simp⟩) hS ?_
  try simp only [List.setIfInBounds_toArray, List.set_cons_zero, List.set_cons_succ]
  refine take_at (i := 1) 47 (.pointer (some ⟨b, 0, none⟩)) rfl rfl (by kernel_rfl) (by kernel_rfl) (by kernel_rfl) (fun _ _ _ h => h) (Or.inl ⟨by rfl, fun W hW => by go_simp⟩) hS ?_
  try simp only [List.setIfInBounds_toArray, List.set_cons_zero, List.set_cons_succ]
  refine take_at (i := 2) 48 (.pointer (some ⟨b, 2, none⟩)) rfl rfl (by kernel_rfl) (by kernel_rfl) (by kernel_rfl) (fun _ _ _ h => h) (Or.inl ⟨by rfl, fun W hW => by go_simp⟩) hS ?_
  try simp only [List.setIfInBounds_toArray, List.set_cons_zero, List.set_cons_succ]
  refine take_at (i := 3) 49 (.slice (some ⟨tg, to, none⟩) n tc) rfl rfl (by kernel_rfl) (by kernel_rfl) (by kernel_rfl) (fun _ _ _ h => h) (Or.inl ⟨by rfl, fun W hW => by have hc := hW.2.1.cell 2; go_simp⟩) hS ?_
  try simp only [List.setIfInBounds_toArray, List.set_cons_zero, List.set_cons_succ]
  refine take_at (i := 4) 50 (.pointer (some ⟨q, 0, none⟩)) rfl rfl (by kernel_rfl) (by kernel_rfl) (by kernel_rfl) (fun _ _ _ h => h) (Or.inl ⟨by rfl, fun W hW => by go_simp⟩) hS ?_
  try simp only [List.setIfInBounds_toArray, List.set_cons_zero, List.set_cons_succ]
  refine take_at (i := 5) 51 (.pointer (some ⟨q, 0, none⟩)) rfl rfl (by kernel_rfl) (by kernel_rfl) (by kernel_rfl) (fun _ _ _ h => h) (Or.inl ⟨by rfl, fun W hW => by go_simp⟩) hS ?_
  try simp only [List.setIfInBounds_toArray, List.set_cons_zero, List.set_cons_succ]
  refine take_at (i := 6) 52 (.int .i64 ((o : Int) + 1)) rfl rfl (by kernel_rfl) (by kernel_rfl) (by kernel_rfl) (fun _ _ _ h => h) (Or.inl ⟨by rfl, fun W hW => by have hc := hW.1.cell 0; go_simp⟩) hS ?_
  try simp only [List.setIfInBounds_toArray, List.set_cons_zero, List.set_cons_succ]
  refine take_at (i := 7) 53 (.int .i64 (o : Int)) rfl rfl (by kernel_rfl) (by kernel_rfl) (by kernel_rfl) (fun _ _ _ h => h) (Or.inl ⟨by rfl, fun W hW => by go_simp⟩) hS ?_
  try simp only [List.setIfInBounds_toArray, List.set_cons_zero, List.set_cons_succ]
  refine take_at (i := 8) 54 (.pointer (some ⟨tg, to + o * 16, none⟩)) rfl rfl (by kernel_rfl) (by kernel_rfl) (by kernel_rfl) (fun _ _ _ h => h) (Or.inl ⟨by rfl, fun W hW => by go_simp⟩) hS ?_
  try simp only [List.setIfInBounds_toArray, List.set_cons_zero, List.set_cons_succ]
  refine take_at (i := 9) 55 (.agg (A8 16 (T o))) rfl rfl (by kernel_rfl) (by kernel_rfl) (by kernel_rfl) (fun _ _ _ h => h) (Or.inl ⟨by rfl, fun W hW => exec_load_range _ 23 _ rfl tg (to + o * 16) rfl hW.2.2 Tryd.underlying23 rfl size23 (A8.size _ _)⟩) hS ?_
  try simp only [List.setIfInBounds_toArray, List.set_cons_zero, List.set_cons_succ]
  refine wpAnyH_ready (rs := [10]) (by kernel_rfl) (by simp) ?_
  refine allReadyH_store rfl rfl (C' := A8 16 (T o)) 23 (.tmp 8) (.tmp 55) rfl w.heap.size rfl rfl k0.drew size23 (A8.size _ _) (A8.size _ _) (A8.one _) rfl (fun W9 hu k9 => ?_)
  refine ⟨⟨hS.1.upd hu (by omega), hS.2.1.upd hu (by omega), rangeAt_upd hS.2.2 hu (by omega)⟩, fun hS => ?_⟩
  try simp only [Act.put, List.getElem_toArray, List.getElem_cons_succ, List.getElem_cons_zero, List.setIfInBounds_toArray, List.set_cons_zero, List.set_cons_succ]
  refine wpAnyH_done (by kernel_rfl) ?_ _
  go_wp2_with fail
  exact ret_row rfl w.heap.size rfl k9 Tryd.underlying23 rfl size23 (A8.size _ _) rfl ⟨rfl, hS.1, (hM2.trans (Mods.of_below (Below.refl _ _).drew)).new hu (Nat.le_refl _)⟩
set_option maxRecDepth 20000 in
set_option maxHeartbeats 1000000 in
theorem ftop_step (b q o o1 o2 a m e h s n bc tc : Nat) (bp tp : Option Addr) (A : List (Nat × Nat)) (T : Nat → Nat → BitVec 8) (d1 d2 : Nat → BitVec 8) (lv : Value) (w : World) (hm : 2 ≤ m) (he : e = a + m) (hb : e ≤ 1099511627776) (hA : A.length ≤ 1000) (hh : halfN m = h) (hx : A[o]? = some (a, s)) (hsm : s < m) (hn : o < n)
    (r1 : ∀ W, FtR b q A n T lv bp bc tp tc W → Blk W q #[.int .i64 (o : Int)] 3 → Calls Tryd.prog 116 #[.pointer (some ⟨b, 0, none⟩), .int .i64 (a : Int), .int .i64 ((a : Int) + (h : Int)), .pointer (some ⟨q, 0, none⟩)] W fun e' w' => e' = .returned (.agg (A8 16 d1)) ∧ Blk w' q #[.int .i64 (o1 : Int)] 3 ∧ Mods q W w')
    (r2 : ∀ W, FtR b q A n T lv bp bc tp tc W → Blk W q #[.int .i64 (o1 : Int)] 3 → Calls Tryd.prog 116 #[.pointer (some ⟨b, 0, none⟩), .int .i64 ((a : Int) + (h : Int)), .int .i64 (e : Int), .pointer (some ⟨q, 0, none⟩)] W fun e' w' => e' = .returned (.agg (A8 16 d2)) ∧ Blk w' q #[.int .i64 (o2 : Int)] 3 ∧ Mods q W w')
    (hf : FtR b q A n T lv bp bc tp tc w) (hq : Blk w q #[.int .i64 (o : Int)] 3) :
    Calls Tryd.prog 116 #[.pointer (some ⟨b, 0, none⟩), .int .i64 (a : Int), .int .i64 (e : Int), .pointer (some ⟨q, 0, none⟩)] w fun e' w' => e' = .returned (.agg (A8 16 (nodeD d1 d2))) ∧ Blk w' q #[.int .i64 (o2 : Int)] 3 ∧ Mods q w w' := by
  have ho := (List.getElem?_eq_some_iff.1 hx).1
  have hfa := halfN_facts m hm (by omega)
  have c78 := fun w => half_any m hm (by omega) w
  rw [hh] at hfa c78
  have k0 := Blk.new w (A8 16 fun _ => 0#8) 23
  have hM := (Mods.refl q w).alloc (.cells (A8 16 fun _ => 0#8) 23)
  have kq := hq.alloc (.cells (A8 16 fun _ => 0#8) 23)
  have hqw := hq.lt
  have ff := hf.mods hM
  obtain ⟨W1, hW1⟩ : ∃ W1, w.alloc (.cells (A8 16 fun _ => 0#8) 23) = W1 := ⟨_, rfl⟩
  rw [hW1] at k0 hM kq ff
  have hq := ff.at hx hn
  obtain ⟨bg, bo, tg, to, rfl, rfl, hr, rt⟩ := hq
  clear rt
  have kb := ff.blk
  have hbq : ((a : Int) == (a : Int) && (s : Int) == (m : Int)) = false := by
    rw [Bool.and_eq_false_iff]
    exact .inr (beq_eq_false_iff_ne.2 (by omega))
  dsimp only at hr
  have hne : ¬ (a : Int) = (e : Int) := by omega
  have hne2 : ((a : Int) == (e : Int)) = false := beq_eq_false_iff_ne.2 hne
  have hm1 : ¬ (m : Int) = 1 := by omega
  have hm2 : ((m : Int) == 1) = false := beq_eq_false_iff_ne.2 hm1
  have hsub : (e : Int) - (a : Int) = (m : Int) := by omega
  have hwm : IntKind.i64.wrap (m : Int) = (m : Int) := IntWalk.i64_in _ (by omega)
  have hwh : IntKind.i64.wrap ((a : Int) + (h : Int)) = (a : Int) + (h : Int) := IntWalk.i64_in _ (by omega)
  have hwo : IntKind.i64.wrap (o : Int) = (o : Int) := IntWalk.i64_in _ (by omega)
  have ho1 : (o : Int) < (A.length : Int) := by omega
  have ho2 : ¬ (A.length : Int) ≤ (o : Int) := by omega
  have R1 := hide r1
  have R2 := hide r2
  have C78 := hide c78
  clear hf he hx hm hfa r1 r2 c78 hh hsm
  go_enter Tryd.func116, Tryd.ntmps116
  go_upto_region 3 with (fail)
  try rw [hW1]
  clear hW1
  refine wp_region_held_drew (S := fun w' => Blk w' q #[.int .i64 (o : Int)] 3 ∧ Blk w' b #[lv, .slice (some ⟨bg, bo, none⟩) A.length bc, .slice (some ⟨tg, to, none⟩) n tc] 142) (by kernel_rfl) (⟨kq.drew, kb.drew⟩) (fun hS => ?_)
  simp only [List.size_toArray, List.length_cons, List.length_nil, Nat.reduceAdd, Array.replicate_succ, Array.replicate_zero, List.push_toArray, List.nil_append, List.cons_append]
  refine take_at (i := 0) 15 (.pointer (some ⟨q, 0, none⟩)) rfl rfl (by kernel_rfl) (by kernel_rfl) (by kernel_rfl) (fun _ _ _ h => h) (Or.inl ⟨by rfl, fun W hW => by go_simp⟩) hS ?_
  try simp only [List.setIfInBounds_toArray, List.set_cons_zero, List.set_cons_succ]
  refine take_at (i := 1) 16 (.pointer (some ⟨q, 0, none⟩)) rfl rfl (by kernel_rfl) (by kernel_rfl) (by kernel_rfl) (fun _ _ _ h => h) (Or.inl ⟨by rfl, fun W hW => by go_simp⟩) hS ?_
  try simp only [List.setIfInBounds_toArray, List.set_cons_zero, List.set_cons_succ]
  refine take_at (i := 2) 17 (.int .i64 (o : Int)) rfl rfl (by kernel_rfl) (by kernel_rfl) (by kernel_rfl) (fun _ _ _ h => h) (Or.inl ⟨by rfl, fun W hW => by have hc := hW.1.cell 0; go_simp⟩) hS ?_
  try simp only [List.setIfInBounds_toArray, List.set_cons_zero, List.set_cons_succ]
  refine take_at (i := 3) 18 (.pointer (some ⟨b, 0, none⟩)) rfl rfl (by kernel_rfl) (by kernel_rfl) (by kernel_rfl) (fun _ _ _ h => h) (Or.inl ⟨by rfl, fun W hW => by go_simp⟩) hS ?_
  try simp only [List.setIfInBounds_toArray, List.set_cons_zero, List.set_cons_succ]
  refine take_at (i := 4) 19 (.pointer (some ⟨b, 0, none⟩)) rfl rfl (by kernel_rfl) (by kernel_rfl) (by kernel_rfl) (fun _ _ _ h => h) (Or.inl ⟨by rfl, fun W hW => by go_simp⟩) hS ?_
  try simp only [List.setIfInBounds_toArray, List.set_cons_zero, List.set_cons_succ]
  refine take_at (i := 5) 20 (.pointer (some ⟨b, 1, none⟩)) rfl rfl (by kernel_rfl) (by kernel_rfl) (by kernel_rfl) (fun _ _ _ h => h) (Or.inl ⟨by rfl, fun W hW => by go_simp⟩) hS ?_
  try simp only [List.setIfInBounds_toArray, List.set_cons_zero, List.set_cons_succ]
  refine take_at (i := 6) 21 (.slice (some ⟨bg, bo, none⟩) A.length bc) rfl rfl (by kernel_rfl) (by kernel_rfl) (by kernel_rfl) (fun _ _ _ h => h) (Or.inl ⟨by rfl, fun W hW => by have hc := hW.2.cell 1; go_simp⟩) hS ?_
  try simp only [List.setIfInBounds_toArray, List.set_cons_zero, List.set_cons_succ]
  refine take_at (i := 7) 22 (.int .i64 (A.length : Int)) rfl rfl (by kernel_rfl) (by kernel_rfl) (by kernel_rfl) (fun _ _ _ h => h) (Or.inl ⟨by rfl, fun W hW => by go_simp⟩) hS ?_
  try simp only [List.setIfInBounds_toArray, List.set_cons_zero, List.set_cons_succ]
  refine take_at (i := 8) 23 (.bool false) rfl rfl (by kernel_rfl) (by kernel_rfl) (by kernel_rfl) (fun _ _ _ h => h) (Or.inl ⟨by rfl, fun W hW => by go_simp⟩) hS ?_
  try simp only [List.setIfInBounds_toArray, List.set_cons_zero, List.set_cons_succ]
  refine wpAnyH_done (by kernel_rfl) ?_ _
  go_upto_region 5 with (fail)
  refine wp_region_held_drew (S := fun w' => Blk w' q #[.int .i64 (o : Int)] 3 ∧ Blk w' b #[lv, .slice (some ⟨bg, bo, none⟩) A.length bc, .slice (some ⟨tg, to, none⟩) n tc] 142 ∧ w'.rangeAt bg (bo + o * 2) #[.int .i64 (a : Int), .int .i64 (s : Int)].toList) (by kernel_rfl) (⟨kq.drew, kb.drew, rangeAt_below hr (Below.refl _ _).drew⟩) (fun hS => ?_)
  simp only [List.size_toArray, List.length_cons, List.length_nil, Nat.reduceAdd, Array.replicate_succ, Array.replicate_zero, List.push_toArray, List.nil_append, List.cons_append]
  refine take_at (i := 0) 26 (.pointer (some ⟨b, 0, none⟩)) rfl rfl (by kernel_rfl) (by kernel_rfl) (by kernel_rfl) (fun _ _ _ h => h) (Or.inl ⟨by rfl, fun W hW => by go_simp⟩) hS ?_
  try simp only [List.setIfInBounds_toArray, List.set_cons_zero, List.set_cons_succ]
  refine take_at (i := 1) 27 (.pointer (some ⟨b, 0, none⟩)) rfl rfl (by kernel_rfl) (by kernel_rfl) (by kernel_rfl) (fun _ _ _ h => h) (Or.inl ⟨by rfl, fun W hW => by go_simp⟩) hS ?_
  try simp only [List.setIfInBounds_toArray, List.set_cons_zero, List.set_cons_succ]
  refine take_at (i := 2) 28 (.pointer (some ⟨b, 1, none⟩)) rfl rfl (by kernel_rfl) (by kernel_rfl) (by kernel_rfl) (fun _ _ _ h => h) (Or.inl ⟨by rfl, fun W hW => by go_simp⟩) hS ?_
  try simp only [List.setIfInBounds_toArray, List.set_cons_zero, List.set_cons_succ]
  refine take_at (i := 3) 29 (.slice (some ⟨bg, bo, none⟩) A.length bc) rfl rfl (by kernel_rfl) (by kernel_rfl) (by kernel_rfl) (fun _ _ _ h => h) (Or.inl ⟨by rfl, fun W hW => by have hc := hW.2.1.cell 1; go_simp⟩) hS ?_
  try simp only [List.setIfInBounds_toArray, List.set_cons_zero, List.set_cons_succ]
  refine take_at (i := 4) 30 (.pointer (some ⟨q, 0, none⟩)) rfl rfl (by kernel_rfl) (by kernel_rfl) (by kernel_rfl) (fun _ _ _ h => h) (Or.inl ⟨by rfl, fun W hW => by go_simp⟩) hS ?_
  try simp only [List.setIfInBounds_toArray, List.set_cons_zero, List.set_cons_succ]
  refine take_at (i := 5) 31 (.pointer (some ⟨q, 0, none⟩)) rfl rfl (by kernel_rfl) (by kernel_rfl) (by kernel_rfl) (fun _ _ _ h => h) (Or.inl ⟨by rfl, fun W hW => by go_simp⟩) hS ?_
  try simp only [List.setIfInBounds_toArray, List.set_cons_zero, List.set_cons_succ]
  refine take_at (i := 6) 32 (.int .i64 (o : Int)) rfl rfl (by kernel_rfl) (by kernel_rfl) (by kernel_rfl) (fun _ _ _ h => h) (Or.inl ⟨by rfl, fun W hW => by have hc := hW.1.cell 0; go_simp⟩) hS ?_
  try simp only [List.setIfInBounds_toArray, List.set_cons_zero, List.set_cons_succ]
  refine take_at (i := 7) 33 (.pointer (some ⟨bg, bo + o * 2, none⟩)) rfl rfl (by kernel_rfl) (by kernel_rfl) (by kernel_rfl) (fun _ _ _ h => h) (Or.inl ⟨by rfl, fun W hW => by go_simp⟩) hS ?_
  try simp only [List.setIfInBounds_toArray, List.set_cons_zero, List.set_cons_succ]
  refine take_at (i := 8) 34 (.agg #[.int .i64 (a : Int), .int .i64 (s : Int)]) rfl rfl (by kernel_rfl) (by kernel_rfl) (by kernel_rfl) (fun _ _ _ h => h) (Or.inl ⟨by rfl, fun W hW => exec_load_range _ 106 _ rfl bg (bo + o * 2) rfl hW.2.2 Tryd.underlying106 rfl size106 rfl⟩) hS ?_
  try simp only [List.setIfInBounds_toArray, List.set_cons_zero, List.set_cons_succ]
  refine take_at (i := 9) 35 (.int .i64 (a : Int)) rfl rfl (by kernel_rfl) (by kernel_rfl) (by kernel_rfl) (fun _ _ _ h => h) (Or.inl ⟨by rfl, fun W hW => by go_simp⟩) hS ?_
  try simp only [List.setIfInBounds_toArray, List.set_cons_zero, List.set_cons_succ]
  refine take_at (i := 10) 36 (.int .i64 (e : Int)) rfl rfl (by kernel_rfl) (by kernel_rfl) (by kernel_rfl) (fun _ _ _ h => h) (Or.inl ⟨by rfl, fun W hW => by go_simp⟩) hS ?_
  try simp only [List.setIfInBounds_toArray, List.set_cons_zero, List.set_cons_succ]
  refine take_at (i := 11) 37 (.int .i64 (a : Int)) rfl rfl (by kernel_rfl) (by kernel_rfl) (by kernel_rfl) (fun _ _ _ h => h) (Or.inl ⟨by rfl, fun W hW => by go_simp⟩) hS ?_
  try simp only [List.setIfInBounds_toArray, List.set_cons_zero, List.set_cons_succ]
  refine take_at (i := 12) 38 (.int .i64 (m : Int)) rfl rfl (by kernel_rfl) (by kernel_rfl) (by kernel_rfl) (fun _ _ _ h => h) (Or.inl ⟨by rfl, fun W hW => by go_simp⟩) hS ?_
  try simp only [List.setIfInBounds_toArray, List.set_cons_zero, List.set_cons_succ]
  refine take_at (i := 13) 39 (.agg #[.int .i64 (a : Int), .int .i64 (m : Int)]) rfl rfl (by kernel_rfl) (by kernel_rfl) (by kernel_rfl) (fun _ _ _ h => h) (Or.inl ⟨by rfl, fun W hW => by go_simp⟩) hS ?_
  try simp only [List.setIfInBounds_toArray, List.set_cons_zero, List.set_cons_succ]
  refine take_at (i := 14) 40 (.bool false) rfl rfl (by kernel_rfl) (by kernel_rfl) (by kernel_rfl) (fun _ _ _ h => h) (Or.inl ⟨by rfl, fun W hW => (exec_eql106 _ _ _ rfl rfl rfl).trans (by rw [hbq])⟩) hS ?_
  try simp only [List.setIfInBounds_toArray, List.set_cons_zero, List.set_cons_succ]
  refine wpAnyH_done (by kernel_rfl) ?_ _
  go_wp2_with fail
  refine (C78.out _).mono ?_
  rintro e' w' ⟨rfl, rfl⟩
  go_wp2_with fail
  refine (R1.out _ ff.drew.drew kq.drew.drew).mono ?_
  rintro e' X0 ⟨rfl, kq1, hm0⟩
  replace k0 := k0.drew.drew.mods hm0 (by omega)
  replace ff := ff.drew.drew.mods hm0
  replace hM := ((hM.trans (Mods.of_below (Below.refl _ _).drew)).trans (Mods.of_below (Below.refl _ _).drew)).trans hm0
  have n10 := Blk.new X0 (A8 16 fun _ => 0#8) 23
  clear hr kb kq hm0
  go_wp2_with (refine wp_storeRow (C' := A8 16 d1) rfl 23 _ _ rfl _ rfl rfl n10 size23 (A8.size _ _) (A8.size _ _) (A8.one _) rfl ?_; intro W3 hu kl)
  have hb3 : Below X0.heap.size X0 W3 := hu.below ((Below.refl _ _).alloc (Nat.le_refl _) _) (Nat.le_refl _)
  have l0 := k0.lt
  have l1 := kq1.lt
  replace k0 := k0.below hb3 k0.lt
  have kq := kq1.below hb3 kq1.lt
  replace ff := ff.below hb3
  replace hM := hM.trans (Mods.of_below hb3)
  clear hb3 hu n10 kq1
  generalize X0.heap.size = LB at kl l0 l1 ⊢
  refine wp_region_held_drew (S := fun w' => Blk w' LB (A8 16 d1) 23) (by kernel_rfl) (kl.drew) (fun hS => ?_)
  simp only [List.size_toArray, List.length_cons, List.length_nil, Nat.reduceAdd, Array.replicate_succ, Array.replicate_zero, List.push_toArray, List.nil_append, List.cons_append]
  refine take_at (i := 0) 73 (.agg (A8 16 d1)) rfl rfl (by kernel_rfl) (by kernel_rfl) (by kernel_rfl) (fun _ _ _ h => h) (Or.inl ⟨by rfl, fun W hW => exec_load_blk hW⟩) hS ?_
  try simp only [List.setIfInBounds_toArray, List.set_cons_zero, List.set_cons_succ]
  refine take_at (i := 1) 74 (.pointer (some ⟨b, 0, none⟩)) rfl rfl (by kernel_rfl) (by kernel_rfl) (by kernel_rfl) (fun _ _ _ h => h) (Or.inl ⟨by rfl, fun W hW => by go_simp⟩) hS ?_
  try simp only [List.setIfInBounds_toArray, List.set_cons_zero, List.set_cons_succ]
  refine take_at (i := 2) 75 (.int .i64 (a : Int)) rfl rfl (by kernel_rfl) (by kernel_rfl) (by kernel_rfl) (fun _ _ _ h => h) (Or.inl ⟨by rfl, fun W hW => by go_simp⟩) hS ?_
  try simp only [List.setIfInBounds_toArray, List.set_cons_zero, List.set_cons_succ]
  refine take_at (i := 3) 76 (.int .i64 (h : Int)) rfl rfl (by kernel_rfl) (by kernel_rfl) (by kernel_rfl) (fun _ _ _ h => h) (Or.inl ⟨by rfl, fun W hW => by go_simp⟩) hS ?_
  try simp only [List.setIfInBounds_toArray, List.set_cons_zero, List.set_cons_succ]
  refine take_at (i := 4) 77 (.int .i64 ((a : Int) + (h : Int))) rfl rfl (by kernel_rfl) (by kernel_rfl) (by kernel_rfl) (fun _ _ _ h => h) (Or.inl ⟨by rfl, fun W hW => by go_simp⟩) hS ?_
  try simp only [List.setIfInBounds_toArray, List.set_cons_zero, List.set_cons_succ]
  refine take_at (i := 5) 78 (.int .i64 (e : Int)) rfl rfl (by kernel_rfl) (by kernel_rfl) (by kernel_rfl) (fun _ _ _ h => h) (Or.inl ⟨by rfl, fun W hW => by go_simp⟩) hS ?_
  try simp only [List.setIfInBounds_toArray, List.set_cons_zero, List.set_cons_succ]
  refine take_at (i := 6) 79 (.pointer (some ⟨q, 0, none⟩)) rfl rfl (by kernel_rfl) (by kernel_rfl) (by kernel_rfl) (fun _ _ _ h => h) (Or.inl ⟨by rfl, fun W hW => by go_simp⟩) hS ?_
  try simp only [List.setIfInBounds_toArray, List.set_cons_zero, List.set_cons_succ]
  refine wpAnyH_ready (rs := [7]) (by kernel_rfl) (by simp) ?_
  refine AllReadyH.cons rfl (fun K hK => ?_) AllReadyH.nil
  go_simp
  refine (R2.out _ ff.drew kq.drew).mono ?_
  rintro e X1 ⟨rfl, kq1, hm1⟩
  refine hK.out _ _ (hS.mods hm1 (by omega)) (fun hS => ?_)
  clear hK K
  have k0 := k0.drew.mods hm1 (by omega)
  have hM := (hM.trans (Mods.of_below (Below.refl _ _).drew)).trans hm1
  try simp only [Act.put, List.getElem_toArray, List.getElem_cons_succ, List.getElem_cons_zero, List.setIfInBounds_toArray, List.set_cons_zero, List.set_cons_succ]
  refine wpAnyH_ready (rs := [8]) (by kernel_rfl) (by simp) ?_
  refine AllReadyH.cons rfl (fun K hK => ?_) AllReadyH.nil
  go_simp
  refine (join_any _ _ _).mono ?_
  rintro e X2 ⟨rfl, hb2⟩
  refine hK.out _ _ (hS.below hb2 hS.lt) (fun hS => ?_)
  clear hK K
  have k0 := k0.below hb2 k0.lt
  have kq2 := kq1.below hb2 kq1.lt
  have hM := hM.trans (Mods.of_below hb2)
  try simp only [Act.put, List.getElem_toArray, List.getElem_cons_succ, List.getElem_cons_zero, List.setIfInBounds_toArray, List.set_cons_zero, List.set_cons_succ]
  refine wpAnyH_ready (rs := [9]) (by kernel_rfl) (by simp) ?_
  refine allReadyH_store rfl rfl (C' := A8 16 (nodeD d1 d2)) 23 (.tmp 8) (.tmp 81) rfl w.heap.size rfl rfl k0 size23 (A8.size _ _) (A8.size _ _) (A8.one _) rfl (fun W9 hu k9 => ?_)
  refine ⟨hS.upd hu (by omega), fun hS => ?_⟩
  try simp only [Act.put, List.getElem_toArray, List.getElem_cons_succ, List.getElem_cons_zero, List.setIfInBounds_toArray, List.set_cons_zero, List.set_cons_succ]
  refine wpAnyH_done (by kernel_rfl) ?_ _
  go_wp2_with fail
  exact ret_row rfl w.heap.size rfl k9 Tryd.underlying23 rfl size23 (A8.size _ _) rfl ⟨rfl, kq2.upd hu (by omega), hM.new hu (Nat.le_refl _)⟩
end Go.Proofs.YtdpgebifeaakjaaDoor

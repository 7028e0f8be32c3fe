/- Texts put together for one claim: part 8. -/
import Derived.Test.YtdpgebifeaakjaaDoorProg
import Derived.WalkKit
import Derived.WalkSpells
import Derived.WalkLawsBesides
import Derived.ChangeKeysEq
import Derived.Deep.RegionHeld3
import Derived.BigQuiet
import Derived.Deep.QuietTactic
import Derived.Deep.MidRow
import Derived.StillTailTactics
import Derived.Laws.AppendOwn
import Derived.Lib.ConvBytes
import Derived.Shelf.Spec.TrailingZeros
import Derived.Laws.FloatArith
import Derived.Laws.CopyOwn
import Derived.BigRegion
import Derived.Deep.Cut
import Derived.ArgAppend
import Derived.Shelf.Strconv.Itoa0
import Derived.RangeFuncNested
import Derived.RangeFuncBound
import Derived.RangeFuncCalls
import Derived.RangeFuncLeaves
import Derived.Shelf.Abstract
import Derived.OwnWalkIn
import Derived.TacticsInMore
import Derived.LoopNIn
import Derived.LoopIn
import Derived.RangeFuncBox
import Derived.Maps.AppendAt
import Derived.Laws.OwnMore
import Derived.Laws.StructEq
import Derived.Deep.RegionHeld
import Derived.Laws.BitsLemmas
import Derived.OwnWalk
import Derived.StillTactics
import Derived.Deep.AppendLies
import Derived.Test.YtdpgebifeaakjaaDoorRows
import Derived.ProofKit
import Derived.LaidMore
import Derived.OpenShut
import Derived.Stop.Joined
import Derived.Carry
import Derived.SevenTiedAt
import Derived.Deep.Slices
import Derived.Laws.AppendOwnNone
import Derived.Defers
import Derived.Recover
import Derived.Test.YtdpgebifeaakjaaDoorX7
/- The walk of top. -/
namespace Go.Proofs.YtdpgebifeaakjaaDoor
set_option linter.unusedSimpArgs false
set_option linter.unusedVariables false
open Go.RowKit
theorem size106 : (Tryd.prog.info? 106).map (·.size) = some 2 := by kernel_rfl
theorem eql_block (a b c d : Int) (w : World) : (binOp .eql 106 (.agg #[.int .i64 a, .int .i64 b]) (.agg #[.int .i64 c, .int .i64 d])).run Tryd.prog w = .ok (.bool (a == c && b == d)) w := by
  have hf : Tryd.prog.fieldsOf 106 = #[{ name := "At", type := 3, offset := 0, embedded := false, tag := "", pkgPath := "", byteOffset := 0 }, { name := "Size", type := 3, offset := 1, embedded := false, tag := "", pkgPath := "", byteOffset := 8 }] := by
    simp [Program.fieldsOf, Tryd.underlying106]
  rw [run_eql_struct, run_equalIn_struct _ _ _ _ _ (by rw [hf]; exact Tryd.underlying106) Tryd.stoodInHeld106, hf]
  have p1 : ∀ (x y : Int) (w : World), (part 3 #[.int .i64 x, .int .i64 y] 0).run Tryd.prog w = .ok (.int .i64 x) w := fun _ _ _ => by kernel_rfl
  have p2 : ∀ (x y : Int) (w : World), (part 3 #[.int .i64 x, .int .i64 y] 1).run Tryd.prog w = .ok (.int .i64 y) w := fun _ _ _ => by kernel_rfl
  have q : ∀ (x y : Int) (w : World), (Op.equalIn 9999 3 (.int .i64 x) (.int .i64 y)).run Tryd.prog w = .ok (x == y) w := fun x y w => run_equalIn_int w 9998 3 .i64 _ x y Tryd.underlying3
  by_cases h1 : a = c
  · by_cases h2 : b = d
    · simp [Op.eqFields, p1, p2, q, h1, h2]
    · simp [Op.eqFields, p1, p2, q, h1, h2]
  · simp [Op.eqFields, p1, p2, q, h1]
theorem exec_eql106 {o : Oper} {w : World} (ρ : Operand → Value) (x y : Operand) (ho : o.op = .binOp .eql 106 x y 106) {a b c d : Int} (hx : ρ x = .agg #[.int .i64 a, .int .i64 b]) (hy : ρ y = .agg #[.int .i64 c, .int .i64 d]) :
    (execOp ρ o).run Tryd.prog w = .ok (.value (.bool (a == c && b == d))) w := by
  unfold execOp
  simp [ho, hx, hy, eql_block, eqGuard, go_sem]
/-- A forest that is read; q is the counter. -/
structure FtR (b q : Nat) (A : List (Nat × Nat)) (n : Nat) (T : Nat → Nat → BitVec 8) (lv : Value) (bp : Option Addr) (bc : Nat) (tp : Option Addr) (tc : Nat) (W : World) : Prop where
  blk : Blk W b #[lv, .slice bp A.length bc, .slice tp n tc] 142
  bl : SlC W (.slice bp A.length bc) A
  tl : Digs W (.slice tp n tc) n T
  ne : b ≠ q
  nb : ∀ g o, bp = some ⟨g, o, none⟩ → g ≠ q
  nt : ∀ g o, tp = some ⟨g, o, none⟩ → g ≠ q
theorem FtR.mods {b q : Nat} {A : List (Nat × Nat)} {n : Nat} {T : Nat → Nat → BitVec 8} {lv : Value} {bp : Option Addr} {bc : Nat} {tp : Option Addr} {tc : Nat} {W W' : World} (h : FtR b q A n T lv bp bc tp tc W) (hm : Mods q W W') : FtR b q A n T lv bp bc tp tc W' := by
  have cell : ∀ (g o : Nat) (v : Value), g ≠ q → W.cell? ⟨g, o, none⟩ = some v → W'.cell? ⟨g, o, none⟩ = some v := fun g o v hg hc => (World.cell?_of_block (hm.block g (World.block_lt_of_cell? W _ hc) hg)).trans hc
  refine ⟨h.blk.mods hm h.ne, ?_, ?_, h.ne, h.nb, h.nt⟩
  · obtain ⟨p, c, e, h1, h2⟩ := h.bl
    refine ⟨p, c, e, h1, fun j x hx => ?_⟩
    obtain ⟨g, o, hp, c0, c1⟩ := h2 j x hx
    injection e with e1
    have := h.nb g o (e1.trans hp)
    exact ⟨g, o, hp, cell _ _ _ this c0, cell _ _ _ this c1⟩
  · obtain ⟨p, c, e, h1, h2⟩ := h.tl
    refine ⟨p, c, e, h1, fun j hj => ?_⟩
    obtain ⟨g, o, hp, hr⟩ := h2 j hj
    injection e with e1
    have := h.nt g o (e1.trans hp)
    exact ⟨g, o, hp, fun i v hv => cell _ _ _ this (hr i v hv)⟩
theorem FtR.drew {b q : Nat} {A : List (Nat × Nat)} {n : Nat} {T : Nat → Nat → BitVec 8} {lv : Value} {bp : Option Addr} {bc : Nat} {tp : Option Addr} {tc : Nat} {W : World} (h : FtR b q A n T lv bp bc tp tc W) : FtR b q A n T lv bp bc tp tc W.drew := h.mods (Mods.of_below (Below.refl _ _).drew)
theorem FtR.below {b q : Nat} {A : List (Nat × Nat)} {n : Nat} {T : Nat → Nat → BitVec 8} {lv : Value} {bp : Option Addr} {bc : Nat} {tp : Option Addr} {tc : Nat} {W W' : World} (h : FtR b q A n T lv bp bc tp tc W) (hb : Below W.heap.size W W') : FtR b q A n T lv bp bc tp tc W' := h.mods (Mods.of_below hb)
theorem FtR.at {b q : Nat} {A : List (Nat × Nat)} {n : Nat} {T : Nat → Nat → BitVec 8} {lv : Value} {bp : Option Addr} {bc : Nat} {tp : Option Addr} {tc : Nat} {W : World} (h : FtR b q A n T lv bp bc tp tc W) {j : Nat} {x : Nat × Nat} (hj : A[j]? = some x) (hn : j < n) :
    ∃ bg bo tg to, bp = some ⟨bg, bo, none⟩ ∧ tp = some ⟨tg, to, none⟩ ∧ W.rangeAt bg (bo + j * 2) #[.int .i64 (x.1 : Int), .int .i64 (x.2 : Int)].toList ∧ W.rangeAt tg (to + j * 16) (A8 16 (T j)).toList := by
  obtain ⟨p, c, e, h1, h2⟩ := h.bl
  obtain ⟨p', c', e', h1', h2'⟩ := h.tl
  obtain ⟨bg, bo, rfl, c0, c1⟩ := h2 j x hj
  obtain ⟨tg, to, rfl, hr⟩ := h2' j hn
  injection e with e
  injection e' with e'
  refine ⟨bg, bo, tg, to, e, e', fun i v hv => ?_, hr⟩
  match i, hv with
  | 0, hv => injection hv with hv; subst hv; exact c0
  | 1, hv => injection hv with hv; subst hv; exact c1
  | i + 2, hv => cases hv
set_option maxRecDepth 20000 in
set_option maxHeartbeats 1000000 in
theorem ftop_zero (b q a : Nat) (w : World) : Calls Tryd.prog 116 #[.pointer (some ⟨b, 0, none⟩), .int .i64 (a : Int), .int .i64 (a : Int), .pointer (some ⟨q, 0, none⟩)] w fun e' w' => e' = .returned (.agg (A8 16 (sha []))) ∧ Below w.heap.size w w' := by
  have k0 := Blk.new w (A8 16 fun _ => 0#8) 23
  have hB : Below w.heap.size w (w.alloc (.cells (A8 16 fun _ => 0#8) 23)) := (Below.refl _ _).alloc (Nat.le_refl _) _
  have c0 := fun w => sum_any ⟨#[]⟩ (by decide) w
  go_enter Tryd.func116, Tryd.ntmps116
  go_wp2_with fail
  refine (c0 _).mono ?_
  rintro e W1 ⟨rfl, hb⟩
  replace hB := hB.trans (hb.mono hB.size)
  replace k0 := k0.below hb k0.lt
  go_wp2_with (refine wp_storeRow (C' := A8 16 (sha [])) rfl 23 _ _ rfl _ rfl rfl k0 size23 (A8.size _ _) (A8.size _ _) (A8.one _) rfl ?_; intro W4 hu k9)
  exact ret_row rfl w.heap.size rfl k9 Tryd.underlying23 rfl size23 (A8.size _ _) rfl ⟨rfl, hu.below hB (Nat.le_refl _)⟩
set_option maxRecDepth 20000 in
set_option maxHeartbeats 1000000 in
theorem ftop_base (b q o a m e n bc tc : Nat) (bp tp : Option Addr) (A : List (Nat × Nat)) (T : Nat → Nat → BitVec 8) (lv : Value) (w : World) (hm : 0 < m) (he : e = a + m) (hb : e ≤ 1099511627776) (hA : A.length ≤ 1000) (hx : A[o]? = some (a, m)) (hn : o < n)
    (hf : FtR b q A n T lv bp bc tp tc w) (hq : Blk w q #[.int .i64 (o : Int)] 3) :
    Calls Tryd.prog 116 #[.pointer (some ⟨b, 0, none⟩), .int .i64 (a : Int), .int .i64 (e : Int), .pointer (some ⟨q, 0, none⟩)] w fun e' w' => e' = .returned (.agg (A8 16 (T o))) ∧ Blk w' q #[.int .i64 ((o + 1 : Nat) : Int)] 3 ∧ Mods q w w' := by
  have ho := (List.getElem?_eq_some_iff.1 hx).1
  have k0 := Blk.new w (A8 16 fun _ => 0#8) 23
  have hM := (Mods.refl q w).alloc (.cells (A8 16 fun _ => 0#8) 23)
  have kq := hq.alloc (.cells (A8 16 fun _ => 0#8) 23)
  have hqw := hq.lt
  have ff := hf.mods hM
  obtain ⟨W1, hW1⟩ : ∃ W1, w.alloc (.cells (A8 16 fun _ => 0#8) 23) = W1 := ⟨_, rfl⟩
  have hB1 : Below w.heap.size w W1 := by rw [← hW1]; exact (Below.refl _ _).alloc (Nat.le_refl _) _
  have hbw := hf.blk.lt
  have hat := hf.at hx hn
  rw [hW1] at k0 hM kq ff
  obtain ⟨s, hs⟩ : ∃ s, s = m := ⟨_, rfl⟩
  obtain ⟨bg, bo, tg, to, rfl, rfl, hr, rt⟩ := hat
  have htw : tg < w.heap.size := World.block_lt_of_cell? w _ (rt 0 _ (by rw [Array.getElem?_toList, A8.get _ (by omega)]))
  replace hr := rangeAt_below hr hB1
  replace rt := rangeAt_below rt hB1
  have kb := ff.blk
  have hbq : ((a : Int) == (a : Int) && (s : Int) == (m : Int)) = true := by subst hs; simp
  dsimp only at hr
  rw [← hs] at hr
  have hne : ¬ (a : Int) = (e : Int) := by omega
  have hne2 : ((a : Int) == (e : Int)) = false := beq_eq_false_iff_ne.2 hne
  have hsub : (e : Int) - (a : Int) = (m : Int) := by omega
  have hwm : IntKind.i64.wrap (m : Int) = (m : Int) := IntWalk.i64_in _ (by omega)
  have hwo : IntKind.i64.wrap (o : Int) = (o : Int) := IntWalk.i64_in _ (by omega)
  have hwo1 : IntKind.i64.wrap ((o : Int) + 1) = (o : Int) + 1 := IntWalk.i64_in _ (by omega)
  have ho1 : (o : Int) < (A.length : Int) := by omega
  have ho2 : ¬ (A.length : Int) ≤ (o : Int) := by omega
  have ho3 : (o : Int) < (n : Int) := by omega
  have ho4 : ¬ (n : Int) ≤ (o : Int) := by omega
  have HS := hide hs
  clear hf he hx hs hm
  go_enter Tryd.func116, Tryd.ntmps116
  go_upto_region 3 with (fail)
  try rw [hW1]
  clear hW1
  refine wp_region_held_drew (S := fun w' => Blk w' q #[.int .i64 (o : Int)] 3 ∧ Blk w' b #[lv, .slice (some ⟨bg, bo, none⟩) A.length bc, .slice (some ⟨tg, to, none⟩) n tc] 142) (by kernel_rfl) (⟨kq.drew, kb.drew⟩) (fun hS => ?_)
  simp only [List.size_toArray, List.length_cons, List.length_nil, Nat.reduceAdd, Array.replicate_succ, Array.replicate_zero, List.push_toArray, List.nil_append, List.cons_append]
  refine take_at (i := 0) 15 (.pointer (some ⟨q, 0, none⟩)) rfl rfl (by kernel_rfl) (by kernel_rfl) (by kernel_rfl) (fun _ _ _ h => h) (Or.inl ⟨by rfl, fun W hW => by go_simp⟩) hS ?_
  try simp only [List.setIfInBounds_toArray, List.set_cons_zero, List.set_cons_succ]
  refine take_at (i := 1) 16 (.pointer (some ⟨q, 0, none⟩)) rfl rfl (by kernel_rfl) (by kernel_rfl) (by kernel_rfl) (fun _ _ _ h => h) (Or.inl ⟨by rfl, fun W hW => by go_simp⟩) hS ?_
  try simp only [List.setIfInBounds_toArray, List.set_cons_zero, List.set_cons_succ]
  refine take_at (i := 2) 17 (.int .i64 (o : Int)) rfl rfl (by kernel_rfl) (by kernel_rfl) (by kernel_rfl) (fun _ _ _ h => h) (Or.inl ⟨by rfl, fun W hW => by have hc := hW.1.cell 0; go_simp⟩) hS ?_
  try simp only [List.setIfInBounds_toArray, List.set_cons_zero, List.set_cons_succ]
  refine take_at (i := 3) 18 (.pointer (some ⟨b, 0, none⟩)) rfl rfl (by kernel_rfl) (by kernel_rfl) (by kernel_rfl) (fun _ _ _ h => h) (Or.inl ⟨by rfl, fun W hW => by go_simp⟩) hS ?_
  try simp only [List.setIfInBounds_toArray, List.set_cons_zero, List.set_cons_succ]
  refine take_at (i := 4) 19 (.pointer (some ⟨b, 0, none⟩)) rfl rfl (by kernel_rfl) (by kernel_rfl) (by kernel_rfl) (fun _ _ _ h => h) (Or.inl ⟨by rfl, fun W hW => by go_simp⟩) hS ?_
  try simp only [List.setIfInBounds_toArray, List.set_cons_zero, List.set_cons_succ]
  refine take_at (i := 5) 20 (.pointer (some ⟨b, 1, none⟩)) rfl rfl (by kernel_rfl) (by kernel_rfl) (by kernel_rfl) (fun _ _ _ h => h) (Or.inl ⟨by rfl, fun W hW => by go_simp⟩) hS ?_
  try simp only [List.setIfInBounds_toArray, List.set_cons_zero, List.set_cons_succ]
  refine take_at (i := 6) 21 (.slice (some ⟨bg, bo, none⟩) A.length bc) rfl rfl (by kernel_rfl) (by kernel_rfl) (by kernel_rfl) (fun _ _ _ h => h) (Or.inl ⟨by rfl, fun W hW => by have hc := hW.2.cell 1; go_simp⟩) hS ?_
  try simp only [List.setIfInBounds_toArray, List.set_cons_zero, List.set_cons_succ]
  refine take_at (i := 7) 22 (.int .i64 (A.length : Int)) rfl rfl (by kernel_rfl) (by kernel_rfl) (by kernel_rfl) (fun _ _ _ h => h) (Or.inl ⟨by rfl, fun W hW => by go_simp⟩) hS ?_
  try simp only [List.setIfInBounds_toArray, List.set_cons_zero, List.set_cons_succ]
  refine take_at (i := 8) 23 (.bool false) rfl rfl (by kernel_rfl) (by kernel_rfl) (by kernel_rfl) (fun _ _ _ h => h) (Or.inl ⟨by rfl, fun W hW => by go_simp⟩) hS ?_
  try simp only [List.setIfInBounds_toArray, List.set_cons_zero, List.set_cons_succ]
  refine wpAnyH_done (by kernel_rfl) ?_ _
  go_upto_region 5 with (fail)
  refine wp_region_held_drew (S := fun w' => Blk w' q #[.int .i64 (o : Int)] 3 ∧ Blk w' b #[lv, .slice (some ⟨bg, bo, none⟩) A.length bc, .slice (some ⟨tg, to, none⟩) n tc] 142 ∧ w'.rangeAt bg (bo + o * 2) #[.int .i64 (a : Int), .int .i64 (s : Int)].toList) (by kernel_rfl) (⟨kq.drew, kb.drew, rangeAt_below hr (Below.refl _ _).drew⟩) (fun hS => ?_)
  simp only [List.size_toArray, List.length_cons, List.length_nil, Nat.reduceAdd, Array.replicate_succ, Array.replicate_zero, List.push_toArray, List.nil_append, List.cons_append]
  refine take_at (i := 0) 26 (.pointer (some ⟨b, 0, none⟩)) rfl rfl (by kernel_rfl) (by kernel_rfl) (by kernel_rfl) (fun _ _ _ h => h) (Or.inl ⟨by rfl, fun W hW => by go_simp⟩) hS ?_
  try simp only [List.setIfInBounds_toArray, List.set_cons_zero, List.set_cons_succ]
  refine take_at (i := 1) 27 (.pointer (some ⟨b, 0, none⟩)) rfl rfl (by kernel_rfl) (by kernel_rfl) (by kernel_rfl) (fun _ _ _ h => h) (Or.inl ⟨by rfl, fun W hW => by go_simp⟩) hS ?_
  try simp only [List.setIfInBounds_toArray, List.set_cons_zero, List.set_cons_succ]
  refine take_at (i := 2) 28 (.pointer (some ⟨b, 1, none⟩)) rfl rfl (by kernel_rfl) (by kernel_rfl) (by kernel_rfl) (fun _ _ _ h => h) (Or.inl ⟨by rfl, fun W hW => by go_simp⟩) hS ?_
  try simp only [List.setIfInBounds_toArray, List.set_cons_zero, List.set_cons_succ]
  refine take_at (i := 3) 29 (.slice (some ⟨bg, bo, none⟩) A.length bc) rfl rfl (by kernel_rfl) (by kernel_rfl) (by kernel_rfl) (fun _ _ _ h => h) (Or.inl ⟨by rfl, fun W hW => by have hc := hW.2.1.cell 1; go_simp⟩) hS ?_
  try simp only [List.setIfInBounds_toArray, List.set_cons_zero, List.set_cons_succ]
  refine take_at (i := 4) 30 (.pointer (some ⟨q, 0, none⟩)) rfl rfl (by kernel_rfl) (by kernel_rfl) (by kernel_rfl) (fun _ _ _ h => h) (Or.inl ⟨by rfl, fun W hW => by go_simp⟩) hS ?_
  try simp only [List.setIfInBounds_toArray, List.set_cons_zero, List.set_cons_succ]
  refine take_at (i := 5) 31 (.pointer (some ⟨q, 0, none⟩)) rfl rfl (by kernel_rfl) (by kernel_rfl) (by kernel_rfl) (fun _ _ _ h => h) (Or.inl ⟨by rfl, fun W hW => by go_simp⟩) hS ?_
  try simp only [List.setIfInBounds_toArray, List.set_cons_zero, List.set_cons_succ]
  refine take_at (i := 6) 32 (.int .i64 (o : Int)) rfl rfl (by kernel_rfl) (by kernel_rfl) (by kernel_rfl) (fun _ _ _ h => h) (Or.inl ⟨by rfl, fun W hW => by have hc := hW.1.cell 0; go_simp⟩) hS ?_
  try simp only [List.setIfInBounds_toArray, List.set_cons_zero, List.set_cons_succ]
  refine take_at (i := 7) 33 (.pointer (some ⟨bg, bo + o * 2, none⟩)) rfl rfl (by kernel_rfl) (by kernel_rfl) (by kernel_rfl) (fun _ _ _ h => h) (Or.inl ⟨by rfl, fun W hW => by go_simp⟩) hS ?_
  try simp only [List.setIfInBounds_toArray, List.set_cons_zero, List.set_cons_succ]
  refine take_at (i := 8) 34 (.agg #[.int .i64 (a : Int), .int .i64 (s : Int)]) rfl rfl (by kernel_rfl) (by kernel_rfl) (by kernel_rfl) (fun _ _ _ h => h) (Or.inl ⟨by rfl, fun W hW => exec_load_range _ 106 _ rfl bg (bo + o * 2) rfl hW.2.2 Tryd.underlying106 rfl size106 rfl⟩) hS ?_
  try simp only [List.setIfInBounds_toArray, List.set_cons_zero, List.set_cons_succ]
  refine take_at (i := 9) 35 (.int .i64 (a : Int)) rfl rfl (by kernel_rfl) (by kernel_rfl) (by kernel_rfl) (fun _ _ _ h => h) (Or.inl ⟨by rfl, fun W hW => by go_simp⟩) hS ?_
  try simp only [List.setIfInBounds_toArray, List.set_cons_zero, List.set_cons_succ]
  refine take_at (i := 10) 36 (.int .i64 (e : Int)) rfl rfl (by kernel_rfl) (by kernel_rfl) (by kernel_rfl) (fun _ _ _ h => h) (Or.inl ⟨by rfl, fun W hW => by go_simp⟩) hS ?_
  try simp only [List.setIfInBounds_toArray, List.set_cons_zero, List.set_cons_succ]
  refine take_at (i := 11) 37 (.int .i64 (a : Int)) rfl rfl (by kernel_rfl) (by kernel_rfl) (by kernel_rfl) (fun _ _ _ h => h) (Or.inl ⟨by rfl, fun W hW => by go_simp⟩) hS ?_
  try simp only [List.setIfInBounds_toArray, List.set_cons_zero, List.set_cons_succ]
  refine take_at (i := 12) 38 (.int .i64 (m : Int)) rfl rfl (by kernel_rfl) (by kernel_rfl) (by kernel_rfl) (fun _ _ _ h => h) (Or.inl ⟨by rfl, fun W hW => by go_simp⟩) hS ?_
  try simp only [List.setIfInBounds_toArray, List.set_cons_zero, List.set_cons_succ]
  refine take_at (i := 13) 39 (.agg #[.int .i64 (a : Int), .int .i64 (m : Int)]) rfl rfl (by kernel_rfl) (by kernel_rfl) (by kernel_rfl) (fun _ _ _ h => h) (Or.inl ⟨by rfl, fun W hW => by go_simp⟩) hS ?_
  try simp only [List.setIfInBounds_toArray, List.set_cons_zero, List.set_cons_succ]
  refine take_at (i := 14) 40 (.bool true) rfl rfl (by kernel_rfl) (by kernel_rfl) (by kernel_rfl) (fun _ _ _ h => h) (Or.inl ⟨by rfl, fun W hW => (exec_eql106 _ _ _ rfl rfl rfl).trans (by rw [hbq])⟩) hS ?_
  try simp only [List.setIfInBounds_toArray, List.set_cons_zero, List.set_cons_succ]
  refine wpAnyH_done (by kernel_rfl) ?_ _
  have cq := kq.cell 0
  have fq := kq.free 0
  have hM2 := hM.upd (upd_setCell W1 q 0 (.int .i64 ((o : Int) + 1)))
  have kq2 := kq.set 0 (.int .i64 ((o : Int) + 1))
  go_upto_region 7 with (fail)
  replace k0 := (k0.other (a := ⟨q, 0, none⟩) (by simp; omega) (.int .i64 ((o : Int) + 1))).drew.drew
  replace kb := (kb.other (a := ⟨q, 0, none⟩) (by simp; exact ff.ne) (.int .i64 ((o : Int) + 1))).drew.drew
  have rt2 : (W1.setCell ⟨q, 0, none⟩ (.int .i64 ((o : Int) + 1))).drew.drew.rangeAt tg (to + o * 16) (A8 16 (T o)).toList := rangeAt_below (rangeAt_upd rt (upd_setCell W1 q 0 (.int .i64 ((o : Int) + 1))) (ff.nt tg to rfl)) (Below.refl _ _).drew.drew
  replace kq2 := kq2.drew.drew
  replace hM2 := (hM2.trans (Mods.of_below (Below.refl _ _).drew)).trans (Mods.of_below (Below.refl _ _).drew)
  obtain ⟨W3, hW3⟩ : ∃ W3, (W1.setCell ⟨q, 0, none⟩ (.int .i64 ((o : Int) + 1))).drew.drew = W3 := ⟨_, rfl⟩
  rw [hW3] at k0 kb rt2 kq2 hM2 ⊢
  clear hW3 rt kq cq fq hM hr
  have rt := rt2
  replace kq : Blk W3 q #[.int .i64 ((o : Int) + 1)] 3 := kq2
  clear rt2 kq2
  refine wp_region_held_drew (S := fun w' => Blk w' q #[.int .i64 ((o : Int) + 1)] 3 ∧ Blk w' b #[lv, .slice (some ⟨bg, bo, none⟩) A.length bc, .slice (some ⟨tg, to, none⟩) n tc] 142 ∧ w'.rangeAt tg (to + o * 16) (A8 16 (T o)).toList) (by kernel_rfl) (⟨kq.drew, kb.drew, rangeAt_below rt (Below.refl _ _).drew⟩) (fun hS => ?_)
  simp only [List.size_toArray, List.length_cons, List.length_nil, Nat.reduceAdd, Array.replicate_succ, Array.replicate_zero, List.push_toArray, List.nil_append, List.cons_append]
  refine take_at (i := 0) 46 (.pointer (some ⟨b, 0, none⟩)) rfl rfl (by kernel_rfl) (by kernel_rfl) (by kernel_rfl) (fun _ _ _ h => h) (Or.inl ⟨by rfl, fun W hW => by go_simp⟩) hS ?_
  try simp only [List.setIfInBounds_toArray, List.set_cons_zero, List.set_cons_succ]
  refine take_at (i := 1) 47 (.pointer (some ⟨b, 0, none⟩)) rfl rfl (by kernel_rfl) (by kernel_rfl) (by kernel_rfl) (fun _ _ _ h => h) (Or.inl ⟨by rfl, fun W hW => by go_simp⟩) hS ?_
  try simp only [List.setIfInBounds_toArray, List.set_cons_zero, List.set_cons_succ]
  refine take_at (i := 2) 48 (.pointer (some ⟨b, 2, none⟩)) rfl rfl (by kernel_rfl) (by kernel_rfl) (by kernel_rfl) (fun _ _ _ h => h) (Or.inl ⟨by rfl, fun W hW => by go_simp⟩) hS ?_
  try simp only [List.setIfInBounds_toArray, List.set_cons_zero, List.set_cons_succ]
  refine take_at (i := 3) 49 (.slice (some ⟨tg, to, none⟩) n tc) rfl rfl (by kernel_rfl) (by kernel_rfl) (by kernel_rfl) (fun _ _ _ h => h) (Or.inl ⟨by rfl, fun W hW => by have hc := hW.2.1.cell 2; go_simp⟩) hS ?_
  try simp only [List.setIfInBounds_toArray, List.set_cons_zero, List.set_cons_succ]
  refine take_at (i := 4) 50 (.pointer (some ⟨q, 0, none⟩)) rfl rfl (by kernel_rfl) (by kernel_rfl) (by kernel_rfl) (fun _ _ _ h => h) (Or.inl ⟨by rfl, fun W hW => by go_simp⟩) hS ?_
  try simp only [List.setIfInBounds_toArray, List.set_cons_zero, List.set_cons_succ]
  refine take_at (i := 5) 51 (.pointer (some ⟨q, 0, none⟩)) rfl rfl (by kernel_rfl) (by kernel_rfl) (by kernel_rfl) (fun _ _ _ h => h) (Or.inl ⟨by rfl, fun W hW => by go_simp⟩) hS ?_
  try simp only [List.setIfInBounds_toArray, List.set_cons_zero, List.set_cons_succ]
  refine take_at (i := 6) 52 (.int .i64 ((o : Int) + 1)) rfl rfl (by kernel_rfl) (by kernel_rfl) (by kernel_rfl) (fun _ _ _ h => h) (Or.inl ⟨by rfl, fun W hW => by have hc := hW.1.cell 0; go_simp⟩) hS ?_
  try simp only [List.setIfInBounds_toArray, List.set_cons_zero, List.set_cons_succ]
  refine take_at (i := 7) 53 (.int .i64 (o : Int)) rfl rfl (by kernel_rfl) (by kernel_rfl) (by kernel_rfl) (fun _ _ _ h => h) (Or.inl ⟨by rfl, fun W hW => by go_simp⟩) hS ?_
  try simp only [List.setIfInBounds_toArray, List.set_cons_zero, List.set_cons_succ]
  refine take_at (i := 8) 54 (.pointer (some ⟨tg, to + o * 16, none⟩)) rfl rfl (by kernel_rfl) (by kernel_rfl) (by kernel_rfl) (fun _ _ _ h => h) (Or.inl ⟨by rfl, fun W hW => by go_simp⟩) hS ?_
  try simp only [List.setIfInBounds_toArray, List.set_cons_zero, List.set_cons_succ]
  refine take_at (i := 9) 55 (.agg (A8 16 (T o))) rfl rfl (by kernel_rfl) (by kernel_rfl) (by kernel_rfl) (fun _ _ _ h => h) (Or.inl ⟨by rfl, fun W hW => exec_load_range _ 23 _ rfl tg (to + o * 16) rfl hW.2.2 Tryd.underlying23 rfl size23 (A8.size _ _)⟩) hS ?_
  try simp only [List.setIfInBounds_toArray, List.set_cons_zero, List.set_cons_succ]
  refine wpAnyH_ready (rs := [10]) (by kernel_rfl) (by simp) ?_
  refine allReadyH_store rfl rfl (C' := A8 16 (T o)) 23 (.tmp 8) (.tmp 55) rfl w.heap.size rfl rfl k0.drew size23 (A8.size _ _) (A8.size _ _) (A8.one _) rfl (fun W9 hu k9 => ?_)
  refine ⟨⟨hS.1.upd hu (by omega), hS.2.1.upd hu (by omega), rangeAt_upd hS.2.2 hu (by omega)⟩, fun hS => ?_⟩
  try simp only [Act.put, List.getElem_toArray, List.getElem_cons_succ, List.getElem_cons_zero, List.setIfInBounds_toArray, List.set_cons_zero, List.set_cons_succ]
  refine wpAnyH_done (by kernel_rfl) ?_ _
  go_wp2_with fail
  exact ret_row rfl w.heap.size rfl k9 Tryd.underlying23 rfl size23 (A8.size _ _) rfl ⟨rfl, hS.1, (hM2.trans (Mods.of_below (Below.refl _ _).drew)).new hu (Nat.le_refl _)⟩
set_option maxRecDepth 20000 in
set_option maxHeartbeats 1000000 in
theorem ftop_step (b q o o1 o2 a m e h s n bc tc : Nat) (bp tp : Option Addr) (A : List (Nat × Nat)) (T : Nat → Nat → BitVec 8) (d1 d2 : Nat → BitVec 8) (lv : Value) (w : World) (hm : 2 ≤ m) (he : e = a + m) (hb : e ≤ 1099511627776) (hA : A.length ≤ 1000) (hh : halfN m = h) (hx : A[o]? = some (a, s)) (hsm : s < m) (hn : o < n)
    (r1 : ∀ W, FtR b q A n T lv bp bc tp tc W → Blk W q #[.int .i64 (o : Int)] 3 → Calls Tryd.prog 116 #[.pointer (some ⟨b, 0, none⟩), .int .i64 (a : Int), .int .i64 ((a : Int) + (h : Int)), .pointer (some ⟨q, 0, none⟩)] W fun e' w' => e' = .returned (.agg (A8 16 d1)) ∧ Blk w' q #[.int .i64 (o1 : Int)] 3 ∧ Mods q W w')
    (r2 : ∀ W, FtR b q A n T lv bp bc tp tc W → Blk W q #[.int .i64 (o1 : Int)] 3 → Calls Tryd.prog 116 #[.pointer (some ⟨b, 0, none⟩), .int .i64 ((a : Int) + (h : Int)), .int .i64 (e : Int), .pointer (some ⟨q, 0, none⟩)] W fun e' w' => e' = .returned (.agg (A8 16 d2)) ∧ Blk w' q #[.int .i64 (o2 : Int)] 3 ∧ Mods q W w')
    (hf : FtR b q A n T lv bp bc tp tc w) (hq : Blk w q #[.int .i64 (o : Int)] 3) :
    Calls Tryd.prog 116 #[.pointer (some ⟨b, 0, none⟩), .int .i64 (a : Int), .int .i64 (e : Int), .pointer (some ⟨q, 0, none⟩)] w fun e' w' => e' = .returned (.agg (A8 16 (nodeD d1 d2))) ∧ Blk w' q #[.int .i64 (o2 : Int)] 3 ∧ Mods q w w' := by
  have ho := (List.getElem?_eq_some_iff.1 hx).1
  have hfa := halfN_facts m hm (by omega)
  have c78 := fun w => half_any m hm (by omega) w
  rw [hh] at hfa c78
  have k0 := Blk.new w (A8 16 fun _ => 0#8) 23
  have hM := (Mods.refl q w).alloc (.cells (A8 16 fun _ => 0#8) 23)
  have kq := hq.alloc (.cells (A8 16 fun _ => 0#8) 23)
  have hqw := hq.lt
  have ff := hf.mods hM
  obtain ⟨W1, hW1⟩ : ∃ W1, w.alloc (.cells (A8 16 fun _ => 0#8) 23) = W1 := ⟨_, rfl⟩
  rw [hW1] at k0 hM kq ff
  have hq := ff.at hx hn
  obtain ⟨bg, bo, tg, to, rfl, rfl, hr, rt⟩ := hq
  clear rt
  have kb := ff.blk
  have hbq : ((a : Int) == (a : Int) && (s : Int) == (m : Int)) = false := by
    rw [Bool.and_eq_false_iff]
    exact .inr (beq_eq_false_iff_ne.2 (by omega))
  dsimp only at hr
  have hne : ¬ (a : Int) = (e : Int) := by omega
  have hne2 : ((a : Int) == (e : Int)) = false := beq_eq_false_iff_ne.2 hne
  have hm1 : ¬ (m : Int) = 1 := by omega
  have hm2 : ((m : Int) == 1) = false := beq_eq_false_iff_ne.2 hm1
  have hsub : (e : Int) - (a : Int) = (m : Int) := by omega
  have hwm : IntKind.i64.wrap (m : Int) = (m : Int) := IntWalk.i64_in _ (by omega)
  have hwh : IntKind.i64.wrap ((a : Int) + (h : Int)) = (a : Int) + (h : Int) := IntWalk.i64_in _ (by omega)
  have hwo : IntKind.i64.wrap (o : Int) = (o : Int) := IntWalk.i64_in _ (by omega)
  have ho1 : (o : Int) < (A.length : Int) := by omega
  have ho2 : ¬ (A.length : Int) ≤ (o : Int) := by omega
  have R1 := hide r1
  have R2 := hide r2
  have C78 := hide c78
  clear hf he hx hm hfa r1 r2 c78 hh hsm
  go_enter Tryd.func116, Tryd.ntmps116
  go_upto_region 3 with (fail)
  try rw [hW1]
  clear hW1
  refine wp_region_held_drew (S := fun w' => Blk w' q #[.int .i64 (o : Int)] 3 ∧ Blk w' b #[lv, .slice (some ⟨bg, bo, none⟩) A.length bc, .slice (some ⟨tg, to, none⟩) n tc] 142) (by kernel_rfl) (⟨kq.drew, kb.drew⟩) (fun hS => ?_)
  simp only [List.size_toArray, List.length_cons, List.length_nil, Nat.reduceAdd, Array.replicate_succ, Array.replicate_zero, List.push_toArray, List.nil_append, List.cons_append]
  refine take_at (i := 0) 15 (.pointer (some ⟨q, 0, none⟩)) rfl rfl (by kernel_rfl) (by kernel_rfl) (by kernel_rfl) (fun _ _ _ h => h) (Or.inl ⟨by rfl, fun W hW => by go_simp⟩) hS ?_
  try simp only [List.setIfInBounds_toArray, List.set_cons_zero, List.set_cons_succ]
  refine take_at (i := 1) 16 (.pointer (some ⟨q, 0, none⟩)) rfl rfl (by kernel_rfl) (by kernel_rfl) (by kernel_rfl) (fun _ _ _ h => h) (Or.inl ⟨by rfl, fun W hW => by go_simp⟩) hS ?_
  try simp only [List.setIfInBounds_toArray, List.set_cons_zero, List.set_cons_succ]
  refine take_at (i := 2) 17 (.int .i64 (o : Int)) rfl rfl (by kernel_rfl) (by kernel_rfl) (by kernel_rfl) (fun _ _ _ h => h) (Or.inl ⟨by rfl, fun W hW => by have hc := hW.1.cell 0; go_simp⟩) hS ?_
  try simp only [List.setIfInBounds_toArray, List.set_cons_zero, List.set_cons_succ]
  refine take_at (i := 3) 18 (.pointer (some ⟨b, 0, none⟩)) rfl rfl (by kernel_rfl) (by kernel_rfl) (by kernel_rfl) (fun _ _ _ h => h) (Or.inl ⟨by rfl, fun W hW => by go_simp⟩) hS ?_
  try simp only [List.setIfInBounds_toArray, List.set_cons_zero, List.set_cons_succ]
  refine take_at (i := 4) 19 (.pointer (some ⟨b, 0, none⟩)) rfl rfl (by kernel_rfl) (by kernel_rfl) (by kernel_rfl) (fun _ _ _ h => h) (Or.inl ⟨by rfl, fun W hW => by go_simp⟩) hS ?_
  try simp only [List.setIfInBounds_toArray, List.set_cons_zero, List.set_cons_succ]
  refine take_at (i := 5) 20 (.pointer (some ⟨b, 1, none⟩)) rfl rfl (by kernel_rfl) (by kernel_rfl) (by kernel_rfl) (fun _ _ _ h => h) (Or.inl ⟨by rfl, fun W hW => by go_simp⟩) hS ?_
  try simp only [List.setIfInBounds_toArray, List.set_cons_zero, List.set_cons_succ]
  refine take_at (i := 6) 21 (.slice (some ⟨bg, bo, none⟩) A.length bc) rfl rfl (by kernel_rfl) (by kernel_rfl) (by kernel_rfl) (fun _ _ _ h => h) (Or.inl ⟨by rfl, fun W hW => by have hc := hW.2.cell 1; go_simp⟩) hS ?_
  try simp only [List.setIfInBounds_toArray, List.set_cons_zero, List.set_cons_succ]
  refine take_at (i := 7) 22 (.int .i64 (A.length : Int)) rfl rfl (by kernel_rfl) (by kernel_rfl) (by kernel_rfl) (fun _ _ _ h => h) (Or.inl ⟨by rfl, fun W hW => by go_simp⟩) hS ?_
  try simp only [List.setIfInBounds_toArray, List.set_cons_zero, List.set_cons_succ]
  refine take_at (i := 8) 23 (.bool false) rfl rfl (by kernel_rfl) (by kernel_rfl) (by kernel_rfl) (fun _ _ _ h => h) (Or.inl ⟨by rfl, fun W hW => by go_simp⟩) hS ?_
  try simp only [List.setIfInBounds_toArray, List.set_cons_zero, List.set_cons_succ]
  refine wpAnyH_done (by kernel_rfl) ?_ _
  go_upto_region 5 with (fail)
  refine wp_region_held_drew (S := fun w' => Blk w' q #[.int .i64 (o : Int)] 3 ∧ Blk w' b #[lv, .slice (some ⟨bg, bo, none⟩) A.length bc, .slice (some ⟨tg, to, none⟩) n tc] 142 ∧ w'.rangeAt bg (bo + o * 2) #[.int .i64 (a : Int), .int .i64 (s : Int)].toList) (by kernel_rfl) (⟨kq.drew, kb.drew, rangeAt_below hr (Below.refl _ _).drew⟩) (fun hS => ?_)
  simp only [List.size_toArray, List.length_cons, List.length_nil, Nat.reduceAdd, Array.replicate_succ, Array.replicate_zero, List.push_toArray, List.nil_append, List.cons_append]
  refine take_at (i := 0) 26 (.pointer (some ⟨b, 0, none⟩)) rfl rfl (by kernel_rfl) (by kernel_rfl) (by kernel_rfl) (fun _ _ _ h => h) (Or.inl ⟨by rfl, fun W hW => by go_simp⟩) hS ?_
  try simp only [List.setIfInBounds_toArray, List.set_cons_zero, List.set_cons_succ]
  refine take_at (i := 1) 27 (.pointer (some ⟨b, 0, none⟩)) rfl rfl (by kernel_rfl) (by kernel_rfl) (by kernel_rfl) (fun _ _ _ h => h) (Or.inl ⟨by rfl, fun W hW => by go_simp⟩) hS ?_
  try simp only [List.setIfInBounds_toArray, List.set_cons_zero, List.set_cons_succ]
  refine take_at (i := 2) 28 (.pointer (some ⟨b, 1, none⟩)) rfl rfl (by kernel_rfl) (by kernel_rfl) (by kernel_rfl) (fun _ _ _ h => h) (Or.inl ⟨by rfl, fun W hW => by go_simp⟩) hS ?_
  try simp only [List.setIfInBounds_toArray, List.set_cons_zero, List.set_cons_succ]
  refine take_at (i := 3) 29 (.slice (some ⟨bg, bo, none⟩) A.length bc) rfl rfl (by kernel_rfl) (by kernel_rfl) (by kernel_rfl) (fun _ _ _ h => h) (Or.inl ⟨by rfl, fun W hW => by have hc := hW.2.1.cell 1; go_simp⟩) hS ?_
  try simp only [List.setIfInBounds_toArray, List.set_cons_zero, List.set_cons_succ]
  refine take_at (i := 4) 30 (.pointer (some ⟨q, 0, none⟩)) rfl rfl (by kernel_rfl) (by kernel_rfl) (by kernel_rfl) (fun _ _ _ h => h) (Or.inl ⟨by rfl, fun W hW => by go_simp⟩) hS ?_
  try simp only [List.setIfInBounds_toArray, List.set_cons_zero, List.set_cons_succ]
  refine take_at (i := 5) 31 (.pointer (some ⟨q, 0, none⟩)) rfl rfl (by kernel_rfl) (by kernel_rfl) (by kernel_rfl) (fun _ _ _ h => h) (Or.inl ⟨by rfl, fun W hW => by go_simp⟩) hS ?_
  try simp only [List.setIfInBounds_toArray, List.set_cons_zero, List.set_cons_succ]
  refine take_at (i := 6) 32 (.int .i64 (o : Int)) rfl rfl (by kernel_rfl) (by kernel_rfl) (by kernel_rfl) (fun _ _ _ h => h) (Or.inl ⟨by rfl, fun W hW => by have hc := hW.1.cell 0; go_simp⟩) hS ?_
  try simp only [List.setIfInBounds_toArray, List.set_cons_zero, List.set_cons_succ]
  refine take_at (i := 7) 33 (.pointer (some ⟨bg, bo + o * 2, none⟩)) rfl rfl (by kernel_rfl) (by kernel_rfl) (by kernel_rfl) (fun _ _ _ h => h) (Or.inl ⟨by rfl, fun W hW => by go_simp⟩) hS ?_
  try simp only [List.setIfInBounds_toArray, List.set_cons_zero, List.set_cons_succ]
  refine take_at (i := 8) 34 (.agg #[.int .i64 (a : Int), .int .i64 (s : Int)]) rfl rfl (by kernel_rfl) (by kernel_rfl) (by kernel_rfl) (fun _ _ _ h => h) (Or.inl ⟨by rfl, fun W hW => exec_load_range _ 106 _ rfl bg (bo + o * 2) rfl hW.2.2 Tryd.underlying106 rfl size106 rfl⟩) hS ?_
  try simp only [List.setIfInBounds_toArray, List.set_cons_zero, List.set_cons_succ]
  refine take_at (i := 9) 35 (.int .i64 (a : Int)) rfl rfl (by kernel_rfl) (by kernel_rfl) (by kernel_rfl) (fun _ _ _ h => h) (Or.inl ⟨by rfl, fun W hW => by go_simp⟩) hS ?_
  try simp only [List.setIfInBounds_toArray, List.set_cons_zero, List.set_cons_succ]
  refine take_at (i := 10) 36 (.int .i64 (e : Int)) rfl rfl (by kernel_rfl) (by kernel_rfl) (by kernel_rfl) (fun _ _ _ h => h) (Or.inl ⟨by rfl, fun W hW => by go_simp⟩) hS ?_
  try simp only [List.setIfInBounds_toArray, List.set_cons_zero, List.set_cons_succ]
  refine take_at (i := 11) 37 (.int .i64 (a : Int)) rfl rfl (by kernel_rfl) (by kernel_rfl) (by kernel_rfl) (fun _ _ _ h => h) (Or.inl ⟨by rfl, fun W hW => by go_simp⟩) hS ?_
  try simp only [List.setIfInBounds_toArray, List.set_cons_zero, List.set_cons_succ]
  refine take_at (i := 12) 38 (.int .i64 (m : Int)) rfl rfl (by kernel_rfl) (by kernel_rfl) (by kernel_rfl) (fun _ _ _ h => h) (Or.inl ⟨by rfl, fun W hW => by go_simp⟩) hS ?_
  try simp only [List.setIfInBounds_toArray, List.set_cons_zero, List.set_cons_succ]
  refine take_at (i := 13) 39 (.agg #[.int .i64 (a : Int), .int .i64 (m : Int)]) rfl rfl (by kernel_rfl) (by kernel_rfl) (by kernel_rfl) (fun _ _ _ h => h) (Or.inl ⟨by rfl, fun W hW => by go_simp⟩) hS ?_
  try simp only [List.setIfInBounds_toArray, List.set_cons_zero, List.set_cons_succ]
  refine take_at (i := 14) 40 (.bool false) rfl rfl (by kernel_rfl) (by kernel_rfl) (by kernel_rfl) (fun _ _ _ h => h) (Or.inl ⟨by rfl, fun W hW => (exec_eql106 _ _ _ rfl rfl rfl).trans (by rw [hbq])⟩) hS ?_
  try simp only [List.setIfInBounds_toArray, List.set_cons_zero, List.set_cons_succ]
  refine wpAnyH_done (by kernel_rfl) ?_ _
  go_wp2_with fail
  refine (C78.out _).mono ?_
  rintro e' w' ⟨rfl, rfl⟩
  go_wp2_with fail
  refine (R1.out _ ff.drew.drew kq.drew.drew).mono ?_
  rintro e' X0 ⟨rfl, kq1, hm0⟩
  replace k0 := k0.drew.drew.mods hm0 (by omega)
  replace ff := ff.drew.drew.mods hm0
  replace hM := ((hM.trans (Mods.of_below (Below.refl _ _).drew)).trans (Mods.of_below (Below.refl _ _).drew)).trans hm0
  have n10 := Blk.new X0 (A8 16 fun _ => 0#8) 23
  clear hr kb kq hm0
  go_wp2_with (refine wp_storeRow (C' := A8 16 d1) rfl 23 _ _ rfl _ rfl rfl n10 size23 (A8.size _ _) (A8.size _ _) (A8.one _) rfl ?_; intro W3 hu kl)
  have hb3 : Below X0.heap.size X0 W3 := hu.below ((Below.refl _ _).alloc (Nat.le_refl _) _) (Nat.le_refl _)
  have l0 := k0.lt
  have l1 := kq1.lt
  replace k0 := k0.below hb3 k0.lt
  have kq := kq1.below hb3 kq1.lt
  replace ff := ff.below hb3
  replace hM := hM.trans (Mods.of_below hb3)
  clear hb3 hu n10 kq1
  generalize X0.heap.size = LB at kl l0 l1 ⊢
  refine wp_region_held_drew (S := fun w' => Blk w' LB (A8 16 d1) 23) (by kernel_rfl) (kl.drew) (fun hS => ?_)
  simp only [List.size_toArray, List.length_cons, List.length_nil, Nat.reduceAdd, Array.replicate_succ, Array.replicate_zero, List.push_toArray, List.nil_append, List.cons_append]
  refine take_at (i := 0) 73 (.agg (A8 16 d1)) rfl rfl (by kernel_rfl) (by kernel_rfl) (by kernel_rfl) (fun _ _ _ h => h) (Or.inl ⟨by rfl, fun W hW => exec_load_blk hW⟩) hS ?_
  try simp only [List.setIfInBounds_toArray, List.set_cons_zero, List.set_cons_succ]
  refine take_at (i := 1) 74 (.pointer (some ⟨b, 0, none⟩)) rfl rfl (by kernel_rfl) (by kernel_rfl) (by kernel_rfl) (fun _ _ _ h => h) (Or.inl ⟨by rfl, fun W hW => by go_simp⟩) hS ?_
  try simp only [List.setIfInBounds_toArray, List.set_cons_zero, List.set_cons_succ]
  refine take_at (i := 2) 75 (.int .i64 (a : Int)) rfl rfl (by kernel_rfl) (by kernel_rfl) (by kernel_rfl) (fun _ _ _ h => h) (Or.inl ⟨by rfl, fun W hW => by go_simp⟩) hS ?_
  try simp only [List.setIfInBounds_toArray, List.set_cons_zero, List.set_cons_succ]
  refine take_at (i := 3) 76 (.int .i64 (h : Int)) rfl rfl (by kernel_rfl) (by kernel_rfl) (by kernel_rfl) (fun _ _ _ h => h) (Or.inl ⟨by rfl, fun W hW => by go_simp⟩) hS ?_
  try simp only [List.setIfInBounds_toArray, List.set_cons_zero, List.set_cons_succ]
  refine take_at (i := 4) 77 (.int .i64 ((a : Int) + (h : Int))) rfl rfl (by kernel_rfl) (by kernel_rfl) (by kernel_rfl) (fun _ _ _ h => h) (Or.inl ⟨by rfl, fun W hW => by go_simp⟩) hS ?_
  try simp only [List.setIfInBounds_toArray, List.set_cons_zero, List.set_cons_succ]
  refine take_at (i := 5) 78 (.int .i64 (e : Int)) rfl rfl (by kernel_rfl) (by kernel_rfl) (by kernel_rfl) (fun _ _ _ h => h) (Or.inl ⟨by rfl, fun W hW => by go_simp⟩) hS ?_
  try simp only [List.setIfInBounds_toArray, List.set_cons_zero, List.set_cons_succ]
  refine take_at (i := 6) 79 (.pointer (some ⟨q, 0, none⟩)) rfl rfl (by kernel_rfl) (by kernel_rfl) (by kernel_rfl) (fun _ _ _ h => h) (Or.inl ⟨by rfl, fun W hW => by go_simp⟩) hS ?_
  try simp only [List.setIfInBounds_toArray, List.set_cons_zero, List.set_cons_succ]
  refine wpAnyH_ready (rs := [7]) (by kernel_rfl) (by simp) ?_
  refine AllReadyH.cons rfl (fun K hK => ?_) AllReadyH.nil
  go_simp
  refine (R2.out _ ff.drew kq.drew).mono ?_
  rintro e X1 ⟨rfl, kq1, hm1⟩
  refine hK.out _ _ (hS.mods hm1 (by omega)) (fun hS => ?_)
  clear hK K
  have k0 := k0.drew.mods hm1 (by omega)
  have hM := (hM.trans (Mods.of_below (Below.refl _ _).drew)).trans hm1
  try simp only [Act.put, List.getElem_toArray, List.getElem_cons_succ, List.getElem_cons_zero, List.setIfInBounds_toArray, List.set_cons_zero, List.set_cons_succ]
  refine wpAnyH_ready (rs := [8]) (by kernel_rfl) (by simp) ?_
  refine AllReadyH.cons rfl (fun K hK => ?_) AllReadyH.nil
  go_simp
  refine (join_any _ _ _).mono ?_
  rintro e X2 ⟨rfl, hb2⟩
  refine hK.out _ _ (hS.below hb2 hS.lt) (fun hS => ?_)
  clear hK K
  have k0 := k0.below hb2 k0.lt
  have kq2 := kq1.below hb2 kq1.lt
  have hM := hM.trans (Mods.of_below hb2)
  try simp only [Act.put, List.getElem_toArray, List.getElem_cons_succ, List.getElem_cons_zero, List.setIfInBounds_toArray, List.set_cons_zero, List.set_cons_succ]
  refine wpAnyH_ready (rs := [9]) (by kernel_rfl) (by simp) ?_
  refine allReadyH_store rfl rfl (C' := A8 16 (nodeD d1 d2)) 23 (.tmp 8) (.tmp 81) rfl w.heap.size rfl rfl k0 size23 (A8.size _ _) (A8.size _ _) (A8.one _) rfl (fun W9 hu k9 => ?_)
  refine ⟨hS.upd hu (by omega), fun hS => ?_⟩
  try simp only [Act.put, List.getElem_toArray, List.getElem_cons_succ, List.getElem_cons_zero, List.setIfInBounds_toArray, List.set_cons_zero, List.set_cons_succ]
  refine wpAnyH_done (by kernel_rfl) ?_ _
  go_wp2_with fail
  exact ret_row rfl w.heap.size rfl k9 Tryd.underlying23 rfl size23 (A8.size _ _) rfl ⟨rfl, kq2.upd hu (by omega), hM.new hu (Nat.le_refl _)⟩
end Go.Proofs.YtdpgebifeaakjaaDoor

/- The walks of done and is. -/
namespace Go.Proofs.YtdpgebifeaakjaaDoor
set_option linter.unusedSimpArgs false
set_option linter.unusedVariables false
open Go.RowKit
theorem ftop_any {T : Nat → Nat → BitVec 8} {o a m : Nat} {L : List (Nat × Nat)} {d : Nat → BitVec 8} (ht : Tl T o a m L d) : ∀ (b q n e bc tc : Nat) (bp tp : Option Addr) (A M N : List (Nat × Nat)) (lv : Value) (w : World), A = M ++ L ++ N → M.length = o → o + L.length ≤ n → e = a + m → e ≤ 1099511627776 → A.length ≤ 1000 →
    FtR b q A n T lv bp bc tp tc w → Blk w q #[.int .i64 (o : Int)] 3 →
    Calls Tryd.prog 116 #[.pointer (some ⟨b, 0, none⟩), .int .i64 (a : Int), .int .i64 (e : Int), .pointer (some ⟨q, 0, none⟩)] w fun e' w' => e' = .returned (.agg (A8 16 d)) ∧ Blk w' q #[.int .i64 ((o + L.length : Nat) : Int)] 3 ∧ Mods q w w' := by
  induction ht with
  | one o a m h =>
    intro b q n e bc tc bp tp A M N lv w hA hM hn he hb hl hf hq
    exact ftop_base b q o a m e n bc tc bp tp A T lv w h he hb hl (by rw [hA, ← hM]; simp) (by rw [List.length_singleton] at hn; omega) hf hq
  | two o a m L1 L2 d1 d2 hm hb1 h1 h2 ih1 ih2 =>
    intro b q n e bc tc bp tp A M N lv w hA hM hn he hb hl hf hq
    obtain ⟨s, R, hL1, hs0, hs1⟩ := h1.head
    have hfa := halfN_facts m hm (by omega)
    have hp2 := h2.pos
    rw [List.length_append] at hn ⊢
    have q1 : ∀ W, FtR b q A n T lv bp bc tp tc W → Blk W q #[.int .i64 (o : Int)] 3 → Calls Tryd.prog 116 #[.pointer (some ⟨b, 0, none⟩), .int .i64 (a : Int), .int .i64 ((a : Int) + (halfN m : Int)), .pointer (some ⟨q, 0, none⟩)] W fun e' w' => e' = .returned (.agg (A8 16 d1)) ∧ Blk w' q #[.int .i64 ((o + L1.length : Nat) : Int)] 3 ∧ Mods q W w' := by
      intro W h3 h4
      have := ih1 b q n (a + halfN m) bc tc bp tp A M (L2 ++ N) lv W (by rw [hA]; simp) hM (by omega) rfl (by omega) hl h3 h4
      rw [Int.natCast_add] at this
      exact this
    have q2 : ∀ W, FtR b q A n T lv bp bc tp tc W → Blk W q #[.int .i64 ((o + L1.length : Nat) : Int)] 3 → Calls Tryd.prog 116 #[.pointer (some ⟨b, 0, none⟩), .int .i64 ((a : Int) + (halfN m : Int)), .int .i64 (e : Int), .pointer (some ⟨q, 0, none⟩)] W fun e' w' => e' = .returned (.agg (A8 16 d2)) ∧ Blk w' q #[.int .i64 ((o + (L1.length + L2.length) : Nat) : Int)] 3 ∧ Mods q W w' := by
      intro W h3 h4
      have := ih2 b q n e bc tc bp tp A (M ++ L1) N lv W (by rw [hA]; simp) (by rw [List.length_append, hM]) (by omega) (by omega) hb hl h3 h4
      rw [Int.natCast_add a, Nat.add_assoc] at this
      exact this
    exact ftop_step b q o (o + L1.length) (o + (L1.length + L2.length)) a m e (halfN m) s n bc tc bp tp A T d1 d2 lv w hm he hb hl rfl (by rw [hA, hL1, ← hM]; simp) (by omega) (by rw [hL1] at hn; rw [List.length_cons] at hn; omega) q1 q2 hf hq
/-- What blocks give to all n leaves. -/
def Gives (T : Nat → Nat → BitVec 8) (n : Nat) (L : List (Nat × Nat)) (d : Nat → BitVec 8) : Prop := n = 0 ∧ L = [] ∧ d = sha [] ∨ 0 < n ∧ Tl T 0 0 n L d
theorem gives_all (T : Nat → Nat → BitVec 8) (n : Nat) (L : List (Nat × Nat)) (hn : n ≤ 1099511627776) (h : Al L 0 n) : ∃ d, Gives T n L d := by
  by_cases h0 : n = 0
  · subst h0
    exact ⟨_, .inl ⟨rfl, h.nil, rfl⟩⟩
  · obtain ⟨d, hd⟩ := tiles_all T n L (by omega) hn h
    exact ⟨d, .inr ⟨by omega, hd⟩⟩
theorem neq23 (f g : Nat → BitVec 8) (w : World) : (binOp .neq 23 (.agg (A8 16 f)) (.agg (A8 16 g))).run Tryd.prog w = .ok (.bool (!eqRow 16 f g)) w := by
  have hE1 : Tryd.prog.cellsOf 5 = 1 := by kernel_rfl
  obtain ⟨i, hi, _⟩ := Option.map_eq_some_iff.1 size5
  rw [run_neq_struct, run_equalIn_array w _ _ _ Tryd.underlying23 hi]
  have := run_eqItems_Row (P := Tryd.prog) (n := 16) (d := 9999) hE1 Tryd.isAgg5 (fun i => U8 (f i)) (fun i => U8 (g i)) (fun i => f i == g i) (fun i w _ => by
    refine (run_equalIn_int w 9998 5 .u8 .u8 _ _ Tryd.underlying5).trans ?_
    rw [eq_n8]) w (List.range 16) (by simp)
  unfold A8
  rw [this]
  rfl
theorem exec_neq23 {o : Oper} {w : World} (ρ : Operand → Value) (x y : Operand) (ho : o.op = .binOp .neq 23 x y 23) {f g : Nat → BitVec 8} (hx : ρ x = .agg (A8 16 f)) (hy : ρ y = .agg (A8 16 g)) :
    (execOp ρ o).run Tryd.prog w = .ok (.value (.bool (!eqRow 16 f g))) w := by
  have hg : (eqGuard .neq 23 x y (.agg (A8 16 f)) (.agg (A8 16 g))).run Tryd.prog w = .ok () w := run_eqGuard_agg w _ _ _ _ _ _ (by kernel_rfl)
  unfold execOp
  simp only [ho, hx, hy, Sem.run_bind, hg, neq23, Result.andThen_ok, Sem.run_pure]
/-- A forest as it is called. -/
structure FtI (b : Nat) (A : List (Nat × Nat)) (T : Nat → Nat → BitVec 8) (lv : Value) (bp : Option Addr) (bc : Nat) (tp : Option Addr) (tc : Nat) (W : World) : Prop where
  blk : Blk W b #[lv, .slice bp A.length bc, .slice tp A.length tc] 142
  bl : SlC W (.slice bp A.length bc) A
  tl : Digs W (.slice tp A.length tc) A.length T
theorem FtI.below {b : Nat} {A : List (Nat × Nat)} {T : Nat → Nat → BitVec 8} {lv : Value} {bp : Option Addr} {bc : Nat} {tp : Option Addr} {tc : Nat} {W W' : World} (h : FtI b A T lv bp bc tp tc W) (hb : Below W.heap.size W W') : FtI b A T lv bp bc tp tc W' := ⟨h.blk.below hb h.blk.lt, h.bl.below hb, h.tl.below hb⟩
theorem FtI.read {b q : Nat} {A : List (Nat × Nat)} {T : Nat → Nat → BitVec 8} {lv : Value} {bp : Option Addr} {bc : Nat} {tp : Option Addr} {tc : Nat} {W W' : World} (h : FtI b A T lv bp bc tp tc W) (hq : W.heap.size ≤ q) (hA : A ≠ []) (hb : Below W.heap.size W W') : FtR b q A A.length T lv bp bc tp tc W' := by
  have hl := h.blk.lt
  have h0 : 0 < A.length := List.length_pos_iff.2 hA
  refine ⟨h.blk.below hb hl, h.bl.below hb, h.tl.below hb, by omega, fun g o e => ?_, fun g o e => ?_⟩
  · obtain ⟨p, c, e1, h1, h2⟩ := h.bl
    obtain ⟨g', o', hp, c0, _⟩ := h2 0 A[0] (List.getElem?_eq_getElem h0)
    injection e1 with e1
    rw [← e1, e] at hp
    injection hp with hp
    injection hp with hp
    subst hp
    have : g < W.heap.size := World.block_lt_of_cell? W _ c0
    omega
  · obtain ⟨p, c, e1, h1, h2⟩ := h.tl
    obtain ⟨g', o', hp, hr⟩ := h2 0 h0
    injection e1 with e1
    rw [← e1, e] at hp
    injection hp with hp
    injection hp with hp
    subst hp
    have : g < W.heap.size := World.block_lt_of_cell? W _ (hr 0 _ (by rw [Array.getElem?_toList, A8.get _ (by omega)]))
    omega
theorem gives_call (b q n bc tc : Nat) (bp tp : Option Addr) (A : List (Nat × Nat)) (T : Nat → Nat → BitVec 8) (d : Nat → BitVec 8) (lv : Value) (w W : World) (hn : n ≤ 1099511627776) (hA : A.length ≤ 1000) (hg : Gives T n A d) (hf : FtI b A T lv bp bc tp tc w) (hqw : w.heap.size ≤ q) (hB : Below w.heap.size w W) (hq : Blk W q #[.int .i64 0] 3) :
    Calls Tryd.prog 116 #[.pointer (some ⟨b, 0, none⟩), .int .i64 0, .int .i64 (n : Int), .pointer (some ⟨q, 0, none⟩)] W fun e' w' => e' = .returned (.agg (A8 16 d)) ∧ Mods q W w' := by
  rcases hg with ⟨rfl, rfl, rfl⟩ | ⟨h0, ht⟩
  · exact (ftop_zero b q 0 W).mono fun e w' ⟨h1, h2⟩ => ⟨h1, Mods.of_below h2⟩
  · obtain ⟨s, R, hL, _, _⟩ := ht.head
    exact (ftop_any ht b q A.length n bc tc bp tp A [] [] lv W (by simp) rfl (by omega) (by omega) hn hA (hf.read hqw (by rw [hL]; simp) hB) hq).mono fun e w' ⟨h1, _, h3⟩ => ⟨h1, h3⟩
set_option maxRecDepth 20000 in
set_option maxHeartbeats 1000000 in
theorem is_any (b n bc tc : Nat) (bp tp : Option Addr) (A : List (Nat × Nat)) (T : Nat → Nat → BitVec 8) (d f : Nat → BitVec 8) (lv : Value) (w : World) (hn : n ≤ 1099511627776) (hA : A.length ≤ 1000) (hg : Gives T n A d) (hf : FtI b A T lv bp bc tp tc w) :
    Calls Tryd.prog 88 #[.pointer (some ⟨b, 0, none⟩), .int .i64 (n : Int), .agg (A8 16 f)] w fun e w' => (eqRow 16 d f = true ∧ (∃ v, e = .returned v) ∨ eqRow 16 d f = false ∧ e = .panicked refusedP) ∧ Below w.heap.size w w' := by
  have hbx := box23 f
  have k0 := (Blk.new w (A8 16 f) 23).alloc (.cells #[.int .i64 0] 3)
  have k1 := Blk.new (w.alloc (.cells (A8 16 f) 23)) #[.int .i64 0] 3
  rw [World.size_alloc] at k1
  have hB : Below w.heap.size w ((w.alloc (.cells (A8 16 f) 23)).alloc (.cells #[.int .i64 0] 3)) := ((Below.refl _ _).alloc (Nat.le_refl _) _).alloc (by simp) _
  have ct := fun W hB hq => gives_call b (w.heap.size + 1) n bc tc bp tp A T d lv w W hn hA hg hf (Nat.le_succ _) hB hq
  obtain ⟨W1, hW1⟩ : ∃ W1, (w.alloc (.cells (A8 16 f) 23)).alloc (.cells #[.int .i64 0] 3) = W1 := ⟨_, rfl⟩
  rw [hW1] at k0 k1 hB
  have l1 := k1.lt
  have c1 := k1.cell 0
  have f1 := k1.free 0
  replace k0 := k0.other (a := ⟨w.heap.size + 1, 0, none⟩) (by simp) (.int .i64 0)
  have k2 := k1.set 0 (.int .i64 0)
  replace hB := hB.setCell (p := ⟨w.heap.size + 1, 0, none⟩) (by simp) (.int .i64 0)
  have CT := hide ct
  clear ct hg hf
  go_enter Tryd.func88, Tryd.ntmps88
  go_upto_region 2 with (fail)
  try rw [hW1]
  replace k1 : Blk (W1.setCell ⟨w.heap.size + 1, 0, none⟩ (.int .i64 0)) (w.heap.size + 1) #[.int .i64 0] 3 := k2
  generalize hW2 : W1.setCell ⟨w.heap.size + 1, 0, none⟩ (.int .i64 0) = W2 at k0 k1 hB ⊢
  clear hW1 hbx k2 c1 f1 hW2 l1
  have l1 := k1.lt
  cases heq : eqRow 16 d f with
  | true =>
    refine wp_region_held_drew (S := fun w' => Blk w' w.heap.size (A8 16 f) 23) (by kernel_rfl) (k0.drew) (fun hS => ?_)
    simp only [List.size_toArray, List.length_cons, List.length_nil, Nat.reduceAdd, Array.replicate_succ, Array.replicate_zero, List.push_toArray, List.nil_append, List.cons_append]
    refine take_at (i := 0) 7 (.pointer (some ⟨b, 0, none⟩)) rfl rfl (by kernel_rfl) (by kernel_rfl) (by kernel_rfl) (fun _ _ _ h => h) (Or.inl ⟨by rfl, fun W hW => by go_simp⟩) hS ?_
    try simp only [List.setIfInBounds_toArray, List.set_cons_zero, List.set_cons_succ]
    refine take_at (i := 1) 8 (.int .i64 (n : Int)) rfl rfl (by kernel_rfl) (by kernel_rfl) (by kernel_rfl) (fun _ _ _ h => h) (Or.inl ⟨by rfl, fun W hW => by go_simp⟩) hS ?_
    try simp only [List.setIfInBounds_toArray, List.set_cons_zero, List.set_cons_succ]
    refine take_at (i := 3) 10 (.agg (A8 16 f)) rfl rfl (by kernel_rfl) (by kernel_rfl) (by kernel_rfl) (fun _ _ _ h => h) (Or.inl ⟨by rfl, fun W hW => exec_load_blk hW⟩) hS ?_
    try simp only [List.setIfInBounds_toArray, List.set_cons_zero, List.set_cons_succ]
    refine wpAnyH_ready (rs := [2]) (by kernel_rfl) (by simp) ?_
    refine AllReadyH.cons rfl (fun K hK => ?_) AllReadyH.nil
    go_simp
    refine (CT.out _ (hB.mono (Nat.le_refl _)).drew k1.drew).mono ?_
    rintro e X1 ⟨rfl, hm1⟩
    refine hK.out _ _ (hS.mods hm1 (by omega)) (fun hS => ?_)
    clear hK K
    have hB := hB.drew.trans (hm1.below (B := w.heap.size) (by omega) (by have := hB.size; simp; omega))
    try simp only [Act.put, List.getElem_toArray, List.getElem_cons_succ, List.getElem_cons_zero, List.setIfInBounds_toArray, List.set_cons_zero, List.set_cons_succ]
    refine take_at (i := 4) 11 (.bool false) rfl rfl (by kernel_rfl) (by kernel_rfl) (by kernel_rfl) (fun _ _ _ h => h) (Or.inl ⟨by rfl, fun W hW => (exec_neq23 _ _ _ rfl rfl rfl).trans (by rw [heq]; rfl)⟩) hS ?_
    try simp only [List.setIfInBounds_toArray, List.set_cons_zero, List.set_cons_succ]
    refine wpAnyH_done (by kernel_rfl) ?_ _
    go_wp2_with fail
    go_end0
    exact ⟨.inl ⟨heq, _, rfl⟩, hB⟩
  | false =>
    refine wp_region_held_drew (S := fun w' => Blk w' w.heap.size (A8 16 f) 23) (by kernel_rfl) (k0.drew) (fun hS => ?_)
    simp only [List.size_toArray, List.length_cons, List.length_nil, Nat.reduceAdd, Array.replicate_succ, Array.replicate_zero, List.push_toArray, List.nil_append, List.cons_append]
    refine take_at (i := 0) 7 (.pointer (some ⟨b, 0, none⟩)) rfl rfl (by kernel_rfl) (by kernel_rfl) (by kernel_rfl) (fun _ _ _ h => h) (Or.inl ⟨by rfl, fun W hW => by go_simp⟩) hS ?_
    try simp only [List.setIfInBounds_toArray, List.set_cons_zero, List.set_cons_succ]
    refine take_at (i := 1) 8 (.int .i64 (n : Int)) rfl rfl (by kernel_rfl) (by kernel_rfl) (by kernel_rfl) (fun _ _ _ h => h) (Or.inl ⟨by rfl, fun W hW => by go_simp⟩) hS ?_
    try simp only [List.setIfInBounds_toArray, List.set_cons_zero, List.set_cons_succ]
    refine take_at (i := 3) 10 (.agg (A8 16 f)) rfl rfl (by kernel_rfl) (by kernel_rfl) (by kernel_rfl) (fun _ _ _ h => h) (Or.inl ⟨by rfl, fun W hW => exec_load_blk hW⟩) hS ?_
    try simp only [List.setIfInBounds_toArray, List.set_cons_zero, List.set_cons_succ]
    refine wpAnyH_ready (rs := [2]) (by kernel_rfl) (by simp) ?_
    refine AllReadyH.cons rfl (fun K hK => ?_) AllReadyH.nil
    go_simp
    refine (CT.out _ (hB.mono (Nat.le_refl _)).drew k1.drew).mono ?_
    rintro e X1 ⟨rfl, hm1⟩
    refine hK.out _ _ (hS.mods hm1 (by omega)) (fun hS => ?_)
    clear hK K
    have hB := hB.drew.trans (hm1.below (B := w.heap.size) (by omega) (by have := hB.size; simp; omega))
    try simp only [Act.put, List.getElem_toArray, List.getElem_cons_succ, List.getElem_cons_zero, List.setIfInBounds_toArray, List.set_cons_zero, List.set_cons_succ]
    refine take_at (i := 4) 11 (.bool true) rfl rfl (by kernel_rfl) (by kernel_rfl) (by kernel_rfl) (fun _ _ _ h => h) (Or.inl ⟨by rfl, fun W hW => (exec_neq23 _ _ _ rfl rfl rfl).trans (by rw [heq]; rfl)⟩) hS ?_
    try simp only [List.setIfInBounds_toArray, List.set_cons_zero, List.set_cons_succ]
    refine wpAnyH_done (by kernel_rfl) ?_ _
    go_wp2_with fail
    exact ⟨rfl, .inr ⟨heq, rfl⟩, hB⟩
set_option maxRecDepth 20000 in
set_option maxHeartbeats 1000000 in
theorem done_any (b L c : Nat) (p : Option Addr) (w : World) (hq : w.cell? ⟨b, 0, none⟩ = some (.slice p L c)) :
    Calls Tryd.prog 87 #[.pointer (some ⟨b, 0, none⟩)] w fun e w' => (L = 0 ∧ (∃ v, e = .returned v) ∨ 0 < L ∧ e = .panicked refusedP) ∧ Below w.heap.size w w' := by
  by_cases h0 : L = 0
  · subst h0
    go_enter Tryd.func87, Tryd.ntmps87
    go_wp2_with fail
    go_end0
    exact ⟨.inl ⟨trivial, _, rfl⟩, Below.refl _ _⟩
  · have h1 : (0 : Int) < (L : Int) := by omega
    have h2 : ¬ (L : Int) ≤ 0 := by omega
    go_enter Tryd.func87, Tryd.ntmps87
    go_wp2_with fail
    exact ⟨rfl, rfl, Below.refl _ _⟩
end Go.Proofs.YtdpgebifeaakjaaDoor

/- The walks of checked and of the closure that it defers. -/
namespace Go.Proofs.YtdpgebifeaakjaaDoor
set_option linter.unusedSimpArgs false
set_option linter.unusedVariables false
open Go.RowKit
theorem caught_idle (p : Addr) (w : World) :
    CallsD Tryd.prog 114 #[.pointer (some p)] .returning w fun e u' w' => e = .returned (.tuple #[]) ∧ u' = .returning ∧ w' = w := by
  refine callsD_of_wpS Tryd.func114 rfl fun c₀ cs hu => ?_
  apply wpS_seq
  apply wpS_region
  simp [wpOpsS, go_sem, recoverD, hu, Tryd.ntmps114, Exit.thenS]
  apply wpS_seq
  apply wpS_region
  simp [wpOpsS, go_sem, Exit.thenS]
  refine wpS_cond (t := false) (by simp [Act.eval, Array.replicate]) ?_
  simp only [Bool.false_eq_true, if_false]
  refine wpS_of_wp (wp_skip ?_)
  cases c₀
  simp_all [bodyPostS, results, Tryd.results114]
set_option maxHeartbeats 1000000 in
theorem caught_panicking (p : Addr) (x : Int) (w : World) (hc : w.cell? p = some (.int .i64 x)) (hz : w.frozen? p = false) (hp : p.block < w.heap.size) :
    CallsD Tryd.prog 114 #[.pointer (some p)] (.panicking refusedP) w fun e u' w' =>
      e = .returned (.tuple #[]) ∧ u' = .panicking [{ v := .iface 167 (.agg #[]), recovered := true }] ∧ w' = (w.alloc (.cells #[] 167)).setCell p (.int .i64 9) := by
  unfold refusedP
  have hta : ∀ w, (Instr.typeAssert (.iface 167 (.agg #[])) 20 167 true).run Tryd.prog w = .ok (.tuple #[.agg #[], .bool true]) w := fun w => by kernel_rfl
  have hc2 : (w.alloc (.cells #[] 167)).cell? p = some (.int .i64 x) := (World.cell?_of_block (Below.heap_alloc _ _ _ hp)).trans hc
  have hz2 : (w.alloc (.cells #[] 167)).frozen? p = false := (World.frozen?_of_block (Below.heap_alloc _ _ _ hp)).trans hz
  refine callsD_of_wpS Tryd.func114 rfl fun c₀ cs hu => ?_
  apply wpS_seq
  apply wpS_region
  simp [wpOpsS, go_sem, recoverD, hu, Tryd.ntmps114, Exit.thenS]
  refine wpS_of_wp ?_
  simp only [List.size_toArray, List.length_cons, List.length_nil, Nat.reduceAdd, Nat.reduceSub, Array.replicate_succ, Array.replicate_zero, List.push_toArray, List.append_toArray, List.nil_append, List.cons_append, List.setIfInBounds_toArray, List.set_cons_zero, List.set_cons_succ]
  go_wp2_with fail
  simp [bodyPostS, results, Tryd.results114]
set_option maxRecDepth 20000 in
set_option maxHeartbeats 1000000 in
theorem checked_85 (ok bad : Prop) (lb : Array Value) (w : World) (hcall : ∀ W, Below w.heap.size w W → Calls Tryd.prog 85 lb W fun e w' => (ok ∧ (∃ v, e = .returned v) ∨ bad ∧ e = .panicked refusedP) ∧ Below W.heap.size W w') :
    Calls Tryd.prog 84 #[.func (.func 85) #[] lb] w fun e w' => (ok ∧ e = .returned (.int .i64 0) ∨ bad ∧ e = .returned (.int .i64 9)) ∧ Below w.heap.size w w' := by
  have hmf : ∀ (fn : Fn) (first cap : Array Value) (w : World), (Instr.makeFunc fn first cap).run Tryd.prog w = .ok (.func fn first cap) w := fun _ _ _ _ => rfl
  have k0 := Blk.new w #[.int .i64 0] 25
  have hB : Below w.heap.size w (w.alloc (.cells #[.int .i64 0] 25)) := (Below.refl _ _).alloc (Nat.le_refl _) _
  go_enter_defers Tryd.func84, Tryd.ntmps84
  go_wp2_with fail
  refine (hcall _ hB).mono ?_
  rintro e W1 ⟨⟨hok, v, rfl⟩ | ⟨hbad, rfl⟩, hb⟩
  · have k1 := k0.below hb k0.lt
    have hc := k1.cell 0
    have hz := k1.free 0
    have hB1 := (hB.trans (hb.mono hB.size)).setCell (p := ⟨w.heap.size, 0, none⟩) (Nat.le_refl _) (.int .i64 0)
    have k2 := k1.set 0 (.int .i64 0)
    have hc2 := k2.cell 0
    go_wp2_with fail
    refine leaves_cons (f := 114) (args := #[.pointer (some ⟨w.heap.size, 0, none⟩)]) (by simp) (by simp [go_sem]) ?_
    refine (caught_idle ⟨w.heap.size, 0, none⟩ _).mono ?_
    rintro e u' w'' ⟨rfl, rfl, rfl⟩
    simp [Leaves, settle, results, Tryd.results84, go_sem, hc2]
    exact ⟨hok, hB1⟩
  · have k1 := k0.below hb k0.lt
    have hc := k1.cell 0
    have hz := k1.free 0
    have hB1 := (((hB.trans (hb.mono hB.size))).alloc (Nat.le_trans hB.size hb.size) (.cells #[] 167)).setCell (p := ⟨w.heap.size, 0, none⟩) (Nat.le_refl _) (.int .i64 9)
    have k2 := (k1.alloc (.cells #[] 167)).set 0 (.int .i64 9)
    have hc2 := k2.cell 0
    have hp := k1.lt
    go_wp2_with fail
    refine leaves_cons (f := 114) (args := #[.pointer (some ⟨w.heap.size, 0, none⟩)]) (by simp) (by simp [go_sem]) ?_
    refine (caught_panicking ⟨w.heap.size, 0, none⟩ 0 _ hc hz hp).mono ?_
    rintro e u' w'' ⟨rfl, rfl, rfl⟩
    simp [Leaves, settle, results, Tryd.results84, go_sem, hc2]
    exact ⟨hbad, hB1⟩
set_option maxRecDepth 20000 in
set_option maxHeartbeats 1000000 in
theorem checked_92 (ok bad : Prop) (lb : Array Value) (w : World) (hcall : ∀ W, Below w.heap.size w W → Calls Tryd.prog 92 lb W fun e w' => (ok ∧ (∃ v, e = .returned v) ∨ bad ∧ e = .panicked refusedP) ∧ Below W.heap.size W w') :
    Calls Tryd.prog 84 #[.func (.func 92) #[] lb] w fun e w' => (ok ∧ e = .returned (.int .i64 0) ∨ bad ∧ e = .returned (.int .i64 9)) ∧ Below w.heap.size w w' := by
  have hmf : ∀ (fn : Fn) (first cap : Array Value) (w : World), (Instr.makeFunc fn first cap).run Tryd.prog w = .ok (.func fn first cap) w := fun _ _ _ _ => rfl
  have k0 := Blk.new w #[.int .i64 0] 25
  have hB : Below w.heap.size w (w.alloc (.cells #[.int .i64 0] 25)) := (Below.refl _ _).alloc (Nat.le_refl _) _
  go_enter_defers Tryd.func84, Tryd.ntmps84
  go_wp2_with fail
  refine (hcall _ hB).mono ?_
  rintro e W1 ⟨⟨hok, v, rfl⟩ | ⟨hbad, rfl⟩, hb⟩
  · have k1 := k0.below hb k0.lt
    have hc := k1.cell 0
    have hz := k1.free 0
    have hB1 := (hB.trans (hb.mono hB.size)).setCell (p := ⟨w.heap.size, 0, none⟩) (Nat.le_refl _) (.int .i64 0)
    have k2 := k1.set 0 (.int .i64 0)
    have hc2 := k2.cell 0
    go_wp2_with fail
    refine leaves_cons (f := 114) (args := #[.pointer (some ⟨w.heap.size, 0, none⟩)]) (by simp) (by simp [go_sem]) ?_
    refine (caught_idle ⟨w.heap.size, 0, none⟩ _).mono ?_
    rintro e u' w'' ⟨rfl, rfl, rfl⟩
    simp [Leaves, settle, results, Tryd.results84, go_sem, hc2]
    exact ⟨hok, hB1⟩
  · have k1 := k0.below hb k0.lt
    have hc := k1.cell 0
    have hz := k1.free 0
    have hB1 := (((hB.trans (hb.mono hB.size))).alloc (Nat.le_trans hB.size hb.size) (.cells #[] 167)).setCell (p := ⟨w.heap.size, 0, none⟩) (Nat.le_refl _) (.int .i64 9)
    have k2 := (k1.alloc (.cells #[] 167)).set 0 (.int .i64 9)
    have hc2 := k2.cell 0
    have hp := k1.lt
    go_wp2_with fail
    refine leaves_cons (f := 114) (args := #[.pointer (some ⟨w.heap.size, 0, none⟩)]) (by simp) (by simp [go_sem]) ?_
    refine (caught_panicking ⟨w.heap.size, 0, none⟩ 0 _ hc hz hp).mono ?_
    rintro e u' w'' ⟨rfl, rfl, rfl⟩
    simp [Leaves, settle, results, Tryd.results84, go_sem, hc2]
    exact ⟨hbad, hB1⟩
end Go.Proofs.YtdpgebifeaakjaaDoor

/- The walk of CheckGrowth's closure. -/
namespace Go.Proofs.YtdpgebifeaakjaaDoor
set_option linter.unusedSimpArgs false
set_option linter.unusedVariables false
open Go.RowKit
theorem size142 : (Tryd.prog.info? 142).map (·.size) = some 3 := by kernel_rfl
theorem box142 (p q r : Option Addr) (L c M d N e : Nat) (w : World) : (Instr.box 142 (.agg #[.slice p L c, .slice q M d, .slice r N e])).run Tryd.prog w = .ok (.pointer (some ⟨w.heap.size, 0, none⟩)) (w.alloc (.cells #[.slice p L c, .slice q M d, .slice r N e] 142)) := by kernel_rfl
theorem SlC.of_heads {W W' : World} {base : Nat} {v : Value} {l : List (Nat × Nat)} (h : W.ownsRow base 106 2 v l.length (cellsOf l)) (hh : Heads 106 (l.length * 2) W W') : SlC W' v l := by
  have hs := SlC.of_owns h
  obtain ⟨p, c, rfl, h1, h2⟩ := hs
  refine ⟨p, c, rfl, h1, fun j x hx => ?_⟩
  obtain ⟨g, o, hp, c0, c1⟩ := h2 j x hx
  have hj := (List.getElem?_eq_some_iff.1 hx).1
  obtain ⟨_, ⟨e, _⟩ | ⟨g', cap, cur, e, _, hb, _⟩⟩ := h
  · injection e with e; rw [hp] at e; cases e
  · injection e with e
    rw [hp] at e
    injection e with e
    injection e with e1 e2
    subst e1 e2
    rw [Nat.zero_add] at c0 c1
    refine ⟨g, 0, hp, ?_, ?_⟩
    · rw [Nat.zero_add]; exact (hh.cell (C := cur) hb (by omega)).trans c0
    · rw [Nat.zero_add]; exact (hh.cell (C := cur) hb (by omega)).trans c1
theorem Digs.of_heads {W W' : World} {base k : Nat} {v : Value} {T : Nat → Nat → BitVec 8} (h : W.ownsRow base 23 16 v k (digCells T k)) (hh : Heads 23 (k * 16) W W') : Digs W' v k T := by
  obtain ⟨p, c, rfl, h1, h2⟩ := Digs.of_owns h
  refine ⟨p, c, rfl, h1, fun j hj => ?_⟩
  obtain ⟨g, o, hp, hr⟩ := h2 j hj
  obtain ⟨_, ⟨e, _⟩ | ⟨g', cap, cur, e, _, hb, _⟩⟩ := h
  · injection e with e; rw [hp] at e; cases e
  · injection e with e
    rw [hp] at e
    injection e with e
    injection e with e1 e2
    subst e1 e2
    refine ⟨g, 0, hp, fun i v hv => ?_⟩
    have hi : i < 16 := by
      have := (List.getElem?_eq_some_iff.1 hv).1
      rw [Array.length_toList, A8.size] at this
      exact this
    rw [Nat.zero_add] at hr
    have hc := hr i v hv
    rw [Nat.zero_add]
    exact (hh.cell (C := cur) hb (by omega)).trans hc
theorem Digs.congr {W : World} {v : Value} {k : Nat} {T U : Nat → Nat → BitVec 8} (h : Digs W v k T) (e : ∀ j, j < k → T j = U j) : Digs W v k U := by
  obtain ⟨p, c, e1, h1, h2⟩ := h
  exact ⟨p, c, e1, h1, fun j hj => by rw [← e j hj]; exact h2 j hj⟩
theorem ownsRow_len {W : World} {base e size k n c : Nat} {p : Option Addr} {xs : List Value} (h : W.ownsRow base e size (.slice p n c) k xs) : n = k := by
  obtain ⟨_, ⟨e, hk⟩ | ⟨g, cap, cur, e, _⟩⟩ := h
  · injection e with _ e; omega
  · injection e
theorem Forest.below {β b : Nat} {W W' : World} {p : Option Addr} {L c : Nat} {D : Nat → Nat → BitVec 8} {kb kt : Nat} {xs : List Value} {T : Nat → Nat → BitVec 8} {bp : Option Addr} {bn bc : Nat} {tp : Option Addr} {tn tc : Nat} (h : Forest β b W p L c D kb kt xs T bp bn bc tp tn tc) (hb : Below W.heap.size W W') (hβ : β ≤ b) : Forest β b W' p L c D kb kt xs T bp bn bc tp tn tc :=
  ⟨h.blk.below hb h.blk.lt, ownsRow_below h.r33 hb, ownsRow_below h.r80 hb, h.digs.trans (hb.mono (by have := h.blk.lt; omega))⟩
theorem Forest.ftI {β b : Nat} {W : World} {p : Option Addr} {L c : Nat} {D : Nat → Nat → BitVec 8} {kb kt : Nat} {A : List (Nat × Nat)} {T U : Nat → Nat → BitVec 8} {bp : Option Addr} {bn bc : Nat} {tp : Option Addr} {tn tc : Nat} (h : Forest β b W p L c D kb kt (cellsOf A) T bp bn bc tp tn tc) (hb : kb = A.length) (ht : kt = A.length) (hU : ∀ j, j < A.length → T j = U j) : FtI b A U (.slice p L c) bp bc tp tc W := by
  have e1 := ownsRow_len h.r33
  have e2 := ownsRow_len h.r80
  have h1 := h.blk
  have h2 := h.r33
  have h3 := h.r80
  subst e1 e2
  subst hb
  rw [ht] at h1 h3
  exact ⟨h1, SlC.of_owns h2, (Digs.of_owns h3).congr hU⟩
theorem cellsOf_append : ∀ (A B : List (Nat × Nat)), cellsOf (A ++ B) = cellsOf A ++ cellsOf B
  | [], _ => rfl
  | x :: A, B => by simp [cellsOf, cellsOf_append A B]
/-- A copy of a forest, behind a read. -/
theorem Forest.copy {β b B : Nat} {W W' : World} {p : Option Addr} {L c : Nat} {D : Nat → Nat → BitVec 8} {kb kt : Nat} {A : List (Nat × Nat)} {T U : Nat → Nat → BitVec 8} {bp : Option Addr} {bn bc : Nat} {tp : Option Addr} {tn tc : Nat} (h : Forest β b W p L c D kb kt (cellsOf A) T bp bn bc tp tn tc) (hb : kb = A.length) (ht : kt = A.length) (hU : ∀ j, j < A.length → T j = U j)
    (k : Blk W' B #[.slice p L c, .slice bp bn bc, .slice tp tn tc] 142) (h33 : Heads 106 (kb * 2) W W') (h80 : Heads 23 (kt * 16) W W') : FtI B A U (.slice p L c) bp bc tp tc W' := by
  have e1 := ownsRow_len h.r33
  have e2 := ownsRow_len h.r80
  have h2 := h.r33
  have h3 := h.r80
  subst e1 e2
  subst hb
  rw [ht] at k h3 h80
  exact ⟨k, SlC.of_heads h2 h33, (Digs.of_heads h3 h80).congr hU⟩
set_option maxRecDepth 20000 in
set_option maxHeartbeats 1000000 in
theorem grow85 (g0 g1 g2 g3 g4 m n L c : Nat) (p : Option Addr) (D : Nat → Nat → BitVec 8) (old new d1 d2 : Nat → BitVec 8) (W : World) (hmn : m ≤ n) (hn : n ≤ 1099511627776) (hL : L ≤ 1000)
    (k0 : Blk W g0 #[.slice p L c] 80) (k1 : Blk W g1 #[.int .i64 (m : Int)] 3) (k2 : Blk W g2 #[.int .i64 (n : Int)] 3) (k3 : Blk W g3 (A8 16 old) 23) (k4 : Blk W g4 (A8 16 new) 23)
    (hD : Digs W (.slice p L c) L D) (hT : TabAt 3 Lib.deBruijn64tab W) (h3 : 3 < W.heap.size) (hg1 : Gives D m (coverL 0 m) d1) (hg2 : Gives D n (coverL 0 m ++ coverL m n) d2) :
    Calls Tryd.prog 85 #[.pointer (some ⟨g0, 0, none⟩), .pointer (some ⟨g1, 0, none⟩), .pointer (some ⟨g2, 0, none⟩), .pointer (some ⟨g3, 0, none⟩), .pointer (some ⟨g4, 0, none⟩)] W fun e w' =>
      ((L = (coverL 0 m).length + (coverL m n).length ∧ eqRow 16 d1 old = true ∧ eqRow 16 d2 new = true) ∧ (∃ v, e = .returned v) ∨ (¬ (L = (coverL 0 m).length + (coverL m n).length ∧ eqRow 16 d1 old = true ∧ eqRow 16 d2 new = true)) ∧ e = .panicked refusedP) ∧ Below W.heap.size W w' := by
  obtain ⟨β, hβ⟩ : ∃ β, W.heap.size = β := ⟨_, rfl⟩
  have kb := Blk.new W #[.slice p L c, .slice none 0 0, .slice none 0 0] 142
  have hB : Below β W (W.alloc (.cells #[.slice p L c, .slice none 0 0, .slice none 0 0] 142)) := (Below.refl _ _).alloc (by omega) _
  obtain ⟨W1, hW1⟩ : ∃ W1, W.alloc (.cells #[.slice p L c, .slice none 0 0, .slice none 0 0] 142) = W1 := ⟨_, rfl⟩
  have b85 := box142
  rw [hβ] at kb
  rw [hW1] at kb hB
  have l0 := k0.lt; have l1 := k1.lt; have l2 := k2.lt; have l3 := k3.lt; have l4 := k4.lt
  have hd1 : DigsB β W1 (.slice p L c) L D := (hβ ▸ DigsB.of hD : DigsB β W _ L D).trans hB
  have hf1 : Forest β β W1 p L c D 0 0 [] D none 0 0 none 0 0 := ⟨kb, World.ownsRow_nil _ _ _ _, World.ownsRow_nil _ _ _ _, hd1⟩
  have hT1 : TabAt 3 Lib.deBruijn64tab W1 := fun j hj => (hB.cell (p := ⟨3, j, none⟩) (by simp; omega)).trans (hT j hj)
  have R1 := hide (read_any β β 0 m L 0 0 c p D [] D none none 0 0 0 0 W1 (Nat.zero_le _) (by omega) hL (by omega) (by omega) (Nat.le_refl _) (by omega) hT1 hf1)
  have c0 := k0.cell 0
  have c1 := (k1.below hB (by omega)).cell 0
  have HG1 := hide hg1; have HG2 := hide hg2
  have HD := hide hD
  have hTW := hide hT
  have hwβ := hβ
  clear hg1 hg2 hf1 hT1 hd1 hD hT
  go_enter Tryd.func85, Tryd.ntmps85
  go_wp2_with fail
  refine R1.out.mono ?_
  rintro e W2 (⟨hlt, rfl, hb⟩ | ⟨hle, ⟨v, rfl⟩, hb, _, _, _, p1, q1, bp1, bn1, bc1, tp1, tn1, tc1, hf2⟩)
  · have hB2 := hB.trans hb
    go_wp2_with fail
    exact ⟨rfl, .inr ⟨fun h => by omega, rfl⟩, by simpa only [hwβ] using hB2⟩
  have hB2 := hB.trans hb
  clear hb R1 kb hB b85
  have kb := hf2.blk
  have n6 := Blk.new W2 #[.slice none 0 0, .slice none 0 0, .slice none 0 0] 142
  have lb2 := kb.lt
  go_wp2_with (first | (refine wp_loadRow rfl 142 _ rfl β rfl kb Tryd.underlying142 rfl size142 rfl ?_) | (refine wp_storeRow (C' := #[.slice p1 (L - (coverL 0 m).length) q1, .slice bp1 bn1 bc1, .slice tp1 tn1 tc1]) rfl 142 _ _ rfl _ rfl rfl n6 size142 rfl rfl (by simp [Value.oneCell']) rfl ?_; intro W3 hu k6; have hB3 := hB2.trans ((hu.below ((Below.refl _ _).alloc (Nat.le_refl _) _) (Nat.le_refl _)).mono (by omega)); have c1 := (k1.below hB3 (by omega)).cell 0; have c2 := (k2.below hB3 (by omega)).cell 0))
  have hb3 : Below W2.heap.size W2 W3 := hu.below ((Below.refl _ _).alloc (Nat.le_refl _) _) (Nat.le_refl _)
  have hf3 := hf2.below hb3 (Nat.le_refl _)
  have l6 := k6.lt
  have hT3 : TabAt 3 Lib.deBruijn64tab W3 := fun j hj => (hB3.cell (p := ⟨3, j, none⟩) (by simp; omega)).trans (hTW.out j hj)
  clear hf2 kb n6 hu hb3
  generalize W2.heap.size = B6 at k6 l6 lb2 ⊢
  have hlen : (coverL 0 m).length ≤ 1000 := by omega
  have R2 := hide (read_any β β m n (L - (coverL 0 m).length) (0 + (coverL 0 m).length) (0 + (coverL 0 m).length) q1 p1 (fun j => D ((coverL 0 m).length + j)) _ _ bp1 tp1 bn1 bc1 tn1 tc1 W3 hmn hn (by omega) (by omega) (by omega) (Nat.le_refl _) (by omega) hT3 hf3)
  refine R2.out.mono ?_
  rintro e W4 (⟨hlt, rfl, hb⟩ | ⟨hle2, ⟨v2, rfl⟩, hb, hh1, hh2, hkeep, p2, q2, bp2, bn2, bc2, tp2, tn2, tc2, hf4⟩)
  · have hB4 := hB3.trans hb
    clear hT3
    go_wp2_with fail
    exact ⟨rfl, .inr ⟨fun h => by omega, rfl⟩, by simpa only [hwβ] using hB4⟩
  have hB4 := hB3.trans hb
  have k6' : Blk W4 B6 #[.slice p1 (L - (coverL 0 m).length) q1, .slice bp1 bn1 bc1, .slice tp1 tn1 tc1] 142 := (hkeep _ _ _ k6 (by decide) (by decide) (by omega)).trans k6
  have fo := hf3.copy (A := coverL 0 m) (U := D) (by omega) (by omega) (fun j hj => by rw [joinT]; split <;> simp) k6' hh1 hh2
  have fn : FtI β (coverL 0 m ++ coverL m n) D _ _ _ _ _ W4 := Forest.ftI (A := coverL 0 m ++ coverL m n) (by rw [cellsOf_append]; exact hf4) (by rw [List.length_append]; omega) (by rw [List.length_append]; omega) (fun j hj => by
    rw [joinT, joinT]
    split
    · split <;> simp
    · rw [show (coverL 0 m).length + (j - (0 + (coverL 0 m).length)) = j by omega])
  have hlen2 : (coverL m n).length ≤ 1000 := by omega
  have cd := hf4.blk.cell 0
  have DN := hide (done_any β _ _ _ W4 cd)
  clear hb hT3 R2 hf3 hf4 hkeep hh1 hh2 k6 k6' cd
  go_wp2_with fail
  refine DN.out.mono ?_
  rintro e W5 ⟨⟨hl0, v3, rfl⟩ | ⟨hl0, rfl⟩, hb⟩
  rotate_left
  · have hB5 := hB4.trans (hb.mono (by have := hB4.size; omega))
    go_wp2_with fail
    exact ⟨rfl, .inr ⟨fun h => by omega, rfl⟩, by simpa only [hwβ] using hB5⟩
  have hB5 := hB4.trans (hb.mono (by have := hB4.size; omega))
  replace fo := fo.below hb
  replace fn := fn.below hb
  have c1 := (k1.below hB5 (by omega)).cell 0
  have k3' := k3.below hB5 (by omega)
  have IS := hide (is_any B6 m _ _ _ _ (coverL 0 m) D d1 old _ W5 (by omega) hlen HG1.out fo)
  clear hb DN fo
  go_wp2_with (refine wp_loadRow rfl 23 _ rfl g3 rfl k3' Tryd.underlying23 rfl size23 (A8.size _ _) ?_)
  refine IS.out.mono ?_
  rintro e W6 ⟨⟨h1, v4, rfl⟩ | ⟨h1, rfl⟩, hb⟩
  rotate_left
  · have hB6 := hB5.trans (hb.mono (by have := hB5.size; omega))
    go_wp2_with fail
    exact ⟨rfl, .inr ⟨fun h => (by rw [h1] at h; cases h.2.1), rfl⟩, by simpa only [hwβ] using hB6⟩
  have hB6 := hB5.trans (hb.mono (by have := hB5.size; omega))
  replace fn := fn.below hb
  have c2 := (k2.below hB6 (by omega)).cell 0
  have k4' := k4.below hB6 (by omega)
  have IS := hide (is_any β n _ _ _ _ (coverL 0 m ++ coverL m n) D d2 new _ W6 hn (by rw [List.length_append]; omega) HG2.out fn)
  clear hb k3' fn
  go_wp2_with (refine wp_loadRow rfl 23 _ rfl g4 rfl k4' Tryd.underlying23 rfl size23 (A8.size _ _) ?_)
  refine IS.out.mono ?_
  rintro e W7 ⟨⟨h2, v5, rfl⟩ | ⟨h2, rfl⟩, hb⟩
  rotate_left
  · have hB7 := hB6.trans (hb.mono (by have := hB6.size; omega))
    go_wp2_with fail
    exact ⟨rfl, .inr ⟨fun h => (by rw [h2] at h; cases h.2.2), rfl⟩, by simpa only [hwβ] using hB7⟩
  have hB7 := hB6.trans (hb.mono (by have := hB6.size; omega))
  go_wp2_with fail
  go_end0
  exact ⟨.inl ⟨⟨by omega, h1, h2⟩, _, rfl⟩, by simpa only [hwβ] using hB7⟩
end Go.Proofs.YtdpgebifeaakjaaDoor

/- Slices as they are read, and appends of any of them to owned ones. -/
namespace Go.Proofs.YtdpgebifeaakjaaDoor
set_option linter.unusedSimpArgs false
set_option linter.unusedVariables false
open Go.RowKit

/-- A slice of k elements of so many cells each, that reads as xs. -/
def Sees (W : World) (size : Nat) (v : Value) (k : Nat) (xs : List Value) : Prop :=
  ∃ p c, v = .slice p k c ∧ k ≤ c ∧ xs.length = k * size ∧ (0 < k → ∃ g o, p = some ⟨g, o, none⟩ ∧ ∀ j u, xs[j]? = some u → W.cell? ⟨g, o + j, none⟩ = some u)
theorem Sees.below {W W' : World} {size k : Nat} {v : Value} {xs : List Value} (h : Sees W size v k xs) (hb : Below W.heap.size W W') : Sees W' size v k xs := by
  obtain ⟨p, c, e, h1, h2, h3⟩ := h
  refine ⟨p, c, e, h1, h2, fun hk => ?_⟩
  obtain ⟨g, o, ep, hc⟩ := h3 hk
  exact ⟨g, o, ep, fun j u hj => cell_below (hc j u hj) hb⟩
theorem Sees.nil (W : World) (size : Nat) (p : Option Addr) (c : Nat) : Sees W size (.slice p 0 c) 0 [] := ⟨p, c, rfl, Nat.zero_le _, by simp, fun h => absurd h (Nat.lt_irrefl _)⟩
theorem Sees.of_owns {W : World} {base e size k : Nat} {v : Value} {xs : List Value} (h : W.ownsRow base e size v k xs) : Sees W size v k xs := by
  have hc := fun (g : Nat) (e : v.ownBlock = some g) => World.ownsRow.cells h e
  obtain ⟨hl, ⟨rfl, rfl⟩ | ⟨g, cap, cur, rfl, _, _, h1, _, _, _⟩⟩ := h
  · exact ⟨none, 0, rfl, Nat.le_refl _, hl, fun h => absurd h (Nat.lt_irrefl _)⟩
  · refine ⟨_, _, rfl, h1, hl, fun _ => ⟨g, 0, rfl, fun j u hj => ?_⟩⟩
    have := hc g rfl j u hj
    rw [Addr.add_lit, Nat.zero_add] at this
    rw [Nat.zero_add]
    exact this
theorem Digs.sees {W : World} {k : Nat} {v : Value} {T : Nat → Nat → BitVec 8} (h : Digs W v k T) : Sees W 16 v k (digCells T k) := by
  have h' := h
  obtain ⟨p, c, rfl, h1, h2⟩ := h
  refine ⟨p, c, rfl, h1, digCells_length T k, fun hk => ?_⟩
  obtain ⟨g, o, e, _⟩ := h2 0 hk
  subst e
  refine ⟨g, o, rfl, fun j u hj => ?_⟩
  have := digs_cells h' j u hj
  rw [Addr.add_lit] at this
  exact this
theorem Sees.digs {W : World} {k : Nat} {v : Value} {T : Nat → Nat → BitVec 8} (h : Sees W 16 v k (digCells T k)) : Digs W v k T := by
  obtain ⟨p, c, rfl, h1, h2, h3⟩ := h
  refine ⟨p, c, rfl, h1, fun j hj => ?_⟩
  obtain ⟨g, o, e, hc⟩ := h3 (by omega)
  refine ⟨g, o, e, fun i u hi => ?_⟩
  have hi' := (List.getElem?_eq_some_iff.1 hi).1
  rw [Array.length_toList, A8.size] at hi'
  rw [Array.getElem?_toList, A8.get _ hi'] at hi
  rw [Nat.add_assoc]
  exact hc (j * 16 + i) u (by rw [digCells_at T k j i hj hi']; exact hi)
theorem cells_at2 : ∀ (l : List (Nat × Nat)) (j : Nat) (x : Nat × Nat), l[j]? = some x → (cellsOf l)[j * 2]? = some (.int .i64 (x.1 : Int)) ∧ (cellsOf l)[j * 2 + 1]? = some (.int .i64 (x.2 : Int))
  | [], j, x, h => by cases h
  | y :: l, 0, x, h => by
    obtain rfl : y = x := by simpa using h
    exact ⟨rfl, rfl⟩
  | y :: l, j + 1, x, h => by
    have := cells_at2 l j x (by simpa using h)
    rw [show (j + 1) * 2 = j * 2 + 1 + 1 by omega]
    exact this
theorem SlC.of_sees {W : World} {v : Value} {l : List (Nat × Nat)} (h : Sees W 2 v l.length (cellsOf l)) : SlC W v l := by
  obtain ⟨p, c, rfl, h1, h2, h3⟩ := h
  refine ⟨p, c, rfl, h1, fun j x hx => ?_⟩
  obtain ⟨g, o, e, hc⟩ := h3 (by have := (List.getElem?_eq_some_iff.1 hx).1; omega)
  have := cells_at2 l j x hx
  refine ⟨g, o, e, ?_, ?_⟩
  · rw [show o + j * 2 = o + (j * 2) by omega]; exact hc _ _ this.1
  · rw [show o + j * 2 + 1 = o + (j * 2 + 1) by omega]; exact hc _ _ this.2
/-- What an append asks of the type of its elements. -/
structure ElemF (t e : TypeId) (size bytes : Nat) : Prop where
  ht : Tryd.prog.underlying t = some (.slice e)
  hi : ∃ i z, Tryd.prog.info? e = some i ∧ i.zero = some z ∧ i.size = size ∧ i.bytes = bytes ∧ z.cells.size = size
  hs : 0 < size
  hb : bytes ≤ 100000
theorem ElemF.of {t e : TypeId} {size bytes : Nat} {z : Value} (ht : Tryd.prog.underlying t = some (.slice e)) (hi : (Tryd.prog.info? e).map (fun i => (i.zero, i.size, i.bytes)) = some (some z, size, bytes)) (hz : z.cells.size = size) (hs : 0 < size) (hb : bytes ≤ 100000) : ElemF t e size bytes := by
  obtain ⟨i0, hi0, hz0, hz1, hz2⟩ := info_parts hi
  exact ⟨ht, ⟨i0, z, hi0, hz0, hz1, hz2, hz⟩, hs, hb⟩
theorem elem80 : ElemF 80 23 16 16 := ElemF.of Tryd.underlying80 info23 rfl (by decide) (by decide)
theorem elem33 : ElemF 33 106 2 16 := ElemF.of Tryd.underlying33 info106 rfl (by decide) (by decide)
theorem info9 : (Tryd.prog.info? 9).map (fun i => (i.zero, i.size, i.bytes)) = some (some (.string ⟨#[]⟩), 1, 16) := by kernel_rfl
theorem elem148 : ElemF 148 9 1 16 := ElemF.of Tryd.underlying148 info9 rfl (by decide) (by decide)
/-- Any slice is appended to an owned one. -/
theorem oper_append {o : Oper} {a : Act} {w : World} {Q : Exit → Act → World → Prop} {K : Act → World → Prop} {t e size bytes : Nat} (E : ElemF t e size bytes)
    (s x : Operand) (hop : o.op = Op.call { callee := Callee.builtin Builtin.append, args := #[s, x], argTypes := #[t, t] })
    {base k m : Nat} {v u : Value} {xs ys : List Value} (hs : a.eval s = v) (hv : w.ownsRow base e size v k xs) (hx : a.eval x = u) (hu : Sees w size u m ys)
    (one : ∀ y ∈ ys, y.oneCell' = true) (hkm : k + m ≤ 1000000) (hbase : base ≤ w.heap.size)
    (h : ∀ v' w', w'.ownsRow base e size v' (k + m) (xs ++ ys) → w.grownBy w' v.ownBlock → K (a.put o.dst v') w') : Oper.wp Tryd.prog o a w K Q := by
  obtain ⟨i0, z, hi0, hz0, hz1, hz2, hz3⟩ := E.hi
  have hbb := E.hb
  have hss := E.hs
  have h63 : k + m ≤ maxLen := by unfold maxLen; omega
  have hbytes : (k + m) * bytes ≤ 140737488355328 := Nat.le_trans (Nat.mul_le_mul hkm hbb) (by decide)
  obtain ⟨p, cap, rfl, hc, hl, hd⟩ := hu
  cases p with
  | none =>
    have hm : m = 0 := by
      cases m with
      | zero => rfl
      | succ m =>
        obtain ⟨_, _, e, _⟩ := hd (by omega)
        cases e
    subst hm
    have hys : ys = [] := List.eq_nil_of_length_eq_zero (by rw [hl]; omega)
    subst hys
    have hrun := run_append_none (P := Tryd.prog) (w := w) base t o.type e i0 size E.ht hi0 v k cap _ hv
    unfold Oper.wp
    simp [execOp, hop, resolve, invoke, builtin, hs, hx, hrun, Result.andThen]
    refine h v w ?_ ⟨rfl, rfl, rfl, Nat.le_refl _, fun k _ _ => rfl⟩
    rw [List.append_nil, Nat.add_zero]
    exact hv
  | some ad =>
    by_cases hm : m = 0
    · subst hm
      have hys : ys = [] := List.eq_nil_of_length_eq_zero (by rw [hl]; omega)
      subst hys
      exact wp_append_own w s x t hop base e i0 z size bytes E.ht hi0 hz0 hz1 hz2 hz3 hss v k _ hs hv ad 0 cap [] hx (by simp) (fun j u hj => by simp at hj) (by simp) h63 hbytes hbase fun v' w' h2 h3 _ => h v' w' h2 h3
    · obtain ⟨g, o', e', hcc⟩ := hd (by omega)
      injection e' with e'
      subst e'
      exact wp_append_own w s x t hop base e i0 z size bytes E.ht hi0 hz0 hz1 hz2 hz3 hss v k _ hs hv ⟨g, o', none⟩ m cap ys hx hl (fun j u hj => by rw [Addr.add_lit]; exact hcc j u hj) one h63 hbytes hbase fun v' w' h2 h3 _ => h v' w' h2 h3
theorem wp_append {ops : Array Oper} {rest : List Oper} {o : Oper} {a : Act} {w : World} {Q : Exit → Act → World → Prop} {t e size bytes : Nat} (E : ElemF t e size bytes) (hgd : o.guard = none)
    (s x : Operand) (hop : o.op = Op.call { callee := Callee.builtin Builtin.append, args := #[s, x], argTypes := #[t, t] })
    {base k m : Nat} {v u : Value} {xs ys : List Value} (hs : a.eval s = v) (hv : w.ownsRow base e size v k xs) (hx : a.eval x = u) (hu : Sees w size u m ys)
    (one : ∀ y ∈ ys, y.oneCell' = true) (hkm : k + m ≤ 1000000) (hbase : base ≤ w.heap.size)
    (h : ∀ v' w', w'.ownsRow base e size v' (k + m) (xs ++ ys) → Below base w w' → wpList Tryd.prog ops Q rest (a.put o.dst v') w') : wpList Tryd.prog ops Q (o :: rest) a w :=
  wpList_plain hgd fun _ hK => oper_append E s x hop hs hv hx hu one hkm hbase fun v' w' h2 h3 => hK _ _ (h v' w' h2 ((Below.refl base w).grown h3 hbase fun q e => (hv.lt q e).1))
theorem wp_appendG {ops : Array Oper} {rest : List Oper} {o : Oper} {a : Act} {w : World} {Q : Exit → Act → World → Prop} {t e size bytes : Nat} (E : ElemF t e size bytes) (hgd : o.guard = none)
    (s x : Operand) (hop : o.op = Op.call { callee := Callee.builtin Builtin.append, args := #[s, x], argTypes := #[t, t] })
    {base k m : Nat} {v u : Value} {xs ys : List Value} (hs : a.eval s = v) (hv : w.ownsRow base e size v k xs) (hx : a.eval x = u) (hu : Sees w size u m ys)
    (one : ∀ y ∈ ys, y.oneCell' = true) (hkm : k + m ≤ 1000000) (hbase : base ≤ w.heap.size)
    (h : ∀ v' w', w'.ownsRow base e size v' (k + m) (xs ++ ys) → w.grownBy w' v.ownBlock → wpList Tryd.prog ops Q rest (a.put o.dst v') w') : wpList Tryd.prog ops Q (o :: rest) a w :=
  wpList_plain hgd fun _ hK => oper_append E s x hop hs hv hx hu one hkm hbase fun v' w' h2 h3 => hK _ _ (h v' w' h2 h3)
theorem grown_below {w w' : World} {base e size k : Nat} {v : Value} {xs : List Value} (hv : w.ownsRow base e size v k xs) (hg : w.grownBy w' v.ownBlock) (hbase : base ≤ w.heap.size) : Below base w w' := (Below.refl base w).grown hg hbase fun q e => (hv.lt q e).1
/-- Of two owned rows of other types, one grows. -/
theorem owns_keep {w w' : World} {base e size k base2 e2 size2 k2 : Nat} {v v2 : Value} {xs ys : List Value} (h : w.ownsRow base e size v k xs) (h2 : w.ownsRow base2 e2 size2 v2 k2 ys) (he : e2 ≠ e) (hg : w.grownBy w' v2.ownBlock) : w'.ownsRow base e size v k xs := by
  refine h.kept hg ?_
  obtain ⟨_, ⟨rfl, _⟩ | ⟨g, cap, cur, rfl, _, hh, _⟩⟩ := h2
  · rcases h.2 with ⟨rfl, _⟩ | ⟨g', cap, cur, rfl, _⟩
    · exact .inl rfl
    · exact .inr (fun e => by cases e)
  · exact ownsRow_other h hh he
theorem cellsOf_one : ∀ (l : List (Nat × Nat)), ∀ u ∈ cellsOf l, u.oneCell' = true
  | [], u, h => by cases h
  | x :: l, u, h => by
    have h' : u = .int .i64 (x.1 : Int) ∨ u = .int .i64 (x.2 : Int) ∨ u ∈ cellsOf l := by simpa [cellsOf] using h
    rcases h' with rfl | rfl | h'
    · rfl
    · rfl
    · exact cellsOf_one l u h'
/-- An empty slice is made. -/
theorem build33z (w : World) : (Instr.buildSlice 33 0 #[]).run Tryd.prog w = .ok (.slice (some ⟨w.heap.size, 0, none⟩) 0 0) (w.alloc (.cells #[] 106)) := by kernel_rfl
theorem build148z (w : World) : (Instr.buildSlice 148 0 #[]).run Tryd.prog w = .ok (.slice (some ⟨w.heap.size, 0, none⟩) 0 0) (w.alloc (.cells #[] 9)) := by kernel_rfl
theorem build148 (s : ByteArray) (w : World) : (Instr.buildSlice 148 1 #[(0, .string s)]).run Tryd.prog w = .ok (.slice (some ⟨w.heap.size, 0, none⟩) 1 1) (w.alloc (.cells #[.string s] 9)) := by kernel_rfl
theorem oper_buildz {o : Oper} {a : Act} {w : World} {K : Act → World → Prop} {Q : Exit → Act → World → Prop} {t e : Nat} (ho : o.op = .buildSlice t 0 #[])
    (hz : (Instr.buildSlice t 0 #[]).run Tryd.prog w = .ok (.slice (some ⟨w.heap.size, 0, none⟩) 0 0) (w.alloc (.cells #[] e)))
    (h : K (a.put o.dst (.slice (some ⟨w.heap.size, 0, none⟩) 0 0)) (w.alloc (.cells #[] e))) : Oper.wp Tryd.prog o a w K Q := by
  unfold Oper.wp execOp
  simp only [ho, Sem.run_bind, Array.map_empty, hz, Result.andThen_ok, Sem.run_pure]
  exact h
theorem wp_buildz {ops : Array Oper} {rest : List Oper} {o : Oper} {a : Act} {w : World} {Q : Exit → Act → World → Prop} {t e : Nat} (hgd : o.guard = none) (ho : o.op = .buildSlice t 0 #[])
    (hz : (Instr.buildSlice t 0 #[]).run Tryd.prog w = .ok (.slice (some ⟨w.heap.size, 0, none⟩) 0 0) (w.alloc (.cells #[] e)))
    (h : wpList Tryd.prog ops Q rest (a.put o.dst (.slice (some ⟨w.heap.size, 0, none⟩) 0 0)) (w.alloc (.cells #[] e))) : wpList Tryd.prog ops Q (o :: rest) a w :=
  wpList_plain hgd fun _ hK => oper_buildz ho hz (hK _ _ h)
/-- A slice of one element is made. -/
theorem oper_build1 {o : Oper} {a : Act} {w : World} {K : Act → World → Prop} {Q : Exit → Act → World → Prop} {t e : Nat} (x : Operand) (ho : o.op = .buildSlice t 1 #[(0, x)]) {u : Value} {C : Array Value} (hx : a.eval x = u)
    (hz : (Instr.buildSlice t 1 #[(0, u)]).run Tryd.prog w = .ok (.slice (some ⟨w.heap.size, 0, none⟩) 1 1) (w.alloc (.cells C e)))
    (h : K (a.put o.dst (.slice (some ⟨w.heap.size, 0, none⟩) 1 1)) (w.alloc (.cells C e))) : Oper.wp Tryd.prog o a w K Q := by
  have e : (#[(0, x)].map fun (i, x) => (i, a.eval x)) = #[(0, u)] := by simp [hx]
  unfold Oper.wp execOp
  simp only [ho, Sem.run_bind, e, hz, Result.andThen_ok, Sem.run_pure]
  exact h
theorem wp_build1 {ops : Array Oper} {rest : List Oper} {o : Oper} {a : Act} {w : World} {Q : Exit → Act → World → Prop} {t e : Nat} (hgd : o.guard = none) (x : Operand) (ho : o.op = .buildSlice t 1 #[(0, x)]) {u : Value} {C : Array Value} (hx : a.eval x = u)
    (hz : (Instr.buildSlice t 1 #[(0, u)]).run Tryd.prog w = .ok (.slice (some ⟨w.heap.size, 0, none⟩) 1 1) (w.alloc (.cells C e)))
    (h : wpList Tryd.prog ops Q rest (a.put o.dst (.slice (some ⟨w.heap.size, 0, none⟩) 1 1)) (w.alloc (.cells C e))) : wpList Tryd.prog ops Q (o :: rest) a w :=
  wpList_plain hgd fun _ hK => oper_build1 x ho hx hz (hK _ _ h)
/-- The owned row that is empty. -/
theorem owns_z (w : World) (base e size : Nat) (hb : base ≤ w.heap.size) : (w.alloc (.cells #[] e)).ownsRow base e size (.slice (some ⟨w.heap.size, 0, none⟩) 0 0) 0 [] := by
  have := World.ownsRow_lit (e := e) (size := size) w #[] 0 (Nat.le_refl _) (Nat.zero_le _) (by simp)
  exact ownsRow_base this hb
/-- A slice that a block of one element is. -/
theorem sees_one (w : World) (e size : Nat) (C : Array Value) (hC : C.size = size) : Sees (w.alloc (.cells C e)) size (.slice (some ⟨w.heap.size, 0, none⟩) 1 1) 1 C.toList := by
  refine ⟨_, _, rfl, Nat.le_refl _, by rw [Array.length_toList, hC, Nat.one_mul], fun _ => ⟨_, 0, rfl, fun j u hj => ?_⟩⟩
  rw [Array.getElem?_toList] at hj
  rw [Nat.zero_add]
  exact (Blk.new w C e).cell j |>.trans hj
/-- An owned row of one element. -/
theorem owns_one (w : World) (base e size : Nat) (C : Array Value) (hC : C.size = size) (hb : base ≤ w.heap.size) : (w.alloc (.cells C e)).ownsRow base e size (.slice (some ⟨w.heap.size, 0, none⟩) 1 1) 1 C.toList := by
  refine ⟨by rw [Array.length_toList, hC, Nat.one_mul], .inr ⟨w.heap.size, 1, C, rfl, hb, heap_alloc_new w _, Nat.le_refl _, by unfold maxLen; omega, by rw [hC, Nat.one_mul], ?_⟩⟩
  rw [Nat.one_mul, ← hC, ← Array.length_toList, List.take_length]
theorem addr_add0 (a : Addr) : a.add 0 = a := by cases a; rfl
/-- A slice cut at its end. -/
theorem exec_sliceTo {o : Oper} {W : World} (ρ : Operand → Value) (ty e : TypeId) (s : Nat) (x y : Operand) (ho : o.op = .slice ty x none (some y) none) (p : Option Addr) (k c hi : Nat) (hx : ρ x = .slice p k c) (hy : ρ y = .int .i64 (hi : Int))
    (hu : Tryd.prog.underlying ty = some (.slice e)) (hs : (Tryd.prog.info? e).map (·.size) = some s) (hk : hi ≤ c) :
    (execOp ρ o).run Tryd.prog W = .ok (.value (.slice p hi c)) W := by
  have hu' := run_underlying (P := Tryd.prog) (w := W) hu
  obtain ⟨i, hi', hs'⟩ := Option.map_eq_some_iff.1 hs
  have hk2 : (hi : Int) ≤ (c : Int) := by omega
  unfold execOp
  simp [ho, hx, hy, Instr.sliceAt, Instr.slice, Instr.sliceBounds, Instr.sliceBound, hu', sizeOf, typeInfo, hi', hs', asIntOf, hk, go_sem]
  try (intro _; cases p <;> simp [addr_add0])
/-- A slice cut at its beginning. -/
theorem exec_sliceFrom {o : Oper} {W : World} (ρ : Operand → Value) (ty e : TypeId) (s : Nat) (x y : Operand) (ho : o.op = .slice ty x (some y) none none) (p : Option Addr) (k c lo : Nat) (hx : ρ x = .slice p k c) (hy : ρ y = .int .i64 (lo : Int))
    (hu : Tryd.prog.underlying ty = some (.slice e)) (hs : (Tryd.prog.info? e).map (·.size) = some s) (hk : lo ≤ k) :
    (execOp ρ o).run Tryd.prog W = .ok (.value (.slice (if c = lo then p else p.map (·.add (lo * s))) (k - lo) (c - lo))) W := by
  have hu' := run_underlying (P := Tryd.prog) (w := W) hu
  obtain ⟨i, hi', hs'⟩ := Option.map_eq_some_iff.1 hs
  have hk2 : (lo : Int) ≤ (k : Int) := by omega
  unfold execOp
  simp [ho, hx, hy, Instr.sliceAt, Instr.slice, Instr.sliceBounds, Instr.sliceBound, hu', sizeOf, typeInfo, hi', hs', asIntOf, hk, go_sem]
theorem wp_sliceTo {ops : Array Oper} {rest : List Oper} {o : Oper} {a : Act} {w : World} {Q : Exit → Act → World → Prop} (hgd : o.guard = none) (ty e : TypeId) (s : Nat) (x y : Operand) (ho : o.op = .slice ty x none (some y) none) {p : Option Addr} {k c hi : Nat} (hx : a.eval x = .slice p k c) (hy : a.eval y = .int .i64 (hi : Int))
    (hu : Tryd.prog.underlying ty = some (.slice e)) (hs : (Tryd.prog.info? e).map (·.size) = some s) (hk : hi ≤ c) (h : wpList Tryd.prog ops Q rest (a.put o.dst (.slice p hi c)) w) : wpList Tryd.prog ops Q (o :: rest) a w := by
  refine wpList_plain hgd fun _ hK => ?_
  unfold Oper.wp
  rw [exec_sliceTo a.eval ty e s x y ho p k c hi hx hy hu hs hk]
  exact hK _ _ h
theorem wp_sliceFrom {ops : Array Oper} {rest : List Oper} {o : Oper} {a : Act} {w : World} {Q : Exit → Act → World → Prop} (hgd : o.guard = none) (ty e : TypeId) (s : Nat) (x y : Operand) (ho : o.op = .slice ty x (some y) none none) {p : Option Addr} {k c lo : Nat} (hx : a.eval x = .slice p k c) (hy : a.eval y = .int .i64 (lo : Int))
    (hu : Tryd.prog.underlying ty = some (.slice e)) (hs : (Tryd.prog.info? e).map (·.size) = some s) (hk : lo ≤ k) (h : wpList Tryd.prog ops Q rest (a.put o.dst (.slice (if c = lo then p else p.map (·.add (lo * s))) (k - lo) (c - lo))) w) : wpList Tryd.prog ops Q (o :: rest) a w := by
  refine wpList_plain hgd fun _ hK => ?_
  unfold Oper.wp
  rw [exec_sliceFrom a.eval ty e s x y ho p k c lo hx hy hu hs hk]
  exact hK _ _ h
theorem Digs.upto {W : World} {p : Option Addr} {n cap : Nat} {D : Nat → Nat → BitVec 8} (h : Digs W (.slice p n cap) n D) (m : Nat) (hm : m ≤ n) : Digs W (.slice p m cap) m D := by
  obtain ⟨p', c, h1, h2, h3⟩ := h
  injection h1 with a b c'
  subst a c'
  exact ⟨_, _, rfl, by omega, fun j hj => h3 j (by omega)⟩
theorem Digs.cap {W : World} {p : Option Addr} {n cap : Nat} {D : Nat → Nat → BitVec 8} (h : Digs W (.slice p n cap) n D) : n ≤ cap := by
  obtain ⟨p', c, h1, h2, h3⟩ := h
  injection h1 with a b c'
  subst a c'
  exact h2
theorem Digs.behind {W : World} {p : Option Addr} {n cap : Nat} {D : Nat → Nat → BitVec 8} (h : Digs W (.slice p n cap) n D) (m : Nat) (hm : m ≤ n) : Digs W (.slice (if cap = m then p else p.map (·.add (m * 16))) (n - m) (cap - m)) (n - m) (fun j => D (m + j)) := by
  obtain ⟨p', c, h1, h2, h3⟩ := h
  injection h1 with a b c'
  subst a c'
  refine ⟨_, _, rfl, by omega, fun j hj => ?_⟩
  obtain ⟨g', o', e, hr⟩ := h3 (m + j) (by omega)
  subst e
  rw [if_neg (by omega)]
  refine ⟨g', o' + m * 16, by simp [Addr.add_lit], ?_⟩
  rw [show o' + m * 16 + j * 16 = o' + (m + j) * 16 by omega]
  exact hr
theorem exec_neq23b {o : Oper} {w : World} (ρ : Operand → Value) (x y : Operand) (ho : o.op = .binOp .neq 23 x y 23) {f g : Nat → BitVec 8} {b : Bool} (hb : (!eqRow 16 f g) = b) (hx : ρ x = .agg (A8 16 f)) (hy : ρ y = .agg (A8 16 g)) :
    (execOp ρ o).run Tryd.prog w = .ok (.value (.bool b)) w := by rw [← hb]; exact exec_neq23 ρ x y ho hx hy
end Go.Proofs.YtdpgebifeaakjaaDoor

/- Byte strings that are hashed for a tree, and what follows where two trees have the same digest. -/
namespace Go.Proofs.YtdpgebifeaakjaaDoor
set_option linter.unusedSimpArgs false
set_option linter.unusedVariables false
open Go.RowKit

/-- Two of the byte strings differ and have the same digest. -/
def Coll (l : List (List (BitVec 8))) : Prop := ∃ x, x ∈ l ∧ ∃ y, y ∈ l ∧ x ≠ y ∧ eqRow 16 (sha x) (sha y) = true
theorem Coll.mono {l m : List (List (BitVec 8))} (h : Coll l) (hs : ∀ x, x ∈ l → x ∈ m) : Coll m := by
  obtain ⟨x, hx, y, hy, h1, h2⟩ := h
  exact ⟨x, hs x hx, y, hs y hy, h1, h2⟩
theorem dl_eq {d f : Nat → BitVec 8} : dl d = dl f ↔ eqRow 16 d f = true := by
  rw [eqRow_iff]
  constructor
  · intro h i hi
    have := congrArg (fun l => l[i]?) h
    simpa [dl, hi] using this
  · intro h
    refine List.ext_getElem? fun i => ?_
    by_cases hi : i < 16
    · simp [dl, hi, h i hi]
    · simp [dl, hi]
/-- Where two digests agree, so do the strings, or they collide. -/
theorem str_agree {x y : List (BitVec 8)} {l : List (List (BitVec 8))} (h : eqRow 16 (sha x) (sha y) = true) (hx : x ∈ l) (hy : y ∈ l) : x = y ∨ Coll l := by
  by_cases e : x = y
  · exact .inl e
  · exact .inr ⟨x, hx, y, hy, e, h⟩
theorem node_inj {d1 d2 e1 e2 : Nat → BitVec 8} (h : (1#8 :: (dl d1 ++ dl d2)) = 1#8 :: (dl e1 ++ dl e2)) : eqRow 16 d1 e1 = true ∧ eqRow 16 d2 e2 = true := by
  injection h with _ h
  have := List.append_inj h (by rw [dl_length, dl_length])
  exact ⟨dl_eq.1 this.1, dl_eq.1 this.2⟩
theorem leaf_inj {d e : Nat → BitVec 8} (h : (0#8 :: dl d) = 0#8 :: dl e) : eqRow 16 d e = true := by
  injection h with _ h
  exact dl_eq.1 h
/-- The byte strings that are hashed for a tree. -/
def hashF : Nat → Nat → (Nat → Nat → BitVec 8) → List (List (BitVec 8))
  | 0, _, _ => [[]]
  | f + 1, n, D => if n = 0 then [[]] else if n = 1 then [0#8 :: dl (D 0)] else hashF f (halfN n) D ++ hashF f (n - halfN n) (fun j => D (halfN n + j)) ++ [1#8 :: (dl (treeF f (halfN n) D) ++ dl (treeF f (n - halfN n) fun j => D (halfN n + j)))]
theorem hashF_step (f n : Nat) (D : Nat → Nat → BitVec 8) (h0 : ¬ n = 0) (h1 : ¬ n = 1) : hashF (f + 1) n D = hashF f (halfN n) D ++ hashF f (n - halfN n) (fun j => D (halfN n + j)) ++ [1#8 :: (dl (treeF f (halfN n) D) ++ dl (treeF f (n - halfN n) fun j => D (halfN n + j)))] := by
  rw [hashF, if_neg h0, if_neg h1]
theorem hashF_fuel : ∀ (f g n : Nat) (D : Nat → Nat → BitVec 8), n ≤ f → n ≤ g → n ≤ 1099511627776 → hashF f n D = hashF g n D := by
  intro f
  induction f with
  | zero =>
    intro g n D h1 h2 h3
    have : n = 0 := by omega
    subst this
    cases g <;> simp [hashF]
  | succ f ih =>
    intro g n D h1 h2 h3
    by_cases h0 : n = 0
    · subst h0
      cases g <;> simp [hashF]
    · obtain ⟨g, rfl⟩ : ∃ g', g = g' + 1 := ⟨g - 1, by omega⟩
      by_cases hn1 : n = 1
      · subst hn1; simp [hashF]
      · obtain ⟨c1, c2, c3⟩ := halfN_facts n (by omega) h3
        rw [hashF_step f n D h0 hn1, hashF_step g n D h0 hn1, ih g (halfN n) D (by omega) (by omega) (by omega), ih g (n - halfN n) _ (by omega) (by omega) (by omega), treeF_fuel f g (halfN n) D (by omega) (by omega) (by omega), treeF_fuel f g (n - halfN n) _ (by omega) (by omega) (by omega)]
theorem hashF_len : ∀ (f n : Nat) (D : Nat → Nat → BitVec 8), n ≤ f → n ≤ 1099511627776 → (hashF f n D).length ≤ 2 * n + 1 := by
  intro f
  induction f with
  | zero => intro n D h1 h2; simp [hashF]
  | succ f ih =>
    intro n D h1 h2
    by_cases h0 : n = 0
    · subst h0; simp [hashF]
    · by_cases hn1 : n = 1
      · subst hn1; simp [hashF]
      · obtain ⟨c1, c2, c3⟩ := halfN_facts n (by omega) h2
        rw [hashF_step f n D h0 hn1]
        have a1 := ih (halfN n) D (by omega) (by omega)
        have a2 := ih (n - halfN n) (fun j => D (halfN n + j)) (by omega) (by omega)
        simp only [List.length_append, List.length_singleton]
        have b : ∀ (f n : Nat) (D : Nat → Nat → BitVec 8), 0 < n → n ≤ f → n ≤ 1099511627776 → (hashF f n D).length ≤ 2 * n - 1 := by
          intro f
          induction f with
          | zero => intro n D h h1 h2; omega
          | succ f ih =>
            intro n D h h1 h2
            by_cases hn1 : n = 1
            · subst hn1; simp [hashF]
            · obtain ⟨c1, c2, c3⟩ := halfN_facts n (by omega) h2
              rw [hashF_step f n D (by omega) hn1]
              have a1 := ih (halfN n) D (by omega) (by omega) (by omega)
              have a2 := ih (n - halfN n) (fun j => D (halfN n + j)) (by omega) (by omega) (by omega)
              simp only [List.length_append, List.length_singleton]
              omega
        have a1 := b f (halfN n) D (by omega) (by omega) (by omega)
        have a2 := b f (n - halfN n) (fun j => D (halfN n + j)) (by omega) (by omega) (by omega)
        omega
/-- Of a range. -/
def hsR (D : Nat → Nat → BitVec 8) (a m : Nat) : List (List (BitVec 8)) := hashF m m fun j => D (a + j)
theorem tr_half (D : Nat → Nat → BitVec 8) (a m : Nat) (hm : 2 ≤ m) (hb : m ≤ 1099511627776) : tr D a m = nodeD (tr D a (halfN m)) (tr D (a + halfN m) (m - halfN m)) := by
  obtain ⟨c1, c2, c3⟩ := halfN_facts m hm hb
  obtain ⟨f, rfl⟩ : ∃ f, m = f + 1 := ⟨m - 1, by omega⟩
  unfold tr
  rw [treeF_step f (f + 1) _ (by omega) (by omega), treeF_fuel f (halfN (f + 1)) (halfN (f + 1)) _ (by omega) (by omega) (by omega), treeF_fuel f (f + 1 - halfN (f + 1)) (f + 1 - halfN (f + 1)) _ (by omega) (by omega) (by omega)]
  congr 1
  funext j
  congr 2
  funext i
  rw [Nat.add_assoc]
theorem hsR_half (D : Nat → Nat → BitVec 8) (a m : Nat) (hm : 2 ≤ m) (hb : m ≤ 1099511627776) : hsR D a m = hsR D a (halfN m) ++ hsR D (a + halfN m) (m - halfN m) ++ [1#8 :: (dl (tr D a (halfN m)) ++ dl (tr D (a + halfN m) (m - halfN m)))] := by
  obtain ⟨c1, c2, c3⟩ := halfN_facts m hm hb
  obtain ⟨f, rfl⟩ : ∃ f, m = f + 1 := ⟨m - 1, by omega⟩
  have e : (fun j => D (a + (halfN (f + 1) + j))) = fun j => D (a + halfN (f + 1) + j) := by
    funext i
    rw [Nat.add_assoc]
  unfold hsR tr
  rw [hashF_step f (f + 1) _ (by omega) (by omega), hashF_fuel f (halfN (f + 1)) (halfN (f + 1)) _ (by omega) (by omega) (by omega), hashF_fuel f (f + 1 - halfN (f + 1)) (f + 1 - halfN (f + 1)) _ (by omega) (by omega) (by omega), treeF_fuel f (halfN (f + 1)) (halfN (f + 1)) _ (by omega) (by omega) (by omega), treeF_fuel f (f + 1 - halfN (f + 1)) (f + 1 - halfN (f + 1)) _ (by omega) (by omega) (by omega), e]
theorem hsR_one (D : Nat → Nat → BitVec 8) (a : Nat) : hsR D a 1 = [0#8 :: dl (D a)] := by simp [hsR, hashF]
theorem hsR_leaf (D : Nat → Nat → BitVec 8) : ∀ (m a x : Nat), m ≤ 1099511627776 → a ≤ x → x < a + m → (0#8 :: dl (D x)) ∈ hsR D a m := by
  intro m
  induction m using Nat.strongRecOn with
  | ind m ih =>
    intro a x hb h1 h2
    by_cases hm : m = 1
    · subst hm
      obtain rfl : x = a := by omega
      rw [hsR_one]
      exact List.mem_singleton.2 rfl
    · obtain ⟨c1, c2, c3⟩ := halfN_facts m (by omega) hb
      rw [hsR_half D a m (by omega) hb, List.mem_append, List.mem_append]
      by_cases hx : x < a + halfN m
      · exact .inl (.inl (ih (halfN m) c2 a x (by omega) h1 hx))
      · exact .inl (.inr (ih (m - halfN m) (by omega) (a + halfN m) x (by omega) (by omega) (by omega)))
/-- Two lists whose trees have the same digest agree, or strings collide. -/
theorem tr_agree (D K : Nat → Nat → BitVec 8) : ∀ (m a : Nat), m ≤ 1099511627776 → eqRow 16 (tr D a m) (tr K a m) = true → (∀ j, j < m → eqRow 16 (D (a + j)) (K (a + j)) = true) ∨ Coll (hsR D a m ++ hsR K a m) := by
  intro m
  induction m using Nat.strongRecOn with
  | ind m ih =>
    intro a hb he
    by_cases h0 : m = 0
    · exact .inl fun j hj => by omega
    by_cases hm : m = 1
    · subst hm
      rw [tr_one, tr_one] at he
      rcases str_agree (l := hsR D a 1 ++ hsR K a 1) he (by rw [hsR_one]; simp) (by rw [hsR_one, hsR_one]; simp) with h | h
      · refine .inl fun j hj => ?_
        obtain rfl : j = 0 := by omega
        exact leaf_inj h
      · exact .inr h
    · obtain ⟨c1, c2, c3⟩ := halfN_facts m (by omega) hb
      rw [tr_half D a m (by omega) hb, tr_half K a m (by omega) hb] at he
      rw [hsR_half D a m (by omega) hb, hsR_half K a m (by omega) hb]
      rcases str_agree (l := hsR D a (halfN m) ++ hsR D (a + halfN m) (m - halfN m) ++ [1#8 :: (dl (tr D a (halfN m)) ++ dl (tr D (a + halfN m) (m - halfN m)))] ++ (hsR K a (halfN m) ++ hsR K (a + halfN m) (m - halfN m) ++ [1#8 :: (dl (tr K a (halfN m)) ++ dl (tr K (a + halfN m) (m - halfN m)))])) he (by simp) (by simp) with h | h
      · obtain ⟨e1, e2⟩ := node_inj h
        rcases ih (halfN m) c2 a (by omega) e1 with g1 | g1
        · rcases ih (m - halfN m) (by omega) (a + halfN m) (by omega) e2 with g2 | g2
          · refine .inl fun j hj => ?_
            by_cases hx : j < halfN m
            · exact g1 j hx
            · have := g2 (j - halfN m) (by omega)
              rwa [show a + halfN m + (j - halfN m) = a + j by omega] at this
          · refine .inr (g2.mono fun x hx => ?_)
            simp only [List.mem_append] at hx ⊢
            rcases hx with hx | hx
            · exact .inl (.inl (.inr hx))
            · exact .inr (.inl (.inr hx))
        · refine .inr (g1.mono fun x hx => ?_)
          simp only [List.mem_append] at hx ⊢
          rcases hx with hx | hx
          · exact .inl (.inl (.inl hx))
          · exact .inr (.inl (.inl hx))
      · exact .inr h
/-- As Tl, with the byte strings that are hashed on the way. -/
inductive Tw (T : Nat → Nat → BitVec 8) : Nat → Nat → Nat → List (Nat × Nat) → (Nat → BitVec 8) → List (List (BitVec 8)) → Prop
  | one (o a m : Nat) (h : 0 < m) : Tw T o a m [(a, m)] (T o) []
  | two (o a m : Nat) (L1 L2 : List (Nat × Nat)) (d1 d2 : Nat → BitVec 8) (H1 H2 : List (List (BitVec 8))) (hm : 2 ≤ m) (hb : m ≤ 1099511627776) (h1 : Tw T o a (halfN m) L1 d1 H1) (h2 : Tw T (o + L1.length) (a + halfN m) (m - halfN m) L2 d2 H2) : Tw T o a m (L1 ++ L2) (nodeD d1 d2) (H1 ++ H2 ++ [1#8 :: (dl d1 ++ dl d2)])
theorem Tl.ways {T : Nat → Nat → BitVec 8} {o a m : Nat} {L : List (Nat × Nat)} {d : Nat → BitVec 8} (h : Tl T o a m L d) : ∃ H, Tw T o a m L d H := by
  induction h with
  | one o a m h => exact ⟨_, .one o a m h⟩
  | two o a m L1 L2 d1 d2 hm hb h1 h2 ih1 ih2 =>
    obtain ⟨H1, w1⟩ := ih1
    obtain ⟨H2, w2⟩ := ih2
    exact ⟨_, .two o a m L1 L2 d1 d2 H1 H2 hm hb w1 w2⟩
theorem Tw.tl {T : Nat → Nat → BitVec 8} {o a m : Nat} {L : List (Nat × Nat)} {d : Nat → BitVec 8} {H : List (List (BitVec 8))} (h : Tw T o a m L d H) : Tl T o a m L d := by
  induction h with
  | one o a m h => exact .one o a m h
  | two o a m L1 L2 d1 d2 H1 H2 hm hb h1 h2 ih1 ih2 => exact .two o a m L1 L2 d1 d2 hm hb ih1 ih2
theorem Tw.len {T : Nat → Nat → BitVec 8} {o a m : Nat} {L : List (Nat × Nat)} {d : Nat → BitVec 8} {H : List (List (BitVec 8))} (h : Tw T o a m L d H) : H.length + 1 = L.length := by
  induction h with
  | one o a m h => rfl
  | two o a m L1 L2 d1 d2 H1 H2 hm hb h1 h2 ih1 ih2 =>
    simp only [List.length_append, List.length_singleton]
    omega
theorem topT_left {L1 L2 : List (Nat × Nat)} {D : Nat → Nat → BitVec 8} {i : Nat} (h : i < L1.length) : topT (L1 ++ L2) D i = topT L1 D i := by
  simp only [topT, List.getD_eq_getElem?_getD, List.getElem?_append_left h]
theorem topT_right {L1 L2 : List (Nat × Nat)} {D : Nat → Nat → BitVec 8} {i : Nat} (h : L1.length ≤ i) : topT (L1 ++ L2) D i = topT L2 D (i - L1.length) := by
  simp only [topT, List.getD_eq_getElem?_getD, List.getElem?_append_right h]
theorem topT_at {L : List (Nat × Nat)} {D : Nat → Nat → BitVec 8} {i : Nat} {x : Nat × Nat} (h : L[i]? = some x) : topT L D i = tr D x.1 x.2 := by
  simp only [topT, List.getD_eq_getElem?_getD, h, Option.getD_some, tr]
/-- Blocks that give a tree's digest bear the tree's own digests, or strings collide. -/
theorem Tw.agree (D : Nat → Nat → BitVec 8) {T : Nat → Nat → BitVec 8} {o a m : Nat} {L : List (Nat × Nat)} {d : Nat → BitVec 8} {H : List (List (BitVec 8))} (h : Tw T o a m L d H) (he : eqRow 16 d (tr D a m) = true) :
    (∀ i, i < L.length → eqRow 16 (T (o + i)) (topT L D i) = true) ∨ Coll (H ++ hsR D a m) := by
  induction h with
  | one o a m h =>
    refine .inl fun i hi => ?_
    obtain rfl : i = 0 := by simpa using hi
    exact he
  | two o a m L1 L2 d1 d2 H1 H2 hm hb h1 h2 ih1 ih2 =>
    rw [tr_half D a m hm hb] at he
    rw [hsR_half D a m hm hb]
    rcases str_agree (l := H1 ++ H2 ++ [1#8 :: (dl d1 ++ dl d2)] ++ (hsR D a (halfN m) ++ hsR D (a + halfN m) (m - halfN m) ++ [1#8 :: (dl (tr D a (halfN m)) ++ dl (tr D (a + halfN m) (m - halfN m)))])) he (by simp) (by simp) with h | h
    · obtain ⟨e1, e2⟩ := node_inj h
      rcases ih1 e1 with g1 | g1
      · rcases ih2 e2 with g2 | g2
        · refine .inl fun i hi => ?_
          rw [List.length_append] at hi
          by_cases hx : i < L1.length
          · rw [topT_left hx]; exact g1 i hx
          · have := g2 (i - L1.length) (by omega)
            rw [topT_right (by omega)]
            rwa [show o + L1.length + (i - L1.length) = o + i by omega] at this
        · refine .inr (g2.mono fun x hx => ?_)
          simp only [List.mem_append] at hx ⊢
          rcases hx with hx | hx
          · exact .inl (.inl (.inr hx))
          · exact .inr (.inl (.inr hx))
      · refine .inr (g1.mono fun x hx => ?_)
        simp only [List.mem_append] at hx ⊢
        rcases hx with hx | hx
        · exact .inl (.inl (.inl hx))
        · exact .inr (.inl (.inl hx))
    · exact .inr h
/-- What is hashed for a block is hashed for the whole. -/
theorem Tw.inside (D : Nat → Nat → BitVec 8) {T : Nat → Nat → BitVec 8} {o a m : Nat} {L : List (Nat × Nat)} {d : Nat → BitVec 8} {H : List (List (BitVec 8))} (h : Tw T o a m L d H) : ∀ x, x ∈ L → ∀ s, s ∈ hsR D x.1 x.2 → s ∈ hsR D a m := by
  induction h with
  | one o a m h =>
    intro x hx s hs
    obtain rfl : x = (a, m) := by simpa using hx
    exact hs
  | two o a m L1 L2 d1 d2 H1 H2 hm hb h1 h2 ih1 ih2 =>
    intro x hx s hs
    rw [hsR_half D a m hm hb, List.mem_append, List.mem_append]
    rcases List.mem_append.1 hx with hx | hx
    · exact .inl (.inl (ih1 x hx s hs))
    · exact .inl (.inr (ih2 x hx s hs))
/-- The tree's own digests give the tree's digest. -/
theorem Tl.own (D : Nat → Nat → BitVec 8) {T : Nat → Nat → BitVec 8} {o a m : Nat} {L : List (Nat × Nat)} {d : Nat → BitVec 8} (h : Tl T o a m L d) (hT : ∀ i, i < L.length → eqRow 16 (T (o + i)) (topT L D i) = true) : eqRow 16 d (tr D a m) = true := by
  induction h with
  | one o a m h => exact hT 0 (by simp)
  | two o a m L1 L2 d1 d2 hm hb h1 h2 ih1 ih2 =>
    rw [tr_half D a m hm hb]
    have e1 := ih1 fun i hi => by
      have := hT i (by rw [List.length_append]; omega)
      rwa [topT_left hi] at this
    have e2 := ih2 fun i hi => by
      have := hT (L1.length + i) (by rw [List.length_append]; omega)
      rw [topT_right (by omega), Nat.add_sub_cancel_left] at this
      rwa [Nat.add_assoc]
    unfold nodeD
    rw [dl_eq.2 e1, dl_eq.2 e2]
    exact eqRow_self _
end Go.Proofs.YtdpgebifeaakjaaDoor

/- Rows of strings; Same of any lists, collide, walked. -/
namespace Go.Proofs.YtdpgebifeaakjaaDoor
set_option linter.unusedSimpArgs false
set_option linter.unusedVariables false
open Go.RowKit
/-- The cells of strings. -/
def strCells (ls : List (List (BitVec 8))) : List Value := ls.map fun l => .string (strOf l)
theorem strCells_append (a b : List (List (BitVec 8))) : strCells (a ++ b) = strCells a ++ strCells b := List.map_append ..
theorem strCells_one (a : List (List (BitVec 8))) : ∀ u ∈ strCells a, u.oneCell' = true := by
  intro u hu
  obtain ⟨l, _, rfl⟩ := List.mem_map.1 hu
  rfl
theorem strOf_inj {a b : List (BitVec 8)} (h : strOf a = strOf b) : a = b := by rw [← bts_strOf a, ← bts_strOf b, h]
/-- Whether two lists of digests are equal. -/
def sameB (n m : Nat) (D E : Nat → Nat → BitVec 8) : Bool := decide (n = m) && (List.range n).all fun i => eqRow 16 (D i) (E i)
theorem sameB_iff {n m : Nat} {D E : Nat → Nat → BitVec 8} : sameB n m D E = true ↔ n = m ∧ ∀ i, i < n → eqRow 16 (D i) (E i) = true := by
  simp [sameB, List.all_eq_true]
theorem eql23 (f g : Nat → BitVec 8) (w : World) : (binOp .eql 23 (.agg (A8 16 f)) (.agg (A8 16 g))).run Tryd.prog w = .ok (.bool (eqRow 16 f g)) w := by
  have h := neq23 f g w
  rw [run_neq_struct] at h
  rw [run_eql_struct]
  generalize (Op.equalIn 10000 23 (.agg (A8 16 f)) (.agg (A8 16 g))).run Tryd.prog w = r at h ⊢
  generalize eqRow 16 f g = q at h ⊢
  cases r with
  | ok b w' =>
    simp only [Result.andThen_ok] at h ⊢
    injection h with h1 h2
    injection h1 with h1
    rw [h2]
    cases b <;> cases q <;> first | rfl | cases h1
  | _ => cases h
theorem str_ne {s t : ByteArray} (h : ¬ s = t) : (s.toList == t.toList) = false := by
  refine beq_eq_false_iff_ne.2 fun e => h ?_
  rw [ByteArray.toList_eq, ByteArray.toList_eq] at e
  cases s; cases t
  simp_all
theorem exec_eql23b {o : Oper} {w : World} (ρ : Operand → Value) (x y : Operand) (ho : o.op = .binOp .eql 23 x y 23) {f g : Nat → BitVec 8} {b : Bool} (hb : eqRow 16 f g = b) (hx : ρ x = .agg (A8 16 f)) (hy : ρ y = .agg (A8 16 g)) :
    (execOp ρ o).run Tryd.prog w = .ok (.value (.bool b)) w := by
  have hg : (eqGuard .eql 23 x y (.agg (A8 16 f)) (.agg (A8 16 g))).run Tryd.prog w = .ok () w := run_eqGuard_agg w _ _ _ _ _ _ (by kernel_rfl)
  rw [← hb]
  unfold execOp
  simp only [ho, hx, hy, Sem.run_bind, hg, eql23, Result.andThen_ok, Sem.run_pure]
end Go.Proofs.YtdpgebifeaakjaaDoor


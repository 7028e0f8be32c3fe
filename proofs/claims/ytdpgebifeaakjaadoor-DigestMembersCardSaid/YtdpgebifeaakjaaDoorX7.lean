/- Texts put together for one claim: part 7. -/
import Derived.Test.YtdpgebifeaakjaaDoorProg
import Derived.WalkKit
import Derived.WalkSpells
import Derived.WalkLawsBesides
import Derived.ChangeKeysEq
import Derived.Deep.RegionHeld3
import Derived.BigQuiet
import Derived.Deep.QuietTactic
import Derived.Deep.MidRow
import Derived.StillTailTactics
import Derived.Laws.AppendOwn
import Derived.Lib.ConvBytes
import Derived.Shelf.Spec.TrailingZeros
import Derived.Laws.FloatArith
import Derived.Laws.CopyOwn
import Derived.BigRegion
import Derived.Deep.Cut
import Derived.ArgAppend
import Derived.Shelf.Strconv.Itoa0
import Derived.RangeFuncNested
import Derived.RangeFuncBound
import Derived.RangeFuncCalls
import Derived.RangeFuncLeaves
import Derived.Shelf.Abstract
import Derived.OwnWalkIn
import Derived.TacticsInMore
import Derived.LoopNIn
import Derived.LoopIn
import Derived.RangeFuncBox
import Derived.Maps.AppendAt
import Derived.Laws.OwnMore
import Derived.Laws.StructEq
import Derived.Deep.RegionHeld
import Derived.Laws.BitsLemmas
import Derived.OwnWalk
import Derived.StillTactics
import Derived.Deep.AppendLies
import Derived.Test.YtdpgebifeaakjaaDoorRows
import Derived.ProofKit
import Derived.LaidMore
import Derived.OpenShut
import Derived.Stop.Joined
import Derived.Carry
import Derived.SevenTiedAt
import Derived.Deep.Slices
import Derived.Laws.AppendOwnNone
import Derived.Defers
import Derived.Recover
import Derived.Test.YtdpgebifeaakjaaDoorX6
/- The digests of a proof that have not been used: take. -/
namespace Go.Proofs.YtdpgebifeaakjaaDoor
set_option linter.unusedSimpArgs false
set_option linter.unusedVariables false
open Go.RowKit

/-- The panic that ends a check. -/
def refusedP : List PanicEntry := [{ v := .iface 167 (.agg #[]), recovered := false }]
/-- Of the blocks that were there, only b is turned. -/
structure Mods (b : Nat) (w w' : World) : Prop where
  os : w'.os = w.os
  tape : w'.tape = w.tape
  output : w'.output = w.output
  size : w.heap.size ≤ w'.heap.size
  block : ∀ k, k < w.heap.size → k ≠ b → w'.heap[k]? = w.heap[k]?
theorem Mods.refl (b : Nat) (w : World) : Mods b w w := ⟨rfl, rfl, rfl, Nat.le_refl _, fun _ _ _ => rfl⟩
theorem Mods.of_below {b : Nat} {w w' : World} (h : Below w.heap.size w w') : Mods b w w' := ⟨h.os, h.tape, h.output, h.size, fun k hk _ => h.block k hk⟩
theorem Mods.trans {b : Nat} {x y z : World} (h : Mods b x y) (k : Mods b y z) : Mods b x z :=
  ⟨k.os.trans h.os, k.tape.trans h.tape, k.output.trans h.output, Nat.le_trans h.size k.size, fun i hi hb => (k.block i (Nat.lt_of_lt_of_le hi h.size) hb).trans (h.block i hi hb)⟩
theorem Mods.upd {b : Nat} {x y z : World} (h : Mods b x y) (k : Upd b y z) : Mods b x z :=
  ⟨k.os.trans h.os, k.tape.trans h.tape, k.output.trans h.output, by rw [k.size]; exact h.size, fun i hi hb => (k.block i hb).trans (h.block i hi hb)⟩
theorem Mods.new {b c : Nat} {x y z : World} (h : Mods b x y) (k : Upd c y z) (hc : x.heap.size ≤ c) : Mods b x z :=
  ⟨k.os.trans h.os, k.tape.trans h.tape, k.output.trans h.output, by rw [k.size]; exact h.size, fun i hi hb => (k.block i (by omega)).trans (h.block i hi hb)⟩
theorem Mods.alloc {b : Nat} {x y : World} (h : Mods b x y) (o : Obj) : Mods b x (y.alloc o) := h.trans (Mods.of_below ((Below.refl _ _).alloc (Nat.le_refl _) o))
theorem Blk.mods {b g : Nat} {w w' : World} {C : Array Value} {t : TypeId} (h : Blk w g C t) (hm : Mods b w w') (hne : g ≠ b) : Blk w' g C t := (hm.block g h.lt hne).trans h
theorem Mods.below {b B : Nat} {w w' : World} (h : Mods b w w') (hb : B ≤ b) (hw : B ≤ w.heap.size) : Below B w w' :=
  ⟨h.os, h.tape, h.output, h.size, fun k hk => h.block k (by omega) (by omega)⟩
set_option maxRecDepth 20000 in
set_option maxHeartbeats 400000 in
theorem take_none (b : Nat) (p : Option Addr) (c : Nat) (w : World) (hq : w.cell? ⟨b, 0, none⟩ = some (.slice p 0 c)) :
    Calls Tryd.prog 115 #[.pointer (some ⟨b, 0, none⟩)] w fun e w' => e = .panicked refusedP ∧ Below w.heap.size w w' := by
  have hq2 := cell_below hq ((Below.refl _ _).alloc (Nat.le_refl _) (.cells (A8 16 fun _ => 0#8) 23))
  have hB : Below w.heap.size w (w.alloc (.cells (A8 16 fun _ => 0#8) 23)) := (Below.refl _ _).alloc (Nat.le_refl _) _
  go_enter Tryd.func115, Tryd.ntmps115
  go_wp2_with fail
  exact ⟨rfl, rfl, hB⟩
/-- Where a slice of digests goes on behind its first one. -/
def tailP (c g o : Nat) : Option Addr := if c = 1 then some ⟨g, o, none⟩ else some ⟨g, o + 16, none⟩
theorem digs_tailP {W : World} {g o c k : Nat} {T : Nat → Nat → BitVec 8} (h : Digs W (.slice (some ⟨g, o, none⟩) (k + 1) c) (k + 1) T) : Digs W (.slice (tailP c g o) k (c - 1)) k fun j => T (j + 1) := digs_tail h rfl
theorem ownsRow_mods {W W' : World} {base e size k b : Nat} {v : Value} {xs : List Value} {C : Array Value} {t : TypeId} (h : W.ownsRow base e size v k xs) (hm : Mods b W W') (hb : Blk W b C t) (ht : t ≠ e) : W'.ownsRow base e size v k xs := by
  have ho := ownsRow_other h hb ht
  obtain ⟨h0, h1 | ⟨g, cap, cur, rfl, h2, hh, h3⟩⟩ := h
  · exact ⟨h0, .inl h1⟩
  · refine ⟨h0, .inr ⟨g, cap, cur, rfl, h2, ?_, h3⟩⟩
    rw [hm.block g (Array.getElem?_eq_some_iff.1 hh).1 fun e => ?_]
    · exact hh
    · rcases ho with ho | ho
      · cases ho
      · exact ho (by rw [e]; rfl)
set_option maxRecDepth 20000 in
set_option maxHeartbeats 800000 in
theorem take_some (b g o k c : Nat) (T : Nat → Nat → BitVec 8) (q r : Option Addr) (n1 c1 n2 c2 : Nat) (w : World) (hf : Blk w b #[.slice (some ⟨g, o, none⟩) (k + 1) c, .slice q n1 c1, .slice r n2 c2] 142) (hd : Digs w (.slice (some ⟨g, o, none⟩) (k + 1) c) (k + 1) T) :
    Calls Tryd.prog 115 #[.pointer (some ⟨b, 0, none⟩)] w fun e w' => e = .returned (.agg (A8 16 (T 0))) ∧ Blk w' b #[.slice (tailP c g o) k (c - 1), .slice q n1 c1, .slice r n2 c2] 142 ∧ Mods b w w' := by
  obtain ⟨p', c', e0, hc, hdd⟩ := id hd
  injection e0 with e1 e2 e3
  subst e1 e3
  obtain ⟨g', o', e, r0⟩ := hdd 0 (by omega)
  injection e with e
  injection e with e4 e5
  subst e4 e5
  rw [Nat.zero_mul, Nat.add_zero] at r0
  have k0 := Blk.new w (A8 16 fun _ => 0#8) 23
  have hm : Mods b w (w.alloc (.cells (A8 16 fun _ => 0#8) 23)) := (Mods.refl b w).alloc _
  have lb := hf.lt
  have kf := hf.alloc (.cells (A8 16 fun _ => 0#8) 23)
  have r1 := rangeAt_below r0 ((Below.refl _ _).alloc (Nat.le_refl _) (.cells (A8 16 fun _ => 0#8) 23))
  obtain ⟨W1, hW1⟩ : ∃ W1, w.alloc (.cells (A8 16 fun _ => 0#8) 23) = W1 := ⟨_, rfl⟩
  rw [hW1] at k0 hm kf r1
  have rr := run_loadVar_mid W1 g o 23 (A8 16 (T 0)).toList _ r1 Tryd.underlying23 rfl (by rw [Array.length_toList, A8.size]; exact size23)
  rw [Array.toArray_toList] at rr
  have q1 := kf.cell 0
  have hk0 : (0 : Int) < (k : Int) + 1 := by omega
  have hk1 : ¬ ((k : Int) + 1 ≤ 0) := by omega
  have hk2 : ¬ ((k : Int) + 1 = 0) := by omega
  have hk3 : ((k : Int) + 1 == 0) = false := beq_eq_false_iff_ne.2 hk2
  have hk4 : (1 : Int) ≤ (k : Int) + 1 := by omega
  have n3 := Blk.new W1 (A8 16 fun _ => 0#8) 23
  have l0 := k0.lt
  clear e2 hdd
  by_cases hc1 : c = 1
  · subst hc1
    obtain rfl : k = 0 := by omega
    go_enter Tryd.func115, Tryd.ntmps115
    go_wp2_with (first | (refine wp_loadRun (by rfl) 23 _ rfl g o rfl rr ?_) | (refine wp_storeRow (C' := A8 16 (T 0)) rfl 23 _ _ rfl _ rfl rfl n3 size23 (A8.size _ _) (A8.size _ _) (A8.one _) rfl ?_; intro W3 hu k3; have hb3 : Below W1.heap.size W1 W3 := hu.below ((Below.refl _ _).alloc (Nat.le_refl _) _) (Nat.le_refl _); have kf3 := kf.below hb3 kf.lt; have k03 := k0.below hb3 k0.lt; have q3 := kf3.cell 0; have f3 := kf3.free 0; have k3s := k3.other (a := ⟨b, 0, none⟩) (by simp; omega) (.slice (some ⟨g, o, none⟩) 0 0); have k0s := k03.other (a := ⟨b, 0, none⟩) (by simp; omega) (.slice (some ⟨g, o, none⟩) 0 0)) | (refine wp_loadRow rfl 23 _ rfl W1.heap.size rfl k3s Tryd.underlying23 rfl size23 (A8.size _ _) ?_) | (refine wp_storeRow (C' := A8 16 (T 0)) rfl 23 _ _ rfl w.heap.size rfl rfl k0s size23 (A8.size _ _) (A8.size _ _) (A8.one _) rfl ?_; intro W4 hu4 k4))
    have m1 := (hm.trans (Mods.of_below hb3)).upd (upd_setCell W3 b 0 (.slice (some ⟨g, o, none⟩) 0 0))
    have m2 := m1.new hu4 (Nat.le_refl _)
    have kz := (kf3.set 0 (.slice (some ⟨g, o, none⟩) 0 0)).upd hu4 (by omega)
    refine ret_row rfl w.heap.size rfl k4 Tryd.underlying23 rfl size23 (A8.size _ _) rfl ?_
    exact ⟨rfl, kz, m2⟩
  · have hc2 : ¬ 1 = c := fun h => hc1 h.symm
    go_enter Tryd.func115, Tryd.ntmps115
    go_wp2_with (first | (refine wp_loadRun (by rfl) 23 _ rfl g o rfl rr ?_) | (refine wp_storeRow (C' := A8 16 (T 0)) rfl 23 _ _ rfl _ rfl rfl n3 size23 (A8.size _ _) (A8.size _ _) (A8.one _) rfl ?_; intro W3 hu k3; have hb3 : Below W1.heap.size W1 W3 := hu.below ((Below.refl _ _).alloc (Nat.le_refl _) _) (Nat.le_refl _); have kf3 := kf.below hb3 kf.lt; have k03 := k0.below hb3 k0.lt; have q3 := kf3.cell 0; have f3 := kf3.free 0; have k3s := k3.other (a := ⟨b, 0, none⟩) (by simp; omega) (.slice (some ⟨g, o + 16, none⟩) k (c - 1)); have k0s := k03.other (a := ⟨b, 0, none⟩) (by simp; omega) (.slice (some ⟨g, o + 16, none⟩) k (c - 1))) | (refine wp_loadRow rfl 23 _ rfl W1.heap.size rfl k3s Tryd.underlying23 rfl size23 (A8.size _ _) ?_) | (refine wp_storeRow (C' := A8 16 (T 0)) rfl 23 _ _ rfl w.heap.size rfl rfl k0s size23 (A8.size _ _) (A8.size _ _) (A8.one _) rfl ?_; intro W4 hu4 k4))
    have m1 := (hm.trans (Mods.of_below hb3)).upd (upd_setCell W3 b 0 (.slice (some ⟨g, o + 16, none⟩) k (c - 1)))
    have m2 := m1.new hu4 (Nat.le_refl _)
    have kz := (kf3.set 0 (.slice (some ⟨g, o + 16, none⟩) k (c - 1))).upd hu4 (by omega)
    refine ret_row rfl w.heap.size rfl k4 Tryd.underlying23 rfl size23 (A8.size _ _) rfl ?_
    rw [show tailP c g o = some ⟨g, o + 16, none⟩ from if_neg hc1]
    exact ⟨rfl, kz, m2⟩
end Go.Proofs.YtdpgebifeaakjaaDoor

/- What an append leaves of the blocks that were there: the first cells. -/
namespace Go.Proofs.YtdpgebifeaakjaaDoor
set_option linter.unusedSimpArgs false
set_option linter.unusedVariables false
open Go.RowKit

/-- The blocks of type t keep their first s cells. -/
def Heads (t : TypeId) (s : Nat) (w w' : World) : Prop := ∀ (g : Nat) (C : Array Value), Blk w g C t → ∃ C', Blk w' g C' t ∧ ∀ j, j < s → C'[j]? = C[j]?
theorem Heads.refl (t : TypeId) (s : Nat) (w : World) : Heads t s w w := fun g C h => ⟨C, h, fun _ _ => rfl⟩
theorem Heads.trans {t : TypeId} {s r : Nat} {x y z : World} (h : Heads t s x y) (k : Heads t r y z) (hs : s ≤ r) : Heads t s x z := fun g C hg => by
  obtain ⟨C1, h1, e1⟩ := h g C hg
  obtain ⟨C2, h2, e2⟩ := k g C1 h1
  exact ⟨C2, h2, fun j hj => (e2 j (by omega)).trans (e1 j hj)⟩
/-- Of the blocks that were there ahead of it all, none of type t is turned. -/
theorem Heads.of_same {t : TypeId} {s : Nat} {x y z : World} (h : Heads t s x y) (k : ∀ (g : Nat) (C : Array Value), g < x.heap.size → Blk y g C t → z.heap[g]? = y.heap[g]?) : Heads t s x z := fun g C hg => by
  obtain ⟨C1, h1, e1⟩ := h g C hg
  exact ⟨C1, (k g C1 hg.lt h1).trans h1, e1⟩
theorem Heads.drew {t : TypeId} {s : Nat} {x y : World} (h : Heads t s x y) : Heads t s x y.drew := h
theorem Heads.alloc {t : TypeId} {s : Nat} {x y : World} (h : Heads t s x y) (o : Obj) : Heads t s x (y.alloc o) := h.of_same fun g C _ hb => Below.heap_alloc _ _ _ hb.lt
theorem Heads.below {t : TypeId} {s : Nat} {x y z : World} (h : Heads t s x y) (hb : Below y.heap.size y z) : Heads t s x z := h.of_same fun g C _ hg => hb.block g hg.lt
theorem Blk.ty {w : World} {g : Nat} {C D : Array Value} {t u : TypeId} (h : Blk w g C t) (k : Blk w g D u) : t = u := by
  have e := Option.some.inj (Eq.trans (Eq.symm h) k)
  injection e
theorem Heads.mods {t : TypeId} {s b : Nat} {x y z : World} (h : Heads t s x y) (hm : Mods b y z) {C : Array Value} {u : TypeId} (hb : Blk y b C u) (hu : u ≠ t) : Heads t s x z :=
  h.of_same fun g D _ hg => hm.block g hg.lt (by rintro rfl; exact hu (hb.ty hg))
theorem Heads.set {t : TypeId} {s : Nat} {x y : World} (h : Heads t s x y) {p : Addr} (v : Value) {C : Array Value} {u : TypeId} (hb : Blk y p.block C u) (hu : u ≠ t) : Heads t s x (y.setCell p v) :=
  h.of_same fun g D _ hg => Below.heap_setCell _ _ _ _ (by rintro rfl; exact hu (hb.ty hg))
theorem Heads.new {t : TypeId} {s : Nat} {x y : World} (h : Heads t s x y) {p : Addr} (v : Value) (hp : x.heap.size ≤ p.block) : Heads t s x (y.setCell p v) :=
  h.of_same fun g D hl hg => Below.heap_setCell _ _ _ _ (by omega)
theorem Heads.cell {t : TypeId} {s : Nat} {w w' : World} (h : Heads t s w w') {g j : Nat} {C : Array Value} (hb : Blk w g C t) (hj : j < s) : w'.cell? ⟨g, j, none⟩ = w.cell? ⟨g, j, none⟩ := by
  obtain ⟨C', h1, e⟩ := h g C hb
  rw [h1.cell, hb.cell, e j hj]
theorem heads_append {w w' : World} {v' : Value} (base : Nat) (t ty e : TypeId) (i : TypeInfo) (z : Value) (size bytes : Nat) (ht : Tryd.prog.underlying t = some (.slice e)) (hi : Tryd.prog.info? e = some i) (hz : i.zero = some z)
    (hsize : i.size = size) (hby : i.bytes = bytes)
    (v : Value) (n : Nat) (xs : List Value) (hown : w.ownsRow base e size v n xs)
    (a : Addr) (m c : Nat) (news : List Value) (hl : news.length = m * size) (hnews : ∀ j u, news[j]? = some u → w.cell? (a.add j) = some u) (h1 : ∀ u ∈ news, u.oneCell' = true)
    (h63 : n + m ≤ maxLen) (hbytes : (n + m) * bytes ≤ 140737488355328)
    (hg : w.grownBy w' v.ownBlock) (hr : (Builtin.append_ #[t, t] ty #[v, .slice (some a) m c]).run Tryd.prog w = .ok v' w') : Heads e (n * size) w w' := by
  subst hsize hby
  have hsmall : n + m ≤ 9223372036854775807 := by simp only [maxLen] at h63; omega
  rcases hown.2 with ⟨rfl, rfl⟩ | ⟨g, cap, cur, rfl, hbg, hgg, hnc, hcm, hcs, htake⟩
  · exact (Heads.refl _ _ _).of_same fun k C hk _ => hg.block k hk (fun h => by cases h)
  · by_cases hroom : n + m ≤ cap
    · have hfit : n * i.size + news.length ≤ cur.size := by rw [hl, hcs, ← Nat.add_mul]; exact Nat.mul_le_mul_right _ hroom
      rw [run_append_room (P := Tryd.prog) w t ty e i ht hi g n cap cur hgg a m c news hl hnews h1 hroom hfit] at hr
      injection hr with e1 e2
      subst e2
      intro k C hk
      by_cases hkg : k = g
      · subst hkg
        obtain rfl : cur = C := by
          have := Option.some.inj (Eq.trans (Eq.symm hgg) hk)
          injection this
        refine ⟨_, setRow_heap w k cur _ e _ hgg, fun j hj => ?_⟩
        rw [List.getElem?_toArray, List.append_assoc, List.getElem?_append_left (by rw [List.length_take, Array.length_toList]; omega), List.getElem?_take, if_pos hj, Array.getElem?_toList]
      · exact ⟨C, (setRow_other w g k _ hkg).trans hk, fun _ _ => rfl⟩
    · have holds : ∀ j u, xs[j]? = some u → w.cell? ((⟨g, 0, none⟩ : Addr).add j) = some u := hown.cells (g := g) rfl
      rw [run_append_grow (P := Tryd.prog) w t ty e i z ht hi hz ⟨g, 0, none⟩ n cap xs hown.1 holds a m c news hl hnews (by omega) (by omega) (growslice_fits (by omega) hbytes)] at hr
      injection hr with e1 e2
      subst e2
      exact (Heads.refl _ _ _).drew.alloc _
theorem wp_append_heads {w : World} {o : Oper} {a : Act} {K : Act → World → Prop} {Q : Exit → Act → World → Prop} (s x : Operand) (t : TypeId)
    (ho : o.op = .call { callee := .builtin .append, args := #[s, x], argTypes := #[t, t] })
    (base : Nat) (e : TypeId) (i : TypeInfo) (z : Value) (size bytes : Nat) (ht : Tryd.prog.underlying t = some (.slice e)) (hi : Tryd.prog.info? e = some i) (hz : i.zero = some z)
    (hsize : i.size = size) (hby : i.bytes = bytes) (hzs : z.cells.size = size) (hsz : 0 < size)
    (v : Value) (n : Nat) (xs : List Value) (hs : a.eval s = v) (hown : w.ownsRow base e size v n xs)
    (ad : Addr) (m c : Nat) (news : List Value) (hx : a.eval x = .slice (some ad) m c) (hl : news.length = m * size) (hnews : ∀ j u, news[j]? = some u → w.cell? (ad.add j) = some u) (h1 : ∀ u ∈ news, u.oneCell' = true)
    (h63 : n + m ≤ maxLen) (hbytes : (n + m) * bytes ≤ 140737488355328) (hbase : base ≤ w.heap.size)
    (h : ∀ v' w', w'.ownsRow base e size v' (n + m) (xs ++ news) → w.grownBy w' v.ownBlock → Heads e (n * size) w w' → K (a.put o.dst v') w') : o.wp Tryd.prog a w K Q := by
  obtain ⟨v', w', hr, h2, h3, h4⟩ := run_append_own (P := Tryd.prog) w base t o.type e i z size bytes ht hi hz hsize hby hzs hsz v n xs hown ad m c news hl hnews h1 h63 hbytes hbase
  have hh := heads_append base t o.type e i z size bytes ht hi hz hsize hby v n xs hown ad m c news hl hnews h1 h63 hbytes h3 hr
  unfold Oper.wp execOp
  simp only [ho, resolve, invoke, builtin, Sem.run_bind, Sem.run_pure, Result.andThen_ok, List.map_toArray, List.map_cons, List.map_nil, hs, hx, hr]
  exact h v' w' h2 h3 hh
end Go.Proofs.YtdpgebifeaakjaaDoor

/- A region that draws its order, and in which a store turns what its loads read: the loads come ahead of the store in every order, so what they read need only be kept till then. -/
namespace Go.Proofs.YtdpgebifeaakjaaDoor
set_option linter.unusedSimpArgs false
set_option linter.unusedVariables false
open Go.RowKit

section
variable {P : Program} {ops : Array Oper} {Q : Exit → Act → World → Prop} {md : Region.Mode} {S : World → Prop} {k : Nat}

/-- Whatever order is picked; S holds behind every operation that comes ahead of number k. -/
def wpAnyK (P : Program) (md : Region.Mode) (ops : Array Oper) (Q : Exit → Act → World → Prop) (S : World → Prop) (k : Nat) : Nat → Array Bool → Act → World → Prop
  | 0, l, a, w => Region.ready md ops l = [] ∧ Q .normal a w
  | f + 1, l, a, w => (Region.ready md ops l = [] → Q .normal a w) ∧
    ∀ i ∈ Region.ready md ops l, wpOp P ops Q i (fun a' w' => ((l.setIfInBounds i true).getD k true = true ∨ S w') ∧ wpAnyK P md ops Q S k f (l.setIfInBounds i true) a' w') a w
theorem wpAny_of_K : ∀ (f : Nat) (l : Array Bool) (a : Act) (w : World), wpAnyK P md ops Q S k f l a w → wpAny P md ops Q f l a w
  | 0, _, _, _, h => h
  | f + 1, _, _, _, h => ⟨h.1, fun i hi => wpOp_mono (fun a' w' h' => wpAny_of_K f _ a' w' h'.2) (h.2 i hi)⟩
theorem getD_two {l : Array Bool} (h : l.getD k true = false) : l.getD k false = false := by
  rcases Nat.lt_or_ge k l.size with h' | h'
  · simp [h'] at h ⊢; exact h
  · simp [Array.getElem?_eq_none h'] at h
/-- Number k waits for number i. -/
def waitsFor (md : Region.Mode) (ops : Array Oper) (k i : Nat) : Bool := match ops[k]? with
  | some o => o.after.any fun e => Region.binds md e && e.on == i
  | none => false
theorem waitsFor_spec {m i : Nat} (h : waitsFor md ops m i = true) : ∃ om, ops[m]? = some om ∧ ∃ e ∈ om.after, Region.binds md e = true ∧ e.on = i := by
  unfold waitsFor at h
  cases ho : ops[m]? with
  | none => rw [ho] at h; cases h
  | some o =>
    rw [ho] at h
    obtain ⟨e, he, h2⟩ := Array.any_eq_true'.1 h
    rw [Bool.and_eq_true] at h2
    exact ⟨o, rfl, e, he, h2.1, eq_of_beq h2.2⟩
/-- Each of the chain waits for the one ahead of it. -/
def waitsChain (md : Region.Mode) (ops : Array Oper) : Nat → List Nat → Bool
  | _, [] => true
  | i, y :: ys => waitsFor md ops y i && waitsChain md ops y ys
theorem not_ready_chain {l : Array Bool} {j : Nat} (hj : j ∈ Region.ready md ops l) : ∀ (ps : List Nat) (i : Nat), waitsChain md ops i ps = true → l.getD i true = false → (∀ x ∈ ps, l.getD x true = false) → j ∉ ps
  | [], _, _, _, _ => by simp
  | y :: ys, i, h, hi, hun => by
    rw [waitsChain, Bool.and_eq_true] at h
    rw [List.mem_cons]
    rintro (rfl | hm)
    · obtain ⟨om, h2, e, he, hb, heq⟩ := waitsFor_spec h.1
      obtain ⟨_, oj, h3, h4⟩ := mem_ready.1 hj
      rw [h3] at h2
      cases h2
      have h5 := h4 e he hb
      rw [heq, getD_two hi] at h5
      cases h5
    · exact not_ready_chain hj ys y h.2 (hun y (List.mem_cons_self ..)) (fun x hx => hun x (List.mem_cons_of_mem _ hx)) hm
theorem wpAnyK_first {i : Nat} {oi : Oper} {v : Value} (hi : ops[i]? = some oi) (hsel : ∀ (j : Nat) (o : Oper) cs b, ops[j]? = some o → o.op ≠ .select cs b)
    (hQ : ∀ c a w, Q (.panic c) (a.put oi.dst v) w → Q (.panic c) a w) (ps : List Nat) (hki : waitsChain md ops i ps = true) (hkp : k ∈ ps) (hip : i ∉ ps) :
    ∀ (f : Nat) (l : Array Bool) (a : Act) (w : World), (∀ x ∈ ps, l.getD x true = false) →
      (∀ j oj, ops[j]? = some oj → j ≠ i → l.getD j true = false → (∀ e ∈ oj.after, Region.binds md e = true → e.on ≠ i) → oi.apart ops oj = true) →
      i ∈ Region.ready md ops l → YieldsIf P ops S oi v a → S w → wpAnyK P md ops Q S k f (l.setIfInBounds i true) (a.put oi.dst v) w → wpAnyK P md ops Q S k (f + 1) l a w := by
  intro f
  induction f with
  | zero =>
    intro l a w hlk _ hr hy hS H
    refine ⟨fun h => (by rw [h] at hr; cases hr), fun j hj => ?_⟩
    by_cases hji : j = i
    · subst hji; exact hy.wpOp hi hS ⟨.inr hS, H⟩
    · have := ready_mono hj hji
      rw [H.1] at this
      cases this
  | succ f ih =>
    intro l a w hlk hfree hr hy hS H
    refine ⟨fun h => (by rw [h] at hr; cases hr), fun j hj => ?_⟩
    by_cases hji : j = i
    · subst hji; exact hy.wpOp hi hS ⟨.inr hS, H⟩
    · have h1 := H.2 j (ready_mono hj hji)
      obtain ⟨hjun, oj, hoj, hall⟩ := mem_ready.1 hj
      have hun := (mem_ready.1 hr).1
      have hnot : ∀ e ∈ oj.after, Region.binds md e = true → e.on ≠ i := fun e he hb heq => by
        have h2 := hall e he hb
        rw [heq, getD_two hun] at h2
        cases h2
      have hjp : j ∉ ps := not_ready_chain hj ps i hki hun hlk
      have hjk : j ≠ k := fun e => hjp (e ▸ hkp)
      have hik : i ≠ k := fun e => hip (e ▸ hkp)
      have h2 := wpOp_putIf hoj (hfree j oj hoj hji hjun hnot) (fun cs b => hsel i oi cs b hi) (fun cs b => hsel j oj cs b hoj) hQ hy h1
      refine wpOp_mono (fun a' w' h3 => ?_) h2
      have hSk : S w' := h3.2.1.resolve_left (by rw [getD_set_ne true hjk, getD_set_ne true hik, hlk k hkp]; simp)
      refine ⟨.inr hSk, ih (l.setIfInBounds j true) a' w' (fun x hx => by
        have hxj : j ≠ x := by rintro rfl; exact hjp hx
        rw [getD_set_ne true hxj]; exact hlk x hx) (fun m om hm hmi hmun hno => hfree m om hm hmi ?_ hno) (ready_mono hr (Ne.symm hji)) h3.1 hSk ?_⟩
      · by_cases hjm : j = m
        · subst hjm; exact hjun
        · rw [getD_set_ne true hjm] at hmun; exact hmun
      · rw [Array.setIfInBounds_comm _ _ hji]
        exact h3.2.2
/-- An operation that yields in whatever world. -/
theorem wpAnyK_firstU {i : Nat} {oi : Oper} {v : Value} (hi : ops[i]? = some oi) (hsel : ∀ (j : Nat) (o : Oper) cs b, ops[j]? = some o → o.op ≠ .select cs b)
    (hQ : ∀ c a w, Q (.panic c) (a.put oi.dst v) w → Q (.panic c) a w) (hik : i ≠ k) :
    ∀ (f : Nat) (l : Array Bool) (a : Act) (w : World),
      (∀ j oj, ops[j]? = some oj → j ≠ i → l.getD j true = false → (∀ e ∈ oj.after, Region.binds md e = true → e.on ≠ i) → oi.apart ops oj = true) →
      i ∈ Region.ready md ops l → YieldsIf P ops (fun _ => True) oi v a → (l.getD k true = true ∨ S w) → wpAnyK P md ops Q S k f (l.setIfInBounds i true) (a.put oi.dst v) w → wpAnyK P md ops Q S k (f + 1) l a w := by
  intro f
  induction f with
  | zero =>
    intro l a w _ hr hy hS H
    refine ⟨fun h => (by rw [h] at hr; cases hr), fun j hj => ?_⟩
    by_cases hji : j = i
    · subst hji; exact hy.wpOp hi trivial ⟨by rw [getD_set_ne true hik]; exact hS, H⟩
    · have := ready_mono hj hji
      rw [H.1] at this
      cases this
  | succ f ih =>
    intro l a w hfree hr hy hS H
    refine ⟨fun h => (by rw [h] at hr; cases hr), fun j hj => ?_⟩
    by_cases hji : j = i
    · subst hji; exact hy.wpOp hi trivial ⟨by rw [getD_set_ne true hik]; exact hS, H⟩
    · have h1 := H.2 j (ready_mono hj hji)
      obtain ⟨hjun, oj, hoj, hall⟩ := mem_ready.1 hj
      have hun := (mem_ready.1 hr).1
      have hnot : ∀ e ∈ oj.after, Region.binds md e = true → e.on ≠ i := fun e he hb heq => by
        have h2 := hall e he hb
        rw [heq, getD_two hun] at h2
        cases h2
      have h2 := wpOp_putIf hoj (hfree j oj hoj hji hjun hnot) (fun cs b => hsel i oi cs b hi) (fun cs b => hsel j oj cs b hoj) hQ hy h1
      refine wpOp_mono (fun a' w' h3 => ?_) h2
      have hk2 : ((l.setIfInBounds i true).setIfInBounds j true).getD k true = (l.setIfInBounds j true).getD k true := by
        rw [Array.setIfInBounds_comm _ _ (Ne.symm hji), getD_set_ne true hik]
      have hSk : (l.setIfInBounds j true).getD k true = true ∨ S w' := by rw [← hk2]; exact h3.2.1
      refine ⟨hSk, ih (l.setIfInBounds j true) a' w' (fun m om hm hmi hmun hno => hfree m om hm hmi ?_ hno) (ready_mono hr (Ne.symm hji)) h3.1 hSk ?_⟩
      · by_cases hjm : j = m
        · subst hjm; exact hjun
        · rw [getD_set_ne true hjm] at hmun; exact hmun
      · rw [Array.setIfInBounds_comm _ _ hji]
        exact h3.2.2
/-- An operation ahead of number k is taken first. -/
theorem take_atK {i : Nat} {oi : Oper} {f : Nat} {l : Array Bool} {t : Array Value} {df : List Deferred} {w : World} (d : Nat) (v : Value) (ps : List Nat) (hi : ops[i]? = some oi) (hd : oi.dst = some d) (hw : waitsChain md ops i ps = true) (hkp : k ∈ ps) (hip : i ∉ ps) (hlk : ps.all (fun x => !l.getD x true) = true)
    (hs : Region.noSelect ops = true) (hf : Region.free md ops l i = true) (hr : (Region.ready md ops l).contains i = true)
    (hQ : ∀ c a w, Q (.panic c) (a.put oi.dst v) w → Q (.panic c) a w) (hy : YieldsIf P ops S oi v { tmps := t, defers := df }) (hS : S w)
    (h : wpAnyK P md ops Q S k f (l.setIfInBounds i true) { tmps := t.setIfInBounds d v, defers := df } w) : wpAnyK P md ops Q S k (f + 1) l { tmps := t, defers := df } w := by
  refine wpAnyK_first hi (Region.noSelect_spec hs) hQ ps hw hkp hip f l _ w (fun x hx => ?_) (Region.free_spec hi hf) (by simpa using hr) hy hS ?_
  · have := List.all_eq_true.1 hlk x hx
    simpa using this
  · rw [hd]
    exact h
/-- An operation that reads nothing is taken first. -/
theorem take_atU {i : Nat} {oi : Oper} {f : Nat} {l : Array Bool} {t : Array Value} {df : List Deferred} {w : World} (d : Nat) (v : Value) (hi : ops[i]? = some oi) (hd : oi.dst = some d) (hik : i ≠ k)
    (hs : Region.noSelect ops = true) (hf : Region.free md ops l i = true) (hr : (Region.ready md ops l).contains i = true)
    (hQ : ∀ c a w, Q (.panic c) (a.put oi.dst v) w → Q (.panic c) a w) (hy : YieldsIf P ops (fun _ => True) oi v { tmps := t, defers := df }) (hS : S w)
    (h : wpAnyK P md ops Q S k f (l.setIfInBounds i true) { tmps := t.setIfInBounds d v, defers := df } w) : wpAnyK P md ops Q S k (f + 1) l { tmps := t, defers := df } w := by
  refine wpAnyK_firstU hi (Region.noSelect_spec hs) hQ hik f l _ w (Region.free_spec hi hf) (by simpa using hr) hy (.inr hS) ?_
  rw [hd]
  exact h
/-- Each of those that may come up. -/
def AllReadyK (P : Program) (md : Region.Mode) (ops : Array Oper) (Q : Exit → Act → World → Prop) (S : World → Prop) (k f : Nat) (l : Array Bool) (a : Act) (w : World) (rs : List Nat) : Prop :=
  ∀ i ∈ rs, wpOp P ops Q i (fun a' w' => ((l.setIfInBounds i true).getD k true = true ∨ S w') ∧ wpAnyK P md ops Q S k f (l.setIfInBounds i true) a' w') a w
theorem AllReadyK.nil {f : Nat} {l : Array Bool} {a : Act} {w : World} : AllReadyK P md ops Q S k f l a w [] := fun _ h => by cases h
theorem AllReadyK.cons {f : Nat} {l : Array Bool} {a : Act} {w : World} {i : Nat} {o : Oper} {rs : List Nat} (ho : ops[i]? = some o)
    (h : ∀ K' : Act → World → Prop, Shut (∀ a w, S w → (S w → wpAnyK P md ops Q S k f (l.setIfInBounds i true) a w) → K' a w) → if Region.wanted o (yielded ops a.tmps) = true then Oper.wp P o a w K' Q else K' (a.put o.dst undef) w)
    (hs : AllReadyK P md ops Q S k f l a w rs) : AllReadyK P md ops Q S k f l a w (i :: rs) := fun j hj => by
  rcases List.mem_cons.1 hj with rfl | hj
  · exact wpOp_step ho (fun K' hK => h K' (fun a w hS hW => hK a w ⟨.inr hS, hW hS⟩))
  · exact hs j hj
theorem wpAnyK_ready {rs : List Nat} {f : Nat} {l : Array Bool} {a : Act} {w : World} (hr : Region.ready md ops l = rs) (hne : rs ≠ [])
    (h : AllReadyK P md ops Q S k f l a w rs) : wpAnyK P md ops Q S k (f + 1) l a w :=
  ⟨fun h0 => absurd (hr ▸ h0) hne, hr ▸ h⟩
/-- Behind number k nothing is to be kept. -/
theorem wpAnyK_of_H : ∀ (f : Nat) (l : Array Bool) (a : Act) (w : World), l.getD k true = true → wpAnyH P md ops Q (fun _ => True) f l a w → wpAnyK P md ops Q S k f l a w
  | 0, _, _, _, _, h => h
  | f + 1, l, a, w, hl, h => ⟨h.1, fun i hi => by
      have hl' : (l.setIfInBounds i true).getD k true = true := by
        by_cases e : i = k
        · subst e
          rcases Nat.lt_or_ge i l.size with h' | h'
          · simp [h']
          · simp [h']
        · rw [getD_set_ne true e]; exact hl
      exact wpOp_mono (fun a' w' h' => ⟨.inl hl', wpAnyK_of_H f _ a' w' hl' h'.2⟩) (h.2 i hi)⟩
/-- The store that is number k. -/
theorem storeK {f : Nat} {l : Array Bool} {a : Act} {w : World} {o : Oper} (hr : Region.ready md ops l = [k]) (hk : k < l.size) (ho : ops[k]? = some o) (hgd : o.guard = none)
    (h : ∀ K' : Act → World → Prop, Shut (∀ a w, wpAnyH P md ops Q (fun _ => True) f (l.setIfInBounds k true) a w → K' a w) → Oper.wp P o a w K' Q) : wpAnyK P md ops Q S k (f + 1) l a w := by
  refine ⟨fun h0 => absurd (hr ▸ h0) (by simp), fun i hi => ?_⟩
  rw [hr, List.mem_singleton] at hi
  subst hi
  have hl : (l.setIfInBounds i true).getD i true = true := by simp [hk]
  refine wpOp_step ho fun K' hK => ?_
  have hw : Region.wanted o (yielded ops a.tmps) = true := by simp [Region.wanted, hgd]
  rw [if_pos hw]
  exact h K' (fun a w hW => hK a w ⟨.inl hl, wpAnyK_of_H f _ a w hl hW⟩)
/-- The beginning. -/
theorem wp_region_keptK {id : Nat} {a : Act} {w : World} (k : Nat) (hm : P.follows .mixedOrders = true) (hS : S w.drew)
    (h : S w.drew → wpAnyK P .any ops Q S k ops.size (Array.replicate ops.size false) a w.drew) : (Code.region id ops true).wp P Q a w :=
  wp_region_any hm (wpAny_of_K _ _ _ _ (h hS))
end
end Go.Proofs.YtdpgebifeaakjaaDoor

/- The walk of put. -/
namespace Go.Proofs.YtdpgebifeaakjaaDoor
set_option linter.unusedSimpArgs false
set_option linter.unusedVariables false
open Go.RowKit

theorem build33 (x1 x2 : Int) (w : World) : (Instr.buildSlice 33 1 #[(0, .agg #[.int .i64 x1, .int .i64 x2])]).run Tryd.prog w = .ok (.slice (some ⟨w.heap.size, 0, none⟩) 1 1) (w.alloc (.cells #[.int .i64 x1, .int .i64 x2] 106)) := by kernel_rfl
theorem step_build33 {ops : Array Oper} {o : Oper} {a : Act} {w : World} {K : Act → World → Prop} {Q : Exit → Act → World → Prop} {E : Prop} (hgd : o.guard = none) (x : Operand) (ho : o.op = .buildSlice 33 1 #[(0, x)])
    {x1 x2 : Int} (hx : a.eval x = .agg #[.int .i64 x1, .int .i64 x2])
    (h : K (a.put o.dst (.slice (some ⟨w.heap.size, 0, none⟩) 1 1)) (w.alloc (.cells #[.int .i64 x1, .int .i64 x2] 106))) : if Region.wanted o (yielded ops a.tmps) = true then Oper.wp Tryd.prog o a w K Q else E := by
  have hw : Region.wanted o (yielded ops a.tmps) = true := by simp [Region.wanted, hgd]
  rw [if_pos hw]
  unfold Oper.wp execOp
  have e : (#[(0, x)].map fun (i, x) => (i, a.eval x)) = #[(0, .agg #[.int .i64 x1, .int .i64 x2])] := by
    simp [hx]
  simp only [ho, Sem.run_bind, e, build33, Result.andThen_ok, Sem.run_pure]
  exact h
theorem oper_append_blk {o : Oper} {a : Act} {w : World} {Q : Exit → Act → World → Prop} {K : Act → World → Prop}
    (s x : Operand) (hop : o.op = Op.call { callee := Callee.builtin Builtin.append, args := #[s, x], argTypes := #[33, 33] })
    {base k bn : Nat} {v : Value} {xs : List Value} {x1 x2 : Int} (hs : a.eval s = v) (hv : w.ownsRow base 106 2 v k xs) (hx : a.eval x = .slice (some ⟨bn, 0, none⟩) 1 1) (hb : Blk w bn #[.int .i64 x1, .int .i64 x2] 106)
    (hk : k ≤ 100000) (hbase : base ≤ w.heap.size)
    (h : ∀ v' w', w'.ownsRow base 106 2 v' (k + 1) (xs ++ [.int .i64 x1, .int .i64 x2]) → w.grownBy w' v.ownBlock → Heads 106 (k * 2) w w' → K (a.put o.dst v') w') : Oper.wp Tryd.prog o a w K Q := by
  obtain ⟨i0, hi0, hz0, hz1, hz2⟩ := info_parts info106
  exact wp_append_heads s x 33 hop base 106 i0 _ 2 16 Tryd.underlying33 hi0 hz0 hz1 hz2 rfl (by omega) v k _ hs hv ⟨bn, 0, none⟩ 1 1 [.int .i64 x1, .int .i64 x2] hx rfl (by
      intro j u hj
      rw [Addr.add_lit, hb.cell, Nat.zero_add]
      simpa using hj) (by simp [Value.oneCell'])
    (by unfold maxLen; omega) (by omega) hbase fun v' w' h2 h3 h4 => h v' w' h2 h3 h4
theorem oper_append_dig {o : Oper} {a : Act} {w : World} {Q : Exit → Act → World → Prop} {K : Act → World → Prop}
    (s x : Operand) (hop : o.op = Op.call { callee := Callee.builtin Builtin.append, args := #[s, x], argTypes := #[80, 80] })
    {base k bn : Nat} {v : Value} {T : Nat → Nat → BitVec 8} {d : Nat → BitVec 8} (hs : a.eval s = v) (hv : w.ownsRow base 23 16 v k (digCells T k)) (hx : a.eval x = .slice (some ⟨bn, 0, none⟩) 1 1) (hb : Blk w bn (A8 16 d) 23)
    (hk : k ≤ 100000) (hbase : base ≤ w.heap.size)
    (h : ∀ v' w', w'.ownsRow base 23 16 v' (k + 1) (digCells (snocT k T d) (k + 1)) → w.grownBy w' v.ownBlock → Heads 23 (k * 16) w w' → K (a.put o.dst v') w') : Oper.wp Tryd.prog o a w K Q := by
  obtain ⟨i0, hi0, hz0, hz1, hz2⟩ := info_parts info23
  refine wp_append_heads s x 80 hop base 23 i0 _ 16 16 Tryd.underlying80 hi0 hz0 hz1 hz2 rfl (by omega) v k _ hs hv ⟨bn, 0, none⟩ 1 1 (A8 16 d).toList hx (by rw [Array.length_toList, A8.size]) (by
      intro j u hj
      rw [Addr.add_lit, hb.cell, Nat.zero_add]
      rw [Array.getElem?_toList] at hj
      exact hj) (by
      intro u hu
      obtain ⟨j, hj⟩ := List.getElem?_of_mem hu
      rw [Array.getElem?_toList] at hj
      have := A8.one (n := 16) d
      exact Array.all_eq_true_iff_forall_mem.1 this u (Array.mem_of_getElem? hj))
    (by unfold maxLen; omega) (by omega) hbase fun v' w' h2 h3 h4 => h v' w' (by rw [← digCells_snoc]; exact h2) h3 h4
theorem grown_ne {X w1 : World} {r : Option Nat} (h : X.grownBy w1 r) {g : Nat} {C : Array Value} {t : TypeId} (hb : Blk X g C t) (hne : some g ≠ r) : Blk w1 g C t := (h.block g hb.lt hne).trans hb
theorem own_ne_ty {X : World} {base e size k g : Nat} {v : Value} {xs : List Value} {C : Array Value} {t : TypeId} (h : X.ownsRow base e size v k xs) (hb : Blk X g C t) (ht : t ≠ e) : some g ≠ v.ownBlock := by
  rcases ownsRow_other h hb ht with h | h
  · rw [h]; simp
  · exact fun e => h e.symm
theorem lt_ne {v : Value} {m g : Nat} (h : ∀ q, v.ownBlock = some q → q < m) (hg : m ≤ g) : some g ≠ v.ownBlock := fun e => by
  have := h g e.symm
  omega
theorem own_ne_row {X : World} {base base2 e e2 size size2 k k2 : Nat} {v v2 : Value} {xs xs2 : List Value} (h : X.ownsRow base e size v k xs) (h2 : X.ownsRow base2 e2 size2 v2 k2 xs2) (ht : e ≠ e2 := by decide) : v.ownBlock = none ∨ v.ownBlock ≠ v2.ownBlock := by
  obtain ⟨_, ⟨rfl, _⟩ | ⟨g, cap, cur, rfl, _, hh, _⟩⟩ := h
  · exact .inl rfl
  · refine .inr fun e' => ?_
    obtain ⟨_, ⟨rfl, _⟩ | ⟨g', cap', cur', rfl, _, hh', _⟩⟩ := h2
    · cases e'
    · have e3 : some g = some g' := e'
      injection e3 with e3
      subst e3
      rw [hh] at hh'
      injection hh' with hh'
      injection hh' with _ h5 _
      exact ht h5
theorem heads_other {X Y : World} {base e size k s : Nat} {v : Value} {xs : List Value} {t : TypeId} (hg : X.grownBy Y v.ownBlock) (hr : X.ownsRow base e size v k xs) (ht : t ≠ e) : Heads t s X Y :=
  (Heads.refl _ _ _).of_same fun g C hl hb => hg.block g hl (own_ne_ty hr hb ht)
/-- What put leaves as it was. -/
structure Put (β b kb kt : Nat) (w w' : World) : Prop where
  below : Below β w w'
  others : KeepsOthers w w'
  blk : ∀ (g : Nat) (C : Array Value) (t : TypeId), Blk w g C t → t ≠ 106 → t ≠ 23 → g ≠ b → w'.heap[g]? = w.heap[g]?
  head33 : Heads 106 (kb * 2) w w'
  head80 : Heads 23 (kt * 16) w w'
theorem Put.refl (β b kb kt : Nat) (w : World) : Put β b kb kt w w := ⟨Below.refl _ _, KeepsOthers.refl _, fun _ _ _ _ _ _ _ => rfl, Heads.refl _ _ _, Heads.refl _ _ _⟩
theorem Put.drew {β b kb kt : Nat} {w w' : World} (h : Put β b kb kt w w') : Put β b kb kt w w'.drew := ⟨h.below.drew, h.others.trans (KeepsOthers.drew _), fun g C t h1 h2 h3 h4 => h.blk g C t h1 h2 h3 h4, h.head33.drew, h.head80.drew⟩
theorem Put.alloc {β b kb kt : Nat} {w w' : World} (h : Put β b kb kt w w') (hβ : β ≤ w.heap.size := by omega) (o : Obj) : Put β b kb kt w (w'.alloc o) :=
  ⟨h.below.alloc (Nat.le_trans hβ h.below.size) o, h.others.trans (KeepsOthers.alloc _ _), fun g C t hg h1 h2 h3 => (Below.heap_alloc _ _ _ (Nat.lt_of_lt_of_le hg.lt h.below.size)).trans (h.blk g C t hg h1 h2 h3), h.head33.alloc o, h.head80.alloc o⟩
theorem Put.grown {β b kb kt : Nat} {w X Y : World} (h : Put β b kb kt w X) {base e size k : Nat} {v : Value} {xs : List Value} (hg : X.grownBy Y v.ownBlock) (hr : X.ownsRow base e size v k xs) (hbase : β ≤ base) (hβ : β ≤ X.heap.size) (he : e = 106 ∨ e = 23) (h33 : Heads 106 (kb * 2) X Y) (h80 : Heads 23 (kt * 16) X Y) : Put β b kb kt w Y := by
  refine ⟨h.below.trans ((Below.refl β X).grown hg hβ fun q eq => Nat.le_trans hbase (hr.lt q eq).1), h.others.trans (KeepsOthers.of_grownBy hg fun j o ej hj => ?_), fun g C t hb h1 h2 h3 => ?_, h.head33.trans h33 (Nat.le_refl _), h.head80.trans h80 (Nat.le_refl _)⟩
  · obtain ⟨_, ⟨rfl, _⟩ | ⟨g, cap, cur, rfl, _, hh, _⟩⟩ := hr
    · cases ej
    · have e3 : some g = some j := ej
      injection e3 with e3
      subst e3
      rw [hh] at hj
      cases hj
      rfl
  · have hx : Blk X g C t := (h.blk g C t hb h1 h2 h3).trans hb
    have hy := grown_ne hg hx (own_ne_ty hr hx (by rcases he with he | he <;> subst he <;> assumption))
    exact (show Y.heap[g]? = _ from hy).trans (show w.heap[g]? = _ from hb).symm
theorem Put.set {β b kb kt : Nat} {w X : World} (h : Put β b kb kt w X) (hb : β ≤ b) (j : Nat) (v : Value) {C : Array Value} (hk : Blk X b C 142) : Put β b kb kt w (X.setCell ⟨b, j, none⟩ v) :=
  ⟨h.below.setCell (p := ⟨b, j, none⟩) hb v, h.others.trans (KeepsOthers.setCell _ _ _), fun g C t hg h1 h2 h3 => (Below.heap_setCell _ _ _ _ h3).trans (h.blk g C t hg h1 h2 h3), h.head33.set (p := ⟨b, j, none⟩) v hk (by decide), h.head80.set (p := ⟨b, j, none⟩) v hk (by decide)⟩
theorem put_fin {β b kb kt k k' : Nat} {w X : World} {lv u v V U : Value} {xs ys : List Value} (kx : Blk X b #[lv, u, v] 142) (r33 : X.ownsRow β 106 2 V k xs) (r80 : X.ownsRow β 23 16 U k' ys) (pt : Put β b kb kt w X) (hβ : β ≤ b) :
    Blk ((X.setCell ⟨b, 1, none⟩ V).setCell ⟨b, 2, none⟩ U) b #[lv, V, U] 142 ∧ ((X.setCell ⟨b, 1, none⟩ V).setCell ⟨b, 2, none⟩ U).ownsRow β 106 2 V k xs ∧ ((X.setCell ⟨b, 1, none⟩ V).setCell ⟨b, 2, none⟩ U).ownsRow β 23 16 U k' ys ∧ Put β b kb kt w ((X.setCell ⟨b, 1, none⟩ V).setCell ⟨b, 2, none⟩ U) := by
  have k1 := kx.set 1 V
  have a1 := r33.kept (grownBy_setCell X ⟨b, 1, none⟩ V) (ownsRow_other r33 kx (by decide))
  have a2 := r80.kept (grownBy_setCell X ⟨b, 1, none⟩ V) (ownsRow_other r80 kx (by decide))
  exact ⟨k1.set 2 U, a1.kept (grownBy_setCell _ ⟨b, 2, none⟩ U) (ownsRow_other a1 k1 (by decide)), a2.kept (grownBy_setCell _ ⟨b, 2, none⟩ U) (ownsRow_other a2 k1 (by decide)), (pt.set hβ 1 V kx).set hβ 2 U k1⟩
set_option maxRecDepth 20000 in
set_option maxHeartbeats 2000000 in
theorem put_any (β b kb kt : Nat) (lv : Value) (bp tp : Option Addr) (bn bc tn tc : Nat) (xs : List Value) (T : Nat → Nat → BitVec 8) (x1 x2 : Int) (d : Nat → BitVec 8) (w : World) (hβ : β ≤ b) (hkb : kb ≤ 100000) (hkt : kt ≤ 100000)
    (hf : Blk w b #[lv, .slice bp bn bc, .slice tp tn tc] 142) (r33 : w.ownsRow β 106 2 (.slice bp bn bc) kb xs) (r80 : w.ownsRow β 23 16 (.slice tp tn tc) kt (digCells T kt)) :
    Calls Tryd.prog 93 #[.pointer (some ⟨b, 0, none⟩), .agg #[.int .i64 x1, .int .i64 x2], .agg (A8 16 d)] w fun e w' => (∃ v, e = .returned v) ∧ ∃ vb1 vb2 vb3 vt1 vt2 vt3, Blk w' b #[lv, .slice vb1 vb2 vb3, .slice vt1 vt2 vt3] 142 ∧
      w'.ownsRow β 106 2 (.slice vb1 vb2 vb3) (kb + 1) (xs ++ [.int .i64 x1, .int .i64 x2]) ∧ w'.ownsRow β 23 16 (.slice vt1 vt2 vt3) (kt + 1) (digCells (snocT kt T d) (kt + 1)) ∧ Put β b kb kt w w' := by
  have hbx := box23 d
  have k4 := Blk.new w #[.int .i64 x1, .int .i64 x2] 106
  have k5 := Blk.new (w.alloc (.cells #[.int .i64 x1, .int .i64 x2] 106)) (A8 16 d) 23
  rw [World.size_alloc] at k5
  replace k4 := k4.alloc (.cells (A8 16 d) 23)
  have lb := hf.lt
  have hβw : β ≤ w.heap.size := by omega
  have kb0 := (hf.alloc (.cells #[.int .i64 x1, .int .i64 x2] 106)).alloc (.cells (A8 16 d) 23)
  have pt := (((Put.refl β b kb kt w).alloc hβw (.cells #[.int .i64 x1, .int .i64 x2] 106))).alloc hβw (.cells (A8 16 d) 23)
  have l33 : ∀ q, (Value.slice bp bn bc).ownBlock = some q → q < w.heap.size := fun q e => (r33.lt q e).2
  have l80 : ∀ q, (Value.slice tp tn tc).ownBlock = some q → q < w.heap.size := fun q e => (r80.lt q e).2
  replace r33 := ownsRow_below (ownsRow_below r33 ((Below.refl _ _).alloc (Nat.le_refl _) (.cells #[.int .i64 x1, .int .i64 x2] 106))) ((Below.refl _ _).alloc (Nat.le_refl _) (.cells (A8 16 d) 23))
  replace r80 := ownsRow_below (ownsRow_below r80 ((Below.refl _ _).alloc (Nat.le_refl _) (.cells #[.int .i64 x1, .int .i64 x2] 106))) ((Below.refl _ _).alloc (Nat.le_refl _) (.cells (A8 16 d) 23))
  obtain ⟨W1, hW1⟩ : ∃ W1, (w.alloc (.cells #[.int .i64 x1, .int .i64 x2] 106)).alloc (.cells (A8 16 d) 23) = W1 := ⟨_, rfl⟩
  rw [hW1] at k4 k5 kb0 pt r33 r80
  clear hf
  go_enter Tryd.func93, Tryd.ntmps93
  go_upto_region 1 with (fail)
  try rw [hW1]
  clear hW1 hbx
  replace pt := pt.drew
  replace r33 := r33.drew
  replace r80 := r80.drew
  refine wp_region_keptK (S := fun w' => Blk w' b #[lv, .slice bp bn bc, .slice tp tn tc] 142 ∧ Blk w' w.heap.size #[.int .i64 x1, .int .i64 x2] 106 ∧ Blk w' (w.heap.size + 1) (A8 16 d) 23) 18 (by kernel_rfl) (⟨kb0.drew, k4.drew, k5.drew⟩) (fun hS => ?_)
  simp only [List.size_toArray, List.length_cons, List.length_nil, Nat.reduceAdd, Array.replicate_succ, Array.replicate_zero, List.push_toArray, List.nil_append, List.cons_append]
  refine take_atK (i := 0) 6 (.pointer (some ⟨b, 0, none⟩)) [18] rfl rfl (by kernel_rfl) (by decide) (by decide) (by kernel_rfl) (by kernel_rfl) (by kernel_rfl) (by kernel_rfl) (fun _ _ _ h => h) (Or.inl ⟨by rfl, fun W hW => by go_simp⟩) hS ?_
  try simp only [List.setIfInBounds_toArray, List.set_cons_zero, List.set_cons_succ]
  refine take_atU (i := 1) 7 (.pointer (some ⟨b, 0, none⟩)) rfl rfl (by decide) (by kernel_rfl) (by kernel_rfl) (by kernel_rfl) (fun _ _ _ h => h) (Or.inl ⟨by rfl, fun W hW => by go_simp⟩) hS ?_
  try simp only [List.setIfInBounds_toArray, List.set_cons_zero, List.set_cons_succ]
  refine take_atK (i := 2) 8 (.pointer (some ⟨b, 0, none⟩)) [18] rfl rfl (by kernel_rfl) (by decide) (by decide) (by kernel_rfl) (by kernel_rfl) (by kernel_rfl) (by kernel_rfl) (fun _ _ _ h => h) (Or.inl ⟨by rfl, fun W hW => by go_simp⟩) hS ?_
  try simp only [List.setIfInBounds_toArray, List.set_cons_zero, List.set_cons_succ]
  refine take_atK (i := 3) 9 (.pointer (some ⟨b, 0, none⟩)) [18] rfl rfl (by kernel_rfl) (by decide) (by decide) (by kernel_rfl) (by kernel_rfl) (by kernel_rfl) (by kernel_rfl) (fun _ _ _ h => h) (Or.inl ⟨by rfl, fun W hW => by go_simp⟩) hS ?_
  try simp only [List.setIfInBounds_toArray, List.set_cons_zero, List.set_cons_succ]
  refine take_atK (i := 4) 10 (.pointer (some ⟨b, 1, none⟩)) [18] rfl rfl (by kernel_rfl) (by decide) (by decide) (by kernel_rfl) (by kernel_rfl) (by kernel_rfl) (by kernel_rfl) (fun _ _ _ h => h) (Or.inl ⟨by rfl, fun W hW => by go_simp⟩) hS ?_
  try simp only [List.setIfInBounds_toArray, List.set_cons_zero, List.set_cons_succ]
  refine take_atK (i := 5) 11 (.slice bp bn bc) [18] rfl rfl (by kernel_rfl) (by decide) (by decide) (by kernel_rfl) (by kernel_rfl) (by kernel_rfl) (by kernel_rfl) (fun _ _ _ h => h) (Or.inl ⟨by rfl, fun W hW => by have hc := hW.1.cell 1; go_simp⟩) hS ?_
  try simp only [List.setIfInBounds_toArray, List.set_cons_zero, List.set_cons_succ]
  refine take_atK (i := 6) 12 (.agg #[.int .i64 x1, .int .i64 x2]) [18] rfl rfl (by kernel_rfl) (by decide) (by decide) (by kernel_rfl) (by kernel_rfl) (by kernel_rfl) (by kernel_rfl) (fun _ _ _ h => h) (Or.inl ⟨by rfl, fun W hW => by have hc := hW.2.1.cell 0; have hc2 := hW.2.1.cell 1; go_simp⟩) hS ?_
  try simp only [List.setIfInBounds_toArray, List.set_cons_zero, List.set_cons_succ]
  refine take_atK (i := 9) 15 (.pointer (some ⟨b, 0, none⟩)) [10, 11, 12, 18] rfl rfl (by kernel_rfl) (by decide) (by decide) (by kernel_rfl) (by kernel_rfl) (by kernel_rfl) (by kernel_rfl) (fun _ _ _ h => h) (Or.inl ⟨by rfl, fun W hW => by go_simp⟩) hS ?_
  try simp only [List.setIfInBounds_toArray, List.set_cons_zero, List.set_cons_succ]
  refine take_atK (i := 10) 16 (.pointer (some ⟨b, 0, none⟩)) [11, 12, 18] rfl rfl (by kernel_rfl) (by decide) (by decide) (by kernel_rfl) (by kernel_rfl) (by kernel_rfl) (by kernel_rfl) (fun _ _ _ h => h) (Or.inl ⟨by rfl, fun W hW => by go_simp⟩) hS ?_
  try simp only [List.setIfInBounds_toArray, List.set_cons_zero, List.set_cons_succ]
  refine take_atK (i := 11) 17 (.pointer (some ⟨b, 2, none⟩)) [12, 18] rfl rfl (by kernel_rfl) (by decide) (by decide) (by kernel_rfl) (by kernel_rfl) (by kernel_rfl) (by kernel_rfl) (fun _ _ _ h => h) (Or.inl ⟨by rfl, fun W hW => by go_simp⟩) hS ?_
  try simp only [List.setIfInBounds_toArray, List.set_cons_zero, List.set_cons_succ]
  refine take_atK (i := 12) 18 (.slice tp tn tc) [18] rfl rfl (by kernel_rfl) (by decide) (by decide) (by kernel_rfl) (by kernel_rfl) (by kernel_rfl) (by kernel_rfl) (fun _ _ _ h => h) (Or.inl ⟨by rfl, fun W hW => by have hc := hW.1.cell 2; go_simp⟩) hS ?_
  try simp only [List.setIfInBounds_toArray, List.set_cons_zero, List.set_cons_succ]
  refine take_atK (i := 13) 19 (.agg (A8 16 d)) [14, 15, 18] rfl rfl (by kernel_rfl) (by decide) (by decide) (by kernel_rfl) (by kernel_rfl) (by kernel_rfl) (by kernel_rfl) (fun _ _ _ h => h) (Or.inl ⟨by rfl, fun W hW => exec_load_blk hW.2.2⟩) hS ?_
  try simp only [List.setIfInBounds_toArray, List.set_cons_zero, List.set_cons_succ]
  refine wpAnyK_ready (rs := [7, 14]) (by kernel_rfl) (by simp) ?_
  refine AllReadyK.cons rfl (fun K hK => ?_) ?_
  · skip
    have z33 := Blk.new W1.drew #[.int .i64 x1, .int .i64 x2] 106
    refine step_build33 rfl (.tmp 12) rfl rfl ?_
    refine hK.out _ _ (⟨hS.1.alloc _, hS.2.1.alloc _, hS.2.2.alloc _⟩) (fun hS => ?_)
    clear hK K
    have r33 := ownsRow_below r33 ((Below.refl _ _).alloc (Nat.le_refl _) (.cells #[.int .i64 x1, .int .i64 x2] 106))
    have r80 := ownsRow_below r80 ((Below.refl _ _).alloc (Nat.le_refl _) (.cells #[.int .i64 x1, .int .i64 x2] 106))
    have pt := pt.alloc hβw (.cells #[.int .i64 x1, .int .i64 x2] 106)
    try simp only [Act.put, List.getElem_toArray, List.getElem_cons_succ, List.getElem_cons_zero, List.setIfInBounds_toArray, List.set_cons_zero, List.set_cons_succ]
    refine wpAnyK_ready (rs := [8, 14]) (by kernel_rfl) (by simp) ?_
    refine AllReadyK.cons rfl (fun K hK => ?_) ?_
    · skip
      rw [if_pos (by rfl)]
      refine oper_append_blk (v := .slice bp bn bc) _ _ rfl rfl r33 rfl z33 (by omega) (by have := hS.1.lt; have := hS.2.2.lt; omega) ?_
      intro v8 Y2 r33n hg8 hh8
      obtain ⟨vb1, vb2, vb3, rfl⟩ := ownsRow_slice' r33n
      have g1 := grown_ne hg8 hS.1 (own_ne_ty r33 hS.1 (by decide))
      have g2 := grown_ne hg8 hS.2.1 (lt_ne l33 (Nat.le_refl _))
      have g3 := grown_ne hg8 hS.2.2 (own_ne_ty r33 hS.2.2 (by decide))
      refine hK.out _ _ (⟨g1, g2, g3⟩) (fun hS => ?_)
      clear hK K
      have pt := pt.grown hg8 r33 (Nat.le_refl _) (Nat.le_trans hβw pt.below.size) (.inl rfl) hh8 (heads_other hg8 r33 (by decide))
      have r80 := r80.kept hg8 (own_ne_row r80 r33)
      clear r33 hg8 hh8 g1 g2 g3
      have r33 := r33n
      clear r33n
      try simp only [Act.put, List.getElem_toArray, List.getElem_cons_succ, List.getElem_cons_zero, List.setIfInBounds_toArray, List.set_cons_zero, List.set_cons_succ]
      refine wpAnyK_ready (rs := [14]) (by kernel_rfl) (by simp) ?_
      refine AllReadyK.cons rfl (fun K hK => ?_) AllReadyK.nil
      have z80 := Blk.new Y2 (A8 16 d) 23
      refine step_build80 rfl (.tmp 19) rfl (T := d) rfl ?_
      refine hK.out _ _ (⟨hS.1.alloc _, hS.2.1.alloc _, hS.2.2.alloc _⟩) (fun hS => ?_)
      clear hK K
      have r33 := ownsRow_below r33 ((Below.refl _ _).alloc (Nat.le_refl _) (.cells (A8 16 d) 23))
      have r80 := ownsRow_below r80 ((Below.refl _ _).alloc (Nat.le_refl _) (.cells (A8 16 d) 23))
      have pt := pt.alloc hβw (.cells (A8 16 d) 23)
      try simp only [Act.put, List.getElem_toArray, List.getElem_cons_succ, List.getElem_cons_zero, List.setIfInBounds_toArray, List.set_cons_zero, List.set_cons_succ]
      refine wpAnyK_ready (rs := [15]) (by kernel_rfl) (by simp) ?_
      refine AllReadyK.cons rfl (fun K hK => ?_) AllReadyK.nil
      rw [if_pos (by rfl)]
      refine oper_append_dig (v := .slice tp tn tc) _ _ rfl rfl r80 rfl z80 (by omega) (by have := hS.1.lt; have := hS.2.2.lt; omega) ?_
      intro v9 Z4 r80n hg9 hh9
      obtain ⟨vt1, vt2, vt3, rfl⟩ := ownsRow_slice' r80n
      have g1 := grown_ne hg9 hS.1 (own_ne_ty r80 hS.1 (by decide))
      have g2 := grown_ne hg9 hS.2.1 (own_ne_ty r80 hS.2.1 (by decide))
      have g3 := grown_ne hg9 hS.2.2 (lt_ne l80 (Nat.le_succ _))
      refine hK.out _ _ (⟨g1, g2, g3⟩) (fun hS => ?_)
      clear hK K
      have pt := pt.grown hg9 r80 (Nat.le_refl _) (Nat.le_trans hβw pt.below.size) (.inr rfl) (heads_other hg9 r80 (by decide)) hh9
      have r33 := r33.kept hg9 (own_ne_row r33 r80)
      clear r80 hg9 hh9 g1 g2 g3
      have r80 := r80n
      clear r80n
      try simp only [Act.put, List.getElem_toArray, List.getElem_cons_succ, List.getElem_cons_zero, List.setIfInBounds_toArray, List.set_cons_zero, List.set_cons_succ]
      refine take_atK (i := 16) 22 (.pointer (some ⟨b, 0, none⟩)) [17, 18] rfl rfl (by kernel_rfl) (by decide) (by decide) (by kernel_rfl) (by kernel_rfl) (by kernel_rfl) (by kernel_rfl) (fun _ _ _ h => h) (Or.inl ⟨by rfl, fun W hW => by go_simp⟩) hS ?_
      try simp only [List.setIfInBounds_toArray, List.set_cons_zero, List.set_cons_succ]
      refine take_atK (i := 17) 23 (.pointer (some ⟨b, 1, none⟩)) [18] rfl rfl (by kernel_rfl) (by decide) (by decide) (by kernel_rfl) (by kernel_rfl) (by kernel_rfl) (by kernel_rfl) (fun _ _ _ h => h) (Or.inl ⟨by rfl, fun W hW => by go_simp⟩) hS ?_
      try simp only [List.setIfInBounds_toArray, List.set_cons_zero, List.set_cons_succ]
      refine storeK (by kernel_rfl) (by decide) rfl rfl (fun K hK => ?_)
      have c1 := hS.1.cell 1
      have f1 := hS.1.free 1
      have kx := hS.1
      have kb1 := hS.1.set 1 (.slice vb1 vb2 vb3)
      go_simp
      refine hK.out _ _ ?_
      clear hK K
      have hS : True := trivial
      have c2 := kb1.cell 2
      have f2 := kb1.free 2
      try simp only [Act.put, List.getElem_toArray, List.getElem_cons_succ, List.getElem_cons_zero, List.setIfInBounds_toArray, List.set_cons_zero, List.set_cons_succ]
      refine take_at (i := 19) 24 (.pointer (some ⟨b, 0, none⟩)) rfl rfl (by kernel_rfl) (by kernel_rfl) (by kernel_rfl) (fun _ _ _ h => h) (Or.inl ⟨by rfl, fun W hW => by go_simp⟩) hS ?_
      try simp only [List.setIfInBounds_toArray, List.set_cons_zero, List.set_cons_succ]
      refine take_at (i := 20) 25 (.pointer (some ⟨b, 2, none⟩)) rfl rfl (by kernel_rfl) (by kernel_rfl) (by kernel_rfl) (fun _ _ _ h => h) (Or.inl ⟨by rfl, fun W hW => by go_simp⟩) hS ?_
      try simp only [List.setIfInBounds_toArray, List.set_cons_zero, List.set_cons_succ]
      refine wpAnyH_ready (rs := [21]) (by kernel_rfl) (by simp) ?_
      refine AllReadyH.cons rfl (fun K hK => ?_) AllReadyH.nil
      go_simp
      refine hK.out _ _ (trivial) (fun hS => ?_)
      clear hK K
      try simp only [Act.put, List.getElem_toArray, List.getElem_cons_succ, List.getElem_cons_zero, List.setIfInBounds_toArray, List.set_cons_zero, List.set_cons_succ]
      refine wpAnyH_done (by kernel_rfl) ?_ _
      go_wp2_with fail
      go_end0
      exact ⟨⟨_, rfl⟩, _, _, _, _, _, _, put_fin kx r33 r80 pt hβ⟩
    refine AllReadyK.cons rfl (fun K hK => ?_) AllReadyK.nil
    have z80 := Blk.new (W1.drew.alloc (.cells #[.int .i64 x1, .int .i64 x2] 106)) (A8 16 d) 23
    refine step_build80 rfl (.tmp 19) rfl (T := d) rfl ?_
    refine hK.out _ _ (⟨hS.1.alloc _, hS.2.1.alloc _, hS.2.2.alloc _⟩) (fun hS => ?_)
    clear hK K
    have r33 := ownsRow_below r33 ((Below.refl _ _).alloc (Nat.le_refl _) (.cells (A8 16 d) 23))
    have r80 := ownsRow_below r80 ((Below.refl _ _).alloc (Nat.le_refl _) (.cells (A8 16 d) 23))
    have pt := pt.alloc hβw (.cells (A8 16 d) 23)
    have z33 := z33.alloc (.cells (A8 16 d) 23)
    try simp only [Act.put, List.getElem_toArray, List.getElem_cons_succ, List.getElem_cons_zero, List.setIfInBounds_toArray, List.set_cons_zero, List.set_cons_succ]
    refine wpAnyK_ready (rs := [8]) (by kernel_rfl) (by simp) ?_
    refine AllReadyK.cons rfl (fun K hK => ?_) AllReadyK.nil
    rw [if_pos (by rfl)]
    refine oper_append_blk (v := .slice bp bn bc) _ _ rfl rfl r33 rfl z33 (by omega) (by have := hS.1.lt; have := hS.2.2.lt; omega) ?_
    intro v8 Y8 r33n hg8 hh8
    obtain ⟨vb1, vb2, vb3, rfl⟩ := ownsRow_slice' r33n
    have g1 := grown_ne hg8 hS.1 (own_ne_ty r33 hS.1 (by decide))
    have g2 := grown_ne hg8 hS.2.1 (lt_ne l33 (Nat.le_refl _))
    have g3 := grown_ne hg8 hS.2.2 (own_ne_ty r33 hS.2.2 (by decide))
    refine hK.out _ _ (⟨g1, g2, g3⟩) (fun hS => ?_)
    clear hK K
    have pt := pt.grown hg8 r33 (Nat.le_refl _) (Nat.le_trans hβw pt.below.size) (.inl rfl) hh8 (heads_other hg8 r33 (by decide))
    have r80 := r80.kept hg8 (own_ne_row r80 r33)
    have z80 := grown_ne hg8 z80 (own_ne_ty r33 z80 (by decide))
    clear r33 hg8 hh8 g1 g2 g3
    have r33 := r33n
    clear r33n
    try simp only [Act.put, List.getElem_toArray, List.getElem_cons_succ, List.getElem_cons_zero, List.setIfInBounds_toArray, List.set_cons_zero, List.set_cons_succ]
    refine wpAnyK_ready (rs := [15]) (by kernel_rfl) (by simp) ?_
    refine AllReadyK.cons rfl (fun K hK => ?_) AllReadyK.nil
    rw [if_pos (by rfl)]
    refine oper_append_dig (v := .slice tp tn tc) _ _ rfl rfl r80 rfl z80 (by omega) (by have := hS.1.lt; have := hS.2.2.lt; omega) ?_
    intro v9 Z9 r80n hg9 hh9
    obtain ⟨vt1, vt2, vt3, rfl⟩ := ownsRow_slice' r80n
    have g1 := grown_ne hg9 hS.1 (own_ne_ty r80 hS.1 (by decide))
    have g2 := grown_ne hg9 hS.2.1 (own_ne_ty r80 hS.2.1 (by decide))
    have g3 := grown_ne hg9 hS.2.2 (lt_ne l80 (Nat.le_succ _))
    refine hK.out _ _ (⟨g1, g2, g3⟩) (fun hS => ?_)
    clear hK K
    have pt := pt.grown hg9 r80 (Nat.le_refl _) (Nat.le_trans hβw pt.below.size) (.inr rfl) (heads_other hg9 r80 (by decide)) hh9
    have r33 := r33.kept hg9 (own_ne_row r33 r80)
    clear r80 hg9 hh9 g1 g2 g3
    have r80 := r80n
    clear r80n
    try simp only [Act.put, List.getElem_toArray, List.getElem_cons_succ, List.getElem_cons_zero, List.setIfInBounds_toArray, List.set_cons_zero, List.set_cons_succ]
    refine take_atK (i := 16) 22 (.pointer (some ⟨b, 0, none⟩)) [17, 18] rfl rfl (by kernel_rfl) (by decide) (by decide) (by kernel_rfl) (by kernel_rfl) (by kernel_rfl) (by kernel_rfl) (fun _ _ _ h => h) (Or.inl ⟨by rfl, fun W hW => by go_simp⟩) hS ?_
    try simp only [List.setIfInBounds_toArray, List.set_cons_zero, List.set_cons_succ]
    refine take_atK (i := 17) 23 (.pointer (some ⟨b, 1, none⟩)) [18] rfl rfl (by kernel_rfl) (by decide) (by decide) (by kernel_rfl) (by kernel_rfl) (by kernel_rfl) (by kernel_rfl) (fun _ _ _ h => h) (Or.inl ⟨by rfl, fun W hW => by go_simp⟩) hS ?_
    try simp only [List.setIfInBounds_toArray, List.set_cons_zero, List.set_cons_succ]
    refine storeK (by kernel_rfl) (by decide) rfl rfl (fun K hK => ?_)
    have c1 := hS.1.cell 1
    have f1 := hS.1.free 1
    have kx := hS.1
    have kb1 := hS.1.set 1 (.slice vb1 vb2 vb3)
    go_simp
    refine hK.out _ _ ?_
    clear hK K
    have hS : True := trivial
    have c2 := kb1.cell 2
    have f2 := kb1.free 2
    try simp only [Act.put, List.getElem_toArray, List.getElem_cons_succ, List.getElem_cons_zero, List.setIfInBounds_toArray, List.set_cons_zero, List.set_cons_succ]
    refine take_at (i := 19) 24 (.pointer (some ⟨b, 0, none⟩)) rfl rfl (by kernel_rfl) (by kernel_rfl) (by kernel_rfl) (fun _ _ _ h => h) (Or.inl ⟨by rfl, fun W hW => by go_simp⟩) hS ?_
    try simp only [List.setIfInBounds_toArray, List.set_cons_zero, List.set_cons_succ]
    refine take_at (i := 20) 25 (.pointer (some ⟨b, 2, none⟩)) rfl rfl (by kernel_rfl) (by kernel_rfl) (by kernel_rfl) (fun _ _ _ h => h) (Or.inl ⟨by rfl, fun W hW => by go_simp⟩) hS ?_
    try simp only [List.setIfInBounds_toArray, List.set_cons_zero, List.set_cons_succ]
    refine wpAnyH_ready (rs := [21]) (by kernel_rfl) (by simp) ?_
    refine AllReadyH.cons rfl (fun K hK => ?_) AllReadyH.nil
    go_simp
    refine hK.out _ _ (trivial) (fun hS => ?_)
    clear hK K
    try simp only [Act.put, List.getElem_toArray, List.getElem_cons_succ, List.getElem_cons_zero, List.setIfInBounds_toArray, List.set_cons_zero, List.set_cons_succ]
    refine wpAnyH_done (by kernel_rfl) ?_ _
    go_wp2_with fail
    go_end0
    exact ⟨⟨_, rfl⟩, _, _, _, _, _, _, put_fin kx r33 r80 pt hβ⟩
  refine AllReadyK.cons rfl (fun K hK => ?_) AllReadyK.nil
  have z80 := Blk.new W1.drew (A8 16 d) 23
  refine step_build80 rfl (.tmp 19) rfl (T := d) rfl ?_
  refine hK.out _ _ (⟨hS.1.alloc _, hS.2.1.alloc _, hS.2.2.alloc _⟩) (fun hS => ?_)
  clear hK K
  have r33 := ownsRow_below r33 ((Below.refl _ _).alloc (Nat.le_refl _) (.cells (A8 16 d) 23))
  have r80 := ownsRow_below r80 ((Below.refl _ _).alloc (Nat.le_refl _) (.cells (A8 16 d) 23))
  have pt := pt.alloc hβw (.cells (A8 16 d) 23)
  try simp only [Act.put, List.getElem_toArray, List.getElem_cons_succ, List.getElem_cons_zero, List.setIfInBounds_toArray, List.set_cons_zero, List.set_cons_succ]
  refine wpAnyK_ready (rs := [7]) (by kernel_rfl) (by simp) ?_
  refine AllReadyK.cons rfl (fun K hK => ?_) AllReadyK.nil
  have z33 := Blk.new (W1.drew.alloc (.cells (A8 16 d) 23)) #[.int .i64 x1, .int .i64 x2] 106
  refine step_build33 rfl (.tmp 12) rfl rfl ?_
  refine hK.out _ _ (⟨hS.1.alloc _, hS.2.1.alloc _, hS.2.2.alloc _⟩) (fun hS => ?_)
  clear hK K
  have r33 := ownsRow_below r33 ((Below.refl _ _).alloc (Nat.le_refl _) (.cells #[.int .i64 x1, .int .i64 x2] 106))
  have r80 := ownsRow_below r80 ((Below.refl _ _).alloc (Nat.le_refl _) (.cells #[.int .i64 x1, .int .i64 x2] 106))
  have pt := pt.alloc hβw (.cells #[.int .i64 x1, .int .i64 x2] 106)
  have z80 := z80.alloc (.cells #[.int .i64 x1, .int .i64 x2] 106)
  try simp only [Act.put, List.getElem_toArray, List.getElem_cons_succ, List.getElem_cons_zero, List.setIfInBounds_toArray, List.set_cons_zero, List.set_cons_succ]
  refine wpAnyK_ready (rs := [8]) (by kernel_rfl) (by simp) ?_
  refine AllReadyK.cons rfl (fun K hK => ?_) AllReadyK.nil
  rw [if_pos (by rfl)]
  refine oper_append_blk (v := .slice bp bn bc) _ _ rfl rfl r33 rfl z33 (by omega) (by have := hS.1.lt; have := hS.2.2.lt; omega) ?_
  intro v8 Y14 r33n hg8 hh8
  obtain ⟨vb1, vb2, vb3, rfl⟩ := ownsRow_slice' r33n
  have g1 := grown_ne hg8 hS.1 (own_ne_ty r33 hS.1 (by decide))
  have g2 := grown_ne hg8 hS.2.1 (lt_ne l33 (Nat.le_refl _))
  have g3 := grown_ne hg8 hS.2.2 (own_ne_ty r33 hS.2.2 (by decide))
  refine hK.out _ _ (⟨g1, g2, g3⟩) (fun hS => ?_)
  clear hK K
  have pt := pt.grown hg8 r33 (Nat.le_refl _) (Nat.le_trans hβw pt.below.size) (.inl rfl) hh8 (heads_other hg8 r33 (by decide))
  have r80 := r80.kept hg8 (own_ne_row r80 r33)
  have z80 := grown_ne hg8 z80 (own_ne_ty r33 z80 (by decide))
  clear r33 hg8 hh8 g1 g2 g3
  have r33 := r33n
  clear r33n
  try simp only [Act.put, List.getElem_toArray, List.getElem_cons_succ, List.getElem_cons_zero, List.setIfInBounds_toArray, List.set_cons_zero, List.set_cons_succ]
  refine wpAnyK_ready (rs := [15]) (by kernel_rfl) (by simp) ?_
  refine AllReadyK.cons rfl (fun K hK => ?_) AllReadyK.nil
  rw [if_pos (by rfl)]
  refine oper_append_dig (v := .slice tp tn tc) _ _ rfl rfl r80 rfl z80 (by omega) (by have := hS.1.lt; have := hS.2.2.lt; omega) ?_
  intro v9 Z15 r80n hg9 hh9
  obtain ⟨vt1, vt2, vt3, rfl⟩ := ownsRow_slice' r80n
  have g1 := grown_ne hg9 hS.1 (own_ne_ty r80 hS.1 (by decide))
  have g2 := grown_ne hg9 hS.2.1 (own_ne_ty r80 hS.2.1 (by decide))
  have g3 := grown_ne hg9 hS.2.2 (lt_ne l80 (Nat.le_succ _))
  refine hK.out _ _ (⟨g1, g2, g3⟩) (fun hS => ?_)
  clear hK K
  have pt := pt.grown hg9 r80 (Nat.le_refl _) (Nat.le_trans hβw pt.below.size) (.inr rfl) (heads_other hg9 r80 (by decide)) hh9
  have r33 := r33.kept hg9 (own_ne_row r33 r80)
  clear r80 hg9 hh9 g1 g2 g3
  have r80 := r80n
  clear r80n
  try simp only [Act.put, List.getElem_toArray, List.getElem_cons_succ, List.getElem_cons_zero, List.setIfInBounds_toArray, List.set_cons_zero, List.set_cons_succ]
  refine take_atK (i := 16) 22 (.pointer (some ⟨b, 0, none⟩)) [17, 18] rfl rfl (by kernel_rfl) (by decide) (by decide) (by kernel_rfl) (by kernel_rfl) (by kernel_rfl) (by kernel_rfl) (fun _ _ _ h => h) (Or.inl ⟨by rfl, fun W hW => by go_simp⟩) hS ?_
  try simp only [List.setIfInBounds_toArray, List.set_cons_zero, List.set_cons_succ]
  refine take_atK (i := 17) 23 (.pointer (some ⟨b, 1, none⟩)) [18] rfl rfl (by kernel_rfl) (by decide) (by decide) (by kernel_rfl) (by kernel_rfl) (by kernel_rfl) (by kernel_rfl) (fun _ _ _ h => h) (Or.inl ⟨by rfl, fun W hW => by go_simp⟩) hS ?_
  try simp only [List.setIfInBounds_toArray, List.set_cons_zero, List.set_cons_succ]
  refine storeK (by kernel_rfl) (by decide) rfl rfl (fun K hK => ?_)
  have c1 := hS.1.cell 1
  have f1 := hS.1.free 1
  have kx := hS.1
  have kb1 := hS.1.set 1 (.slice vb1 vb2 vb3)
  go_simp
  refine hK.out _ _ ?_
  clear hK K
  have hS : True := trivial
  have c2 := kb1.cell 2
  have f2 := kb1.free 2
  try simp only [Act.put, List.getElem_toArray, List.getElem_cons_succ, List.getElem_cons_zero, List.setIfInBounds_toArray, List.set_cons_zero, List.set_cons_succ]
  refine take_at (i := 19) 24 (.pointer (some ⟨b, 0, none⟩)) rfl rfl (by kernel_rfl) (by kernel_rfl) (by kernel_rfl) (fun _ _ _ h => h) (Or.inl ⟨by rfl, fun W hW => by go_simp⟩) hS ?_
  try simp only [List.setIfInBounds_toArray, List.set_cons_zero, List.set_cons_succ]
  refine take_at (i := 20) 25 (.pointer (some ⟨b, 2, none⟩)) rfl rfl (by kernel_rfl) (by kernel_rfl) (by kernel_rfl) (fun _ _ _ h => h) (Or.inl ⟨by rfl, fun W hW => by go_simp⟩) hS ?_
  try simp only [List.setIfInBounds_toArray, List.set_cons_zero, List.set_cons_succ]
  refine wpAnyH_ready (rs := [21]) (by kernel_rfl) (by simp) ?_
  refine AllReadyH.cons rfl (fun K hK => ?_) AllReadyH.nil
  go_simp
  refine hK.out _ _ (trivial) (fun hS => ?_)
  clear hK K
  try simp only [Act.put, List.getElem_toArray, List.getElem_cons_succ, List.getElem_cons_zero, List.setIfInBounds_toArray, List.set_cons_zero, List.set_cons_succ]
  refine wpAnyH_done (by kernel_rfl) ?_ _
  go_wp2_with fail
  go_end0
  exact ⟨⟨_, rfl⟩, _, _, _, _, _, _, put_fin kx r33 r80 pt hβ⟩
end Go.Proofs.YtdpgebifeaakjaaDoor

/- A range over an iterator whose body may panic: the law for one function. -/
namespace Go.Proofs.YtdpgebifeaakjaaDoor
set_option linter.unusedSimpArgs false
set_option linter.unusedVariables false
open Go.RowKit

variable {n : Nat} {P : Program}

/-- As wpIn, in frames of the function f alone. -/
def wpAt (P : Program) (f : FuncId) (c : Code) (Q : Exit → Act → World → Prop) (a : Act) (w : World) : Prop :=
  ∀ (b : Frame) (k : List Item) (cs : List Frame), b.roundOf = none → b.fn = f → ∃ e a' w', Q e a' w' ∧ ArrivesIn (Machine.fenced P Fence.wide) P (lone (b.atR a (.code c :: k)) cs w) b k cs e a' w'
theorem fwide (m : Machine) : m.fenced P Fence.wide := fenced_wide P m
theorem wpAt_seq {f : FuncId} {x y : Code} {Q : Exit → Act → World → Prop} {a : Act} {w : World} (h : x.wpIn Fence.wide n P (Exit.then (wpAt P f y Q) Q) a w) : wpAt P f (Code.seq x y) Q a w := by
  intro b k cs hro hb
  obtain ⟨e, a₁, w₁, hq, harr⟩ := h b (.code y :: k) cs hro trivial (room_wide _)
  cases e with
  | normal =>
    obtain ⟨e₂, a₂, w₂, hq₂, harr₂⟩ := hq b k cs hro hb
    exact ⟨e₂, a₂, w₂, hq₂, .of_steps (.head (fwide _) stepR_seq harr) harr₂⟩
  | _ => exact ⟨_, a₁, w₁, hq, .of_steps (.one (fwide _) stepR_seq) (.pass (x := .code y) rfl (fun _ _ => .inl (by simp)) harr)⟩
/-- A block that is left off its end, or by a panic. -/
theorem wpAt_block {f : FuncId} {id : Nat} {c : Code} {Q : Exit → Act → World → Prop} {a : Act} {w : World} (h : wpAt P f c (fun e a w => match e with | .normal => Q .normal a w | .panic ch => Q (.panic ch) a w | _ => False) a w) : wpAt P f (Code.block id c) Q a w := by
  intro b k cs hro hb
  obtain ⟨e, a₁, w₁, hq, harr⟩ := h b (.inBlock id :: k) cs hro hb
  cases e with
  | normal => exact ⟨.normal, a₁, w₁, hq, .head (fwide _) stepR_block (StepsIn.trans harr (.one (fwide _) stepR_inBlock))⟩
  | panic ch => exact ⟨.panic ch, a₁, w₁, hq, by obtain ⟨todo, hs⟩ := harr; exact ⟨todo, .head (fwide _) stepR_block hs⟩⟩
  | exit id' => exact hq.elim
  | goto l => exact hq.elim
  | ret => exact hq.elim
  | outgrown => exact hq.elim
theorem calls_of_wpAt {f : FuncId} {fn : Func} {c : Code} {args : Array Value} {w : World} {R : Ending → World → Prop} (hf : P.funcs[f]? = some fn) (hb : fn.body = some c)
    (h : wpAt P f c (bodyPostM Fence.wide n P fn R) { tmps := args ++ Array.replicate (fn.ntmps - args.size) undef, defers := [] } w) : Calls P f args w R := by
  refine callsIn_wide (n := n).1 ⟨trivial, fun cs hr => ?_⟩
  let b : Frame := { (default : Frame) with fn := f, kind := .normal, roundOf := none }
  have henter : Frame.enter P f args .normal = b.atR { tmps := args ++ Array.replicate (fn.ntmps - args.size) undef, defers := [] } [.code c] := by
    simp [Frame.enter, Frame.atR, hf, hb, b]
  obtain ⟨e, a', w', hq, harr⟩ := h b [] cs rfl rfl
  rw [← henter] at harr
  have leave : ∀ (m : FrameMode) (todo : List Item) (hs : StepsIn (Machine.fenced P Fence.wide) P (lone (Frame.enter P f args .normal) cs w) (lone { b.atR a' todo with mode := m } cs w')) (hq : LeavesInM Fence.wide n P fn a'.tmps R a'.defers m w'), ∃ e w'' fr, R e w'' ∧ ComesIn (Machine.fenced P Fence.wide) P (lone (Frame.enter P f args .normal) cs w) (lone fr cs w'') e ∧ fr.fn = f ∧ fr.leaving P w'' e := by
    intro m todo hs hq
    obtain ⟨e', w'', fr', hR, hs2, hfn, hl⟩ := leaves_stepsInM a'.defers m w' { b.atR a' todo with mode := m } cs rfl rfl rfl hf rfl (trivial : Fence.wide.fn f) (room_wide _) hq
    exact ⟨e', w'', fr', hR, ComesIn.of_steps hs hs2, hfn, hl⟩
  cases e with
  | normal => exact leave .returning [] (StepsIn.trans harr (.one (fwide _) (stepR_end rfl))) hq
  | ret =>
    obtain ⟨todo, hs₀⟩ := harr.1 rfl
    exact leave .returning todo hs₀ hq
  | panic chain =>
    obtain ⟨todo, hs₀⟩ := harr
    exact leave (.panicking chain) todo hs₀ hq
  | exit id => exact hq.elim
  | goto l => exact hq.elim
  | outgrown => exact ⟨.outgrown, w', b, hq, harr.resolve_left (by simp [b]), rfl, trivial⟩
/-- The statement. -/
theorem wpAt_rangeFunc {f : FuncId} {g : Operand} {ps : Array Tmp} {assign body : Code} {Q : Exit → Act → World → Prop} {a : Act} {w : World}
    (h : ∃ (l : Nat) (mark : List Deferred) (w₁ : World) (d : Deferred) (w₁' : World) (q : FuncId) (args : Array Value) (w₂ : World),
      (Instr.enterLoop f a.tmps ps assign body none).run P w = .ok (l, mark) w₁ ∧ (resolve a.eval (rangeCall g l) 0).run P w₁ = .ok d w₁' ∧ (invoke d.target d.args).run P w₁' = .ok (.enter q args) w₂ ∧
      Calls P q args w₂ fun e w₃ => match e with
        | .returned _ => ∃ w₄, (Instr.endLoop l).run P w₃ = .ok none w₄ ∧ Q .normal { a with defers := mark ++ a.defers } w₄
        | .panicked ch => Q (.panic ch) { a with defers := mark ++ a.defers } w₃
        | .outgrown => False) : wpAt P f (Code.rangeFunc g ps assign body) Q a w := by
  intro b k cs hro hb
  subst hb
  obtain ⟨l, mark, w₁, d, w₁', q, args, w₂, he, hres, hinv, hcall⟩ := h
  rw [← hro] at he
  have henter := stepR_rangeFunc (P := P) (b := b) (a := a) (k := k) (cs := cs) (w := w) he hres hinv
  obtain ⟨e, w₃, fr, hR, hsteps, _, hleave⟩ := hcall (b.atR { a with defers := mark ++ a.defers } (.inRangeFunc l :: k) :: cs)
  cases e with
  | outgrown => exact hR.elim
  | returned v =>
    obtain ⟨w₄, hend, hj⟩ := hR
    have back := step_leave_returned (c := b.atR { a with defers := mark ++ a.defers } (.inRangeFunc l :: k)) (cs := cs) hleave
    rw [finish_atR_inRangeFunc] at back
    exact ⟨.normal, _, w₄, hj, .head (fwide _) henter (StepsIn.trans (stepsIn_wide.2 hsteps) (.head (fwide _) back (.one (fwide _) (stepR_endRangeFunc hend))))⟩
  | panicked ch =>
    have back := step_leave_panicked (c := b.atR { a with defers := mark ++ a.defers } (.inRangeFunc l :: k)) (cs := cs) hleave
    rw [Frame.raise_atR] at back
    exact ⟨.panic ch, _, w₃, hR, .inRangeFunc l :: k, .head (fwide _) henter (StepsIn.trans (stepsIn_wide.2 hsteps) (.one (fwide _) back))⟩
theorem wpAt_rangeCP {fn : FuncId} {α : Type} {g : Operand} {ps : Array Tmp} {assign body : Code} {Q : Exit → Act → World → Prop} {a : Act} {w : World}
    (h1 : 1 ≤ n) {gf : Nat} {lb : Array Value} (hg : a.eval g = .func (.func gf) #[] lb) (eg : ∀ args w, (callFunc gf args).run P w = .ok (.enter gf args) w)
    {encs : α → Array Value} {Ba : Nat} {K : Nat → Prop} {ch : List PanicEntry} {xs : List α} (hseq : SeqP Fence.wide (n - 1) P gf lb encs Ba K ch xs w) (hBa : Ba < w.heap.size) (hK : ∀ k, K k → k < w.heap.size)
    (hps : ∀ x, (encs x).size = ps.size) (hfunc : ∃ f, P.funcs[fn]? = some f)
    (I : List α → World → Prop) (hI : OwnC w.heap.size Ba I) (h0 : I [] w) (Ip : World → Prop) (Ax : α → Act → World → Prop) (hAx : ∀ x a', OwnC w.heap.size Ba (fun (_ : Unit) W => Ax x a' W))
    (hassign : ∀ (l : Nat) (pre : List α) (x : α) (W : World) (C : Act → World → Prop), I pre W → (∃ post, xs = pre ++ x :: post) →
      (∀ a' W', KeepsFrom w.heap.size W W' → KeepsB K W W' → I pre W' → Ax x a' W' → C a' W') →
      assign.wpIn (Fence.wide.inRound l) (n - 1 - 1) P (Exit.then C (fun _ _ _ => False)) { tmps := (ps.zip (encs x)).foldl (fun t (p, v) => t.setIfInBounds p v) a.tmps, defers := [] } W)
    (hbody : ∀ (l : Nat) (pre : List α) (x : α) (a' : Act) (W : World), I pre W → Ax x a' W → (∃ post, xs = pre ++ x :: post) →
      body.wpIn (Fence.wide.inRound l) (n - 1 - 1) P (onPostP w.heap.size K I ch Ip (pre ++ [x]) W) a' W)
    (hdone : ∀ (D : Nat) (W : World), w.heap.size ≤ D → I xs W → W.heap[D]? = some (.deferred (some [])) → Q .normal { a with defers := { target := .collected D, args := #[] } :: a.defers } W)
    (hpanic : ∀ (D : Nat) (W : World), w.heap.size ≤ D → Ip W → W.heap[D]? = some (.deferred (some [])) → Q (.panic ch) { a with defers := { target := .collected D, args := #[] } :: a.defers } W) :
    wpAt P fn (Code.rangeFunc g ps assign body) Q a w := by
  refine wpAt_rangeFunc ?_
  obtain ⟨rec1, hrec⟩ : ∃ rec1 : LoopState → Option Code → Loop, rec1 = fun st pe => { state := st, pending := pe, fn, tmps := a.tmps, params := ps, assign, body, defers := w.heap.size } := ⟨_, rfl⟩
  obtain ⟨W1, hW1⟩ : ∃ W1, (w.alloc (.deferred (some []))).alloc (.loop (rec1 .ready none)) = W1 := ⟨_, rfl⟩
  have hL1 : W1.heap[w.heap.size + 1]? = some (.loop (rec1 .ready none)) := by
    rw [← hW1]; have := World.alloc_heap_new (w.alloc (.deferred (some []))) (.loop (rec1 .ready none)); rwa [World.size_alloc] at this
  have hD1 : W1.heap[w.heap.size]? = some (.deferred (some [])) := by
    rw [← hW1]; exact (Below.heap_alloc _ _ _ (by simp)).trans (World.alloc_heap_new w _)
  have hI1 : I [] W1 := by rw [← hW1]; exact hI.alloc _ (hI.alloc _ h0)
  have hb1 : Below w.heap.size w W1 := by
    rw [← hW1]; exact ((Below.refl _ w).alloc (Nat.le_refl _) _).alloc (by simp) _
  have other : ∀ (W : World) (k : Nat), w.heap.size ≤ k → ∀ v, (W.setCell ⟨Ba, 0, none⟩ v).heap[k]? = W.heap[k]? := fun W k hk v => Below.heap_setCell _ _ _ _ (by simp; omega)
  have hKb : ∀ (W : World) (o' : Obj), KeepsB K W (W.putObj (w.heap.size + 1) o') := fun W o' k hk => World.putObj_heap_other (by have := hK k hk; omega)
  refine ⟨w.heap.size + 1, [{ target := .collected w.heap.size, args := #[] }], W1, { target := .fn (.func gf) lb, args := #[.func (.yield (w.heap.size + 1)) #[] #[]] }, W1, gf,
    #[.func (.yield (w.heap.size + 1)) #[] #[]] ++ lb, W1, ?_, ?_, ?_, ?_⟩
  · rw [← hW1, hrec]; exact run_enterLoop_outer _ _ _ _ _
  · simp only [resolve, hg]
    simp [go_sem]
  · simp [invoke, go_sem, eg]
  refine callsIn_wide.1 ((hseq (w.heap.size + 1)
    (fun pre W => I pre W ∧ W.heap[w.heap.size + 1]? = some (.loop (rec1 .ready none)) ∧ W.heap[w.heap.size]? = some (.deferred (some [])))
    (fun W => Ip W ∧ W.heap[w.heap.size]? = some (.deferred (some [])))
    W1 hb1 (fun s W v hs => ⟨hI.setCell v hs.1, (other W _ (by omega) v).trans hs.2.1, (other W _ (Nat.le_refl _) v).trans hs.2.2⟩) ?_ ⟨hI1, hL1, hD1⟩).mono ?_)
  · rintro pre x W ⟨hi, hl, hk⟩ hx
    have hy := run_yield (P := P) (args := encs x) hl (by rw [hrec]; exact hps x)
    rw [hrec] at hy
    refine ⟨fn, _, assign, body, hy, roundIn_of_wpInP trivial hfunc (hassign _ pre x W _ hi hx ?_)⟩
    clear hy
    intro a' Wa hkf hkk hia hax
    have hl' := hkf.same _ _ (by omega) hl rfl
    have hk' := hkf.same _ _ (Nat.le_refl _) hk rfl
    have hlt : w.heap.size + 1 < Wa.heap.size := (Array.getElem?_eq_some_iff.1 hl').1
    refine ⟨_, run_beginRound hl' (by rw [hrec]), ?_⟩
    obtain ⟨Wb, hWb⟩ : ∃ Wb, Wa.putObj (w.heap.size + 1) (.loop { rec1 .ready none with state := .busy }) = Wb := ⟨_, rfl⟩
    rw [hWb]
    have hlb : Wb.heap[w.heap.size + 1]? = some (.loop { rec1 .ready none with state := .busy }) := by rw [← hWb]; exact World.putObj_heap_same hlt
    have hkb : Wb.heap[w.heap.size]? = some (.deferred (some [])) := by rw [← hWb]; exact (World.putObj_heap_other (by omega)).trans hk'
    have hib : I pre Wb := by rw [← hWb]; exact hI.putObj _ hia (by omega) hl' rfl
    have haxb : Ax x a' Wb := by rw [← hWb]; exact (hAx x a').putObj (s := ()) _ hax (by omega) hl' rfl
    have hkkb : KeepsB K W Wb := by rw [← hWb]; exact hkk.trans (hKb _ _)
    refine wpIn_mono (hbody _ pre x a' Wb hib haxb hx) ?_
    rintro e a3 W3 hp
    cases e with
    | normal =>
      obtain ⟨hk3, hkk3, hi3⟩ := hp
      have hl3 := hk3.same _ _ (by omega) hlb rfl
      have hd3 := hk3.same _ _ (Nat.le_refl _) hkb rfl
      have hr := run_endRound (P := P) none hl3
      rw [hrec] at hr
      refine ⟨_, _, hr, .inl ⟨rfl, ⟨hI.putObj _ hi3 (by omega) hl3 rfl, ?_, (World.putObj_heap_other (by omega)).trans hd3⟩, (hkkb.trans hkk3).trans (hKb _ _)⟩⟩
      rw [World.putObj_heap_same (Array.getElem?_eq_some_iff.1 hl3).1, hrec]
      rfl
    | panic c =>
      obtain ⟨hd, rfl, hk3, hip⟩ := hp
      exact ⟨hd, .inr ⟨rfl, hip, hk3.same _ _ (Nat.le_refl _) hkb rfl⟩⟩
    | ret => exact hp.elim
    | exit id => exact hp.elim
    | goto t => exact hp.elim
    | outgrown => exact hp.elim
  · rintro e W2 (⟨⟨v, rfl⟩, hi, hl, hk⟩ | ⟨rfl, hip, hk⟩)
    · have hr := run_endLoop (P := P) hl (by rw [hrec]; simp)
      have hpe : (rec1 .ready none).pending = none := by rw [hrec]
      rw [hpe] at hr
      exact ⟨_, hr, hdone _ _ (Nat.le_refl _) (hI.putObj _ hi (by omega) hl rfl) ((World.putObj_heap_other (by omega)).trans hk)⟩
    · exact hpanic _ _ (Nat.le_refl _) hip hk
end Go.Proofs.YtdpgebifeaakjaaDoor

/- The walk of read. -/
namespace Go.Proofs.YtdpgebifeaakjaaDoor
set_option linter.unusedSimpArgs false
set_option linter.unusedVariables false
open Go.RowKit
attribute [local go_sem] Oper.semAt_some

theorem wpIn_region_keptK {l n : Nat} {P : Program} {ops : Array Oper} {Q : Exit → Act → World → Prop} {S : World → Prop} {id : Nat} {a : Act} {w : World} (k : Nat) (hm : P.follows .mixedOrders = true) (hd : ops.all noDefer = true) (hl : ¬ LetsOut Q) (hS : S w.drew)
    (h : S w.drew → wpAnyK P .any ops Q S k ops.size (Array.replicate ops.size false) a w.drew) : (Code.region id ops true).wpIn (Fence.wide.inRound l) n P Q a w := by
  refine wpIn_region_draw fun t => ?_
  refine wpOpsIn_of_wp hl (fun i o ho c => noDefer_spec (Array.all_eq_true_iff_forall_mem.1 hd o (Array.mem_of_getElem? ho)) c) _ _ _ ?_
  simp only [Region.schedule, hm, Bool.true_or, if_true]
  exact wpAny_sound ops.size t _ a _ (wpAny_of_K _ _ _ _ (h hS))
/-- The digests read so in every world that has the same blocks below β. -/
structure DigsB (β : Nat) (W : World) (v : Value) (k : Nat) (T : Nat → Nat → BitVec 8) : Prop where
  all : ∀ W', Below β W W' → Digs W' v k T
theorem DigsB.now {β : Nat} {W : World} {v : Value} {k : Nat} {T : Nat → Nat → BitVec 8} (h : DigsB β W v k T) : Digs W v k T := h.all W (Below.refl _ _)
theorem DigsB.trans {β : Nat} {W W' : World} {v : Value} {k : Nat} {T : Nat → Nat → BitVec 8} (h : DigsB β W v k T) (hb : Below β W W') : DigsB β W' v k T := ⟨fun X hX => h.all X (hb.trans hX)⟩
theorem DigsB.of {W : World} {v : Value} {k : Nat} {T : Nat → Nat → BitVec 8} (h : Digs W v k T) : DigsB W.heap.size W v k T := ⟨fun X hX => h.below hX⟩
theorem DigsB.congr {β : Nat} {W : World} {v : Value} {k : Nat} {T U : Nat → Nat → BitVec 8} (h : DigsB β W v k T) (e : T = U) : DigsB β W v k U := e ▸ h
theorem DigsB.tail {β : Nat} {W : World} {g o c k : Nat} {T : Nat → Nat → BitVec 8} (h : DigsB β W (.slice (some ⟨g, o, none⟩) (k + 1) c) (k + 1) T) : DigsB β W (.slice (tailP c g o) k (c - 1)) k fun j => T (j + 1) := ⟨fun X hX => digs_tailP (h.all X hX)⟩
/-- A forest. -/
structure Forest (β b : Nat) (W : World) (p : Option Addr) (L c : Nat) (D : Nat → Nat → BitVec 8) (kb kt : Nat) (xs : List Value) (T : Nat → Nat → BitVec 8) (bp : Option Addr) (bn bc : Nat) (tp : Option Addr) (tn tc : Nat) : Prop where
  blk : Blk W b #[.slice p L c, .slice bp bn bc, .slice tp tn tc] 142
  r33 : W.ownsRow β 106 2 (.slice bp bn bc) kb xs
  r80 : W.ownsRow β 23 16 (.slice tp tn tc) kt (digCells T kt)
  digs : DigsB β W (.slice p L c) L D
/-- Between two rounds. -/
structure RdI (w : World) (β b L kb kt : Nat) (D : Nat → Nat → BitVec 8) (xs : List Value) (T : Nat → Nat → BitVec 8) (pre : List (Nat × Nat)) (W : World) : Prop where
  le : pre.length ≤ L
  below : Below β w W
  h33 : Heads 106 (kb * 2) w W
  h80 : Heads 23 (kt * 16) w W
  keep : ∀ (g : Nat) (C : Array Value) (t : TypeId), Blk w g C t → t ≠ 106 → t ≠ 23 → g ≠ b → W.heap[g]? = w.heap[g]?
  own : Blk W w.heap.size #[.pointer (some ⟨b, 0, none⟩)] 138
  ca : ∃ x, Boxed W (w.heap.size + 1) 3 x
  cb : ∃ x, Boxed W (w.heap.size + 1 + 1) 3 x
  rest : ∃ p c bp bn bc tp tn tc, Forest β b W p (L - pre.length) c (fun j => D (pre.length + j)) (kb + pre.length) (kt + pre.length) (xs ++ cellsOf pre) (joinT kt T D) bp bn bc tp tn tc
theorem Forest.grown {β b : Nat} {W W' : World} {p : Option Addr} {L c : Nat} {D : Nat → Nat → BitVec 8} {kb kt : Nat} {xs : List Value} {T : Nat → Nat → BitVec 8} {bp : Option Addr} {bn bc : Nat} {tp : Option Addr} {tn tc : Nat} (h : Forest β b W p L c D kb kt xs T bp bn bc tp tn tc) {row : Option Nat} (hg : W.grownBy W' row) (hb : Below β W W')
    (hr : ∀ (g : Nat) (C : Array Value) (t : TypeId), Blk W g C t → t ≠ 3 → some g ≠ row) : Forest β b W' p L c D kb kt xs T bp bn bc tp tn tc := by
  have keep : ∀ {base e size k : Nat} {v : Value} {ys : List Value}, W.ownsRow base e size v k ys → e ≠ 3 → W'.ownsRow base e size v k ys := by
    intro base e size k v ys ho he
    refine ho.kept hg ?_
    obtain ⟨_, ⟨rfl, _⟩ | ⟨g, cap, cur, rfl, _, hh, _⟩⟩ := ho
    · exact .inl rfl
    · exact .inr (hr g cur e hh he)
  exact ⟨grown_ne hg h.blk (hr _ _ _ h.blk (by decide)), keep h.r33 (by decide), keep h.r80 (by decide), h.digs.trans hb⟩
theorem rdI_grown {w W W' : World} {β b L kb kt : Nat} {D : Nat → Nat → BitVec 8} {xs : List Value} {T : Nat → Nat → BitVec 8} {pre : List (Nat × Nat)} (h : RdI w β b L kb kt D xs T pre W) {row : Option Nat} (hg : W.grownBy W' row) (hβ : β ≤ w.heap.size) (hrow : ∀ r, row = some r → β ≤ r)
    (hr : ∀ (g : Nat) (C : Array Value) (t : TypeId), Blk W g C t → t ≠ 3 → some g ≠ row) (hrw : ∀ (g : Nat) (C : Array Value) (t : TypeId), Blk W g C t → g < w.heap.size → some g ≠ row) (hca : ∃ x, Boxed W' (w.heap.size + 1) 3 x) (hcb : ∃ x, Boxed W' (w.heap.size + 1 + 1) 3 x) : RdI w β b L kb kt D xs T pre W' := by
  have hb : Below β W W' := (Below.refl _ _).grown hg (Nat.le_trans hβ h.below.size) hrow
  obtain ⟨p, c, bp, bn, bc, tp, tn, tc, hf⟩ := h.rest
  have hkeep : ∀ (g : Nat) (C : Array Value) (t : TypeId), Blk w g C t → t ≠ 106 → t ≠ 23 → g ≠ b → W'.heap[g]? = w.heap[g]? := fun g C t hk h1 h2 h3 => by
    have e := h.keep g C t hk h1 h2 h3
    have hW : Blk W g C t := e.trans hk
    exact (hg.block g hW.lt (hrw g C t hW hk.lt)).trans e
  exact ⟨h.le, h.below.trans hb, h.h33.of_same fun g C hl hk => hg.block g hk.lt (hr _ _ _ hk (by decide)), h.h80.of_same fun g C hl hk => hg.block g hk.lt (hr _ _ _ hk (by decide)), fun g C t hk h1 h2 h3 => hkeep g C t hk h1 h2 h3, grown_ne hg h.own (hr _ _ _ h.own (by decide)), hca, hcb, p, c, bp, bn, bc, tp, tn, tc, hf.grown hg hb hr⟩
theorem rdI_own {w : World} {β b L kb kt : Nat} {D : Nat → Nat → BitVec 8} {xs : List Value} {T : Nat → Nat → BitVec 8} (hβ : β ≤ w.heap.size) (B : Nat) (hB : w.heap.size ≤ B) : OwnC B (w.heap.size + 1) (RdI w β b L kb kt D xs T) := by
  refine ⟨fun s W W' row hs hg hr => ?_, fun s W v hs => ?_⟩
  · have hne : ∀ (g : Nat) (C : Array Value) (t : TypeId), Blk W g C t → some g ≠ row := fun g C t hk e => by
      obtain ⟨_, o, ho, hc⟩ := hr _ e.symm
      rw [show W.heap[g]? = _ from hk] at ho
      cases ho
      cases hc
    obtain ⟨x, hx⟩ := hs.ca
    obtain ⟨y, hy⟩ := hs.cb
    exact rdI_grown hs hg hβ (fun r e => by have := (hr r e).1; omega) (fun g C t hk _ => hne g C t hk) (fun g C t hk _ => hne g C t hk) ⟨x, grown_ne hg hx (hne _ _ _ hx)⟩ ⟨y, grown_ne hg hy (hne _ _ _ hy)⟩
  · obtain ⟨x, hx⟩ := hs.ca
    obtain ⟨y, hy⟩ := hs.cb
    have hg := grownBy_setCell W ⟨w.heap.size + 1, 0, none⟩ v
    refine rdI_grown hs hg hβ (fun r e => by cases e; show β ≤ w.heap.size + 1; omega) (fun g C t hk ht e => ?_) (fun g C t hk hl e => ?_) ⟨v, hx.set v⟩ ⟨y, grown_ne hg hy (by simp)⟩
    · injection e with e
      subst e
      exact ht (hk.ty hx)
    · injection e with e
      subst e
      exact absurd hl (by simp)
theorem read_end {w W X1 X2 : World} {β b L kb kt k g o lc B0 : Nat} {D : Nat → Nat → BitVec 8} {xs : List Value} {T : Nat → Nat → BitVec 8} {pre : List (Nat × Nat)} {x : Nat × Nat} {bp tp vb1 vt1 : Option Addr} {bn bc tn tc vb2 vb3 vt2 vt3 : Nat}
    (hx0 : b < w.heap.size ∧ β ≤ b ∧ 3 < β) (hI : RdI w β b L kb kt D xs T pre W) (hf : Forest β b W (some ⟨g, o, none⟩) (k + 1) lc (fun j => D (pre.length + j)) (kb + pre.length) (kt + pre.length) (xs ++ cellsOf pre) (joinT kt T D) bp bn bc tp tn tc)
    (hk : L - pre.length = k + 1) (hm : Mods b W.drew X1) (kb1 : Blk X1 b #[.slice (tailP lc g o) k (lc - 1), .slice bp bn bc, .slice tp tn tc] 142)
    (pt : Put β b (kb + pre.length) (kt + pre.length) X1 X2) (kb2 : Blk X2 b #[.slice (tailP lc g o) k (lc - 1), .slice vb1 vb2 vb3, .slice vt1 vt2 vt3] 142)
    (q1 : X2.ownsRow β 106 2 (.slice vb1 vb2 vb3) (kb + pre.length + 1) (xs ++ cellsOf pre ++ [.int .i64 (x.1 : Int), .int .i64 (x.2 : Int)]))
    (q2 : X2.ownsRow β 23 16 (.slice vt1 vt2 vt3) (kt + pre.length + 1) (digCells (snocT (kt + pre.length) (joinT kt T D) (D pre.length)) (kt + pre.length + 1))) :
    KeepsFrom B0 W X2 ∧ KeepsB (fun k => k = w.heap.size + 1 ∨ k = w.heap.size + 1 + 1 ∨ k = 3) W X2 ∧ RdI w β b L kb kt D xs T (pre ++ [x]) X2 := by
  obtain ⟨hbw, hβ, h3⟩ := hx0
  have hm' : Mods b W X1 := ⟨hm.os, hm.tape, hm.output, hm.size, hm.block⟩
  have hWX : Below β W X1 := hm'.below hβ (Nat.le_trans (by omega) hI.below.size)
  have move : ∀ (q : Nat) (C : Array Value) (t : TypeId), Blk W q C t → t ≠ 106 → t ≠ 23 → q ≠ b → X2.heap[q]? = W.heap[q]? := fun q C t hq h1 h2 h3 => by
    have hq1 := hq.mods hm' h3
    exact (pt.blk q C t hq1 h1 h2 h3).trans (hm'.block q hq.lt h3)
  obtain ⟨y, hy⟩ := hI.ca
  obtain ⟨z, hz⟩ := hI.cb
  have ey := move _ _ _ hy (by decide) (by decide) (by omega)
  have ez := move _ _ _ hz (by decide) (by decide) (by omega)
  have eo := move _ _ _ hI.own (by decide) (by decide) (by omega)
  refine ⟨⟨Nat.le_trans hm'.size pt.below.size, fun q o _ hq ho => ?_⟩, ?_, ?_⟩
  · refine pt.others.same q o ?_ ho
    rw [hm'.block q (Array.getElem?_eq_some_iff.1 hq).1 ?_]
    · exact hq
    · rintro rfl
      have e := hq.symm.trans hf.blk
      injection e with e
      rw [e] at ho
      cases ho
  · rintro q (rfl | rfl | rfl)
    · exact ey
    · exact ez
    · exact (pt.below.block 3 h3).trans (hWX.block 3 h3)
  · have hlen : (pre ++ [x]).length = pre.length + 1 := by simp
    have hle := hI.le
    refine ⟨by rw [hlen]; omega, (hI.below.trans hWX).trans pt.below, (hI.h33.mods hm' hf.blk (by decide)).trans pt.head33 (Nat.mul_le_mul_right _ (Nat.le_add_right _ _)), (hI.h80.mods hm' hf.blk (by decide)).trans pt.head80 (Nat.mul_le_mul_right _ (Nat.le_add_right _ _)), fun q C t hq h1 h2 h3 => (move q C t ((hI.keep q C t hq h1 h2 h3).trans hq) h1 h2 h3).trans (hI.keep q C t hq h1 h2 h3), eo.trans hI.own, ⟨y, ey.trans hy⟩, ⟨z, ez.trans hz⟩, tailP lc g o, lc - 1, vb1, vb2, vb3, vt1, vt2, vt3, ?_⟩
    have e1 : L - (pre ++ [x]).length = k := by rw [hlen]; omega
    rw [e1, hlen]
    refine ⟨kb2, ?_, ?_, ?_⟩
    · have e2 : cellsOf (pre ++ [x]) = cellsOf pre ++ [.int .i64 (x.1 : Int), .int .i64 (x.2 : Int)] := cellsOf_snoc _ _
      rw [e2, ← List.append_assoc]
      exact q1
    · have e3 : digCells (snocT (kt + pre.length) (joinT kt T D) (D pre.length)) (kt + pre.length + 1) = digCells (joinT kt T D) (kt + (pre.length + 1)) := by
        rw [← Nat.add_assoc]
        refine digCells_congr _ fun i hi => ?_
        rw [snocT]
        split
        · rfl
        · rw [joinT, if_neg (by omega), show i - kt = pre.length by omega]
      rw [← e3]
      exact q2
    · refine ((hf.digs.tail.trans hWX).trans pt.below).congr ?_
      funext j
      rw [show pre.length + 1 + j = pre.length + (j + 1) by omega]
/-- The loop's own variable: a cell of two, new in each round. -/
def RdA (w : World) (b : Nat) (f : Value) (a c : Nat) (x : Nat × Nat) (a' : Act) (W : World) : Prop :=
  ∃ B, w.heap.size + 2 < B ∧ Blk W B #[.int .i64 x.1, .int .i64 x.2] 106 ∧
    a' = { tmps := #[.pointer (some ⟨b, 0, none⟩), .int .i64 (a : Int), .int .i64 (c : Int), .pointer (some ⟨w.heap.size, 0, none⟩), undef, undef, .pointer (some ⟨B, 0, none⟩), .int .i64 (a : Int), .int .i64 (c : Int), f, .agg #[.int .i64 x.1, .int .i64 x.2], undef, undef, undef, undef, undef, undef, undef], defers := [] }
theorem rdA_own (w : World) (b : Nat) (f : Value) (B0 : Nat) (a c : Nat) (x : Nat × Nat) (a' : Act) : OwnC B0 (w.heap.size + 1) (fun (_ : Unit) W => RdA w b f a c x a' W) := by
  refine ⟨fun s W W' row hs hg hr => ?_, fun s W v hs => ?_⟩
  · obtain ⟨B, h1, h2, h3⟩ := hs
    refine ⟨B, h1, (hg.block B (Array.getElem?_eq_some_iff.1 h2).1 fun e => ?_).trans h2, h3⟩
    obtain ⟨_, o, ho, hc⟩ := hr _ e.symm
    rw [show W.heap[B]? = _ from h2] at ho
    cases ho
    cases hc
  · obtain ⟨B, h1, h2, h3⟩ := hs
    exact ⟨B, h1, h2.other (by simp; omega) _, h3⟩
set_option maxRecDepth 100000 in
set_option maxHeartbeats 1000000 in
theorem read_any (β b a c L kb0 kt0 lc0 : Nat) (lp0 : Option Addr) (D : Nat → Nat → BitVec 8) (xs : List Value) (T : Nat → Nat → BitVec 8) (bp tp : Option Addr) (bn bc tn tc : Nat) (w : World) (hac : a ≤ c) (hc : c ≤ 1099511627776) (hL : L ≤ 1000) (hkb : kb0 ≤ 1000) (hkt : kt0 ≤ 1000) (hβ : β ≤ b) (h3β : 3 < β) (hT : TabAt 3 Lib.deBruijn64tab w)
    (hf : Forest β b w lp0 L lc0 D kb0 kt0 xs T bp bn bc tp tn tc) :
    Calls Tryd.prog 86 #[.pointer (some ⟨b, 0, none⟩), .int .i64 (a : Int), .int .i64 (c : Int)] w fun e w' => (L < (coverL a c).length ∧ e = .panicked refusedP ∧ Below β w w') ∨
      ((coverL a c).length ≤ L ∧ (∃ v, e = .returned v) ∧ Below β w w' ∧ Heads 106 (kb0 * 2) w w' ∧ Heads 23 (kt0 * 16) w w' ∧ (∀ (g : Nat) (C : Array Value) (t : TypeId), Blk w g C t → t ≠ 106 → t ≠ 23 → g ≠ b → w'.heap[g]? = w.heap[g]?) ∧ ∃ p q bp bn bc tp tn tc, Forest β b w' p (L - (coverL a c).length) q (fun j => D ((coverL a c).length + j)) (kb0 + (coverL a c).length) (kt0 + (coverL a c).length) (xs ++ cellsOf (coverL a c)) (joinT kt0 T D) bp bn bc tp tn tc) := by
  have hbw := hf.blk.lt
  refine calls_of_wpAt (n := 3) Tryd.func86 rfl ?_
  simp only [Tryd.ntmps86, List.size_toArray, List.length_cons, List.length_nil, Nat.reduceAdd, Nat.reduceSub, Array.replicate_succ, Array.replicate_zero, List.push_toArray, List.append_toArray, List.nil_append, List.cons_append]
  refine wpAt_seq (n := 3) ?_
  gi_wp2
  refine wpAt_seq (n := 3) ?_
  gi_wp2
  refine ⟨trivial, callsIn_wide.2 ((cover_fn _ _ _).mono ?_)⟩
  rintro e w' ⟨rfl, rfl⟩
  rw [World.size_alloc]
  gi_wp2
  refine wpAt_block ?_
  obtain ⟨W0, hW0⟩ : ∃ W0, ((w.alloc (.cells #[.pointer (some ⟨b, 0, none⟩)] 138)).alloc (.cells #[.int .i64 (a : Int)] 3)).alloc (.cells #[.int .i64 (c : Int)] 3) = W0 := ⟨_, rfl⟩
  have hs0 : W0.heap.size = w.heap.size + 3 := by rw [← hW0]; simp
  have hB0 : Below w.heap.size w W0 := by rw [← hW0]; exact (((Below.refl _ w).alloc (Nat.le_refl _) _).alloc (by simp) _).alloc (by simp; omega) _
  have hO0 : Blk W0 w.heap.size #[.pointer (some ⟨b, 0, none⟩)] 138 := by rw [← hW0]; exact ((Blk.new w _ 138).alloc _).alloc _
  have hA0 : Blk W0 (w.heap.size + 1) #[.int .i64 (a : Int)] 3 := by
    rw [← hW0]
    have := Blk.new (w.alloc (.cells #[.pointer (some ⟨b, 0, none⟩)] 138)) #[.int .i64 (a : Int)] 3
    rw [World.size_alloc] at this
    exact this.alloc _
  have hb0 : Blk W0 (w.heap.size + 1 + 1) #[.int .i64 (c : Int)] 3 := by
    rw [← hW0]
    have := Blk.new ((w.alloc (.cells #[.pointer (some ⟨b, 0, none⟩)] 138)).alloc (.cells #[.int .i64 (a : Int)] 3)) #[.int .i64 (c : Int)] 3
    rw [World.size_alloc, World.size_alloc] at this
    exact this
  have hT0 : TabAt 3 Lib.deBruijn64tab W0 := fun j hj => (hB0.cell (p := ⟨3, j, none⟩) (by simp; omega)).trans (hT j hj)
  have hf0 : Forest β b W0 lp0 L lc0 D kb0 kt0 xs T bp bn bc tp tn tc := ⟨hf.blk.below hB0 hbw, ownsRow_below hf.r33 hB0, ownsRow_below hf.r80 hB0, hf.digs.trans (hB0.mono (by omega))⟩
  have hI0 : RdI w β b L kb0 kt0 D xs T [] W0 := ⟨Nat.zero_le _, hB0.mono (by omega), (Heads.refl _ _ _).below hB0, (Heads.refl _ _ _).below hB0, fun g C t hk _ _ _ => hB0.block g hk.lt, hO0, ⟨_, hA0⟩, ⟨_, hb0⟩, lp0, lc0, bp, bn, bc, tp, tn, tc, by
    have hj : digCells (joinT kt0 T D) kt0 = digCells T kt0 := digCells_congr _ fun i hi => by rw [joinT, if_pos hi]
    refine ⟨hf0.blk, ?_, ?_, hf0.digs.congr ?_⟩
    · simpa [cellsOf] using hf0.r33
    · rw [List.length_nil, Nat.add_zero, hj]; exact hf0.r80
    · funext j; rw [List.length_nil, Nat.zero_add]⟩
  rw [hW0]
  clear hW0
  have hseq := cover_stopsP (3 - 1) (by decide) (w.heap.size + 1) (w.heap.size + 1 + 1) a c hac hc W0 (by omega) hA0 hb0 hT0 (by omega) (by omega) refusedP
  refine wpAt_rangeCP (n := 3) (gf := 97) (lb := #[.pointer (some ⟨w.heap.size + 1, 0, none⟩), .pointer (some ⟨w.heap.size + 1 + 1, 0, none⟩)]) (by decide) rfl (enters_of Tryd.func97 (by kernel_rfl) rfl)
    hseq (by omega) (by rintro k (rfl | rfl | rfl) <;> omega) (fun _ => rfl) ⟨_, Tryd.func86⟩
    (RdI w β b L kb0 kt0 D xs T) (rdI_own (by omega) _ (by omega)) hI0 (fun W => L < (coverL a c).length ∧ Below β w W)
    (RdA w b (.func (.func 97) #[] #[.pointer (some ⟨w.heap.size + 1, 0, none⟩), .pointer (some ⟨w.heap.size + 1 + 1, 0, none⟩)]) a c) (fun _ _ => rdA_own _ _ _ _ _ _ _ _) ?assign ?body ?done ?panic
  case assign =>
    rintro l pre x W C hI hx hC
    have hN := Blk.new W #[.int .i64 0, .int .i64 0] 106
    have hn0 := hN.cell 0
    have hn1 := hN.cell 1
    have hnf0 := hN.free 0
    have hnf1 := hN.free 1
    simp at hn0 hn1
    dsimp only [blockV]
    gi_wp2
    obtain ⟨y2, hy2⟩ := hI.cb
    exact hC _ _ ((KeepsOthers.alloc _ _).from _) (fun k hk => Below.heap_alloc _ _ _ (by rcases hk with rfl | rfl | rfl <;> have := hy2.lt <;> omega)) ((rdI_own (by omega) W0.heap.size (by omega)).alloc _ hI) ⟨W.heap.size, by have := hy2.lt; omega, Blk.new _ _ _, rfl⟩
  case body =>
    rintro l pre ⟨x, m⟩ a' W hI ⟨B, hBl, kX, rfl⟩ ⟨post, hx⟩
    dsimp only at kX
    have hlen : pre.length < (coverL a c).length := by rw [hx]; simp
    clear hx hseq hT0 hT hA0 hb0 hO0 hB0 hI0 hf0 hf
    obtain ⟨lp, lc, vp, vn, vc, tp, tn, tc, hff⟩ := hI.rest
    have hx0 : b < w.heap.size ∧ β ≤ b ∧ 3 < β := ⟨hbw, hβ, h3β⟩
    have kp := hI.own
    have hle := hI.le
    have hB := hI.below
    have hβW : β ≤ W.heap.size := Nat.le_trans (by omega) hB.size
    have hBne : B ≠ b := by omega
    by_cases hp : pre.length < L
    · obtain ⟨k, hk⟩ : ∃ k, L - pre.length = k + 1 := ⟨L - pre.length - 1, by omega⟩
      rw [hk] at hff
      have kb := hff.blk
      have r33 := hff.r33
      have r80 := hff.r80
      have dd := hff.digs
      obtain ⟨_, _, e0, _, hd0⟩ := dd.now
      obtain ⟨g, o, e1, _⟩ := hd0 0 (by omega)
      injection e0 with e2
      subst e2
      subst e1
      clear hd0
      gi_wp2_with fail
      refine wpIn_region_keptK (S := fun w' => Blk w' w.heap.size #[.pointer (some ⟨b, 0, none⟩)] 138 ∧ Blk w' B #[.int .i64 (x : Int), .int .i64 (m : Int)] 106) 6 (by kernel_rfl) (by kernel_rfl) ?hl (⟨kp.drew, kX.drew⟩) (fun hS => ?_)
      case hl => rintro ⟨_, _, h⟩; exact h
      simp only [List.size_toArray, List.length_cons, List.length_nil, Nat.reduceAdd, Array.replicate_succ, Array.replicate_zero, List.push_toArray, List.nil_append, List.cons_append]
      refine take_atK (i := 0) 11 (.pointer (some ⟨b, 0, none⟩)) [6] rfl rfl (by kernel_rfl) (by decide) (by decide) (by kernel_rfl) (by kernel_rfl) (by kernel_rfl) (by kernel_rfl) (fun _ _ _ h => h) (Or.inl ⟨by rfl, fun W hW => by have hc := hW.1.cell 0; go_simp⟩) hS ?_
      try simp only [List.setIfInBounds_toArray, List.set_cons_zero, List.set_cons_succ]
      refine take_atK (i := 1) 12 (.agg #[.int .i64 (x : Int), .int .i64 (m : Int)]) [6] rfl rfl (by kernel_rfl) (by decide) (by decide) (by kernel_rfl) (by kernel_rfl) (by kernel_rfl) (by kernel_rfl) (fun _ _ _ h => h) (Or.inl ⟨by rfl, fun W hW => by have hc := hW.2.cell 0; have hc2 := hW.2.cell 1; go_simp⟩) hS ?_
      try simp only [List.setIfInBounds_toArray, List.set_cons_zero, List.set_cons_succ]
      refine take_atK (i := 2) 13 (.pointer (some ⟨b, 0, none⟩)) [3, 4, 5, 6] rfl rfl (by kernel_rfl) (by decide) (by decide) (by kernel_rfl) (by kernel_rfl) (by kernel_rfl) (by kernel_rfl) (fun _ _ _ h => h) (Or.inl ⟨by rfl, fun W hW => by have hc := hW.1.cell 0; go_simp⟩) hS ?_
      try simp only [List.setIfInBounds_toArray, List.set_cons_zero, List.set_cons_succ]
      refine take_atK (i := 3) 14 (.pointer (some ⟨b, 0, none⟩)) [4, 5, 6] rfl rfl (by kernel_rfl) (by decide) (by decide) (by kernel_rfl) (by kernel_rfl) (by kernel_rfl) (by kernel_rfl) (fun _ _ _ h => h) (Or.inl ⟨by rfl, fun W hW => by go_simp⟩) hS ?_
      try simp only [List.setIfInBounds_toArray, List.set_cons_zero, List.set_cons_succ]
      refine take_atK (i := 4) 15 (.pointer (some ⟨b, 0, none⟩)) [5, 6] rfl rfl (by kernel_rfl) (by decide) (by decide) (by kernel_rfl) (by kernel_rfl) (by kernel_rfl) (by kernel_rfl) (fun _ _ _ h => h) (Or.inl ⟨by rfl, fun W hW => by go_simp⟩) hS ?_
      try simp only [List.setIfInBounds_toArray, List.set_cons_zero, List.set_cons_succ]
      refine wpAnyK_ready (rs := [5]) (by kernel_rfl) (by simp) ?_
      refine AllReadyK.cons rfl (fun K hK => ?_) AllReadyK.nil
      go_simp
      refine (take_some b g o k lc (fun j => D (pre.length + j)) vp tp vn vc tn tc _ kb.drew (dd.all _ (Below.refl _ _).drew)).mono ?_
      rintro e X1 ⟨rfl, kb1, hm1⟩
      refine hK.out _ _ (⟨hS.1.mods hm1 (by omega), hS.2.mods hm1 (by omega)⟩) (fun hS => ?_)
      clear hK K
      have r1 := ownsRow_mods r33.drew hm1 kb.drew (by decide)
      have r2 := ownsRow_mods r80.drew hm1 kb.drew (by decide)
      try simp only [Act.put, List.getElem_toArray, List.getElem_cons_succ, List.getElem_cons_zero, List.setIfInBounds_toArray, List.set_cons_zero, List.set_cons_succ]
      refine storeK (by kernel_rfl) (by decide) rfl rfl (fun K hK => ?_)
      go_simp
      refine (put_any β b (kb0 + pre.length) (kt0 + pre.length) _ vp tp vn vc tn tc _ _ _ _ _ X1 hβ (by omega) (by omega) kb1 r1 r2).mono ?_
      rintro e X2 ⟨⟨v, rfl⟩, vb1, vb2, vb3, vt1, vt2, vt3, kb2, q1, q2, pt⟩
      refine hK.out _ _ ?_
      clear hK K
      have hS : True := trivial
      try simp only [Act.put, List.getElem_toArray, List.getElem_cons_succ, List.getElem_cons_zero, List.setIfInBounds_toArray, List.set_cons_zero, List.set_cons_succ]
      refine wpAnyH_done (by kernel_rfl) ?_ _
      gi_wp2_with fail
      exact read_end hx0 hI hff hk hm1 kb1 pt kb2 q1 q2
    · have hk : L - pre.length = 0 := by omega
      rw [hk] at hff
      have kb := hff.blk
      gi_wp2_with fail
      refine wpIn_region_keptK (S := fun w' => Blk w' w.heap.size #[.pointer (some ⟨b, 0, none⟩)] 138 ∧ Blk w' B #[.int .i64 (x : Int), .int .i64 (m : Int)] 106) 6 (by kernel_rfl) (by kernel_rfl) ?hl (⟨kp.drew, kX.drew⟩) (fun hS => ?_)
      case hl => rintro ⟨_, _, h⟩; exact h
      simp only [List.size_toArray, List.length_cons, List.length_nil, Nat.reduceAdd, Array.replicate_succ, Array.replicate_zero, List.push_toArray, List.nil_append, List.cons_append]
      refine take_atK (i := 0) 11 (.pointer (some ⟨b, 0, none⟩)) [6] rfl rfl (by kernel_rfl) (by decide) (by decide) (by kernel_rfl) (by kernel_rfl) (by kernel_rfl) (by kernel_rfl) (fun _ _ _ h => h) (Or.inl ⟨by rfl, fun W hW => by have hc := hW.1.cell 0; go_simp⟩) hS ?_
      try simp only [List.setIfInBounds_toArray, List.set_cons_zero, List.set_cons_succ]
      refine take_atK (i := 1) 12 (.agg #[.int .i64 (x : Int), .int .i64 (m : Int)]) [6] rfl rfl (by kernel_rfl) (by decide) (by decide) (by kernel_rfl) (by kernel_rfl) (by kernel_rfl) (by kernel_rfl) (fun _ _ _ h => h) (Or.inl ⟨by rfl, fun W hW => by have hc := hW.2.cell 0; have hc2 := hW.2.cell 1; go_simp⟩) hS ?_
      try simp only [List.setIfInBounds_toArray, List.set_cons_zero, List.set_cons_succ]
      refine take_atK (i := 2) 13 (.pointer (some ⟨b, 0, none⟩)) [3, 4, 5, 6] rfl rfl (by kernel_rfl) (by decide) (by decide) (by kernel_rfl) (by kernel_rfl) (by kernel_rfl) (by kernel_rfl) (fun _ _ _ h => h) (Or.inl ⟨by rfl, fun W hW => by have hc := hW.1.cell 0; go_simp⟩) hS ?_
      try simp only [List.setIfInBounds_toArray, List.set_cons_zero, List.set_cons_succ]
      refine take_atK (i := 3) 14 (.pointer (some ⟨b, 0, none⟩)) [4, 5, 6] rfl rfl (by kernel_rfl) (by decide) (by decide) (by kernel_rfl) (by kernel_rfl) (by kernel_rfl) (by kernel_rfl) (fun _ _ _ h => h) (Or.inl ⟨by rfl, fun W hW => by go_simp⟩) hS ?_
      try simp only [List.setIfInBounds_toArray, List.set_cons_zero, List.set_cons_succ]
      refine take_atK (i := 4) 15 (.pointer (some ⟨b, 0, none⟩)) [5, 6] rfl rfl (by kernel_rfl) (by decide) (by decide) (by kernel_rfl) (by kernel_rfl) (by kernel_rfl) (by kernel_rfl) (fun _ _ _ h => h) (Or.inl ⟨by rfl, fun W hW => by go_simp⟩) hS ?_
      try simp only [List.setIfInBounds_toArray, List.set_cons_zero, List.set_cons_succ]
      refine wpAnyK_ready (rs := [5]) (by kernel_rfl) (by simp) ?_
      refine AllReadyK.cons rfl (fun K hK => ?_) AllReadyK.nil
      go_simp
      refine (take_none b lp lc _ (kb.drew.cell 0)).mono ?_
      rintro e X1 ⟨rfl, hb⟩
      exact ⟨rfl, rfl, ⟨hb.size, fun q o _ hq _ => (hb.block q (Array.getElem?_eq_some_iff.1 hq).1).trans hq⟩, by omega, hB.drew.trans (hb.mono hβW)⟩
  case done =>
    rintro Dd W hD hI hK
    gi_wp2
    have hI2 := (rdI_own (by omega) w.heap.size (Nat.le_refl _)).putObj (.deferred none) hI (by omega) hK rfl
    refine ⟨by simp, .inl ⟨_, _, rfl, run_takeDeferred hK, ?_⟩⟩
    exact ⟨_, results_none (fn := Tryd.f86) rfl _ _ _, .inr ⟨hI2.le, ⟨_, rfl⟩, hI2.below, hI2.h33, hI2.h80, hI2.keep, hI2.rest⟩⟩
  case panic =>
    rintro Dd W hD ⟨hI1, hI2⟩ hK
    refine ⟨by simp, .inl ⟨_, _, rfl, run_takeDeferred hK, ?_⟩⟩
    exact .inl ⟨hI1, rfl, hI2.trans ⟨rfl, rfl, rfl, by simp, fun k hk => World.putObj_heap_other (by omega)⟩⟩
end Go.Proofs.YtdpgebifeaakjaaDoor

/- Blocks that tile a range, and the digest that they give. -/
namespace Go.Proofs.YtdpgebifeaakjaaDoor
set_option linter.unusedSimpArgs false
set_option linter.unusedVariables false

/-- The blocks L, whose digests are T from o on, tile the range of m leaves from a on by nodes of its tree, and give it the digest d. -/
inductive Tl (T : Nat → Nat → BitVec 8) : Nat → Nat → Nat → List (Nat × Nat) → (Nat → BitVec 8) → Prop
  | one (o a m : Nat) (h : 0 < m) : Tl T o a m [(a, m)] (T o)
  | two (o a m : Nat) (L1 L2 : List (Nat × Nat)) (d1 d2 : Nat → BitVec 8) (hm : 2 ≤ m) (hb : m ≤ 1099511627776) (h1 : Tl T o a (halfN m) L1 d1) (h2 : Tl T (o + L1.length) (a + halfN m) (m - halfN m) L2 d2) : Tl T o a m (L1 ++ L2) (nodeD d1 d2)
theorem Tl.pos {T : Nat → Nat → BitVec 8} {o a m : Nat} {L : List (Nat × Nat)} {d : Nat → BitVec 8} (h : Tl T o a m L d) : 0 < m := by
  cases h with
  | one _ _ _ h => exact h
  | two _ _ _ _ _ _ _ hm => omega
theorem Tl.head {T : Nat → Nat → BitVec 8} {o a m : Nat} {L : List (Nat × Nat)} {d : Nat → BitVec 8} (h : Tl T o a m L d) : ∃ s R, L = (a, s) :: R ∧ 0 < s ∧ s ≤ m := by
  induction h with
  | one o a m h => exact ⟨m, [], rfl, h, Nat.le_refl _⟩
  | two o a m L1 L2 d1 d2 hm hb h1 h2 ih1 ih2 =>
    obtain ⟨s, R, rfl, h3, h4⟩ := ih1
    have := halfN_facts m hm hb
    exact ⟨s, R ++ L2, rfl, h3, by omega⟩
/-- Blocks one behind the other from a to b, each of the size of a power of two and at a multiple of it. -/
def Al : List (Nat × Nat) → Nat → Nat → Prop
  | [], a, b => a = b
  | x :: R, a, b => x.1 = a ∧ (∃ k, x.2 = 2 ^ k ∧ 2 ^ k ∣ a) ∧ Al R (a + x.2) b
theorem Al.le : ∀ {L : List (Nat × Nat)} {a b : Nat}, Al L a b → a ≤ b
  | [], a, b, h => Nat.le_of_eq h
  | x :: R, a, b, h => by
    have := h.2.2.le
    omega
theorem Al.nil {L : List (Nat × Nat)} {a : Nat} (h : Al L a a) : L = [] := by
  cases L with
  | nil => rfl
  | cons x R =>
    obtain ⟨_, ⟨k, hk, _⟩, h3⟩ := h
    have := h3.le
    have := Nat.two_pow_pos k
    omega
theorem Al.append : ∀ {L M : List (Nat × Nat)} {a b c : Nat}, Al L a b → Al M b c → Al (L ++ M) a c
  | [], M, a, b, c, h, k => by cases h; exact k
  | x :: R, M, a, b, c, h, k => ⟨h.1, h.2.1, h.2.2.append k⟩
/-- Where no block lies over c, they part there. -/
theorem Al.split : ∀ {L : List (Nat × Nat)} {a b c : Nat}, Al L a b → a ≤ c → c ≤ b → (∀ x ∈ L, a ≤ x.1 → x.1 + x.2 ≤ b → (∃ k, x.2 = 2 ^ k ∧ 2 ^ k ∣ x.1) → ¬ (x.1 < c ∧ c < x.1 + x.2)) → ∃ M N, L = M ++ N ∧ Al M a c ∧ Al N c b
  | [], a, b, c, h, h1, h2, _ => by
    have e : a = b := h
    obtain rfl : a = c := by omega
    exact ⟨[], [], rfl, rfl, h⟩
  | x :: R, a, b, c, h, h1, h2, h3 => by
    by_cases hc : a = c
    · subst hc
      exact ⟨[], x :: R, rfl, rfl, h⟩
    · obtain ⟨e, ⟨k, hk, hd⟩, hr⟩ := id h
      have hle := hr.le
      have hn := h3 x (List.mem_cons_self ..) (by omega) (by omega) ⟨k, hk, by rw [e]; exact hd⟩
      obtain ⟨M, N, hL, hM, hN⟩ := hr.split (c := c) (by omega) h2 fun y hy h4 h5 h6 => h3 y (List.mem_cons_of_mem _ hy) (by omega) h5 h6
      exact ⟨x :: M, N, by rw [hL]; rfl, ⟨e, ⟨k, hk, hd⟩, hM⟩, hN⟩
theorem Al.head_of {L : List (Nat × Nat)} {a b : Nat} (h : Al L a b) (hab : a < b) : ∃ s R, L = (a, s) :: R ∧ (∃ k, s = 2 ^ k ∧ 2 ^ k ∣ a) ∧ Al R (a + s) b := by
  cases L with
  | nil => have : a = b := h; omega
  | cons x R =>
    obtain ⟨h1, h2, h3⟩ := h
    obtain ⟨u, v⟩ := x
    dsimp only at h1 h2 h3
    subst h1
    exact ⟨v, R, rfl, h2, h3⟩
/-- Contiguous, aligned blocks tile a node of the tree. -/
theorem tiles (T : Nat → Nat → BitVec 8) : ∀ (m o a : Nat) (L : List (Nat × Nat)), 0 < m → m ≤ 1099511627776 → (∃ j, m ≤ 2 ^ j ∧ 2 ^ j ∣ a) → Al L a (a + m) → ∃ d, Tl T o a m L d := by
  intro m
  induction m using Nat.strongRecOn with
  | ind m ih =>
    intro o a L h0 hb ⟨j, hj1, hj2⟩ hL
    obtain ⟨s, R, rfl, ⟨k, hk, hkd⟩, hR⟩ := hL.head_of (by omega)
    have hle := hR.le
    by_cases hs : s = m
    · subst hs
      rw [hR.nil]
      exact ⟨_, .one o a s h0⟩
    · have hp := Nat.two_pow_pos k
      obtain ⟨f1, f2, f3⟩ := halfN_facts m (by omega) hb
      obtain ⟨q, hq1, hq2⟩ := pow_of (m - 1) (by omega) (by omega)
      have hq : q + 1 ≤ 64 := by
        apply Classical.byContradiction
        intro hn
        have : 2 ^ 41 ≤ 2 ^ q := Nat.pow_le_pow_right (by decide) (by omega)
        omega
      have hh : halfN m = 2 ^ q := halfN_of m q (by omega) (by omega) hq
      have hqa : 2 ^ q ∣ a := by
        refine Nat.dvd_trans (Nat.pow_dvd_pow 2 ?_) hj2
        apply Classical.byContradiction
        intro hn
        have : 2 ^ j ≤ 2 ^ q := Nat.pow_le_pow_right (by decide) (by omega)
        omega
      have hqa2 : 2 ^ q ∣ a + halfN m := by rw [hh]; exact Nat.dvd_add hqa (Nat.dvd_refl _)
      obtain ⟨M, N, hMN, hM, hN⟩ := hL.split (c := a + halfN m) (by omega) (by omega) (by
        rintro x hx h1 h2 ⟨r, hr, hrd⟩ ⟨h3, h4⟩
        by_cases hrq : r ≤ q
        · have d1 : 2 ^ r ∣ a + halfN m := Nat.dvd_trans (Nat.pow_dvd_pow 2 hrq) hqa2
          obtain ⟨u, hu⟩ := d1
          obtain ⟨v, hv⟩ := hrd
          rw [hr] at h4
          rw [hu] at h3 h4
          rw [hv] at h3 h4
          have e1 : v < u := Nat.lt_of_mul_lt_mul_left h3
          have e2 : 2 ^ r * u < 2 ^ r * (v + 1) := by rw [Nat.mul_add, Nat.mul_one]; exact h4
          have e3 : u < v + 1 := Nat.lt_of_mul_lt_mul_left e2
          omega
        · have e1 : 2 ^ (q + 1) ≤ 2 ^ r := Nat.pow_le_pow_right (by decide) (by omega)
          have e2 : m ≤ x.2 := by rw [hr]; omega
          have e3 : x.1 = a := by omega
          have e4 : x.2 = m := by omega
          rcases List.mem_cons.1 hx with rfl | hx
          · exact hs e4
          · have : ∀ {L : List (Nat × Nat)} {a b : Nat}, Al L a b → ∀ x ∈ L, a ≤ x.1 := by
              intro L
              induction L with
              | nil => intro a b _ x hx; cases hx
              | cons y L ih =>
                intro a b h x hx
                rcases List.mem_cons.1 hx with rfl | hx
                · exact Nat.le_of_eq h.1.symm
                · have := ih h.2.2 x hx
                  omega
            have := this hR x hx
            omega)
      rw [hMN]
      obtain ⟨d1, t1⟩ := ih (halfN m) f2 o a M f1 (by omega) ⟨q, by rw [hh]; exact Nat.le_refl _, hqa⟩ hM
      obtain ⟨d2, t2⟩ := ih (m - halfN m) (by omega) (o + M.length) (a + halfN m) N (by omega) (by omega) ⟨q, by omega, hqa2⟩ (by rw [show a + halfN m + (m - halfN m) = a + m by omega]; exact hN)
      exact ⟨_, .two o a m M N d1 d2 (by omega) hb t1 t2⟩
theorem ctz_dvd (c : Nat) (h : 0 < c) (hc : c ≤ 1099511627776) : 2 ^ Lib.ctz 64 c ∣ c := by
  have hx : c < 2 ^ 64 := by have : (2:Nat) ^ 64 = 18446744073709551616 := rfl; omega
  obtain ⟨m, h1, h2⟩ := Lib.ctzFrom_spec 64 c h hx
  rw [Lib.ctz, if_neg (by omega)]
  exact ⟨2 * m + 1, h1⟩
/-- A cover is so. -/
theorem cover_al (b : Nat) (hb : b ≤ 1099511627776) : ∀ (n a : Nat), b - a ≤ n → a ≤ b → Al (coverL a b) a b := by
  intro n
  induction n with
  | zero =>
    intro a h1 h2
    rw [coverL_nil (by omega)]
    show a = b
    omega
  | succ n ih =>
    intro a h1 h2
    by_cases hab : a < b
    · rw [coverL_cons hab]
      have hp := stepN_pos a b
      have hl := stepN_le a b hab hb
      refine ⟨rfl, ?_, ih _ (by omega) (by omega)⟩
      dsimp only
      by_cases h0 : 0 < a
      · have hs : stepN a b = min (2 ^ (Lib.bitLen (b - a) - 1)) (2 ^ Lib.ctz 64 a) := if_pos h0
        have hd := ctz_dvd a h0 (by omega)
        by_cases hle : Lib.bitLen (b - a) - 1 ≤ Lib.ctz 64 a
        · exact ⟨_, by rw [hs]; exact Nat.min_eq_left (Nat.pow_le_pow_right (by decide) hle), Nat.dvd_trans (Nat.pow_dvd_pow 2 hle) hd⟩
        · exact ⟨_, by rw [hs]; exact Nat.min_eq_right (Nat.pow_le_pow_right (by decide) (by omega)), hd⟩
      · obtain rfl : a = 0 := by omega
        exact ⟨_, if_neg h0, Nat.dvd_zero _⟩
    · rw [coverL_nil hab]
      show a = b
      omega
theorem cover_al' {a b : Nat} (h : a ≤ b) (hb : b ≤ 1099511627776) : Al (coverL a b) a b := cover_al b hb _ a (Nat.le_refl _) h
/-- All leaves. -/
theorem tiles_all (T : Nat → Nat → BitVec 8) (n : Nat) (L : List (Nat × Nat)) (h0 : 0 < n) (hn : n ≤ 1099511627776) (h : Al L 0 n) : ∃ d, Tl T 0 0 n L d :=
  tiles T n 0 0 L h0 hn ⟨64, Nat.le_trans hn (by decide), Nat.dvd_zero _⟩ (by rw [Nat.zero_add]; exact h)
end Go.Proofs.YtdpgebifeaakjaaDoor


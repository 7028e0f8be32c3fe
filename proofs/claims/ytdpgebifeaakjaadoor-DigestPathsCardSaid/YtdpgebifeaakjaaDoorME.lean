/- Bits; the iterator cover; regions in a round; counting ones. -/
import Derived.Test.YtdpgebifeaakjaaDoorMA
import Derived.Shelf.Strconv.Itoa0
import Derived.Shelf.Spec.TrailingZeros
import Derived.RangeFuncNested
import Derived.RangeFuncBound
import Derived.RangeFuncCalls
import Derived.RangeFuncLeaves
import Derived.Shelf.Abstract
import Derived.OwnWalkIn
import Derived.TacticsInMore
import Derived.LoopNIn
import Derived.LoopIn
import Derived.RangeFuncBox
import Derived.Maps.AppendAt
import Derived.Laws.OwnMore
import Derived.BigQuiet
import Derived.Laws.StructEq
import Derived.Deep.QuietTactic
import Derived.Deep.RegionHeld
import Derived.Deep.Cut
import Derived.Laws.BitsLemmas

/- The walks of bits.Len and bits.TrailingZeros: after the library's own contracts, at this program. -/
namespace Go.Proofs.YtdpgebifeaakjaaDoor
set_option linter.unusedSimpArgs false
set_option linter.unusedVariables false
open Go.RowKit

theorem len8_at (k : Nat) (h : k < Lib.len8tab.size) : (Lib.len8tab[k]).toNat = Lib.bitLen k ∧ Lib.bitLen k ≤ 8 := by
  have h' : k < 256 := by rw [Lib.len8tab_size] at h; exact h
  have e := Lib.len8_of (k : Int) (by omega) (by omega)
  rw [Lib.len8, Int.toNat_natCast, getElem?_pos Lib.len8tab k h, Option.getD_some] at e
  exact ⟨Int.ofNat.inj e, Lib.bitLen_le8 ⟨k, h'⟩⟩

theorem lt64 (n : Nat) (h : (n : Int) ≤ 18446744073709551615) : n < 2 ^ 64 := by
  have : (2:Nat) ^ 64 = 18446744073709551616 := rfl
  omega
theorem d1 (n a : Nat) : ((n : Int) / (a : Int)).toNat = n / a := by rw [← Int.natCast_ediv, Int.toNat_natCast]
theorem d2 (n a b : Nat) : ((n : Int) / (a : Int) / (b : Int)).toNat = n / (a * b) := by
  rw [← Int.natCast_ediv, ← Int.natCast_ediv, Int.toNat_natCast, Nat.div_div_eq_div_mul]
theorem d3 (n a b c : Nat) : ((n : Int) / (a : Int) / (b : Int) / (c : Int)).toNat = n / (a * b * c) := by
  rw [← Int.natCast_ediv, ← Int.natCast_ediv, ← Int.natCast_ediv, Int.toNat_natCast, Nat.div_div_eq_div_mul, Nat.div_div_eq_div_mul, Nat.mul_assoc]
theorem wrap_sum (k b : Nat) (hk : k ≤ 56) (hb : b ≤ 8) : wrap64 ((k : Int) + wrap64 (b : Int)) = ((k + b : Nat) : Int) := by
  have e1 : wrap64 (b : Int) = b := by unfold wrap64; omega
  rw [e1]
  unfold wrap64; omega
theorem len_fin (k q n : Nat) (m : Nat) (e : m = n / q) (h : m < Lib.len8tab.size) (hq : q = 2 ^ k) (hk : k ≤ 56) (hn : n < 2 ^ 64) (hge : q ≤ n) :
    wrap64 ((k : Int) + wrap64 ((Lib.len8tab[m]'h).toNat : Int)) = (Lib.bitLen n : Int) := by
  obtain ⟨l1, l2⟩ := len8_at m h
  rw [l1, wrap_sum k _ hk l2, Lib.bitLen_shift k n (hq ▸ hge) hn, e, hq]
theorem len_fin0 (n m : Nat) (e : m = n) (h : m < Lib.len8tab.size) :
    wrap64 (wrap64 ((Lib.len8tab[m]'h).toNat : Int)) = (Lib.bitLen n : Int) := by
  subst e
  obtain ⟨l1, l2⟩ := len8_at m h
  rw [l1]
  have e1 : wrap64 (Lib.bitLen m : Int) = Lib.bitLen m := by unfold wrap64; omega
  rw [e1, e1]

set_option maxHeartbeats 4000000 in
set_option maxRecDepth 100000 in
theorem len64_any (x : Int) (w : World) (h0 : 0 ≤ x) (h1 : x ≤ 18446744073709551615) :
    Calls Tryd.prog 121 #[.int .u64 x] w fun e w' => e = .returned (.int .i64 (Lib.bitLen x.toNat)) ∧ w' = w := by
  have t9 := Tryd.underlying9
  have hz := Lib.len8tab_size
  go_enter Tryd.func121, Tryd.ntmps121
  go_wp2
  all_goals (go_ret; refine ⟨congrArg Ending.returned (congrArg (Value.int IntKind.i64) ?_), rfl⟩)
  all_goals obtain ⟨n, rfl⟩ : ∃ n : Nat, x = n := ⟨x.toNat, by omega⟩
  all_goals have h1' : n < 2 ^ 64 := lt64 n h1
  · exact len_fin 56 72057594037927936 n _ (d3 n 4294967296 65536 256) _ rfl (by decide) h1' (by omega)
  · exact len_fin 48 281474976710656 n _ (d2 n 4294967296 65536) _ rfl (by decide) h1' (by omega)
  · exact len_fin 40 1099511627776 n _ (d2 n 4294967296 256) _ rfl (by decide) h1' (by omega)
  · exact len_fin 32 4294967296 n _ (d1 n 4294967296) _ rfl (by decide) h1' (by omega)
  · exact len_fin 24 16777216 n _ (d2 n 65536 256) _ rfl (by decide) h1' (by omega)
  · exact len_fin 16 65536 n _ (d1 n 65536) _ rfl (by decide) h1' (by omega)
  · exact len_fin 8 256 n _ (d1 n 256) _ rfl (by decide) h1' (by omega)
  · exact len_fin0 n _ (Int.toNat_natCast n) _

set_option maxHeartbeats 4000000 in
set_option maxRecDepth 100000 in
theorem len_any (x : Int) (w : World) (h0 : 0 ≤ x) (h1 : x ≤ 18446744073709551615) :
    Calls Tryd.prog 98 #[.int .u64 x] w fun e w' => e = .returned (.int .i64 (Lib.bitLen x.toNat)) ∧ w' = w := by
  have c := len64_any x w h0 h1
  have hw : IntKind.u64.wrap x = x := by rw [IntKind.wrap_u64]; omega
  go_enter Tryd.func98, Tryd.ntmps98
  go_wp2_with (go_at_call 121; refine c.mono ?_; rintro e w' ⟨rfl, hw'⟩; rw [hw'])
  go_ret
  exact ⟨rfl, rfl⟩
end Go.Proofs.YtdpgebifeaakjaaDoor

/- The walk of bits.TrailingZeros: after the library's own contract, at this program. -/
namespace Go.Proofs.YtdpgebifeaakjaaDoor
set_option linter.unusedSimpArgs false
set_option linter.unusedVariables false
open Go.RowKit

set_option maxHeartbeats 1000000 in
set_option maxRecDepth 20000 in
theorem tz64_core (x k idx : Nat) (w : World) (hx0 : ((x : Int) == 0) = false)
    (key : IntKind.u64.wrap (bits BinOp.and IntKind.u64 (x : Int) (IntKind.u64.wrap (-(x : Int))) * 285870213051353865) / 288230376151711744 = (idx : Int))
    (hi : idx < 64) (hk : k < 64) (hcell : w.cell? ⟨3, idx, none⟩ = some (.int .u8 k)) :
    Calls Tryd.prog 123 #[.int .u64 x] w fun e w' => e = .returned (.int .i64 k) ∧ w' = w := by
  go_enter Tryd.func123, Tryd.ntmps123
  go_wp2_with (simp only [key])
  go_ret
  exact ⟨rfl, rfl⟩

set_option maxHeartbeats 1000000 in
set_option maxRecDepth 20000 in
theorem tz64_zero' (w : World) :
    Calls Tryd.prog 123 #[.int .u64 0] w fun e w' => e = .returned (.int .i64 64) ∧ w' = w := by
  go_enter Tryd.func123, Tryd.ntmps123
  go_wp2
  go_ret
  exact ⟨rfl, rfl⟩

theorem tz64_any (x : Nat) (hx : x < 18446744073709551616) (w : World) (hT : TabAt 3 Lib.deBruijn64tab w) :
    Calls Tryd.prog 123 #[.int .u64 x] w fun e w' => e = .returned (.int .i64 (Lib.ctz 64 x)) ∧ w' = w := by
  by_cases hx0 : x = 0
  · subst hx0
    exact tz64_zero' w
  · obtain ⟨hlow, hk⟩ := Lib.lowest_bit 64 x hx0 hx
    obtain ⟨hi, htab⟩ := Lib.deBruijn64_at _ hk
    have hcell := hT _ hi
    rw [htab] at hcell
    exact tz64_core x _ _ w (by simp; omega) (tz64_key x _ hx hx0 hlow) hi hk hcell

theorem tz_any (x : Nat) (hx : x < 18446744073709551616) (w : World) (hT : TabAt 3 Lib.deBruijn64tab w) :
    Calls Tryd.prog 99 #[.int .u64 x] w fun e w' => e = .returned (.int .i64 (Lib.ctz 64 x)) ∧ w' = w := by
  have c64 := tz64_any x hx w hT
  have hw : IntKind.u64.wrap (x : Int) = (x : Int) := by rw [IntKind.wrap_u64]; omega
  go_enter Tryd.func99, Tryd.ntmps99
  go_wp2_with (go_at_call 123; refine c64.mono ?_; rintro e w' ⟨rfl, hw'⟩; rw [hw'])
  go_ret
  exact ⟨rfl, rfl⟩
end Go.Proofs.YtdpgebifeaakjaaDoor

/- A range over an iterator that counts in a cell of its own: the contract, and the law for a body that always goes on. -/
namespace Go.Proofs.YtdpgebifeaakjaaDoor
set_option linter.unusedSimpArgs false
set_option linter.unusedVariables false
open Go.RowKit

variable {F : Fence} {n : Nat} {P : Program}

/-- Blocks of the set lie as they lay. -/
def KeepsB (K : Nat → Prop) (W W' : World) : Prop := ∀ k, K k → W'.heap[k]? = W.heap[k]?
theorem KeepsB.refl (K : Nat → Prop) (W : World) : KeepsB K W W := fun _ _ => rfl
theorem KeepsB.trans {K : Nat → Prop} {A B C : World} (h : KeepsB K A B) (k : KeepsB K B C) : KeepsB K A C := fun i hi => (k i hi).trans (h i hi)

/-- The iterator, at captured values lb, hands on xs, in its order; its own counter lies in block Ba; the blocks K must be kept by each round. -/
def SeqC {α : Type} (F : Fence) (n : Nat) (P : Program) (gf : Nat) (lb : Array Value) (encs : α → Array Value) (Ba : Nat) (K : Nat → Prop) (xs : List α) (w : World) : Prop :=
  ∀ (l : Nat) (J : List α → World → Prop) (W : World), Below w.heap.size w W → (∀ s W v, J s W → J s (W.setCell ⟨Ba, 0, none⟩ v)) →
    (∀ pre x W1, J pre W1 → (∃ post, xs = pre ++ x :: post) → YieldAt F (n - 1) P l (encs x) W1 fun e W' => e = .returned (.bool true) ∧ J (pre ++ [x]) W' ∧ KeepsB K W1 W') →
    J [] W →
    CallsIn F n P gf (#[.func (.yield l) #[] #[]] ++ lb) W fun e W' => (∃ v, e = .returned v) ∧ J xs W'

/-- What a step of the loop's own may turn: the iterator's counter; what is no cells, from B on. -/
structure OwnC {β : Type} (B Ba : Nat) (I : β → World → Prop) : Prop where
  own : OwnFrom B I
  set : ∀ s W v, I s W → I s (W.setCell ⟨Ba, 0, none⟩ v)

theorem OwnC.putObj {β : Type} {B Ba : Nat} {I : β → World → Prop} (h : OwnC B Ba I) {s : β} {W : World} {l : Nat} {o : Obj} (o' : Obj) (hs : I s W) (hB : B ≤ l) (hl : W.heap[l]? = some o) (ho : o.isCells = false) : I s (W.putObj l o') :=
  h.own.putObj o' hs hB hl ho
theorem OwnC.alloc {β : Type} {B Ba : Nat} {I : β → World → Prop} (h : OwnC B Ba I) {s : β} {W : World} (o : Obj) (hs : I s W) : I s (W.alloc o) := h.own.alloc o hs
theorem grownBy_setCell (W : World) (a : Addr) (v : Value) : W.grownBy (W.setCell a v) (some a.block) :=
  ⟨rfl, rfl, rfl, by simp [World.setCell], fun k _ hk => Below.heap_setCell _ _ _ _ (fun e => hk (by rw [e]))⟩
theorem OwnC.setCell {β : Type} {B Ba : Nat} {I : β → World → Prop} (h : OwnC B Ba I) {s : β} {W : World} (v : Value) (hs : I s W) : I s (W.setCell ⟨Ba, 0, none⟩ v) := h.set s W v hs

/-- How the body of a round ends: it goes on. -/
def onPost {α : Type} (B : Nat) (K : Nat → Prop) (I : List α → World → Prop) (xs : List α) (W : World) : Exit → Act → World → Prop
  | .normal, _, W' => KeepsFrom B W W' ∧ KeepsB K W W' ∧ I xs W'
  | _, _, _ => False

theorem wpIn_rangeC {α : Type} {g : Operand} {ps : Array Tmp} {assign body : Code} {Q : Exit → Act → World → Prop} {a : Act} {w : World}
    (hro : F.round = none) (h1 : 1 ≤ n) {gf : Nat} {lb : Array Value} (hg : a.eval g = .func (.func gf) #[] lb) (hFg : F.fn gf) (eg : ∀ args w, (callFunc gf args).run P w = .ok (.enter gf args) w)
    {encs : α → Array Value} {Ba : Nat} {K : Nat → Prop} {xs : List α} (hseq : SeqC F (n - 1) P gf lb encs Ba K xs w) (hBa : Ba < w.heap.size) (hK : ∀ k, K k → k < w.heap.size)
    (hps : ∀ x, (encs x).size = ps.size)
    (I : List α → World → Prop) (hI : OwnC w.heap.size Ba I) (h0 : I [] w) (Ax : α → Act → World → Prop) (hAx : ∀ x a', OwnC w.heap.size Ba (fun (_ : Unit) W => Ax x a' W))
    (hassign : ∀ (l : Nat) (pre : List α) (x : α) (W : World) (C : Act → World → Prop), I pre W → (∃ post, xs = pre ++ x :: post) →
      (∀ a' W', KeepsFrom w.heap.size W W' → KeepsB K W W' → I pre W' → Ax x a' W' → C a' W') →
      assign.wpIn (F.inRound l) (n - 1 - 1) P (Exit.then C (fun _ _ _ => False)) { tmps := (ps.zip (encs x)).foldl (fun t (p, v) => t.setIfInBounds p v) a.tmps, defers := [] } W)
    (hbody : ∀ (l : Nat) (pre : List α) (x : α) (a' : Act) (W : World), I pre W → Ax x a' W → (∃ post, xs = pre ++ x :: post) →
      body.wpIn (F.inRound l) (n - 1 - 1) P (onPost w.heap.size K I (pre ++ [x]) W) a' W)
    (hdone : ∀ (D : Nat) (W : World), w.heap.size ≤ D → I xs W → W.heap[D]? = some (.deferred (some [])) → Q .normal { a with defers := { target := .collected D, args := #[] } :: a.defers } W) :
    (Code.rangeFunc g ps assign body).wpIn F n P Q a w := by
  refine wpIn_rangeFunc fun fn hfn => ?_
  rw [hro]
  obtain ⟨rec, hrec⟩ : ∃ rec : LoopState → Option Code → Loop, rec = fun st pe => { state := st, pending := pe, fn, tmps := a.tmps, params := ps, assign, body, defers := w.heap.size } := ⟨_, rfl⟩
  obtain ⟨W1, hW1⟩ : ∃ W1, (w.alloc (.deferred (some []))).alloc (.loop (rec .ready none)) = W1 := ⟨_, rfl⟩
  have hL1 : W1.heap[w.heap.size + 1]? = some (.loop (rec .ready none)) := by
    rw [← hW1]; have := World.alloc_heap_new (w.alloc (.deferred (some []))) (.loop (rec .ready none)); rwa [World.size_alloc] at this
  have hD1 : W1.heap[w.heap.size]? = some (.deferred (some [])) := by
    rw [← hW1]; exact (Below.heap_alloc _ _ _ (by simp)).trans (World.alloc_heap_new w _)
  have hI1 : I [] W1 := by rw [← hW1]; exact hI.alloc _ (hI.alloc _ h0)
  have hb1 : Below w.heap.size w W1 := by
    rw [← hW1]; exact ((Below.refl _ w).alloc (Nat.le_refl _) _).alloc (by simp) _
  have other : ∀ (W : World) (k : Nat), w.heap.size ≤ k → ∀ v, (W.setCell ⟨Ba, 0, none⟩ v).heap[k]? = W.heap[k]? := fun W k hk v => Below.heap_setCell _ _ _ _ (by simp; omega)
  have hKb : ∀ (W : World) (o' : Obj), KeepsB K W (W.putObj (w.heap.size + 1) o') := fun W o' k hk => World.putObj_heap_other (by have := hK k hk; omega)
  refine ⟨w.heap.size + 1, [{ target := .collected w.heap.size, args := #[] }], W1, { target := .fn (.func gf) lb, args := #[.func (.yield (w.heap.size + 1)) #[] #[]] }, W1, gf,
    #[.func (.yield (w.heap.size + 1)) #[] #[]] ++ lb, W1, ?_, ?_, ?_, ?_, fun _ => h1, ?_⟩
  · rw [← hW1, hrec]; exact run_enterLoop_outer _ _ _ _ _
  · simp only [resolve, hg]
    simp [go_sem]
  · intro f' hf'; simp [Target.leads] at hf'; subst hf'; exact hFg
  · simp [invoke, go_sem, eg]
  refine (hseq (w.heap.size + 1)
    (fun pre W => I pre W ∧ W.heap[w.heap.size + 1]? = some (.loop (rec .ready none)) ∧ W.heap[w.heap.size]? = some (.deferred (some [])))
    W1 hb1 (fun s W v hs => ⟨hI.setCell v hs.1, (other W _ (by omega) v).trans hs.2.1, (other W _ (Nat.le_refl _) v).trans hs.2.2⟩) ?_ ⟨hI1, hL1, hD1⟩).mono ?_
  · rintro pre x W ⟨hi, hl, hk⟩ hx
    have hy := run_yield (P := P) (args := encs x) hl (by rw [hrec]; exact hps x)
    rw [hrec] at hy
    refine ⟨fn, _, assign, body, hy, roundIn_of_wpIn hfn (hassign _ pre x W _ hi hx ?_)⟩
    clear hy
    intro a' Wa hkf hkk hia hax
    have hl' := hkf.same _ _ (by omega) hl rfl
    have hk' := hkf.same _ _ (Nat.le_refl _) hk rfl
    have hlt : w.heap.size + 1 < Wa.heap.size := (Array.getElem?_eq_some_iff.1 hl').1
    refine ⟨_, run_beginRound hl' (by rw [hrec]), ?_⟩
    obtain ⟨Wb, hWb⟩ : ∃ Wb, Wa.putObj (w.heap.size + 1) (.loop { rec .ready none with state := .busy }) = Wb := ⟨_, rfl⟩
    rw [hWb]
    have hlb : Wb.heap[w.heap.size + 1]? = some (.loop { rec .ready none with state := .busy }) := by rw [← hWb]; exact World.putObj_heap_same hlt
    have hkb : Wb.heap[w.heap.size]? = some (.deferred (some [])) := by rw [← hWb]; exact (World.putObj_heap_other (by omega)).trans hk'
    have hib : I pre Wb := by rw [← hWb]; exact hI.putObj _ hia (by omega) hl' rfl
    have haxb : Ax x a' Wb := by rw [← hWb]; exact (hAx x a').putObj (s := ()) _ hax (by omega) hl' rfl
    have hkkb : KeepsB K W Wb := by rw [← hWb]; exact hkk.trans (hKb _ _)
    refine wpIn_mono (hbody _ pre x a' Wb hib haxb hx) ?_
    rintro e a3 W3 hp
    cases e with
    | normal =>
      obtain ⟨hk3, hkk3, hi3⟩ := hp
      have hl3 := hk3.same _ _ (by omega) hlb rfl
      have hd3 := hk3.same _ _ (Nat.le_refl _) hkb rfl
      have hr := run_endRound (P := P) none hl3
      rw [hrec] at hr
      refine ⟨_, _, hr, rfl, ⟨hI.putObj _ hi3 (by omega) hl3 rfl, ?_, (World.putObj_heap_other (by omega)).trans hd3⟩, (hkkb.trans hkk3).trans (hKb _ _)⟩
      rw [World.putObj_heap_same (Array.getElem?_eq_some_iff.1 hl3).1, hrec]
      rfl
    | ret => exact hp.elim
    | exit id => exact hp.elim
    | goto t => exact hp.elim
    | panic ch => exact hp.elim
    | outgrown => exact hp.elim
  · rintro e W2 ⟨⟨v, rfl⟩, hi, hl, hk⟩
    have hr := run_endLoop (P := P) hl (by rw [hrec]; simp)
    have hpe : (rec .ready none).pending = none := by rw [hrec]
    rw [hpe] at hr
    exact ⟨none, _, hr, hdone _ _ (Nat.le_refl _) (hI.putObj _ hi (by omega) hl rfl) ((World.putObj_heap_other (by omega)).trans hk)⟩
end Go.Proofs.YtdpgebifeaakjaaDoor

/- The walk of cover's iterator. -/
namespace Go.Proofs.YtdpgebifeaakjaaDoor
set_option linter.unusedSimpArgs false
set_option linter.unusedVariables false
open Go.RowKit
attribute [local go_sem] Oper.semAt_some

/-- The size of the first block of the cover of the leaves from a to b - 1. -/
def stepN (a b : Nat) : Nat := if 0 < a then min (2 ^ (Lib.bitLen (b - a) - 1)) (2 ^ Lib.ctz 64 a) else 2 ^ (Lib.bitLen (b - a) - 1)
def coverF : Nat → Nat → Nat → List (Nat × Nat)
  | 0, _, _ => []
  | f + 1, a, b => if a < b then (a, stepN a b) :: coverF f (a + stepN a b) b else []
def coverL (a b : Nat) : List (Nat × Nat) := coverF (b - a) a b

theorem stepN_pos (a b : Nat) : 0 < stepN a b := by
  have h1 : 0 < 2 ^ (Lib.bitLen (b - a) - 1) := Nat.two_pow_pos _
  have h2 : 0 < 2 ^ Lib.ctz 64 a := Nat.two_pow_pos _
  unfold stepN
  split <;> omega
theorem coverF_fuel : ∀ (f a b : Nat), b - a ≤ f → coverF f a b = coverL a b
  | 0, a, b, h => by rw [coverL, show b - a = 0 by omega]
  | f + 1, a, b, h => by
    by_cases hab : a < b
    · have hp := stepN_pos a b
      obtain ⟨g, hg⟩ : ∃ g, b - a = g + 1 := ⟨b - a - 1, by omega⟩
      rw [coverL, hg, coverF, coverF, if_pos hab, if_pos hab, coverF_fuel f _ b (by omega), coverF_fuel g _ b (by omega)]
    · rw [coverF, if_neg hab, coverL, show b - a = 0 by omega, coverF]
theorem coverL_cons {a b : Nat} (h : a < b) : coverL a b = (a, stepN a b) :: coverL (a + stepN a b) b := by
  have hp := stepN_pos a b
  obtain ⟨g, hg⟩ : ∃ g, b - a = g + 1 := ⟨b - a - 1, by omega⟩
  rw [coverL, hg, coverF, if_pos h, coverF_fuel g _ b (by omega)]
theorem coverL_nil {a b : Nat} (h : ¬ a < b) : coverL a b = [] := by
  rw [coverL, show b - a = 0 by omega]; rfl

def blockV (x : Nat × Nat) : Array Value := #[.agg #[.int .i64 x.1, .int .i64 x.2]]
theorem lenU (x : BitVec 64) (w : World) : Calls Tryd.prog 98 #[U64 x] w fun e w' => e = .returned (.int .i64 (Lib.bitLen x.toNat)) ∧ w' = w := by
  have h := x.isLt
  have := len_any (x.toNat : Int) w (by omega) (by omega)
  rw [Int.toNat_natCast] at this
  exact this
theorem tzU (x : BitVec 64) (w : World) (hT : TabAt 3 Lib.deBruijn64tab w) : Calls Tryd.prog 99 #[U64 x] w fun e w' => e = .returned (.int .i64 (Lib.ctz 64 x.toNat)) ∧ w' = w :=
  tz_any x.toNat x.isLt w hT

theorem bitLenAux_spec : ∀ (f x : Nat), 0 < x → x < 2 ^ f → 1 ≤ Lib.bitLenAux f x ∧ 2 ^ (Lib.bitLenAux f x - 1) ≤ x ∧ x < 2 ^ Lib.bitLenAux f x
  | 0, x, h, h' => by simp at h'; omega
  | f + 1, x, h, h' => by
    rw [Lib.bitLenAux, if_neg (by omega)]
    by_cases h1 : x / 2 = 0
    · rw [h1]
      have : Lib.bitLenAux f 0 = 0 := by cases f <;> rfl
      rw [this]
      have hx : x = 1 := by omega
      subst hx
      decide
    · obtain ⟨i1, i2, i3⟩ := bitLenAux_spec f (x / 2) (by omega) (by rw [Nat.pow_succ] at h'; omega)
      obtain ⟨g, hg⟩ : ∃ g, Lib.bitLenAux f (x / 2) = g + 1 := ⟨Lib.bitLenAux f (x / 2) - 1, by omega⟩
      rw [hg] at i2 i3 ⊢
      rw [Nat.add_sub_cancel] at i2
      rw [show 1 + (g + 1) - 1 = g + 1 by omega, show 1 + (g + 1) = (g + 1) + 1 by omega, Nat.pow_succ 2 (g + 1), Nat.pow_succ]
      rw [Nat.pow_succ] at i3
      omega
theorem bitLen_spec (x : Nat) (h : 0 < x) (h' : x < 2 ^ 64) : 1 ≤ Lib.bitLen x ∧ 2 ^ (Lib.bitLen x - 1) ≤ x ∧ x < 2 ^ Lib.bitLen x := bitLenAux_spec 64 x h h'
theorem bitLen_le (x k : Nat) (h : 0 < x) (h' : x < 2 ^ k) (hk : k ≤ 64) : Lib.bitLen x ≤ k := by
  obtain ⟨h1, h2, h3⟩ := bitLen_spec x h (Nat.lt_of_lt_of_le h' (Nat.pow_le_pow_right (by decide) hk))
  apply Classical.byContradiction
  intro hn
  have : 2 ^ k ≤ 2 ^ (Lib.bitLen x - 1) := Nat.pow_le_pow_right (by decide) (by omega)
  omega

theorem stepN_le (a b : Nat) (h : a < b) (hb : b ≤ 1099511627776) : stepN a b ≤ b - a := by
  obtain ⟨h1, h2, h3⟩ := bitLen_spec (b - a) (by omega) (by have : (2:Nat) ^ 64 = 18446744073709551616 := rfl; omega)
  unfold stepN
  split <;> omega

theorem ctz_le (c : Nat) (h : 0 < c) (hc : c ≤ 1099511627776) : 2 ^ Lib.ctz 64 c ≤ c := by
  have hx : c < 2 ^ 64 := by have : (2:Nat) ^ 64 = 18446744073709551616 := rfl; omega
  obtain ⟨m, h1, h2⟩ := Lib.ctzFrom_spec 64 c h hx
  rw [Lib.ctz, if_neg (by omega)]
  have : 2 ^ Lib.ctzFrom 64 c * 1 ≤ 2 ^ Lib.ctzFrom 64 c * (2 * m + 1) := Nat.mul_le_mul_left _ (by omega)
  omega

theorem wrap_pow (q p : Nat) (h : 2 ^ q = p) (hp : p ≤ 1099511627776) : wrap64 ((2 : Int) ^ q) = (p : Int) := by
  have e : ((2 : Int) ^ q) = ((2 ^ q : Nat) : Int) := by simp
  rw [e, h]
  unfold wrap64
  omega
theorem ctz_lt (c : Nat) (h : 0 < c) (hc : c ≤ 1099511627776) : Lib.ctz 64 c < 64 :=
  (Lib.lowest_bit 64 c (by omega) (Nat.lt_of_le_of_lt hc (by decide))).2
theorem ofNat_toNat (c : Nat) (hc : c ≤ 1099511627776) : (BitVec.ofNat 64 c).toNat = c := by
  rw [BitVec.toNat_ofNat]; exact Nat.mod_eq_of_lt (Nat.lt_of_le_of_lt hc (by decide))
theorem diff_toNat (b c : Nat) (h : c ≤ b) (hb : b ≤ 1099511627776) : (BitVec.ofInt 64 ((b : Int) - (c : Int))).toNat = b - c := by
  rw [show (b : Int) - (c : Int) = ((b - c : Nat) : Int) by omega, BitVec.ofInt_natCast]
  exact ofNat_toNat _ (by omega)
theorem len_facts (b c : Nat) (h : c < b) (hb : b ≤ 1099511627776) : 1 ≤ Lib.bitLen (b - c) ∧ Lib.bitLen (b - c) ≤ 41 ∧ 2 ^ (Lib.bitLen (b - c) - 1) ≤ b - c := by
  have hx : b - c < 2 ^ 64 := Nat.lt_of_le_of_lt (Nat.le_trans (Nat.sub_le _ _) hb) (by decide)
  have s := bitLen_spec (b - c) (by omega) hx
  exact ⟨s.1, bitLen_le _ 41 (by omega) (Nat.lt_of_le_of_lt (Nat.le_trans (Nat.sub_le _ _) hb) (by decide)) (by decide), s.2.1⟩

theorem sum_le (c p b : Nat) (h : c + p ≤ b) (hb : b ≤ 1099511627776) : (c : Int) + (p : Int) ≤ 1099511627776 := by omega
def cellN (W : World) (b : Nat) : Nat := match W.cell? ⟨b, 0, none⟩ with
  | some (.int _ x) => x.toNat
  | _ => 0

theorem wrap_small (c p : Nat) (h : (c : Int) + (p : Int) ≤ 1099511627776) : wrap64 ((c : Int) + (p : Int)) = (c : Int) + (p : Int) := by unfold wrap64; omega
theorem sub_lt (b c p : Nat) (h : c + p ≤ b) (hp : 0 < p) : b - (c + p) < b - c := by omega
theorem cellN_Blk {W : World} {b e : Nat} {k : IntKind} {x : Nat} (h : Blk W b #[.int k x] e) : cellN W b = x := by
  rw [cellN, h.cell 0]
  exact Int.toNat_natCast x

set_option maxRecDepth 100000 in
set_option maxHeartbeats 1000000 in
theorem cover_stops (n : Nat) (hn : 1 ≤ n) (Ba Bb : Nat) (a b : Nat) (hab : a ≤ b) (hb : b ≤ 1099511627776) (w : World) (hne : Ba ≠ Bb) (hA : Blk w Ba #[.int .i64 a] 3) (hB : Blk w Bb #[.int .i64 b] 3) (hT : TabAt 3 Lib.deBruijn64tab w) (h3 : Ba ≠ 3) (h3l : 3 < w.heap.size) :
    SeqC Fence.wide n Tryd.prog 97 #[.pointer (some ⟨Ba, 0, none⟩), .pointer (some ⟨Bb, 0, none⟩)] blockV Ba (fun k => k = Ba ∨ k = Bb ∨ k = 3) (coverL a b) w := by
  intro l J W hW hJ hY h0
  have hA0 := hA.below hW hA.lt
  have hB0 := hB.below hW hB.lt
  have hT0 : TabAt 3 Lib.deBruijn64tab W := fun j hj => (hW.cell (p := ⟨3, j, none⟩) h3l).trans (hT j hj)
  refine callsIn_of_wp Tryd.func97 rfl trivial ?_ rfl
  simp only [Tryd.ntmps97, List.size_toArray, List.length_cons, List.length_nil, Nat.reduceAdd, Nat.reduceSub, Array.replicate_succ, Array.replicate_zero, List.push_toArray, List.append_toArray, List.nil_append, List.cons_append]
  gi_wp2
  gi_loopw [4] (fun _ wr => ∃ (pre : List (Nat × Nat)) (c : Nat), c ≤ b ∧ coverL a b = pre ++ coverL c b ∧ Blk wr Ba #[.int .i64 c] 3 ∧ Blk wr Bb #[.int .i64 b] 3 ∧ TabAt 3 Lib.deBruijn64tab wr ∧ J pre wr)
    (fun _ wr => b - cellN wr Ba)
  case atStart => exact ⟨[], a, hab, rfl, hA0, hB0, hT0, h0⟩
  case round =>
    obtain ⟨pre, c, hc, hx, hA1, hB1, hT1, hJ1⟩ := hrel
    clear hA0 hB0 hT0 h0
    have CN := hide (cellN_Blk hA1)
    have ca := hA1.cell 0
    have cb := hB1.cell 0
    by_cases hlt : c < b
    · have hlt1 : (c : Int) < (b : Int) := by omega
      simp at ca cb
      have el := diff_toNat b c hc hb
      obtain ⟨hq1, hq2, hpow⟩ := len_facts b c hlt hb
      have hl := lenU (BitVec.ofInt 64 ((b : Int) - (c : Int))) wr
      rw [el] at hl
      have hst : stepN c b = if 0 < c then min (2 ^ (Lib.bitLen (b - c) - 1)) (2 ^ Lib.ctz 64 c) else 2 ^ (Lib.bitLen (b - c) - 1) := rfl
      generalize Lib.bitLen (b - c) = q at hq1 hq2 hl hst hpow
      clear el
      have hb1 : 2 ^ (q - 1) ≤ b - c := hpow
      obtain ⟨p1, hp1⟩ : ∃ p, 2 ^ (q - 1) = p := ⟨_, rfl⟩
      have HW1 := hide (wrap_pow (q - 1) p1 hp1 (by omega))
      have hpos1 : 0 < p1 := by rw [← hp1]; exact Nat.two_pow_pos _
      rw [hp1] at hst hb1
      have HP1 := hide hp1
      clear hp1 hpow
      have hq3 : (1 : Int) ≤ (q : Int) := by omega
      have hq4 : (q : Int) ≤ 41 := by omega
      by_cases hc0 : 0 < c
      · have hc01 : (0 : Int) < (c : Int) := by omega
        have hz1 : 2 ^ Lib.ctz 64 c ≤ c := ctz_le c hc0 (by omega)
        have htz := tzU (BitVec.ofNat 64 c) wr hT1
        have ec := ofNat_toNat c (by omega)
        rw [ec] at htz
        have hzl := ctz_lt c hc0 (by omega)
        rw [if_pos hc0] at hst
        generalize Lib.ctz 64 c = z at hz1 htz hzl hst
        obtain ⟨p2, hp2⟩ : ∃ p, 2 ^ z = p := ⟨_, rfl⟩
        have HW2 := hide (wrap_pow z p2 hp2 (by omega))
        have hpos2 : 0 < p2 := by rw [← hp2]; exact Nat.two_pow_pos _
        rw [hp2] at hst hz1
        have HP2 := hide hp2
        clear hp2 ec
        have hz3 : (z : Int) < 64 := by omega
        by_cases h12 : p1 ≤ p2
        · have h121 : (p1 : Int) ≤ (p2 : Int) := Int.ofNat_le.2 h12
          have hmin : min (p1 : Int) (p2 : Int) = (p1 : Int) := Int.min_eq_left h121
          have hst' : stepN c b = p1 := hst.trans (Nat.min_eq_left h12)
          have hle : c + p1 ≤ b := by rw [← hst']; have := stepN_le c b hlt hb; omega
          have hpp : 0 < p1 := by rw [← hst']; exact stepN_pos c b
          have hx2 : coverL a b = pre ++ (c, p1) :: coverL (c + p1) b := by rw [hx, coverL_cons hlt, hst']
          obtain ⟨fn, tmps, assign, body, hy, hR⟩ := hY pre (c, p1) wr hJ1 ⟨_, hx2⟩
          dsimp only [blockV] at hy
          have HN := hide (And.intro hle hx2)
          have HP := hide hpp
          have HS := hide (sum_le c p1 b hle hb)
          clear hst' hle hx2 hpp hst
          have hw1 := HW1.out
          gi_wp2
          refine ⟨trivial, callsIn_wide.2 (hl.mono ?_)⟩
          rintro e w' ⟨rfl, hw'⟩
          rw [hw']
          clear hl hw'
          gi_wp2
          refine ⟨trivial, callsIn_wide.2 (htz.mono ?_)⟩
          rintro e w' ⟨rfl, hw'⟩
          rw [hw']
          clear htz hw'
          have hw2 := HW2.out
          gi_wp2
          refine hR.mono ?_
          rintro e W3 ⟨rfl, hJ3, hk3⟩
          have hA3 : Blk W3 Ba #[.int .i64 c] 3 := (hk3 Ba (.inl rfl)).trans hA1
          have hB3 : Blk W3 Bb #[.int .i64 b] 3 := (hk3 Bb (.inr (.inl rfl))).trans hB1
          have hT3 : TabAt 3 Lib.deBruijn64tab W3 := fun j hj => (World.cell?_of_block (hk3 3 (.inr (.inr rfl)))).trans (hT1 j hj)
          have ca3 := hA3.cell 0
          have fa3 := hA3.free 0
          simp at ca3
          have hs1 : (c : Int) + (p1 : Int) ≤ 1099511627776 := HS.out
          clear hw1 hw2 hR hy ca cb hY hB1 hA1 hT1
          gi_wp2
          have hA4 : Blk (W3.setCell ⟨Ba, 0, none⟩ (.int .i64 ((c : Int) + (p1 : Int)))) Ba #[.int .i64 ((c + p1 : Nat) : Int)] 3 := hA3.set 0 (.int .i64 ((c : Int) + (p1 : Int)))
          refine ⟨⟨pre ++ [(c, p1)], c + p1, HN.out.1, by rw [List.append_assoc]; exact HN.out.2, hA4, hB3.other (Ne.symm hne) _, fun j hj => (World.cell?_of_block (Below.heap_setCell _ _ _ _ (Ne.symm h3))).trans (hT3 j hj), hJ _ _ _ hJ3⟩, ?_⟩
          rw [cellN_Blk hA4, CN.out]
          exact sub_lt b c p1 HN.out.1 HP.out
        · have h121 : (p2 : Int) ≤ (p1 : Int) := Int.ofNat_le.2 (Nat.le_of_not_le h12)
          have hmin : min (p1 : Int) (p2 : Int) = (p2 : Int) := Int.min_eq_right h121
          have hst' : stepN c b = p2 := hst.trans (Nat.min_eq_right (Nat.le_of_not_le h12))
          have hle : c + p2 ≤ b := by rw [← hst']; have := stepN_le c b hlt hb; omega
          have hpp : 0 < p2 := by rw [← hst']; exact stepN_pos c b
          have hx2 : coverL a b = pre ++ (c, p2) :: coverL (c + p2) b := by rw [hx, coverL_cons hlt, hst']
          obtain ⟨fn, tmps, assign, body, hy, hR⟩ := hY pre (c, p2) wr hJ1 ⟨_, hx2⟩
          dsimp only [blockV] at hy
          have HN := hide (And.intro hle hx2)
          have HP := hide hpp
          have HS := hide (sum_le c p2 b hle hb)
          clear hst' hle hx2 hpp hst
          have hw1 := HW1.out
          gi_wp2
          refine ⟨trivial, callsIn_wide.2 (hl.mono ?_)⟩
          rintro e w' ⟨rfl, hw'⟩
          rw [hw']
          clear hl hw'
          gi_wp2
          refine ⟨trivial, callsIn_wide.2 (htz.mono ?_)⟩
          rintro e w' ⟨rfl, hw'⟩
          rw [hw']
          clear htz hw'
          have hw2 := HW2.out
          gi_wp2
          refine hR.mono ?_
          rintro e W3 ⟨rfl, hJ3, hk3⟩
          have hA3 : Blk W3 Ba #[.int .i64 c] 3 := (hk3 Ba (.inl rfl)).trans hA1
          have hB3 : Blk W3 Bb #[.int .i64 b] 3 := (hk3 Bb (.inr (.inl rfl))).trans hB1
          have hT3 : TabAt 3 Lib.deBruijn64tab W3 := fun j hj => (World.cell?_of_block (hk3 3 (.inr (.inr rfl)))).trans (hT1 j hj)
          have ca3 := hA3.cell 0
          have fa3 := hA3.free 0
          simp at ca3
          have hs1 : (c : Int) + (p2 : Int) ≤ 1099511627776 := HS.out
          clear hw1 hw2 hR hy ca cb hY hB1 hA1 hT1
          gi_wp2
          have hA4 : Blk (W3.setCell ⟨Ba, 0, none⟩ (.int .i64 ((c : Int) + (p2 : Int)))) Ba #[.int .i64 ((c + p2 : Nat) : Int)] 3 := hA3.set 0 (.int .i64 ((c : Int) + (p2 : Int)))
          refine ⟨⟨pre ++ [(c, p2)], c + p2, HN.out.1, by rw [List.append_assoc]; exact HN.out.2, hA4, hB3.other (Ne.symm hne) _, fun j hj => (World.cell?_of_block (Below.heap_setCell _ _ _ _ (Ne.symm h3))).trans (hT3 j hj), hJ _ _ _ hJ3⟩, ?_⟩
          rw [cellN_Blk hA4, CN.out]
          exact sub_lt b c p2 HN.out.1 HP.out
      · have hc01 : ¬ (0 : Int) < (c : Int) := fun h => hc0 (Int.ofNat_lt.1 h)
        rw [if_neg hc0] at hst
        have hst' : stepN c b = p1 := hst
        have hle : c + p1 ≤ b := by rw [← hst']; have := stepN_le c b hlt hb; omega
        have hpp : 0 < p1 := by rw [← hst']; exact stepN_pos c b
        have hx2 : coverL a b = pre ++ (c, p1) :: coverL (c + p1) b := by rw [hx, coverL_cons hlt, hst']
        obtain ⟨fn, tmps, assign, body, hy, hR⟩ := hY pre (c, p1) wr hJ1 ⟨_, hx2⟩
        dsimp only [blockV] at hy
        have HN := hide (And.intro hle hx2)
        have HP := hide hpp
        have HS := hide (sum_le c p1 b hle hb)
        clear hst' hle hx2 hpp hst
        have hw1 := HW1.out
        gi_wp2
        refine ⟨trivial, callsIn_wide.2 (hl.mono ?_)⟩
        rintro e w' ⟨rfl, hw'⟩
        rw [hw']
        clear hl hw'
        gi_wp2
        refine hR.mono ?_
        rintro e W3 ⟨rfl, hJ3, hk3⟩
        have hA3 : Blk W3 Ba #[.int .i64 c] 3 := (hk3 Ba (.inl rfl)).trans hA1
        have hB3 : Blk W3 Bb #[.int .i64 b] 3 := (hk3 Bb (.inr (.inl rfl))).trans hB1
        have hT3 : TabAt 3 Lib.deBruijn64tab W3 := fun j hj => (World.cell?_of_block (hk3 3 (.inr (.inr rfl)))).trans (hT1 j hj)
        have ca3 := hA3.cell 0
        have fa3 := hA3.free 0
        simp at ca3
        have hs1 : (c : Int) + (p1 : Int) ≤ 1099511627776 := HS.out
        clear hw1 hR hy ca cb hY hB1 hA1 hT1
        gi_wp2
        have hA4 : Blk (W3.setCell ⟨Ba, 0, none⟩ (.int .i64 ((c : Int) + (p1 : Int)))) Ba #[.int .i64 ((c + p1 : Nat) : Int)] 3 := hA3.set 0 (.int .i64 ((c : Int) + (p1 : Int)))
        rw [HW1.out, wrap_small c p1 hs1]
        refine ⟨⟨pre ++ [(c, p1)], c + p1, HN.out.1, by rw [List.append_assoc]; exact HN.out.2, hA4, hB3.other (Ne.symm hne) _, fun j hj => (World.cell?_of_block (Below.heap_setCell _ _ _ _ (Ne.symm h3))).trans (hT3 j hj), hJ _ _ _ hJ3⟩, ?_⟩
        rw [cellN_Blk hA4, CN.out]
        exact sub_lt b c p1 HN.out.1 HP.out
    · have hlt1 : ¬ (c : Int) < (b : Int) := fun h => hlt (Int.ofNat_lt.1 h)
      have hfin : coverL a b = pre := by rw [hx, coverL_nil hlt, List.append_nil]
      simp at ca cb
      gi_wp2
      go_end0
      refine ⟨⟨_, rfl⟩, ?_⟩
      rw [coverL_nil hlt, List.append_nil]
      exact hJ1
end Go.Proofs.YtdpgebifeaakjaaDoor

/- The walks of cover and of Cover. -/
namespace Go.Proofs.YtdpgebifeaakjaaDoor
set_option linter.unusedSimpArgs false
set_option linter.unusedVariables false
open Go.RowKit
attribute [local go_sem] Oper.semAt_some

theorem info106 : (Tryd.prog.info? 106).map (fun i => (i.zero, i.size, i.bytes)) = some (some (.agg #[.int .i64 0, .int .i64 0]), 2, 16) := by kernel_rfl

set_option maxHeartbeats 1000000 in
theorem cover_fn (a b : Int) (w : World) :
    Calls Tryd.prog 62 #[.int .i64 a, .int .i64 b] w fun e w' => e = .returned (.func (.func 97) #[] #[.pointer (some ⟨w.heap.size, 0, none⟩), .pointer (some ⟨w.heap.size + 1, 0, none⟩)]) ∧ w' = (w.alloc (.cells #[.int .i64 a] 3)).alloc (.cells #[.int .i64 b] 3) := by
  have hmf : ∀ w x y, (Instr.makeFunc (.func 97) #[] #[x, y]).run Tryd.prog w = .ok (.func (.func 97) #[] #[x, y]) w := fun _ _ _ => by kernel_rfl
  go_enter Tryd.func62, Tryd.ntmps62
  go_wp2_with fail
  go_ret
  exact ⟨rfl, rfl⟩

def cellsOf : List (Nat × Nat) → List Value
  | [] => []
  | x :: l => .int .i64 x.1 :: .int .i64 x.2 :: cellsOf l
theorem cellsOf_snoc : ∀ (l : List (Nat × Nat)) (x : Nat × Nat), cellsOf (l ++ [x]) = cellsOf l ++ [.int .i64 x.1, .int .i64 x.2]
  | [], _ => rfl
  | y :: l, x => by simp [cellsOf, cellsOf_snoc l x]
theorem coverF_length : ∀ (f a b : Nat), (coverF f a b).length ≤ f
  | 0, _, _ => Nat.le_refl _
  | f + 1, a, b => by
    rw [coverF]
    split
    · have := coverF_length f (a + stepN a b) b
      simp; omega
    · simp
theorem coverL_length (a b : Nat) : (coverL a b).length ≤ b - a := coverF_length _ _ _

theorem cells_two_new (W : World) (u v : Value) (t : Nat) : ∀ j c, [u, v][j]? = some c → (W.alloc (.cells #[u, v] t)).cell? ((⟨W.heap.size, 0, none⟩ : Addr).add j) = some c := by
  intro j c hj
  rw [Addr.add_lit, (Blk.new W #[u, v] t).cell, Nat.zero_add]
  simpa using hj

/-- Between two rounds: the result's cell holds a slice that owns the blocks that have come; the counter's cell is a cell still. -/
def CoverI (n₀ : Nat) (w : World) (pre : List (Nat × Nat)) (W : World) : Prop :=
  (∃ v, Boxed W n₀ 33 v ∧ W.ownsRow n₀ 106 2 v pre.length (cellsOf pre)) ∧ (∃ x, Boxed W (n₀ + 1) 3 x) ∧ (∃ x, Boxed W (n₀ + 1 + 1) 3 x) ∧ Below n₀ w W
theorem ownsRow_other {W : World} {base e size n g : Nat} {v : Value} {xs : List Value} {cs : Array Value} {t : Nat} (h : W.ownsRow base e size v n xs) (hg : W.heap[g]? = some (.cells cs t (0, 0))) (hne : t ≠ e) : v.ownBlock = none ∨ v.ownBlock ≠ some g := by
  rcases h.2 with ⟨rfl, _⟩ | ⟨g', cap, cur, rfl, _, hgb, _⟩
  · exact .inl rfl
  · refine .inr fun e' => ?_
    obtain rfl : g' = g := by simpa [Value.ownBlock] using e'
    rw [hgb] at hg
    cases hg
    exact hne rfl
theorem coverI_own1 (n₀ : Nat) : Own (fun (pre : List (Nat × Nat)) W => ∃ v, Boxed W n₀ 33 v ∧ W.ownsRow n₀ 106 2 v pre.length (cellsOf pre)) := by
  intro s W W' row hs hg hr
  obtain ⟨v, h1, h2⟩ := hs
  obtain ⟨v', h1', h2', _⟩ := holdsRow_own n₀ n₀ 33 106 2 (fun pre : List (Nat × Nat) => pre.length) cellsOf (fun _ _ => True) s W W' row ⟨v, h1, h2, trivial⟩ hg hr
  exact ⟨v', h1', h2'⟩
theorem coverI_own2 (k : Nat) : Own (fun (_ : List (Nat × Nat)) W => ∃ x, Boxed W k 3 x) := by
  intro s W W' row hs hg hr
  obtain ⟨x, hx⟩ := hs
  exact ⟨x, hx.kept hg (fun e' => by obtain ⟨o, ho, hc⟩ := hr _ e'.symm; rw [show W.heap[k]? = _ from hx] at ho; cases ho; cases hc)⟩
theorem coverI_own (n₀ B : Nat) (w : World) (hw : n₀ ≤ w.heap.size) (hB : n₀ ≤ B) : OwnC B (n₀ + 1) (CoverI n₀ w) := by
  refine ⟨OwnFrom.and (Own.from (coverI_own1 n₀) _) (OwnFrom.and (Own.from (coverI_own2 (n₀ + 1)) _) (OwnFrom.and (Own.from (coverI_own2 (n₀ + 1 + 1)) _) (ownFrom_below hw hB))), ?_⟩
  rintro s W v ⟨⟨u, h1, h2⟩, ⟨x, hx⟩, ⟨y, hy⟩, hb⟩
  have hg := grownBy_setCell W ⟨n₀ + 1, 0, none⟩ v
  exact ⟨⟨u, h1.kept hg (by simp), h2.kept hg (ownsRow_other h2 hx (by decide))⟩, ⟨v, hx.set v⟩, ⟨y, hy.kept hg (by simp)⟩, hb.setCell (p := ⟨n₀ + 1, 0, none⟩) (by simp) v⟩

/-- The loop's own variable: a cell of two, new in each round. -/
def CoverA (n₀ : Nat) (a b : Value) (f p q : Value) (x : Nat × Nat) (a' : Act) (W : World) : Prop :=
  ∃ B, n₀ + 1 < B ∧ Blk W B #[.int .i64 x.1, .int .i64 x.2] 106 ∧
    a' = { tmps := #[a, b, p, q, .pointer (some ⟨n₀, 0, none⟩), .int .i64 0, .pointer (some ⟨B, 0, none⟩), a, .bool false, .bool false, a, b, .bool false, .bool false, .bool false, b, .bool false, .bool false, a, b, f, .agg #[.int .i64 x.1, .int .i64 x.2], undef, undef, undef, undef, undef], defers := [] }

theorem coverA_own (n₀ B0 : Nat) (a b f p q : Value) (x : Nat × Nat) (a' : Act) : OwnC B0 (n₀ + 1) (fun (_ : Unit) W => CoverA n₀ a b f p q x a' W) := by
  refine ⟨fun s W W' row hs hg hr => ?_, fun s W v hs => ?_⟩
  · obtain ⟨B, h1, h2, h3⟩ := hs
    refine ⟨B, h1, (hg.block B (Array.getElem?_eq_some_iff.1 h2).1 fun e => ?_).trans h2, h3⟩
    obtain ⟨_, o, ho, hc⟩ := hr _ e.symm
    rw [show W.heap[B]? = _ from h2] at ho
    cases ho
    cases hc
  · obtain ⟨B, h1, h2, h3⟩ := hs
    exact ⟨B, h1, h2.other (by simp; omega) _, h3⟩

theorem ownsRow_slice {W : World} {base e size n : Nat} {v : Value} {xs : List Value} (h : W.ownsRow base e size v n xs) : ∃ p k c, v = .slice p k c := by
  rcases h.2 with ⟨rfl, _⟩ | ⟨g, cap, cur, rfl, _⟩
  · exact ⟨_, _, _, rfl⟩
  · exact ⟨_, _, _, rfl⟩
/-- A block of another type lies as it lay behind an append. -/
theorem grown_same {W w1 : World} {tmp : Obj} {base g n k : Nat} {v x u : Value} {xs : List Value} (hrow : W.ownsRow base 106 2 v n xs) (hg : Boxed W g 3 x) (hgrow : (W.alloc tmp).grownBy w1 v.ownBlock) (hk : g ≠ k) :
    (w1.setCell ⟨k, 0, none⟩ u).heap[g]? = W.heap[g]? := by
  have h0 : Boxed (W.alloc tmp) g 3 x := Blk.alloc hg tmp
  rw [Below.heap_setCell _ _ _ _ hk]
  have h1 := hgrow.block g h0.lt (by
    rcases ownsRow_other hrow hg (by decide) with h | h
    · rw [h]; simp
    · exact fun e => h e.symm)
  rw [h1]
  exact (show (W.alloc tmp).heap[g]? = _ from h0).trans (show W.heap[g]? = _ from hg).symm

set_option maxRecDepth 100000 in
set_option maxHeartbeats 2000000 in
theorem cover_ok (a b : Nat) (hab : a ≤ b) (hb : b ≤ 1099511627776) (w : World) (hT : TabAt 3 Lib.deBruijn64tab w) (h3l : 3 < w.heap.size) :
    Calls Tryd.prog 22 #[.int .i64 a, .int .i64 b] w fun e w' => ∃ v, e = .returned (.tuple #[v, .int .i64 0]) ∧ w'.ownsRow w.heap.size 106 2 v (coverL a b).length (cellsOf (coverL a b)) ∧ Below w.heap.size w w' := by
  have h0 : ¬ (a : Int) < 0 := by omega
  have h1 : ¬ (b : Int) < (a : Int) := by omega
  have h2 : ¬ (1099511627776 : Int) < (b : Int) := by omega
  have hz : (0 : Int) ≤ (a : Int) := by omega
  obtain ⟨i0, hi, hz0, hz1, hz2⟩ := info_parts info106
  refine (callsIn_wide (n := 3)).1 ?_
  refine callsIn_of_wp_marks Tryd.func22 rfl trivial ?_ rfl
  simp only [Tryd.ntmps22, List.size_toArray, List.length_cons, List.length_nil, Nat.reduceAdd, Nat.reduceSub, Array.replicate_succ, Array.replicate_zero, List.push_toArray, List.append_toArray, List.nil_append, List.cons_append]
  gi_wp2
  refine ⟨trivial, callsIn_wide.2 ((cover_fn _ _ _).mono ?_)⟩
  rintro e w' ⟨rfl, rfl⟩
  rw [World.size_alloc]
  gi_wp2
  obtain ⟨W0, hW0⟩ : ∃ W0, ((w.alloc (.cells #[.slice none 0 0] 33)).alloc (.cells #[.int .i64 a] 3)).alloc (.cells #[.int .i64 b] 3) = W0 := ⟨_, rfl⟩
  have hs0 : W0.heap.size = w.heap.size + 3 := by rw [← hW0]; simp
  have hB0 : Below w.heap.size w W0 := by rw [← hW0]; exact (((Below.refl _ w).alloc (Nat.le_refl _) _).alloc (by simp) _).alloc (by simp; omega) _
  have hR0 : Boxed W0 w.heap.size 33 (.slice none 0 0) := by rw [← hW0]; exact ((Blk.new w #[.slice none 0 0] 33).alloc _).alloc _
  have hA0 : Blk W0 (w.heap.size + 1) #[.int .i64 a] 3 := by
    rw [← hW0]
    have := Blk.new (w.alloc (.cells #[.slice none 0 0] 33)) #[.int .i64 a] 3
    rw [World.size_alloc] at this
    exact this.alloc _
  have hb0 : Blk W0 (w.heap.size + 1 + 1) #[.int .i64 b] 3 := by
    rw [← hW0]
    have := Blk.new ((w.alloc (.cells #[.slice none 0 0] 33)).alloc (.cells #[.int .i64 a] 3)) #[.int .i64 b] 3
    rw [World.size_alloc, World.size_alloc] at this
    exact this
  have hT0 : TabAt 3 Lib.deBruijn64tab W0 := fun j hj => (hB0.cell (p := ⟨3, j, none⟩) h3l).trans (hT j hj)
  rw [hW0]
  clear hW0
  have hseq := cover_stops (3 - 1) (by decide) (w.heap.size + 1) (w.heap.size + 1 + 1) a b hab hb W0 (by omega) hA0 hb0 hT0 (by omega) (by omega)
  refine wpIn_rangeC (gf := 97) (lb := #[.pointer (some ⟨w.heap.size + 1, 0, none⟩), .pointer (some ⟨w.heap.size + 1 + 1, 0, none⟩)]) rfl (by decide) rfl trivial (enters_of Tryd.func97 (by kernel_rfl) rfl)
    hseq (by omega) (by rintro k (rfl | rfl | rfl) <;> omega) (fun _ => rfl)
    (CoverI w.heap.size w) (coverI_own _ _ _ (Nat.le_refl _) (by omega)) ⟨⟨_, hR0, World.ownsRow_nil _ _ _ _⟩, ⟨_, hA0⟩, ⟨_, hb0⟩, hB0⟩
    (CoverA w.heap.size (.int .i64 a) (.int .i64 b) (.func (.func 97) #[] #[.pointer (some ⟨w.heap.size + 1, 0, none⟩), .pointer (some ⟨w.heap.size + 1 + 1, 0, none⟩)]) undef undef) (fun _ _ => coverA_own _ _ _ _ _ _ _ _ _) ?assign ?body ?done
  case assign =>
    rintro l pre x W C hI hx hC
    have hN := Blk.new W #[.int .i64 0, .int .i64 0] 106
    have hn0 := hN.cell 0
    have hn1 := hN.cell 1
    have hnf0 := hN.free 0
    have hnf1 := hN.free 1
    simp at hn0 hn1
    dsimp only [blockV]
    gi_wp2
    have hsz := hI.2.2.1
    obtain ⟨y2, hy2⟩ := hsz
    exact hC _ _ ((KeepsOthers.alloc _ _).from _) (fun k hk => Below.heap_alloc _ _ _ (by rcases hk with rfl | rfl | rfl <;> have := hy2.lt <;> omega)) ((coverI_own _ W0.heap.size _ (Nat.le_refl _) (by omega)).alloc _ hI) ⟨W.heap.size, by have := hy2.lt; omega, Blk.new _ _ _, rfl⟩
  case body =>
    rintro l pre x a' W ⟨⟨v, hv, hrow⟩, ⟨y, hy⟩, ⟨y2, hy2⟩, hB⟩ ⟨B, hBl, hX, rfl⟩ ⟨post, hx⟩
    have hc := hv.cell
    have hx0 := hX.cell 0
    have hx1 := hX.cell 1
    simp at hx0 hx1
    have hlen : pre.length + 1 ≤ 1099511627776 := by
      have h1 := coverL_length a b
      rw [hx] at h1
      simp at h1
      omega
    have hml : pre.length + 1 ≤ maxLen := by unfold maxLen; omega
    gi_wp2_with (gi_at_builtin; refine wpListIn_append_own _ rfl _ _ 33 rfl w.heap.size 106 i0 (.agg #[.int .i64 0, .int .i64 0]) 2 16 Tryd.underlying33 hi hz0 hz1 hz2 rfl (by decide) _ _ _ rfl (hrow.alloc _) ⟨W.heap.size, 0, none⟩ 1 1 [.int .i64 x.1, .int .i64 x.2] rfl rfl (cells_two_new _ _ _ _) (by simp [Value.oneCell']) hml (by omega) (by have := hB.size; simp; omega) ?_; intro v' w1 hown' hgrow _; obtain ⟨g', cap', rfl⟩ := ownsRow_succ hown'; obtain ⟨hv1, hv2, hr2, hk2, hb2⟩ := hv.appended (by decide) hrow hB.size (Nat.le_refl _) hown' hgrow; have hc1 := hv1.cell; have hf1 := hv1.frozen)
    have k1 := grown_same (u := .slice (some ⟨g', 0, none⟩) (pre.length + 1) cap') hrow hy hgrow (k := w.heap.size) (by omega)
    have k2 := grown_same (u := .slice (some ⟨g', 0, none⟩) (pre.length + 1) cap') hrow hy2 hgrow (k := w.heap.size) (by omega)
    refine ⟨hk2.from _, ?_, ⟨_, hv2, ?_⟩, ⟨y, k1.trans hy⟩, ⟨y2, k2.trans hy2⟩, hB.trans hb2⟩
    · rintro k (rfl | rfl | rfl)
      · exact k1
      · exact k2
      · exact hb2.block 3 h3l
    · rw [cellsOf_snoc, List.length_append]
      exact hr2
  case done =>
    rintro D W hD ⟨⟨v, hv, hrow⟩, ⟨y, hy⟩, ⟨y2, hy2⟩, hB⟩ hK
    have hc := hv.cell
    have hf := hv.frozen
    obtain ⟨vp, vn, vc, rfl⟩ := ownsRow_slice hrow
    gi_wp2
    have hDn : D ≠ w.heap.size := by omega
    have hK' : (W.setCell ⟨w.heap.size, 0, none⟩ (.slice vp vn vc)).heap[D]? = some (.deferred (some [])) := (Below.heap_setCell _ _ _ _ hDn).trans hK
    have hrow' := hrow.kept (grownBy_setCell W ⟨w.heap.size, 0, none⟩ (.slice vp vn vc)) (ownsRow_other hrow hv (by decide))
    have hv' := hv.set (.slice vp vn vc)
    have hB' := hB.setCell (p := ⟨w.heap.size, 0, none⟩) (Nat.le_refl _) (.slice vp vn vc)
    have hv2 : Boxed ((W.setCell ⟨w.heap.size, 0, none⟩ (.slice vp vn vc)).putObj D (.deferred none)) w.heap.size 33 (.slice vp vn vc) := (World.putObj_heap_other (Ne.symm hDn)).trans hv'
    have hc2 := hv2.cell
    refine ⟨by simp, .inl ⟨_, _, rfl, run_takeDeferred hK', ?_⟩⟩
    refine ⟨.tuple #[.slice vp vn vc, .int .i64 0], ?_, .slice vp vn vc, rfl, ownsRow_putObj hrow' _ hK' rfl, hB'.trans ⟨rfl, rfl, rfl, by simp, fun k hk => World.putObj_heap_other (by omega)⟩⟩
    rw [results_cell_tmp rfl]
    generalize (W.setCell ⟨w.heap.size, 0, none⟩ (.slice vp vn vc)).putObj D (.deferred none) = W' at hc2 ⊢
    have hld : (loadVar 33 ⟨w.heap.size, 0, none⟩).run Tryd.prog W' = .ok (.slice vp vn vc) W' := by go_simp
    have hau : (asAddr (.pointer (some ⟨w.heap.size, 0, none⟩))).run Tryd.prog W' = .ok ⟨w.heap.size, 0, none⟩ W' := rfl
    show ((Sem.run Tryd.prog (asAddr (.pointer (some ⟨w.heap.size, 0, none⟩))) W').andThen _) = _
    rw [hau]
    show ((Sem.run Tryd.prog (loadVar 33 ⟨w.heap.size, 0, none⟩) W').andThen _) = _
    rw [hld]
    rfl
end Go.Proofs.YtdpgebifeaakjaaDoor

/- Cover's refusals; the walk of Blocks. -/
namespace Go.Proofs.YtdpgebifeaakjaaDoor
set_option linter.unusedSimpArgs false
set_option linter.unusedVariables false
open Go.RowKit

set_option maxRecDepth 100000 in
set_option maxHeartbeats 1000000 in
theorem cover_bad (a b : Int) (h : a < 0 ∨ b < a ∨ 1099511627776 < b) (w : World) :
    Calls Tryd.prog 22 #[.int .i64 a, .int .i64 b] w fun e w' => e = .returned (.tuple #[.slice none 0 0, .int .i64 1]) ∧ Below w.heap.size w w' := by
  have hN : Boxed (w.alloc (.cells #[.slice none 0 0] 33)) w.heap.size 33 (.slice none 0 0) := Blk.new w #[.slice none 0 0] 33
  have hc := hN.cell
  have hld : (loadVar 33 ⟨w.heap.size, 0, none⟩).run Tryd.prog (w.alloc (.cells #[.slice none 0 0] 33)) = .ok (.slice none 0 0) (w.alloc (.cells #[.slice none 0 0] 33)) := by go_simp
  have hB : Below w.heap.size w (w.alloc (.cells #[.slice none 0 0] 33)) := (Below.refl _ w).alloc (Nat.le_refl _) _
  go_enter Tryd.func22, Tryd.ntmps22
  by_cases h0 : a < 0
  · clear h
    go_wp2_with fail
    exact ret_row_tmp rfl w.heap.size rfl rfl hld rfl ⟨rfl, hB⟩
  · by_cases h1 : b < a
    · clear h
      go_wp2_with fail
      exact ret_row_tmp rfl w.heap.size rfl rfl hld rfl ⟨rfl, hB⟩
    · have h2 : (1099511627776 : Int) < b := by omega
      clear h
      go_wp2_with fail
      exact ret_row_tmp rfl w.heap.size rfl rfl hld rfl ⟨rfl, hB⟩

theorem neq_block (a b c d : Int) (w : World) : (binOp .neq 106 (.agg #[.int .i64 a, .int .i64 b]) (.agg #[.int .i64 c, .int .i64 d])).run Tryd.prog w = .ok (.bool (!(a == c && b == d))) w := by
  have hf : Tryd.prog.fieldsOf 106 = #[{ name := "At", type := 3, offset := 0, embedded := false, tag := "", pkgPath := "", byteOffset := 0 }, { name := "Size", type := 3, offset := 1, embedded := false, tag := "", pkgPath := "", byteOffset := 8 }] := by
    simp [Program.fieldsOf, Tryd.underlying106]
  rw [run_neq_struct, run_equalIn_struct _ _ _ _ _ (by rw [hf]; exact Tryd.underlying106) Tryd.stoodInHeld106, hf]
  have p1 : ∀ (x y : Int) (w : World), (part 3 #[.int .i64 x, .int .i64 y] 0).run Tryd.prog w = .ok (.int .i64 x) w := fun _ _ _ => by kernel_rfl
  have p2 : ∀ (x y : Int) (w : World), (part 3 #[.int .i64 x, .int .i64 y] 1).run Tryd.prog w = .ok (.int .i64 y) w := fun _ _ _ => by kernel_rfl
  have q : ∀ (x y : Int) (w : World), (Op.equalIn 9999 3 (.int .i64 x) (.int .i64 y)).run Tryd.prog w = .ok (x == y) w := fun x y w => run_equalIn_int w 9998 3 .i64 _ x y Tryd.underlying3
  by_cases h1 : a = c
  · by_cases h2 : b = d
    · simp [Op.eqFields, p1, p2, q, h1, h2]
    · simp [Op.eqFields, p1, p2, q, h1, h2]
  · simp [Op.eqFields, p1, p2, q, h1]

theorem drewN_twice (w : World) (k n : Nat) : ∃ k', (w.drewN k).drewN n = w.drewN k' := by
  exact ⟨k + n, World.drewN_drewN w k n⟩

/-- A slice of blocks, as it lies. -/
def SlB (W : World) (u : Value) (l : List (Nat × Nat)) : Prop :=
  ∃ p c, u = .slice p l.length c ∧ ∀ j x, l[j]? = some x → ∃ g o, p = some ⟨g, o, none⟩ ∧ W.cell? ⟨g, o + j * 2, none⟩ = some (.int .i64 x.1) ∧ W.cell? ⟨g, o + j * 2 + 1, none⟩ = some (.int .i64 x.2)
set_option maxRecDepth 100000 in
set_option maxHeartbeats 1000000 in
theorem blocks_any (u v : Value) (l m : List (Nat × Nat)) (w : World) (hu : SlB w u l) (hv : SlB w v m) (hl : l.length ≤ 1099511627776) :
    Calls Tryd.prog 24 #[u, v] w fun e w' => e = .returned (.bool (decide (l = m))) ∧ ∃ k, w' = w.drewN k := by
  obtain ⟨p, c, rfl, hu⟩ := hu
  obtain ⟨q, d, rfl, hv⟩ := hv
  have HU := hide hu
  have HV := hide hv
  clear hu hv
  by_cases hlm : l.length = m.length
  · have hlm1 : (l.length : Int) = (m.length : Int) := by omega
    go_enter Tryd.func24, Tryd.ntmps24
    go_wp2_with fail
    go_loopw [5] (fun s5 W => ∃ j : Nat, j ≤ l.length ∧ s5 = .int .i64 j ∧ (∀ i, i < j → l[i]? = m[i]?) ∧ ∃ k, W = w.drewN k) (fun s5 _ => l.length - (intOf s5).toNat)
    case atStart => exact ⟨0, by omega, rfl, fun i hi => absurd hi (by omega), 0, rfl⟩
    case round =>
      obtain ⟨j, hj, rfl, hall, k, rfl⟩ := hrel
      have HALL := hide hall
      clear hall
      by_cases hjl : j < l.length
      · have hj1 : (j : Int) < (l.length : Int) := by omega
        have hj2 : (j : Int) < (m.length : Int) := by omega
        have hj3 : j < m.length := by omega
        obtain ⟨x, hx⟩ : ∃ x, l[j]? = some x := ⟨_, List.getElem?_eq_getElem hjl⟩
        obtain ⟨y, hy⟩ : ∃ y, m[j]? = some y := ⟨_, List.getElem?_eq_getElem hj3⟩
        obtain ⟨g, o, rfl, hx1, hx2⟩ := HU.out j x hx
        obtain ⟨g', o', rfl, hy1, hy2⟩ := HV.out j y hy
        have HX := hide hx
        have HY := hide hy
        clear hx hy
        go_wp2_with fail
        have hnb := neq_block x.1 x.2 y.1 y.2
        by_cases hxy : x = y
        · have hbb : (!((x.1 : Int) == (y.1 : Int) && (x.2 : Int) == (y.2 : Int))) = false := by rw [hxy]; simp
          rw [hbb] at hnb
          have HXY := hide hxy
          clear hxy hbb
          go_quiet (fail)
          have hw : ∃ k', (w.drewN k).drewN nq = w.drewN k' := drewN_twice w k nq
          obtain ⟨k', hk'⟩ := hw
          rw [hk']
          clear hk' hnb
          go_wp2_with fail
          refine ⟨⟨j + 1, by omega, by go_num, fun i hi => ?_, k', rfl⟩, by simp [intOf]; omega⟩
          by_cases e : i = j
          · rw [e, HX.out, HY.out, HXY.out]
          · exact HALL.out i (by omega)
        · have hbb : (!((x.1 : Int) == (y.1 : Int) && (x.2 : Int) == (y.2 : Int))) = true := by
            by_cases e : x.1 = y.1
            · have e2 : x.2 ≠ y.2 := fun e2 => hxy (Prod.ext e e2)
              simp [e, Int.ofNat_inj, e2]
            · simp [Int.ofNat_inj, e]
          rw [hbb] at hnb
          have hd : decide (l = m) = false := by
            rw [decide_eq_false_iff_not]
            intro e
            have h1 := HX.out
            rw [e, HY.out] at h1
            exact hxy (Option.some.inj h1).symm
          have HD := hide hd
          clear hxy hbb hd
          go_quiet (fail)
          have hw : ∃ k', (w.drewN k).drewN nq = w.drewN k' := drewN_twice w k nq
          obtain ⟨k', hk'⟩ := hw
          rw [hk']
          clear hk' hnb
          go_wp2_with fail
          go_ret
          exact ⟨by rw [HD.out]; rfl, k', rfl⟩
      · have hj1 : ¬ (j : Int) < (l.length : Int) := by omega
        have hd : decide (l = m) = true := by
          rw [decide_eq_true_iff]
          apply List.ext_getElem?
          intro i
          by_cases hi : i < j
          · exact HALL.out i hi
          · rw [List.getElem?_eq_none (by omega), List.getElem?_eq_none (by omega)]
        have HD := hide hd
        clear hd
        go_wp2_with fail
        go_ret
        exact ⟨by rw [HD.out]; rfl, k, rfl⟩
  · have hlm1 : ¬ (l.length : Int) = (m.length : Int) := by omega
    have hd : decide (l = m) = false := by
      rw [decide_eq_false_iff_not]
      exact fun e => hlm (by rw [e])
    have HD := hide hd
    clear hd
    go_enter Tryd.func24, Tryd.ntmps24
    go_wp2_with fail
    go_ret
    exact ⟨by rw [HD.out]; rfl, 0, rfl⟩
end Go.Proofs.YtdpgebifeaakjaaDoor

/- The blocks of a cover lie in its range. -/
namespace Go.Proofs.YtdpgebifeaakjaaDoor
set_option linter.unusedSimpArgs false
set_option linter.unusedVariables false

theorem coverF_mem : ∀ (f a b : Nat), b ≤ 1099511627776 → ∀ x, x ∈ coverF f a b → a ≤ x.1 ∧ 0 < x.2 ∧ x.1 + x.2 ≤ b
  | 0, a, b, _, x, hx => by rw [coverF] at hx; cases hx
  | f + 1, a, b, hb, x, hx => by
    rw [coverF] at hx
    by_cases h : a < b
    · rw [if_pos h, List.mem_cons] at hx
      have h1 := stepN_le a b h hb
      have h2 := stepN_pos a b
      rcases hx with rfl | hx
      · exact ⟨Nat.le_refl _, h2, by show a + stepN a b ≤ b; omega⟩
      · have := coverF_mem f (a + stepN a b) b hb x hx
        omega
    · rw [if_neg h] at hx; cases hx
theorem coverL_mem (a b : Nat) (hb : b ≤ 1099511627776) : ∀ x, x ∈ coverL a b → a ≤ x.1 ∧ 0 < x.2 ∧ x.1 + x.2 ≤ b := coverF_mem _ a b hb
end Go.Proofs.YtdpgebifeaakjaaDoor

/- A region that draws its order, in a round of a range over a function: its steps as outside of one. -/
namespace Go.Proofs.YtdpgebifeaakjaaDoor
set_option linter.unusedSimpArgs false
set_option linter.unusedVariables false

theorem rowsIn_round {l n : Nat} {P : Program} {row : String} {args : Array Value} {w : World} {R : Value → World → Prop} (h : Rows P row args w R) : RowsIn (Fence.wide.inRound l) n P row args w R := by
  intro c cs _
  obtain ⟨v, w', r, s⟩ := h c cs
  exact ⟨v, w', r, stepsIn_wide.2 s⟩
def noDefer (o : Oper) : Bool := match o.op with
  | .defer _ => false
  | _ => true
theorem noDefer_spec {o : Oper} (h : noDefer o = true) : ∀ c, o.op ≠ .defer c := by
  intro c e
  unfold noDefer at h
  rw [e] at h
  cases h
theorem operIn_of_wp {l n : Nat} {P : Program} {Q : Exit → Act → World → Prop} {o : Oper} {a : Act} {w : World} {K : Act → World → Prop} (hd : ∀ c, o.op ≠ .defer c) (h : o.wp P a w K Q) : o.wpIn (Fence.wide.inRound l) n P a w K Q := by
  refine ⟨fun f _ => trivial, ?_⟩
  unfold Oper.wp at h
  rw [Fence.inRound_round, Oper.semAt_some _ _ _ hd]
  generalize (execOp a.eval o).run P w = r at h ⊢
  cases r with
  | ok x w' =>
    cases x
    case value v => exact h
    case skip => exact h
    case defer d => exact h
    case enter f args => exact ⟨fun e => (by cases e), callsIn_wide.2 h⟩
    case row row args => exact ⟨fun e => (by cases e), rowsIn_round h⟩
    all_goals exact h.elim
  | halt x w' =>
    cases x
    case panic v => exact h
    all_goals exact h.elim
theorem wpOpsIn_of_wp {l n : Nat} {P : Program} {ops : Array Oper} {Q : Exit → Act → World → Prop} (hl : ¬ LetsOut Q) (hd : ∀ (i : Nat) (o : Oper), ops[i]? = some o → ∀ c, o.op ≠ .defer c) :
    ∀ (is : List Nat) (a : Act) (w : World), wpOps P ops Q is a w → wpOpsIn (Fence.wide.inRound l) n P ops Q is a w
  | [], a, w, h => h
  | i :: is, a, w, h => by
    unfold wpOps at h
    unfold wpOpsIn
    cases ho : ops[i]? with
    | none =>
      rw [ho] at h
      exact wpOpsIn_of_wp hl hd is a w h
    | some o =>
      rw [ho] at h
      dsimp only at h ⊢
      by_cases hw : Region.wanted o (yielded ops a.tmps) = true
      · rw [if_pos hw] at h ⊢
        rcases h with h | h
        · exact Oper.wpIn_mono (fun a w h => wpOpsIn_of_wp hl hd is a w h) (operIn_of_wp (hd i o ho) h)
        · exact absurd h.2 hl
      · rw [if_neg hw] at h ⊢
        exact ⟨fun f _ => trivial, wpOpsIn_of_wp hl hd is _ w h⟩
/-- A region that draws its order, in a round. -/
theorem wpIn_region_held_drew {l n : Nat} {P : Program} {ops : Array Oper} {Q : Exit → Act → World → Prop} {S : World → Prop} {id : Nat} {a : Act} {w : World} (hm : P.follows .mixedOrders = true) (hd : ops.all noDefer = true) (hl : ¬ LetsOut Q) (hS : S w.drew)
    (h : S w.drew → wpAnyH P .any ops Q S ops.size (Array.replicate ops.size false) a w.drew) : (Code.region id ops true).wpIn (Fence.wide.inRound l) n P Q a w := by
  refine wpIn_region_draw fun t => ?_
  refine wpOpsIn_of_wp hl (fun i o ho c => noDefer_spec (Array.all_eq_true_iff_forall_mem.1 hd o (Array.mem_of_getElem? ho)) c) _ _ _ ?_
  simp only [Region.schedule, hm, Bool.true_or, if_true]
  exact wpAny_sound ops.size t _ a _ (wpAny_of_held _ _ _ _ (h hS))
/-- A plain region in a round. -/
theorem wpIn_region_round {l n : Nat} {P : Program} {ops : List Oper} {Q : Exit → Act → World → Prop} {id : Nat} {a : Act} {w : World} (hd : ops.all noDefer = true) (hl : ¬ LetsOut Q)
    (h : wpList P ops.toArray Q ops a w) : (Code.region id ops.toArray false).wpIn (Fence.wide.inRound l) n P Q a w := by
  refine wpIn_region_lit ?_
  have aux : ∀ (os : List Oper) (a : Act) (w : World), os.all noDefer = true → wpList P ops.toArray Q os a w → wpListIn (Fence.wide.inRound l) n P ops.toArray Q os a w := by
    intro os
    induction os with
    | nil => exact fun a w _ h => h
    | cons o os ih =>
      intro a w hd h
      unfold wpList at h
      unfold wpListIn
      rw [List.all_cons, Bool.and_eq_true] at hd
      by_cases hw : Region.wanted o (yielded ops.toArray a.tmps) = true
      · rw [if_pos hw] at h ⊢
        rcases h with h | h
        · exact Oper.wpIn_mono (fun a w h => ih a w hd.2 h) (operIn_of_wp (noDefer_spec hd.1) h)
        · exact absurd h.2 hl
      · rw [if_neg hw] at h ⊢
        exact ⟨fun f _ => trivial, ih _ w hd.2 h⟩
  exact aux ops a w hd h
end Go.Proofs.YtdpgebifeaakjaaDoor

/- Counting ones: the parallel sum of a word's bits, and the number of blocks of a cover. -/
namespace Go.Proofs.YtdpgebifeaakjaaDoor
set_option linter.unusedSimpArgs false
set_option linter.unusedVariables false

/-- The number of ones among the last f bits. -/
def pcN : Nat → Nat → Nat
  | 0, _ => 0
  | f + 1, x => x % 2 + pcN f (x / 2)
theorem pcN_zero : ∀ f, pcN f 0 = 0
  | 0 => rfl
  | f + 1 => by rw [pcN, Nat.zero_div, pcN_zero f]
theorem pcN_split : ∀ (k f q r : Nat), r < 2 ^ k → pcN (k + f) (2 ^ k * q + r) = pcN k r + pcN f q
  | 0, f, q, r, h => by
    have : r = 0 := by simpa using h
    subst this
    simp [pcN]
  | k + 1, f, q, r, h => by
    rw [show k + 1 + f = (k + f) + 1 by omega, pcN, pcN]
    have e1 : (2 ^ (k + 1) * q + r) % 2 = r % 2 := by rw [Nat.pow_succ, Nat.mul_comm (2 ^ k) 2, Nat.mul_assoc]; omega
    have e2 : (2 ^ (k + 1) * q + r) / 2 = 2 ^ k * q + r / 2 := by rw [Nat.pow_succ, Nat.mul_comm (2 ^ k) 2, Nat.mul_assoc]; omega
    rw [e1, e2, pcN_split k f q (r / 2) (by rw [Nat.pow_succ] at h; omega)]
    omega
theorem and_split (a b c d : Nat) (hb : b < 256) (hd : d < 256) : (256 * a + b) &&& (256 * c + d) = 256 * (a &&& c) + (b &&& d) := by
  have hbd : b &&& d < 2 ^ 8 := Nat.lt_of_le_of_lt Nat.and_le_left hb
  apply Nat.eq_of_testBit_eq
  intro i
  rw [show (256 : Nat) = 2 ^ 8 from rfl, Nat.testBit_and, Nat.testBit_two_pow_mul_add _ hb, Nat.testBit_two_pow_mul_add _ hd, Nat.testBit_two_pow_mul_add _ hbd]
  split
  · rw [Nat.testBit_and]
  · rw [Nat.testBit_and]
/-- A number out of its bytes, the last one first. -/
def val : List Nat → Nat
  | [] => 0
  | r :: l => 256 * val l + r
/-- A mask of k equal bytes. -/
def mk8 (m : Nat) : Nat → Nat
  | 0 => 0
  | k + 1 => 256 * mk8 m k + m
theorem b55 : ∀ (u : Fin 2) (r : Fin 256), (128 * u.1 + r.1 / 2) &&& 85 = (r.1 / 2) &&& 85 := by decide +kernel
theorem b33 : ∀ (u : Fin 4) (r : Fin 256), (64 * u.1 + r.1 / 4) &&& 51 = (r.1 / 4) &&& 51 := by decide +kernel
theorem c8b : ∀ r : Fin 256, (((r.1 / 2) &&& 85) + (r.1 &&& 85) < 256) ∧ ((((((r.1 / 2) &&& 85) + (r.1 &&& 85)) / 4) &&& 51) + ((((r.1 / 2) &&& 85) + (r.1 &&& 85)) &&& 51)) / 16 ≤ 4 ∧ ((((((r.1 / 2) &&& 85) + (r.1 &&& 85)) / 4) &&& 51) + ((((r.1 / 2) &&& 85) + (r.1 &&& 85)) &&& 51)) % 16 ≤ 4 ∧
    ((((((r.1 / 2) &&& 85) + (r.1 &&& 85)) / 4) &&& 51) + ((((r.1 / 2) &&& 85) + (r.1 &&& 85)) &&& 51)) / 16 + ((((((r.1 / 2) &&& 85) + (r.1 &&& 85)) / 4) &&& 51) + ((((r.1 / 2) &&& 85) + (r.1 &&& 85)) &&& 51)) % 16 = pcN 8 r.1 := by decide +kernel
def s1 (r : Nat) : Nat := ((r / 2) &&& 85) + (r &&& 85)
def s2 (r : Nat) : Nat := ((r / 4) &&& 51) + (r &&& 51)
theorem val_s1 : ∀ l : List Nat, (∀ r ∈ l, r < 256) → (val l / 2 &&& mk8 85 l.length) + (val l &&& mk8 85 l.length) = val (l.map s1)
  | [], _ => rfl
  | r :: l, h => by
    have hr := h r (List.mem_cons_self ..)
    have ih := val_s1 l fun x hx => h x (List.mem_cons_of_mem _ hx)
    rw [List.length_cons, mk8, val, List.map_cons, val, ← ih]
    have e : (256 * val l + r) / 2 = 256 * (val l / 2) + (128 * (val l % 2) + r / 2) := by omega
    have b := b55 ⟨val l % 2, by omega⟩ ⟨r, hr⟩
    dsimp only at b
    rw [e, and_split _ _ _ _ (by omega) (by omega), and_split _ _ _ _ hr (by omega), b, s1]
    omega
theorem val_s2 : ∀ l : List Nat, (∀ r ∈ l, r < 256) → (val l / 4 &&& mk8 51 l.length) + (val l &&& mk8 51 l.length) = val (l.map s2)
  | [], _ => rfl
  | r :: l, h => by
    have hr := h r (List.mem_cons_self ..)
    have ih := val_s2 l fun x hx => h x (List.mem_cons_of_mem _ hx)
    rw [List.length_cons, mk8, val, List.map_cons, val, ← ih]
    have e : (256 * val l + r) / 4 = 256 * (val l / 4) + (64 * (val l % 4) + r / 4) := by omega
    have b := b33 ⟨val l % 4, by omega⟩ ⟨r, hr⟩
    dsimp only at b
    rw [e, and_split _ _ _ _ (by omega) (by omega), and_split _ _ _ _ hr (by omega), b, s2]
    omega
theorem val_mod (l : List Nat) (h : ∀ r ∈ l, r % 16 ≤ 4) : val l % 16 ≤ 4 := by
  cases l with
  | nil => simp [val]
  | cons r l =>
    have := h r (List.mem_cons_self ..)
    rw [val]; omega
theorem and15 (x : Nat) : x &&& 15 = x % 16 := Nat.and_two_pow_sub_one_eq_mod x 4
theorem val_s3 : ∀ l : List Nat, (∀ r ∈ l, r < 256 ∧ r / 16 ≤ 4 ∧ r % 16 ≤ 4) → (val l / 16 + val l) &&& mk8 15 l.length = val (l.map fun r => r / 16 + r % 16)
  | [], _ => rfl
  | r :: l, h => by
    have hr := h r (List.mem_cons_self ..)
    have ih := val_s3 l fun x hx => h x (List.mem_cons_of_mem _ hx)
    have hm := val_mod l fun x hx => (h x (List.mem_cons_of_mem _ hx)).2.2
    rw [List.length_cons, mk8, val, List.map_cons, val, ← ih]
    have e : (256 * val l + r) / 16 + (256 * val l + r) = 256 * (val l / 16 + val l) + (16 * (val l % 16) + r / 16 + r) := by omega
    rw [e, and_split _ _ _ _ (by omega) (by omega), and15]
    omega
def bytesN (x : Nat) : List Nat := [x % 256, x / 256 % 256, x / 65536 % 256, x / 16777216 % 256, x / 4294967296 % 256, x / 1099511627776 % 256, x / 281474976710656 % 256, x / 72057594037927936 % 256]
theorem val_bytes (x : Nat) (h : x < 18446744073709551616) : val (bytesN x) = x := by
  simp only [bytesN, val]; omega
theorem bytes_lt (x : Nat) : ∀ r ∈ bytesN x, r < 256 := by
  intro r hr
  simp only [bytesN, List.mem_cons, List.not_mem_nil, or_false] at hr
  omega
theorem pc_bytes : ∀ l : List Nat, (∀ r ∈ l, r < 256) → pcN (8 * l.length) (val l) = (l.map (pcN 8)).sum
  | [], _ => rfl
  | r :: l, h => by
    have hr := h r (List.mem_cons_self ..)
    rw [List.length_cons, val, List.map_cons, List.sum_cons, ← pc_bytes l fun x hx => h x (List.mem_cons_of_mem _ hx), show 8 * (l.length + 1) = 8 + 8 * l.length by omega, ← pcN_split 8 (8 * l.length) (val l) r hr]
set_option maxRecDepth 20000 in
theorem val_le : ∀ l : List Nat, (∀ r ∈ l, r < 256 ∧ r / 16 ≤ 4 ∧ r % 16 ≤ 4) → 255 * val l + 68 ≤ 68 * 256 ^ l.length
  | [], _ => by simp [val]
  | r :: l, h => by
    have h1 := val_le l fun x hx => h x (List.mem_cons_of_mem _ hx)
    have h2 := h r (List.mem_cons_self ..)
    rw [val, List.length_cons, Nat.pow_succ]
    have h3 : r ≤ 68 := by omega
    generalize 256 ^ l.length = q at *
    generalize val l = z at *
    clear h h2
    omega
theorem pc8 : ∀ r : Fin 256, pcN 8 r.1 ≤ 8 := by decide +kernel
/-- The parallel sum. -/
theorem swar (x y z t : Nat) (h : x < 18446744073709551616) (hy : y = (x / 2 &&& 6148914691236517205) + (x &&& 6148914691236517205)) (hz : z = (y / 4 &&& 3689348814741910323) + (y &&& 3689348814741910323)) (ht : t = (z / 16 + z) &&& 1085102592571150095) :
    ∃ u v : Nat, u = t + t / 256 ∧ v = u + u / 65536 ∧ (v + v / 4294967296) % 128 = pcN 64 x ∧ v + v / 4294967296 < 9223372036854775808 ∧ y < 18446744073709551616 ∧ z / 16 + z < 18446744073709551616 := by
  have hb := bytes_lt x
  have hl : (bytesN x).length = 8 := rfl
  have e1 := val_s1 (bytesN x) hb
  rw [hl, val_bytes x h, show mk8 85 8 = 6148914691236517205 from rfl, ← hy] at e1
  have hb1 : ∀ r ∈ (bytesN x).map s1, r < 256 := by
    intro r hr
    obtain ⟨r', h1, rfl⟩ := List.mem_map.1 hr
    exact (c8b ⟨r', hb r' h1⟩).1
  have e2 := val_s2 ((bytesN x).map s1) hb1
  rw [List.length_map, hl, ← e1, show mk8 51 8 = 3689348814741910323 from rfl, ← hz] at e2
  have hb2 : ∀ r ∈ ((bytesN x).map s1).map s2, r < 256 ∧ r / 16 ≤ 4 ∧ r % 16 ≤ 4 := by
    intro r hr
    obtain ⟨r1, h1, rfl⟩ := List.mem_map.1 hr
    obtain ⟨r', h2, rfl⟩ := List.mem_map.1 h1
    have c := c8b ⟨r', hb r' h2⟩
    have c2 := c.2.1
    have c3 := c.2.2.1
    show s2 (s1 r') < 256 ∧ s2 (s1 r') / 16 ≤ 4 ∧ s2 (s1 r') % 16 ≤ 4
    change s2 (s1 r') / 16 ≤ 4 at c2
    change s2 (s1 r') % 16 ≤ 4 at c3
    omega
  have e3 := val_s3 (((bytesN x).map s1).map s2) hb2
  rw [List.length_map, List.length_map, hl, ← e2, show mk8 15 8 = 1085102592571150095 from rfl, ← ht, List.map_map, List.map_map] at e3
  have e4 := pc_bytes (bytesN x) hb
  rw [hl, val_bytes x h] at e4
  have e5 : (bytesN x).map ((fun r => r / 16 + r % 16) ∘ s2 ∘ s1) = (bytesN x).map (pcN 8) := List.map_congr_left fun r hr => (c8b ⟨r, hb r hr⟩).2.2.2
  have e6 : (bytesN x).map (((fun r => r / 16 + r % 16) ∘ s2) ∘ s1) = (bytesN x).map (pcN 8) := e5
  have hle : ∀ r, r < 256 → pcN 8 r ≤ 8 := fun r hr => pc8 ⟨r, hr⟩
  refine ⟨_, _, rfl, rfl, ?_⟩
  have hy2 : y < 18446744073709551616 := by
    rw [e1]
    have : ∀ l : List Nat, (∀ r ∈ l, r < 256) → val l < 256 ^ l.length := by
      intro l
      induction l with
      | nil => intro _; simp [val]
      | cons r l ih =>
        intro h
        have := ih fun x hx => h x (List.mem_cons_of_mem _ hx)
        have := h r (List.mem_cons_self ..)
        rw [val, List.length_cons, Nat.pow_succ]
        omega
    have := this _ hb1
    rw [List.length_map, hl] at this
    exact this
  have hz2 : z / 16 + z < 18446744073709551616 := by
    have hlen : (((bytesN x).map s1).map s2).length = 8 := rfl
    rw [e2]
    have h2 := val_le _ hb2
    generalize ((bytesN x).map s1).map s2 = L2 at h2 hlen
    rw [hlen] at h2
    have h8 : (256 : Nat) ^ 8 = 18446744073709551616 := rfl
    rw [h8] at h2
    omega
  rw [e6] at e3
  rw [show 8 * 8 = 64 from rfl] at e4
  have q := fun r hr => hle r (hb r hr)
  have q0 := q (x % 256) (by simp [bytesN])
  have q1 := q (x / 256 % 256) (by simp [bytesN])
  have q2 := q (x / 65536 % 256) (by simp [bytesN])
  have q3 := q (x / 16777216 % 256) (by simp [bytesN])
  have q4 := q (x / 4294967296 % 256) (by simp [bytesN])
  have q5 := q (x / 1099511627776 % 256) (by simp [bytesN])
  have q6 := q (x / 281474976710656 % 256) (by simp [bytesN])
  have q7 := q (x / 72057594037927936 % 256) (by simp [bytesN])
  simp only [bytesN, List.map_cons, List.map_nil, val, List.sum_cons, List.sum_nil] at e3 e4
  clear q hb hb1 hb2 e1 e2 e5 e6 hy hz hl
  generalize pcN 8 (x % 256) = p0 at *
  generalize pcN 8 (x / 256 % 256) = p1 at *
  generalize pcN 8 (x / 65536 % 256) = p2 at *
  generalize pcN 8 (x / 16777216 % 256) = p3 at *
  generalize pcN 8 (x / 4294967296 % 256) = p4 at *
  generalize pcN 8 (x / 1099511627776 % 256) = p5 at *
  generalize pcN 8 (x / 281474976710656 % 256) = p6 at *
  generalize pcN 8 (x / 72057594037927936 % 256) = p7 at *
  rw [e4]
  clear e4 ht
  refine ⟨?_, ?_, hy2, hz2⟩
  · have d1 : t / 256 = 256 * (256 * (256 * (256 * (256 * (256 * p7 + p6) + p5) + p4) + p3) + p2) + p1 := by omega
    have d2 : t + t / 256 = 256 * (256 * (256 * (256 * (256 * (256 * (256 * p7 + (p6 + p7)) + (p5 + p6)) + (p4 + p5)) + (p3 + p4)) + (p2 + p3)) + (p1 + p2)) + (p0 + p1) := by omega
    clear d1
    generalize t + t / 256 = u at d2 ⊢
    have d3 : u / 65536 = 256 * (256 * (256 * (256 * (256 * p7 + (p6 + p7)) + (p5 + p6)) + (p4 + p5)) + (p3 + p4)) + (p2 + p3) := by omega
    have d4 : u + u / 65536 = 256 * (256 * (256 * (256 * (256 * (256 * (256 * p7 + (p6 + p7)) + (p5 + p6 + p7)) + (p4 + p5 + p6 + p7)) + (p3 + p4 + p5 + p6)) + (p2 + p3 + p4 + p5)) + (p1 + p2 + p3 + p4)) + (p0 + p1 + p2 + p3) := by omega
    clear d3
    generalize u + u / 65536 = v at d4 ⊢
    have d5 : v / 4294967296 = 256 * (256 * (256 * p7 + (p6 + p7)) + (p5 + p6 + p7)) + (p4 + p5 + p6 + p7) := by omega
    rw [d5, d4]
    omega
  · omega

theorem pc_top (k m f : Nat) (hk : k < f) (hm : m < 2 ^ k) : pcN f (2 ^ k + m) = 1 + pcN f m := by
  obtain ⟨g, rfl⟩ : ∃ g, f = k + (g + 1) := ⟨f - k - 1, by omega⟩
  have h1 := pcN_split k (g + 1) 1 m hm
  have h2 := pcN_split k (g + 1) 0 m hm
  rw [Nat.mul_one] at h1
  rw [Nat.mul_zero, Nat.zero_add] at h2
  rw [h1, h2, pcN, pcN, pcN_zero]
  omega
theorem ctz_ge (c j : Nat) (hc : 0 < c) (hc2 : c ≤ 1099511627776) (h : 2 ^ j ∣ c) : j ≤ Lib.ctz 64 c := by
  have hx : c < 2 ^ 64 := by have : (2:Nat) ^ 64 = 18446744073709551616 := rfl; omega
  obtain ⟨m, h1, h2⟩ := Lib.ctzFrom_spec 64 c hc hx
  rw [Lib.ctz, if_neg (by omega)]
  apply Classical.byContradiction
  intro hn
  obtain ⟨d, hd⟩ : ∃ d, j = Lib.ctzFrom 64 c + 1 + d := ⟨j - Lib.ctzFrom 64 c - 1, by omega⟩
  obtain ⟨e, he⟩ := h
  rw [hd, Nat.pow_add, Nat.pow_succ] at he
  have hp : 0 < 2 ^ Lib.ctzFrom 64 c := Nat.two_pow_pos _
  have h3 : 2 ^ Lib.ctzFrom 64 c * (2 * m + 1) = 2 ^ Lib.ctzFrom 64 c * (2 * (2 ^ d * e)) := by
    have : c = 2 ^ Lib.ctzFrom 64 c * (2 * (2 ^ d * e)) := by
      refine he.trans ?_
      simp only [Nat.mul_assoc]
    exact h1.symm.trans this
  have h4 := Nat.eq_of_mul_eq_mul_left hp h3
  omega
/-- A cover that begins where the bits of its length allow has a block for each of them. -/
theorem coverL_pc : ∀ (m a : Nat), a + m ≤ 1099511627776 → (a = 0 ∨ 2 ^ Lib.bitLen m ∣ a) → (coverL a (a + m)).length = pcN 64 m := by
  intro m
  induction m using Nat.strongRecOn with
  | ind m ih =>
    intro a hb ha
    by_cases hm : m = 0
    · subst hm
      rw [Nat.add_zero, coverL_nil (by omega), pcN_zero]
      rfl
    · have hlt : a < a + m := by omega
      have hd : a + m - a = m := by omega
      have hml : m < 2 ^ 64 := by have : (2:Nat) ^ 64 = 18446744073709551616 := rfl; omega
      obtain ⟨l1, l2, l3⟩ := bitLen_spec m (by omega) hml
      have l4 := bitLen_le m 41 (by omega) (Nat.lt_of_le_of_lt (show m ≤ 1099511627776 by omega) (by decide)) (by decide)
      have hst : stepN a (a + m) = 2 ^ (Lib.bitLen m - 1) := by
        unfold stepN
        rw [hd]
        split
        · rename_i h0
          rcases ha with ha | ha
          · omega
          · have hz := ctz_ge a _ h0 (by omega) ha
            exact Nat.min_eq_left (Nat.pow_le_pow_right (by decide) (by omega))
        · rfl
      obtain ⟨k, hk⟩ : ∃ k, Lib.bitLen m = k + 1 := ⟨Lib.bitLen m - 1, by omega⟩
      rw [hk, Nat.add_sub_cancel] at hst l2
      rw [hk] at l3 ha
      rw [Nat.pow_succ] at l3
      rw [coverL_cons hlt, hst, List.length_cons, show a + m = (a + 2 ^ k) + (m - 2 ^ k) by omega]
      have hp : 0 < 2 ^ k := Nat.two_pow_pos _
      have hdv : 2 ^ Lib.bitLen (m - 2 ^ k) ∣ a + 2 ^ k := by
        have hle : Lib.bitLen (m - 2 ^ k) ≤ k := by
          by_cases h0 : m - 2 ^ k = 0
          · rw [h0]; exact Nat.zero_le _
          · exact bitLen_le _ k (by omega) (by omega) (by omega)
        refine Nat.dvd_trans (Nat.pow_dvd_pow 2 hle) (Nat.dvd_add ?_ (Nat.dvd_refl _))
        rcases ha with ha | ha
        · subst ha; exact Nat.dvd_zero _
        · exact Nat.dvd_trans (Nat.pow_dvd_pow 2 (Nat.le_succ k)) ha
      rw [ih (m - 2 ^ k) (by omega) (a + 2 ^ k) (by omega) (.inr hdv)]
      have := pc_top k (m - 2 ^ k) 64 (by omega) (by omega)
      rw [show 2 ^ k + (m - 2 ^ k) = m by omega] at this
      omega
end Go.Proofs.YtdpgebifeaakjaaDoor

/- The walk of bits.OnesCount. -/
namespace Go.Proofs.YtdpgebifeaakjaaDoor
set_option linter.unusedSimpArgs false
set_option linter.unusedVariables false
open Go.RowKit

theorem shrN {n : Nat} (x : BitVec 64) : (x >>> n).toNat = x.toNat / 2 ^ n := by
  rw [BitVec.toNat_ushiftRight, Nat.shiftRight_eq_div_pow]
theorem addN (x y : BitVec 64) (h : x.toNat + y.toNat < 18446744073709551616) : (x + y).toNat = x.toNat + y.toNat := by
  rw [BitVec.toNat_add]; exact Nat.mod_eq_of_lt h
theorem step_a (k : Nat) (x m y : BitVec 64) (hy : (x >>> k &&& m) + (x &&& m) = y) (Y : Nat) (hY : Y = (x.toNat / 2 ^ k &&& m.toNat) + (x.toNat &&& m.toNat)) (h : Y < 18446744073709551616) : y.toNat = Y := by
  rw [← hy, addN, BitVec.toNat_and, BitVec.toNat_and, shrN, hY]
  rw [BitVec.toNat_and, BitVec.toNat_and, shrN, ← hY]
  exact h
theorem step_b (k : Nat) (x m y : BitVec 64) (hy : (x >>> k + x) &&& m = y) (Y : Nat) (hY : Y = (x.toNat / 2 ^ k + x.toNat) &&& m.toNat) (h : x.toNat / 2 ^ k + x.toNat < 18446744073709551616) : y.toNat = Y := by
  rw [← hy, BitVec.toNat_and, addN, shrN, hY]
  rw [shrN]
  exact h
theorem step_c (k : Nat) (x y : BitVec 64) (hy : x + x >>> k = y) (h : x.toNat + x.toNat / 2 ^ k < 18446744073709551616) : y.toNat = x.toNat + x.toNat / 2 ^ k := by
  rw [← hy, addN, shrN]
  rw [shrN]
  exact h
theorem ones_last (q : BitVec 64) (n : Nat) (h : q.toNat < 9223372036854775808) (e : q.toNat % 128 = n) : bits .and .i64 (wrap64 (n64 q)) 127 = (n : Int) := by
  have hw : wrap64 (n64 q) = (q.toNat : Int) := by
    show wrap64 (q.toNat : Int) = _
    unfold wrap64
    omega
  have hm := bits_mask .i64 63 (by decide) (fun n h h' => IntWalk.i64_in n (by omega)) 7 (by decide) (q.toNat : Int) (by omega) (by omega)
  have h7 : ((2 : Int) ^ 7) = 128 := by decide
  rw [h7] at hm
  rw [hw]
  refine hm.trans ?_
  omega
theorem ones_fin (x y z t u v q : BitVec 64) (hy : (x >>> 1 &&& 6148914691236517205#64) + (x &&& 6148914691236517205#64) = y) (hz : (y >>> 2 &&& 3689348814741910323#64) + (y &&& 3689348814741910323#64) = z)
    (ht : (z >>> 4 + z) &&& 1085102592571150095#64 = t) (hu : t + t >>> 8 = u) (hv : u + u >>> 16 = v) (hq : v + v >>> 32 = q) : bits .and .i64 (wrap64 (n64 q)) 127 = (pcN 64 x.toNat : Int) := by
  have hx : x.toNat < 18446744073709551616 := x.isLt
  obtain ⟨Y, hY⟩ : ∃ Y, Y = (x.toNat / 2 &&& 6148914691236517205) + (x.toNat &&& 6148914691236517205) := ⟨_, rfl⟩
  obtain ⟨Z, hZ⟩ : ∃ Z, Z = (Y / 4 &&& 3689348814741910323) + (Y &&& 3689348814741910323) := ⟨_, rfl⟩
  obtain ⟨T, hT⟩ : ∃ T, T = (Z / 16 + Z) &&& 1085102592571150095 := ⟨_, rfl⟩
  obtain ⟨u', v', eu, ev, e1, e2, e3, e4⟩ := swar x.toNat Y Z T hx hY hZ hT
  have y' : y.toNat = Y := step_a 1 x _ y hy Y hY e3
  have hZ1 : Z = (y.toNat / 2 ^ 2 &&& (3689348814741910323#64).toNat) + (y.toNat &&& (3689348814741910323#64).toNat) := by rw [y']; exact hZ
  have z' : z.toNat = Z := step_a 2 y _ z hz Z hZ1 (by omega)
  have hT1 : T = (z.toNat / 2 ^ 4 + z.toNat) &&& (1085102592571150095#64).toNat := by rw [z']; exact hT
  have t' : t.toNat = T := step_b 4 z _ t ht T hT1 (by rw [z']; exact e4)
  clear hY hZ hT hZ1 hT1 e3 e4 hx hy hz ht y' z'
  have u2 := step_c 8 t u hu
  rw [t'] at u2
  have u3 : u.toNat = u' := by rw [u2, eu]; omega
  have v2 := step_c 16 u v hv
  rw [u3] at v2
  have v3 : v.toNat = v' := by rw [v2, ev]; omega
  have q2 := step_c 32 v q hq
  rw [v3] at q2
  have q3 : q.toNat = v' + v' / 4294967296 := by rw [q2]; omega
  exact ones_last q _ (by omega) (by rw [q3]; exact e1)
set_option maxHeartbeats 1000000 in
set_option maxRecDepth 20000 in
theorem ones64_any (x : BitVec 64) (w : World) :
    Calls Tryd.prog 132 #[U64 x] w fun e w' => e = .returned (.int .i64 (pcN 64 x.toNat : Int)) ∧ w' = w := by
  go_enter Tryd.func132, Tryd.ntmps132
  go_upto_region 2 with (fail)
  obtain ⟨y, hy⟩ : ∃ y, (x >>> 1 &&& 6148914691236517205#64) + (x &&& 6148914691236517205#64) = y := ⟨_, rfl⟩
  rw [hy]
  have HY := hide hy
  clear hy
  go_upto_region 3 with (fail)
  obtain ⟨z, hz⟩ : ∃ z, (y >>> 2 &&& 3689348814741910323#64) + (y &&& 3689348814741910323#64) = z := ⟨_, rfl⟩
  rw [hz]
  have HZ := hide hz
  clear hz
  go_upto_region 4 with (fail)
  obtain ⟨t, ht⟩ : ∃ t, (z >>> 4 + z) &&& 1085102592571150095#64 = t := ⟨_, rfl⟩
  rw [ht]
  have HT := hide ht
  clear ht
  go_upto_region 5 with (fail)
  obtain ⟨u, hu⟩ : ∃ u, t + t >>> 8 = u := ⟨_, rfl⟩
  rw [hu]
  have HU := hide hu
  clear hu
  go_upto_region 6 with (fail)
  obtain ⟨v, hv⟩ : ∃ v, u + u >>> 16 = v := ⟨_, rfl⟩
  rw [hv]
  have HV := hide hv
  clear hv
  go_upto_region 7 with (fail)
  obtain ⟨q, hq⟩ : ∃ q, v + v >>> 32 = q := ⟨_, rfl⟩
  rw [hq]
  have HQ := hide hq
  clear hq
  go_wp2_with fail
  go_ret
  refine ⟨congrArg Ending.returned ?_, rfl⟩
  show Value.int .i64 (bits .and .i64 (wrap64 (n64 q)) 127) = _
  exact congrArg (Value.int .i64) (ones_fin x y z t u v q HY.out HZ.out HT.out HU.out HV.out HQ.out)
set_option maxHeartbeats 1000000 in
set_option maxRecDepth 20000 in
theorem ones_any (n : Nat) (hn : n < 18446744073709551616) (w : World) :
    Calls Tryd.prog 118 #[.int .u64 (n : Int)] w fun e w' => e = .returned (.int .i64 (pcN 64 n : Int)) ∧ w' = w := by
  have c := ones64_any (BitVec.ofNat 64 n) w
  have e : (BitVec.ofNat 64 n).toNat = n := by rw [BitVec.toNat_ofNat]; exact Nat.mod_eq_of_lt hn
  have e2 : U64 (BitVec.ofNat 64 n) = .int .u64 (n : Int) := by
    show Value.int .u64 ((BitVec.ofNat 64 n).toNat : Int) = _
    rw [e]
  rw [e, e2] at c
  clear e e2
  go_enter Tryd.func118, Tryd.ntmps118
  go_wp2_with fail
  refine c.mono ?_
  rintro e w' ⟨rfl, rfl⟩
  go_wp2_with fail
  go_ret
  exact ⟨rfl, rfl⟩
end Go.Proofs.YtdpgebifeaakjaaDoor

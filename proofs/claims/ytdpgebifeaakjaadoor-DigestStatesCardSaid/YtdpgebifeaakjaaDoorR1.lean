/- A range over an iterator that counts in a cell of its own: the contract, and the law for a body that always goes on. -/
import Derived.Test.YtdpgebifeaakjaaDoorB2
import Derived.RangeFuncNested
import Derived.RangeFuncBound
import Derived.RangeFuncCalls
import Derived.RangeFuncLeaves
import Derived.Shelf.Abstract
import Derived.OwnWalkIn
import Derived.TacticsInMore
import Derived.LoopNIn
import Derived.LoopIn
namespace Go.Proofs.YtdpgebifeaakjaaDoor
set_option linter.unusedSimpArgs false
set_option linter.unusedVariables false
open Go.RowKit

variable {F : Fence} {n : Nat} {P : Program}

/-- Blocks of the set lie as they lay. -/
def KeepsB (K : Nat → Prop) (W W' : World) : Prop := ∀ k, K k → W'.heap[k]? = W.heap[k]?
theorem KeepsB.refl (K : Nat → Prop) (W : World) : KeepsB K W W := fun _ _ => rfl
theorem KeepsB.trans {K : Nat → Prop} {A B C : World} (h : KeepsB K A B) (k : KeepsB K B C) : KeepsB K A C := fun i hi => (k i hi).trans (h i hi)

/-- The iterator, at captured values lb, hands on xs, in its order; its own counter lies in block Ba; the blocks K must be kept by each round. -/
def SeqC {α : Type} (F : Fence) (n : Nat) (P : Program) (gf : Nat) (lb : Array Value) (encs : α → Array Value) (Ba : Nat) (K : Nat → Prop) (xs : List α) (w : World) : Prop :=
  ∀ (l : Nat) (J : List α → World → Prop) (W : World), Below w.heap.size w W → (∀ s W v, J s W → J s (W.setCell ⟨Ba, 0, none⟩ v)) →
    (∀ pre x W1, J pre W1 → (∃ post, xs = pre ++ x :: post) → YieldAt F (n - 1) P l (encs x) W1 fun e W' => e = .returned (.bool true) ∧ J (pre ++ [x]) W' ∧ KeepsB K W1 W') →
    J [] W →
    CallsIn F n P gf (#[.func (.yield l) #[] #[]] ++ lb) W fun e W' => (∃ v, e = .returned v) ∧ J xs W'

/-- What a step of the loop's own may turn: the iterator's counter; what is no cells, from B on. -/
structure OwnC {β : Type} (B Ba : Nat) (I : β → World → Prop) : Prop where
  own : OwnFrom B I
  set : ∀ s W v, I s W → I s (W.setCell ⟨Ba, 0, none⟩ v)

theorem OwnC.putObj {β : Type} {B Ba : Nat} {I : β → World → Prop} (h : OwnC B Ba I) {s : β} {W : World} {l : Nat} {o : Obj} (o' : Obj) (hs : I s W) (hB : B ≤ l) (hl : W.heap[l]? = some o) (ho : o.isCells = false) : I s (W.putObj l o') :=
  h.own.putObj o' hs hB hl ho
theorem OwnC.alloc {β : Type} {B Ba : Nat} {I : β → World → Prop} (h : OwnC B Ba I) {s : β} {W : World} (o : Obj) (hs : I s W) : I s (W.alloc o) := h.own.alloc o hs
theorem grownBy_setCell (W : World) (a : Addr) (v : Value) : W.grownBy (W.setCell a v) (some a.block) :=
  ⟨rfl, rfl, rfl, by simp [World.setCell], fun k _ hk => Below.heap_setCell _ _ _ _ (fun e => hk (by rw [e]))⟩
theorem OwnC.setCell {β : Type} {B Ba : Nat} {I : β → World → Prop} (h : OwnC B Ba I) {s : β} {W : World} (v : Value) (hs : I s W) : I s (W.setCell ⟨Ba, 0, none⟩ v) := h.set s W v hs

/-- How the body of a round ends: it goes on. -/
def onPost {α : Type} (B : Nat) (K : Nat → Prop) (I : List α → World → Prop) (xs : List α) (W : World) : Exit → Act → World → Prop
  | .normal, _, W' => KeepsFrom B W W' ∧ KeepsB K W W' ∧ I xs W'
  | _, _, _ => False

theorem wpIn_rangeC {α : Type} {g : Operand} {ps : Array Tmp} {assign body : Code} {Q : Exit → Act → World → Prop} {a : Act} {w : World}
    (hro : F.round = none) (h1 : 1 ≤ n) {gf : Nat} {lb : Array Value} (hg : a.eval g = .func (.func gf) #[] lb) (hFg : F.fn gf) (eg : ∀ args w, (callFunc gf args).run P w = .ok (.enter gf args) w)
    {encs : α → Array Value} {Ba : Nat} {K : Nat → Prop} {xs : List α} (hseq : SeqC F (n - 1) P gf lb encs Ba K xs w) (hBa : Ba < w.heap.size) (hK : ∀ k, K k → k < w.heap.size)
    (hps : ∀ x, (encs x).size = ps.size)
    (I : List α → World → Prop) (hI : OwnC w.heap.size Ba I) (h0 : I [] w) (Ax : α → Act → World → Prop) (hAx : ∀ x a', OwnC w.heap.size Ba (fun (_ : Unit) W => Ax x a' W))
    (hassign : ∀ (l : Nat) (pre : List α) (x : α) (W : World) (C : Act → World → Prop), I pre W → (∃ post, xs = pre ++ x :: post) →
      (∀ a' W', KeepsFrom w.heap.size W W' → KeepsB K W W' → I pre W' → Ax x a' W' → C a' W') →
      assign.wpIn (F.inRound l) (n - 1 - 1) P (Exit.then C (fun _ _ _ => False)) { tmps := (ps.zip (encs x)).foldl (fun t (p, v) => t.setIfInBounds p v) a.tmps, defers := [] } W)
    (hbody : ∀ (l : Nat) (pre : List α) (x : α) (a' : Act) (W : World), I pre W → Ax x a' W → (∃ post, xs = pre ++ x :: post) →
      body.wpIn (F.inRound l) (n - 1 - 1) P (onPost w.heap.size K I (pre ++ [x]) W) a' W)
    (hdone : ∀ (D : Nat) (W : World), w.heap.size ≤ D → I xs W → W.heap[D]? = some (.deferred (some [])) → Q .normal { a with defers := { target := .collected D, args := #[] } :: a.defers } W) :
    (Code.rangeFunc g ps assign body).wpIn F n P Q a w := by
  refine wpIn_rangeFunc fun fn hfn => ?_
  rw [hro]
  obtain ⟨rec, hrec⟩ : ∃ rec : LoopState → Option Code → Loop, rec = fun st pe => { state := st, pending := pe, fn, tmps := a.tmps, params := ps, assign, body, defers := w.heap.size } := ⟨_, rfl⟩
  obtain ⟨W1, hW1⟩ : ∃ W1, (w.alloc (.deferred (some []))).alloc (.loop (rec .ready none)) = W1 := ⟨_, rfl⟩
  have hL1 : W1.heap[w.heap.size + 1]? = some (.loop (rec .ready none)) := by
    rw [← hW1]; have := World.alloc_heap_new (w.alloc (.deferred (some []))) (.loop (rec .ready none)); rwa [World.size_alloc] at this
  have hD1 : W1.heap[w.heap.size]? = some (.deferred (some [])) := by
    rw [← hW1]; exact (Below.heap_alloc _ _ _ (by simp)).trans (World.alloc_heap_new w _)
  have hI1 : I [] W1 := by rw [← hW1]; exact hI.alloc _ (hI.alloc _ h0)
  have hb1 : Below w.heap.size w W1 := by
    rw [← hW1]; exact ((Below.refl _ w).alloc (Nat.le_refl _) _).alloc (by simp) _
  have other : ∀ (W : World) (k : Nat), w.heap.size ≤ k → ∀ v, (W.setCell ⟨Ba, 0, none⟩ v).heap[k]? = W.heap[k]? := fun W k hk v => Below.heap_setCell _ _ _ _ (by simp; omega)
  have hKb : ∀ (W : World) (o' : Obj), KeepsB K W (W.putObj (w.heap.size + 1) o') := fun W o' k hk => World.putObj_heap_other (by have := hK k hk; omega)
  refine ⟨w.heap.size + 1, [{ target := .collected w.heap.size, args := #[] }], W1, { target := .fn (.func gf) lb, args := #[.func (.yield (w.heap.size + 1)) #[] #[]] }, W1, gf,
    #[.func (.yield (w.heap.size + 1)) #[] #[]] ++ lb, W1, ?_, ?_, ?_, ?_, fun _ => h1, ?_⟩
  · rw [← hW1, hrec]; exact run_enterLoop_outer _ _ _ _ _
  · simp only [resolve, hg]
    simp [go_sem]
  · intro f' hf'; simp [Target.leads] at hf'; subst hf'; exact hFg
  · simp [invoke, go_sem, eg]
  refine (hseq (w.heap.size + 1)
    (fun pre W => I pre W ∧ W.heap[w.heap.size + 1]? = some (.loop (rec .ready none)) ∧ W.heap[w.heap.size]? = some (.deferred (some [])))
    W1 hb1 (fun s W v hs => ⟨hI.setCell v hs.1, (other W _ (by omega) v).trans hs.2.1, (other W _ (Nat.le_refl _) v).trans hs.2.2⟩) ?_ ⟨hI1, hL1, hD1⟩).mono ?_
  · rintro pre x W ⟨hi, hl, hk⟩ hx
    have hy := run_yield (P := P) (args := encs x) hl (by rw [hrec]; exact hps x)
    rw [hrec] at hy
    refine ⟨fn, _, assign, body, hy, roundIn_of_wpIn hfn (hassign _ pre x W _ hi hx ?_)⟩
    clear hy
    intro a' Wa hkf hkk hia hax
    have hl' := hkf.same _ _ (by omega) hl rfl
    have hk' := hkf.same _ _ (Nat.le_refl _) hk rfl
    have hlt : w.heap.size + 1 < Wa.heap.size := (Array.getElem?_eq_some_iff.1 hl').1
    refine ⟨_, run_beginRound hl' (by rw [hrec]), ?_⟩
    obtain ⟨Wb, hWb⟩ : ∃ Wb, Wa.putObj (w.heap.size + 1) (.loop { rec .ready none with state := .busy }) = Wb := ⟨_, rfl⟩
    rw [hWb]
    have hlb : Wb.heap[w.heap.size + 1]? = some (.loop { rec .ready none with state := .busy }) := by rw [← hWb]; exact World.putObj_heap_same hlt
    have hkb : Wb.heap[w.heap.size]? = some (.deferred (some [])) := by rw [← hWb]; exact (World.putObj_heap_other (by omega)).trans hk'
    have hib : I pre Wb := by rw [← hWb]; exact hI.putObj _ hia (by omega) hl' rfl
    have haxb : Ax x a' Wb := by rw [← hWb]; exact (hAx x a').putObj (s := ()) _ hax (by omega) hl' rfl
    have hkkb : KeepsB K W Wb := by rw [← hWb]; exact hkk.trans (hKb _ _)
    refine wpIn_mono (hbody _ pre x a' Wb hib haxb hx) ?_
    rintro e a3 W3 hp
    cases e with
    | normal =>
      obtain ⟨hk3, hkk3, hi3⟩ := hp
      have hl3 := hk3.same _ _ (by omega) hlb rfl
      have hd3 := hk3.same _ _ (Nat.le_refl _) hkb rfl
      have hr := run_endRound (P := P) none hl3
      rw [hrec] at hr
      refine ⟨_, _, hr, rfl, ⟨hI.putObj _ hi3 (by omega) hl3 rfl, ?_, (World.putObj_heap_other (by omega)).trans hd3⟩, (hkkb.trans hkk3).trans (hKb _ _)⟩
      rw [World.putObj_heap_same (Array.getElem?_eq_some_iff.1 hl3).1, hrec]
      rfl
    | ret => exact hp.elim
    | exit id => exact hp.elim
    | goto t => exact hp.elim
    | panic ch => exact hp.elim
    | outgrown => exact hp.elim
  · rintro e W2 ⟨⟨v, rfl⟩, hi, hl, hk⟩
    have hr := run_endLoop (P := P) hl (by rw [hrec]; simp)
    have hpe : (rec .ready none).pending = none := by rw [hrec]
    rw [hpe] at hr
    exact ⟨none, _, hr, hdone _ _ (Nat.le_refl _) (hI.putObj _ hi (by omega) hl rfl) ((World.putObj_heap_other (by omega)).trans hk)⟩
end Go.Proofs.YtdpgebifeaakjaaDoor

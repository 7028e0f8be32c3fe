/- A range over an iterator whose body may panic: the laws. -/
import Derived.Test.YtdpgebifeaakjaaDoorME
namespace Go.Proofs.YtdpgebifeaakjaaDoor
set_option linter.unusedSimpArgs false
set_option linter.unusedVariables false
open Go.RowKit

variable {F : Fence} {n : Nat} {P : Program}

/-- How a round may be left: off its end, or by a panic. -/
def roundPostP (P : Program) (l : Nat) (R : Ending → World → Prop) : Exit → Act → World → Prop
  | .normal, _, w => ∃ v w', (Instr.endRound l none).run P w = .ok v w' ∧ R (.returned v) w'
  | .panic chain, a, w => a.defers = [] ∧ R (.panicked chain) w
  | _, _, _ => False

theorem roundIn_of_wpInP {l : Nat} {f : FuncId} {tmps : Array Value} {assign body : Code} {w : World} {R : Ending → World → Prop} (hF : F.fn f) (hfn : ∃ fn, P.funcs[f]? = some fn)
    (h : assign.wpIn (F.inRound l) n P (Exit.then (fun a₁ w₁ => ∃ w₂, (Instr.beginRound l).run P w₁ = .ok () w₂ ∧ body.wpIn (F.inRound l) n P (roundPostP P l R) a₁ w₂) (fun _ _ _ => False))
      { tmps := tmps, defers := [] } w) :
    RoundIn F n P l f tmps assign body w R := by
  refine ⟨hF, fun c cs hr => ?_⟩
  let b : Frame := { (default : Frame) with fn := f, kind := .normal, roundOf := some l }
  have hb0 : Frame.round l f tmps assign body .normal = b.atR { tmps := tmps, defers := [] } [.code assign, .beginRound, .code body] := by
    simp [Frame.round, Frame.atR, b]
  have hr' : (F.inRound l).room ((c :: cs).length + 1 + n) := hr
  have hF' : (F.inRound l).fn b.fn := hF
  obtain ⟨e, a₁, w₁, hq, harr⟩ := h b [.beginRound, .code body] (c :: cs) rfl hF' hr'
  rw [← hb0] at harr
  cases e with
  | normal =>
    obtain ⟨w₂, hbr, hbody⟩ := hq
    have s1 : StepsIn (Machine.fenced P (F.inRound l)) P (lone (b.atR a₁ [.beginRound, .code body]) (c :: cs) w₁) (lone (b.atR a₁ [.code body]) (c :: cs) w₂) :=
      .one (fenced_calm (fr := b.atR a₁ [.beginRound, .code body]) hF' hr' rfl) (stepR_beginRound rfl hbr)
    obtain ⟨e₂, a₂, w₃, hq₂, harr₂⟩ := hbody b [] (c :: cs) rfl hF' hr'
    cases e₂ with
    | normal =>
      obtain ⟨v, w₄, hend, hR⟩ := hq₂
      exact ⟨.returned v, w₄, hR, (StepsIn.trans harr s1).trans (StepsIn.trans harr₂ (.one (fenced_calm (fr := b.atR a₂ []) hF' hr' rfl) (stepR_round_end rfl rfl hend)))⟩
    | panic chain =>
      obtain ⟨hd, hR⟩ := hq₂
      obtain ⟨todo, hs⟩ := harr₂
      have hl : ({ b.atR a₂ todo with mode := .panicking chain } : Frame).leaving P w₃ (.panicked chain) := ⟨rfl, hd, hfn⟩
      refine ⟨.panicked chain, w₃, hR, (StepsIn.trans harr s1).trans (StepsIn.trans hs (.one ?_ (step_leave_panicked hl)))⟩
      exact fenced_leaving (F := F.inRound l) (fr := { b.atR a₂ todo with mode := .panicking chain }) hF' hr' hl
    | ret => exact hq₂.elim
    | exit id => exact hq₂.elim
    | goto t => exact hq₂.elim
    | outgrown => exact hq₂.elim
  | exit id => exact hq.elim
  | goto t => exact hq.elim
  | ret => exact hq.elim
  | panic chain => exact hq.elim
  | outgrown => exact hq.elim

/-- As SeqC; a round may panic with ch, and then so does the iterator: Jp holds then. -/
def SeqP {α : Type} (F : Fence) (n : Nat) (P : Program) (gf : Nat) (lb : Array Value) (encs : α → Array Value) (Ba : Nat) (K : Nat → Prop) (ch : List PanicEntry) (xs : List α) (w : World) : Prop :=
  ∀ (l : Nat) (J : List α → World → Prop) (Jp : World → Prop) (W : World), Below w.heap.size w W → (∀ s W v, J s W → J s (W.setCell ⟨Ba, 0, none⟩ v)) →
    (∀ pre x W1, J pre W1 → (∃ post, xs = pre ++ x :: post) → YieldAt F (n - 1) P l (encs x) W1 fun e W' => e = .returned (.bool true) ∧ J (pre ++ [x]) W' ∧ KeepsB K W1 W' ∨ e = .panicked ch ∧ Jp W') →
    J [] W →
    CallsIn F n P gf (#[.func (.yield l) #[] #[]] ++ lb) W fun e W' => (∃ v, e = .returned v) ∧ J xs W' ∨ e = .panicked ch ∧ Jp W'

/-- How the body of a round ends: it goes on, or panics. -/
def onPostP {α : Type} (B : Nat) (K : Nat → Prop) (I : List α → World → Prop) (ch : List PanicEntry) (Ip : World → Prop) (xs : List α) (W : World) : Exit → Act → World → Prop
  | .normal, _, W' => KeepsFrom B W W' ∧ KeepsB K W W' ∧ I xs W'
  | .panic c, a, W' => a.defers = [] ∧ c = ch ∧ KeepsFrom B W W' ∧ Ip W'
  | _, _, _ => False

theorem wpIn_rangeCP {α : Type} {g : Operand} {ps : Array Tmp} {assign body : Code} {Q : Exit → Act → World → Prop} {a : Act} {w : World}
    (hro : F.round = none) (h1 : 1 ≤ n) {gf : Nat} {lb : Array Value} (hg : a.eval g = .func (.func gf) #[] lb) (hFg : F.fn gf) (eg : ∀ args w, (callFunc gf args).run P w = .ok (.enter gf args) w)
    {encs : α → Array Value} {Ba : Nat} {K : Nat → Prop} {ch : List PanicEntry} {xs : List α} (hseq : SeqP F (n - 1) P gf lb encs Ba K ch xs w) (hBa : Ba < w.heap.size) (hK : ∀ k, K k → k < w.heap.size)
    (hps : ∀ x, (encs x).size = ps.size) (hfunc : ∀ fn, F.fn fn → ∃ f, P.funcs[fn]? = some f)
    (I : List α → World → Prop) (hI : OwnC w.heap.size Ba I) (h0 : I [] w) (Ip : World → Prop) (Ax : α → Act → World → Prop) (hAx : ∀ x a', OwnC w.heap.size Ba (fun (_ : Unit) W => Ax x a' W))
    (hassign : ∀ (l : Nat) (pre : List α) (x : α) (W : World) (C : Act → World → Prop), I pre W → (∃ post, xs = pre ++ x :: post) →
      (∀ a' W', KeepsFrom w.heap.size W W' → KeepsB K W W' → I pre W' → Ax x a' W' → C a' W') →
      assign.wpIn (F.inRound l) (n - 1 - 1) P (Exit.then C (fun _ _ _ => False)) { tmps := (ps.zip (encs x)).foldl (fun t (p, v) => t.setIfInBounds p v) a.tmps, defers := [] } W)
    (hbody : ∀ (l : Nat) (pre : List α) (x : α) (a' : Act) (W : World), I pre W → Ax x a' W → (∃ post, xs = pre ++ x :: post) →
      body.wpIn (F.inRound l) (n - 1 - 1) P (onPostP w.heap.size K I ch Ip (pre ++ [x]) W) a' W)
    (hdone : ∀ (D : Nat) (W : World), w.heap.size ≤ D → I xs W → W.heap[D]? = some (.deferred (some [])) → Q .normal { a with defers := { target := .collected D, args := #[] } :: a.defers } W)
    (hpanic : ∀ (D : Nat) (W : World), w.heap.size ≤ D → Ip W → W.heap[D]? = some (.deferred (some [])) → Q (.panic ch) { a with defers := { target := .collected D, args := #[] } :: a.defers } W) :
    (Code.rangeFunc g ps assign body).wpIn F n P Q a w := by
  refine wpIn_rangeFunc fun fn hfn => ?_
  rw [hro]
  obtain ⟨rec1, hrec⟩ : ∃ rec1 : LoopState → Option Code → Loop, rec1 = fun st pe => { state := st, pending := pe, fn, tmps := a.tmps, params := ps, assign, body, defers := w.heap.size } := ⟨_, rfl⟩
  obtain ⟨W1, hW1⟩ : ∃ W1, (w.alloc (.deferred (some []))).alloc (.loop (rec1 .ready none)) = W1 := ⟨_, rfl⟩
  have hL1 : W1.heap[w.heap.size + 1]? = some (.loop (rec1 .ready none)) := by
    rw [← hW1]; have := World.alloc_heap_new (w.alloc (.deferred (some []))) (.loop (rec1 .ready none)); rwa [World.size_alloc] at this
  have hD1 : W1.heap[w.heap.size]? = some (.deferred (some [])) := by
    rw [← hW1]; exact (Below.heap_alloc _ _ _ (by simp)).trans (World.alloc_heap_new w _)
  have hI1 : I [] W1 := by rw [← hW1]; exact hI.alloc _ (hI.alloc _ h0)
  have hb1 : Below w.heap.size w W1 := by
    rw [← hW1]; exact ((Below.refl _ w).alloc (Nat.le_refl _) _).alloc (by simp) _
  have other : ∀ (W : World) (k : Nat), w.heap.size ≤ k → ∀ v, (W.setCell ⟨Ba, 0, none⟩ v).heap[k]? = W.heap[k]? := fun W k hk v => Below.heap_setCell _ _ _ _ (by simp; omega)
  have hKb : ∀ (W : World) (o' : Obj), KeepsB K W (W.putObj (w.heap.size + 1) o') := fun W o' k hk => World.putObj_heap_other (by have := hK k hk; omega)
  refine ⟨w.heap.size + 1, [{ target := .collected w.heap.size, args := #[] }], W1, { target := .fn (.func gf) lb, args := #[.func (.yield (w.heap.size + 1)) #[] #[]] }, W1, gf,
    #[.func (.yield (w.heap.size + 1)) #[] #[]] ++ lb, W1, ?_, ?_, ?_, ?_, fun _ => h1, ?_⟩
  · rw [← hW1, hrec]; exact run_enterLoop_outer _ _ _ _ _
  · simp only [resolve, hg]
    simp [go_sem]
  · intro f' hf'; simp [Target.leads] at hf'; subst hf'; exact hFg
  · simp [invoke, go_sem, eg]
  refine (hseq (w.heap.size + 1)
    (fun pre W => I pre W ∧ W.heap[w.heap.size + 1]? = some (.loop (rec1 .ready none)) ∧ W.heap[w.heap.size]? = some (.deferred (some [])))
    (fun W => Ip W ∧ W.heap[w.heap.size]? = some (.deferred (some [])))
    W1 hb1 (fun s W v hs => ⟨hI.setCell v hs.1, (other W _ (by omega) v).trans hs.2.1, (other W _ (Nat.le_refl _) v).trans hs.2.2⟩) ?_ ⟨hI1, hL1, hD1⟩).mono ?_
  · rintro pre x W ⟨hi, hl, hk⟩ hx
    have hy := run_yield (P := P) (args := encs x) hl (by rw [hrec]; exact hps x)
    rw [hrec] at hy
    refine ⟨fn, _, assign, body, hy, roundIn_of_wpInP hfn (hfunc fn hfn) (hassign _ pre x W _ hi hx ?_)⟩
    clear hy
    intro a' Wa hkf hkk hia hax
    have hl' := hkf.same _ _ (by omega) hl rfl
    have hk' := hkf.same _ _ (Nat.le_refl _) hk rfl
    have hlt : w.heap.size + 1 < Wa.heap.size := (Array.getElem?_eq_some_iff.1 hl').1
    refine ⟨_, run_beginRound hl' (by rw [hrec]), ?_⟩
    obtain ⟨Wb, hWb⟩ : ∃ Wb, Wa.putObj (w.heap.size + 1) (.loop { rec1 .ready none with state := .busy }) = Wb := ⟨_, rfl⟩
    rw [hWb]
    have hlb : Wb.heap[w.heap.size + 1]? = some (.loop { rec1 .ready none with state := .busy }) := by rw [← hWb]; exact World.putObj_heap_same hlt
    have hkb : Wb.heap[w.heap.size]? = some (.deferred (some [])) := by rw [← hWb]; exact (World.putObj_heap_other (by omega)).trans hk'
    have hib : I pre Wb := by rw [← hWb]; exact hI.putObj _ hia (by omega) hl' rfl
    have haxb : Ax x a' Wb := by rw [← hWb]; exact (hAx x a').putObj (s := ()) _ hax (by omega) hl' rfl
    have hkkb : KeepsB K W Wb := by rw [← hWb]; exact hkk.trans (hKb _ _)
    refine wpIn_mono (hbody _ pre x a' Wb hib haxb hx) ?_
    rintro e a3 W3 hp
    cases e with
    | normal =>
      obtain ⟨hk3, hkk3, hi3⟩ := hp
      have hl3 := hk3.same _ _ (by omega) hlb rfl
      have hd3 := hk3.same _ _ (Nat.le_refl _) hkb rfl
      have hr := run_endRound (P := P) none hl3
      rw [hrec] at hr
      refine ⟨_, _, hr, .inl ⟨rfl, ⟨hI.putObj _ hi3 (by omega) hl3 rfl, ?_, (World.putObj_heap_other (by omega)).trans hd3⟩, (hkkb.trans hkk3).trans (hKb _ _)⟩⟩
      rw [World.putObj_heap_same (Array.getElem?_eq_some_iff.1 hl3).1, hrec]
      rfl
    | panic c =>
      obtain ⟨hd, rfl, hk3, hip⟩ := hp
      exact ⟨hd, .inr ⟨rfl, hip, hk3.same _ _ (Nat.le_refl _) hkb rfl⟩⟩
    | ret => exact hp.elim
    | exit id => exact hp.elim
    | goto t => exact hp.elim
    | outgrown => exact hp.elim
  · rintro e W2 (⟨⟨v, rfl⟩, hi, hl, hk⟩ | ⟨rfl, hip, hk⟩)
    · have hr := run_endLoop (P := P) hl (by rw [hrec]; simp)
      have hpe : (rec1 .ready none).pending = none := by rw [hrec]
      rw [hpe] at hr
      exact ⟨none, _, hr, hdone _ _ (Nat.le_refl _) (hI.putObj _ hi (by omega) hl rfl) ((World.putObj_heap_other (by omega)).trans hk)⟩
    · exact hpanic _ _ (Nat.le_refl _) hip hk
end Go.Proofs.YtdpgebifeaakjaaDoor

/- A range over an iterator whose body may panic: the law for one function. -/
import Derived.Test.YtdpgebifeaakjaaDoorPL
namespace Go.Proofs.YtdpgebifeaakjaaDoor
set_option linter.unusedSimpArgs false
set_option linter.unusedVariables false
open Go.RowKit

variable {n : Nat} {P : Program}

/-- As wpIn, in frames of the function f alone. -/
def wpAt (P : Program) (f : FuncId) (c : Code) (Q : Exit → Act → World → Prop) (a : Act) (w : World) : Prop :=
  ∀ (b : Frame) (k : List Item) (cs : List Frame), b.roundOf = none → b.fn = f → ∃ e a' w', Q e a' w' ∧ ArrivesIn (Machine.fenced P Fence.wide) P (lone (b.atR a (.code c :: k)) cs w) b k cs e a' w'
theorem wpAt_of_wpIn {f : FuncId} {c : Code} {Q : Exit → Act → World → Prop} {a : Act} {w : World} (h : c.wpIn Fence.wide n P Q a w) : wpAt P f c Q a w :=
  fun b k cs hro _ => h b k cs hro trivial (room_wide _)
theorem fwide (m : Machine) : m.fenced P Fence.wide := fenced_wide P m
theorem wpAt_seq {f : FuncId} {x y : Code} {Q : Exit → Act → World → Prop} {a : Act} {w : World} (h : x.wpIn Fence.wide n P (Exit.then (wpAt P f y Q) Q) a w) : wpAt P f (Code.seq x y) Q a w := by
  intro b k cs hro hb
  obtain ⟨e, a₁, w₁, hq, harr⟩ := h b (.code y :: k) cs hro trivial (room_wide _)
  cases e with
  | normal =>
    obtain ⟨e₂, a₂, w₂, hq₂, harr₂⟩ := hq b k cs hro hb
    exact ⟨e₂, a₂, w₂, hq₂, .of_steps (.head (fwide _) stepR_seq harr) harr₂⟩
  | _ => exact ⟨_, a₁, w₁, hq, .of_steps (.one (fwide _) stepR_seq) (.pass (x := .code y) rfl (fun _ _ => .inl (by simp)) harr)⟩
/-- A block that is left off its end, or by a panic. -/
theorem wpAt_block {f : FuncId} {id : Nat} {c : Code} {Q : Exit → Act → World → Prop} {a : Act} {w : World} (h : wpAt P f c (fun e a w => match e with | .normal => Q .normal a w | .panic ch => Q (.panic ch) a w | _ => False) a w) : wpAt P f (Code.block id c) Q a w := by
  intro b k cs hro hb
  obtain ⟨e, a₁, w₁, hq, harr⟩ := h b (.inBlock id :: k) cs hro hb
  cases e with
  | normal => exact ⟨.normal, a₁, w₁, hq, .head (fwide _) stepR_block (StepsIn.trans harr (.one (fwide _) stepR_inBlock))⟩
  | panic ch => exact ⟨.panic ch, a₁, w₁, hq, by obtain ⟨todo, hs⟩ := harr; exact ⟨todo, .head (fwide _) stepR_block hs⟩⟩
  | exit id' => exact hq.elim
  | goto l => exact hq.elim
  | ret => exact hq.elim
  | outgrown => exact hq.elim
theorem calls_of_wpAt {f : FuncId} {fn : Func} {c : Code} {args : Array Value} {w : World} {R : Ending → World → Prop} (hf : P.funcs[f]? = some fn) (hb : fn.body = some c)
    (h : wpAt P f c (bodyPostM Fence.wide n P fn R) { tmps := args ++ Array.replicate (fn.ntmps - args.size) undef, defers := [] } w) : Calls P f args w R := by
  refine callsIn_wide (n := n).1 ⟨trivial, fun cs hr => ?_⟩
  let b : Frame := { (default : Frame) with fn := f, kind := .normal, roundOf := none }
  have henter : Frame.enter P f args .normal = b.atR { tmps := args ++ Array.replicate (fn.ntmps - args.size) undef, defers := [] } [.code c] := by
    simp [Frame.enter, Frame.atR, hf, hb, b]
  obtain ⟨e, a', w', hq, harr⟩ := h b [] cs rfl rfl
  rw [← henter] at harr
  have leave : ∀ (m : FrameMode) (todo : List Item) (hs : StepsIn (Machine.fenced P Fence.wide) P (lone (Frame.enter P f args .normal) cs w) (lone { b.atR a' todo with mode := m } cs w')) (hq : LeavesInM Fence.wide n P fn a'.tmps R a'.defers m w'), ∃ e w'' fr, R e w'' ∧ ComesIn (Machine.fenced P Fence.wide) P (lone (Frame.enter P f args .normal) cs w) (lone fr cs w'') e ∧ fr.fn = f ∧ fr.leaving P w'' e := by
    intro m todo hs hq
    obtain ⟨e', w'', fr', hR, hs2, hfn, hl⟩ := leaves_stepsInM a'.defers m w' { b.atR a' todo with mode := m } cs rfl rfl rfl hf rfl (trivial : Fence.wide.fn f) (room_wide _) hq
    exact ⟨e', w'', fr', hR, ComesIn.of_steps hs hs2, hfn, hl⟩
  cases e with
  | normal => exact leave .returning [] (StepsIn.trans harr (.one (fwide _) (stepR_end rfl))) hq
  | ret =>
    obtain ⟨todo, hs₀⟩ := harr.1 rfl
    exact leave .returning todo hs₀ hq
  | panic chain =>
    obtain ⟨todo, hs₀⟩ := harr
    exact leave (.panicking chain) todo hs₀ hq
  | exit id => exact hq.elim
  | goto l => exact hq.elim
  | outgrown => exact ⟨.outgrown, w', b, hq, harr.resolve_left (by simp [b]), rfl, trivial⟩
/-- The statement. -/
theorem wpAt_rangeFunc {f : FuncId} {g : Operand} {ps : Array Tmp} {assign body : Code} {Q : Exit → Act → World → Prop} {a : Act} {w : World}
    (h : ∃ (l : Nat) (mark : List Deferred) (w₁ : World) (d : Deferred) (w₁' : World) (q : FuncId) (args : Array Value) (w₂ : World),
      (Instr.enterLoop f a.tmps ps assign body none).run P w = .ok (l, mark) w₁ ∧ (resolve a.eval (rangeCall g l) 0).run P w₁ = .ok d w₁' ∧ (invoke d.target d.args).run P w₁' = .ok (.enter q args) w₂ ∧
      Calls P q args w₂ fun e w₃ => match e with
        | .returned _ => ∃ w₄, (Instr.endLoop l).run P w₃ = .ok none w₄ ∧ Q .normal { a with defers := mark ++ a.defers } w₄
        | .panicked ch => Q (.panic ch) { a with defers := mark ++ a.defers } w₃
        | .outgrown => False) : wpAt P f (Code.rangeFunc g ps assign body) Q a w := by
  intro b k cs hro hb
  subst hb
  obtain ⟨l, mark, w₁, d, w₁', q, args, w₂, he, hres, hinv, hcall⟩ := h
  rw [← hro] at he
  have henter := stepR_rangeFunc (P := P) (b := b) (a := a) (k := k) (cs := cs) (w := w) he hres hinv
  obtain ⟨e, w₃, fr, hR, hsteps, _, hleave⟩ := hcall (b.atR { a with defers := mark ++ a.defers } (.inRangeFunc l :: k) :: cs)
  cases e with
  | outgrown => exact hR.elim
  | returned v =>
    obtain ⟨w₄, hend, hj⟩ := hR
    have back := step_leave_returned (c := b.atR { a with defers := mark ++ a.defers } (.inRangeFunc l :: k)) (cs := cs) hleave
    rw [finish_atR_inRangeFunc] at back
    exact ⟨.normal, _, w₄, hj, .head (fwide _) henter (StepsIn.trans (stepsIn_wide.2 hsteps) (.head (fwide _) back (.one (fwide _) (stepR_endRangeFunc hend))))⟩
  | panicked ch =>
    have back := step_leave_panicked (c := b.atR { a with defers := mark ++ a.defers } (.inRangeFunc l :: k)) (cs := cs) hleave
    rw [Frame.raise_atR] at back
    exact ⟨.panic ch, _, w₃, hR, .inRangeFunc l :: k, .head (fwide _) henter (StepsIn.trans (stepsIn_wide.2 hsteps) (.one (fwide _) back))⟩
theorem wpAt_rangeCP {fn : FuncId} {α : Type} {g : Operand} {ps : Array Tmp} {assign body : Code} {Q : Exit → Act → World → Prop} {a : Act} {w : World}
    (h1 : 1 ≤ n) {gf : Nat} {lb : Array Value} (hg : a.eval g = .func (.func gf) #[] lb) (eg : ∀ args w, (callFunc gf args).run P w = .ok (.enter gf args) w)
    {encs : α → Array Value} {Ba : Nat} {K : Nat → Prop} {ch : List PanicEntry} {xs : List α} (hseq : SeqP Fence.wide (n - 1) P gf lb encs Ba K ch xs w) (hBa : Ba < w.heap.size) (hK : ∀ k, K k → k < w.heap.size)
    (hps : ∀ x, (encs x).size = ps.size) (hfunc : ∃ f, P.funcs[fn]? = some f)
    (I : List α → World → Prop) (hI : OwnC w.heap.size Ba I) (h0 : I [] w) (Ip : World → Prop) (Ax : α → Act → World → Prop) (hAx : ∀ x a', OwnC w.heap.size Ba (fun (_ : Unit) W => Ax x a' W))
    (hassign : ∀ (l : Nat) (pre : List α) (x : α) (W : World) (C : Act → World → Prop), I pre W → (∃ post, xs = pre ++ x :: post) →
      (∀ a' W', KeepsFrom w.heap.size W W' → KeepsB K W W' → I pre W' → Ax x a' W' → C a' W') →
      assign.wpIn (Fence.wide.inRound l) (n - 1 - 1) P (Exit.then C (fun _ _ _ => False)) { tmps := (ps.zip (encs x)).foldl (fun t (p, v) => t.setIfInBounds p v) a.tmps, defers := [] } W)
    (hbody : ∀ (l : Nat) (pre : List α) (x : α) (a' : Act) (W : World), I pre W → Ax x a' W → (∃ post, xs = pre ++ x :: post) →
      body.wpIn (Fence.wide.inRound l) (n - 1 - 1) P (onPostP w.heap.size K I ch Ip (pre ++ [x]) W) a' W)
    (hdone : ∀ (D : Nat) (W : World), w.heap.size ≤ D → I xs W → W.heap[D]? = some (.deferred (some [])) → Q .normal { a with defers := { target := .collected D, args := #[] } :: a.defers } W)
    (hpanic : ∀ (D : Nat) (W : World), w.heap.size ≤ D → Ip W → W.heap[D]? = some (.deferred (some [])) → Q (.panic ch) { a with defers := { target := .collected D, args := #[] } :: a.defers } W) :
    wpAt P fn (Code.rangeFunc g ps assign body) Q a w := by
  refine wpAt_rangeFunc ?_
  obtain ⟨rec1, hrec⟩ : ∃ rec1 : LoopState → Option Code → Loop, rec1 = fun st pe => { state := st, pending := pe, fn, tmps := a.tmps, params := ps, assign, body, defers := w.heap.size } := ⟨_, rfl⟩
  obtain ⟨W1, hW1⟩ : ∃ W1, (w.alloc (.deferred (some []))).alloc (.loop (rec1 .ready none)) = W1 := ⟨_, rfl⟩
  have hL1 : W1.heap[w.heap.size + 1]? = some (.loop (rec1 .ready none)) := by
    rw [← hW1]; have := World.alloc_heap_new (w.alloc (.deferred (some []))) (.loop (rec1 .ready none)); rwa [World.size_alloc] at this
  have hD1 : W1.heap[w.heap.size]? = some (.deferred (some [])) := by
    rw [← hW1]; exact (Below.heap_alloc _ _ _ (by simp)).trans (World.alloc_heap_new w _)
  have hI1 : I [] W1 := by rw [← hW1]; exact hI.alloc _ (hI.alloc _ h0)
  have hb1 : Below w.heap.size w W1 := by
    rw [← hW1]; exact ((Below.refl _ w).alloc (Nat.le_refl _) _).alloc (by simp) _
  have other : ∀ (W : World) (k : Nat), w.heap.size ≤ k → ∀ v, (W.setCell ⟨Ba, 0, none⟩ v).heap[k]? = W.heap[k]? := fun W k hk v => Below.heap_setCell _ _ _ _ (by simp; omega)
  have hKb : ∀ (W : World) (o' : Obj), KeepsB K W (W.putObj (w.heap.size + 1) o') := fun W o' k hk => World.putObj_heap_other (by have := hK k hk; omega)
  refine ⟨w.heap.size + 1, [{ target := .collected w.heap.size, args := #[] }], W1, { target := .fn (.func gf) lb, args := #[.func (.yield (w.heap.size + 1)) #[] #[]] }, W1, gf,
    #[.func (.yield (w.heap.size + 1)) #[] #[]] ++ lb, W1, ?_, ?_, ?_, ?_⟩
  · rw [← hW1, hrec]; exact run_enterLoop_outer _ _ _ _ _
  · simp only [resolve, hg]
    simp [go_sem]
  · simp [invoke, go_sem, eg]
  refine callsIn_wide.1 ((hseq (w.heap.size + 1)
    (fun pre W => I pre W ∧ W.heap[w.heap.size + 1]? = some (.loop (rec1 .ready none)) ∧ W.heap[w.heap.size]? = some (.deferred (some [])))
    (fun W => Ip W ∧ W.heap[w.heap.size]? = some (.deferred (some [])))
    W1 hb1 (fun s W v hs => ⟨hI.setCell v hs.1, (other W _ (by omega) v).trans hs.2.1, (other W _ (Nat.le_refl _) v).trans hs.2.2⟩) ?_ ⟨hI1, hL1, hD1⟩).mono ?_)
  · rintro pre x W ⟨hi, hl, hk⟩ hx
    have hy := run_yield (P := P) (args := encs x) hl (by rw [hrec]; exact hps x)
    rw [hrec] at hy
    refine ⟨fn, _, assign, body, hy, roundIn_of_wpInP trivial hfunc (hassign _ pre x W _ hi hx ?_)⟩
    clear hy
    intro a' Wa hkf hkk hia hax
    have hl' := hkf.same _ _ (by omega) hl rfl
    have hk' := hkf.same _ _ (Nat.le_refl _) hk rfl
    have hlt : w.heap.size + 1 < Wa.heap.size := (Array.getElem?_eq_some_iff.1 hl').1
    refine ⟨_, run_beginRound hl' (by rw [hrec]), ?_⟩
    obtain ⟨Wb, hWb⟩ : ∃ Wb, Wa.putObj (w.heap.size + 1) (.loop { rec1 .ready none with state := .busy }) = Wb := ⟨_, rfl⟩
    rw [hWb]
    have hlb : Wb.heap[w.heap.size + 1]? = some (.loop { rec1 .ready none with state := .busy }) := by rw [← hWb]; exact World.putObj_heap_same hlt
    have hkb : Wb.heap[w.heap.size]? = some (.deferred (some [])) := by rw [← hWb]; exact (World.putObj_heap_other (by omega)).trans hk'
    have hib : I pre Wb := by rw [← hWb]; exact hI.putObj _ hia (by omega) hl' rfl
    have haxb : Ax x a' Wb := by rw [← hWb]; exact (hAx x a').putObj (s := ()) _ hax (by omega) hl' rfl
    have hkkb : KeepsB K W Wb := by rw [← hWb]; exact hkk.trans (hKb _ _)
    refine wpIn_mono (hbody _ pre x a' Wb hib haxb hx) ?_
    rintro e a3 W3 hp
    cases e with
    | normal =>
      obtain ⟨hk3, hkk3, hi3⟩ := hp
      have hl3 := hk3.same _ _ (by omega) hlb rfl
      have hd3 := hk3.same _ _ (Nat.le_refl _) hkb rfl
      have hr := run_endRound (P := P) none hl3
      rw [hrec] at hr
      refine ⟨_, _, hr, .inl ⟨rfl, ⟨hI.putObj _ hi3 (by omega) hl3 rfl, ?_, (World.putObj_heap_other (by omega)).trans hd3⟩, (hkkb.trans hkk3).trans (hKb _ _)⟩⟩
      rw [World.putObj_heap_same (Array.getElem?_eq_some_iff.1 hl3).1, hrec]
      rfl
    | panic c =>
      obtain ⟨hd, rfl, hk3, hip⟩ := hp
      exact ⟨hd, .inr ⟨rfl, hip, hk3.same _ _ (Nat.le_refl _) hkb rfl⟩⟩
    | ret => exact hp.elim
    | exit id => exact hp.elim
    | goto t => exact hp.elim
    | outgrown => exact hp.elim
  · rintro e W2 (⟨⟨v, rfl⟩, hi, hl, hk⟩ | ⟨rfl, hip, hk⟩)
    · have hr := run_endLoop (P := P) hl (by rw [hrec]; simp)
      have hpe : (rec1 .ready none).pending = none := by rw [hrec]
      rw [hpe] at hr
      exact ⟨_, hr, hdone _ _ (Nat.le_refl _) (hI.putObj _ hi (by omega) hl rfl) ((World.putObj_heap_other (by omega)).trans hk)⟩
    · exact hpanic _ _ (Nat.le_refl _) hip hk
end Go.Proofs.YtdpgebifeaakjaaDoor

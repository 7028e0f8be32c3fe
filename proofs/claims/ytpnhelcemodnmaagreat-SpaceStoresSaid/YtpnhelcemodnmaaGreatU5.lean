/- Texts put together for one claim: part 5. -/
import Derived.BigQuiet
import Derived.DeepKeys
import Derived.Laws.Cells
import Derived.Deep.CutRange
import Derived.Test.YtpnhelcemodnmaaGreatU4
namespace Go.Proofs.YtpnhelcemodnmaaGreat
open Go.RowKit Go.Shelf Go.Proofs.YtpnhelcemodnmaaGreatW.PrintWords Go.Proofs.YtpnhelcemodnmaaGreatW.PrintLast Go.Proofs.YtpnhelcemodnmaaGreatW.PrintMore PA
set_option linter.unusedVariables false
set_option linter.unusedSimpArgs false
attribute [local go_sem] Oper.semAt_some
def offV (t : Value) (q : Nat) : Prop := some q ≠ t.ownBlock
def offT (b : Nat) (t : Value) (q : Nat) : Prop := offV t q ∧ off5 b q
theorem EndM.below {w0 w w' : World} {b g : Nat} {sp : Array Value} {pg : List S89} {l : List S64} {X : Nat → Prop} (h : EndM w0 b g sp pg l X w) (hg : b ≤ g) (hb : Below w.heap.size w w') : EndM w0 b g sp pg l X w' := by
  obtain ⟨P, hN, hA, hE, hB, hS, hq⟩ := h
  exact ⟨P, Kd.N_below hN hb, hA.below hb, hE.below hb, hB.trans (hb.mono (by omega)), Nat.le_trans hS hb.size, hq⟩
theorem EndM.x {w0 w : World} {b g : Nat} {sp : Array Value} {pg : List S89} {l : List S64} {X X' : Nat → Prop} (h : EndM w0 b g sp pg l X w) (hX : ∀ k, X k → k < w.heap.size → X' k) : EndM w0 b g sp pg l X' w := by
  obtain ⟨P, hN, hA, hE, hB, hS, hq⟩ := h
  obtain ⟨A, c, h1, h2, h3⟩ := hA
  exact ⟨P, Kd.N_mono (Kd.N_bound hN) (fun k hk => ⟨hk.1.1, hX k hk.1.2 hk.2⟩), ⟨A, c, h1, h2, Kd.F_mono (Kd.F_bound h3) (fun k hk => ⟨hk.1.1, hX k hk.1.2 hk.2⟩)⟩, hE, hB, hS, hq⟩
theorem EndM.grown {w0 w w' : World} {b g : Nat} {sp : Array Value} {pg : List S89} {l : List S64} {t t' : Value} (h : EndM w0 b g sp pg l (offT b t) w) (hbg : b + 5 ≤ g) (ht : ∀ k, t.ownBlock = some k → b + 5 ≤ k ∧ k ≠ g) (hg : w.grownBy w' t.ownBlock) (hat : t'.ownBlock = t.ownBlock ∨ ∃ b, t'.ownBlock = some b ∧ w.heap.size ≤ b) (hbw : Below (b + 5) w w') : EndM w0 b g sp pg l (offT b t') w' := by
  obtain ⟨P, hN, hA, hE, hB, hS, hq⟩ := h
  obtain ⟨A, c, h1, h2, h3⟩ := hA
  refine ⟨P, Kd.N_mono (Kd.N_after (ok := fun k => k ≠ g ∧ off5 b k) (Kd.N_mono hN (fun k hk => ⟨⟨hk.1, hk.2.2⟩, hk.2.1⟩)) hg hat) (fun k hk => ⟨hk.1.1, hk.2, hk.1.2⟩), ⟨A, c, (hg.block g (by omega) (fun e => (ht g e.symm).2 rfl)).trans h1, h2, Kd.F_mono (Kd.F_after (ok := fun k => okA g P k ∧ off5 b k) (Kd.F_mono h3 (fun k hk => ⟨⟨hk.1, hk.2.2⟩, hk.2.1⟩)) hg hat) (fun k hk => ⟨hk.1.1, hk.2, hk.1.2⟩)⟩, hE.keep (fun k _ hk hlt => hg.block k hlt (fun e => by have := (ht k e.symm).1; omega)), hB.trans (hbw.mono (by omega)), Nat.le_trans hS hg.size, hq⟩
theorem takeStep_cases {l l' : List S64} {n n' : Nat} {p : Int} (h : takeStep l n = some (p, l', n')) : (∃ q qs t, l = ⟨0, q :: qs⟩ :: t ∧ p = q ∧ l' = restL qs t ∧ n' = n) ∨ ((l = [] ∨ (rd_T64 l 0).f0 ≠ 0) ∧ n < 4096 ∧ p = n ∧ l' = l ∧ n' = n + 1) := by
  rcases l with _ | ⟨⟨v, _ | ⟨q, qs⟩⟩, t⟩
  · rw [takeStep] at h
    split at h
    · next hm =>
      obtain ⟨rfl, rfl, rfl⟩ : (n : Int) = p ∧ [] = l' ∧ n + 1 = n' := by simpa using h
      exact .inr ⟨.inl rfl, hm, rfl, rfl, rfl⟩
    · simp at h
  · rw [takeStep] at h
    split at h
    · simp at h
    · next hv =>
      split at h
      · next hm =>
        obtain ⟨rfl, rfl, rfl⟩ : (n : Int) = p ∧ ⟨v, []⟩ :: t = l' ∧ n + 1 = n' := by simpa using h
        exact .inr ⟨.inr hv, hm, rfl, rfl, rfl⟩
      · simp at h
  · rw [takeStep] at h
    split at h
    · next hv =>
      obtain ⟨rfl, rfl, rfl⟩ : q = p ∧ restL qs t = l' ∧ n = n' := by simpa using h
      exact .inl ⟨q, qs, t, by rw [hv], rfl, rfl, rfl⟩
    · next hv =>
      split at h
      · next hm =>
        obtain ⟨rfl, rfl, rfl⟩ : (n : Int) = p ∧ ⟨v, q :: qs⟩ :: t = l' ∧ n + 1 = n' := by simpa using h
        exact .inr ⟨.inr hv, hm, rfl, rfl, rfl⟩
      · simp at h
theorem takeStep_keeps {l l' : List S64} {n n' : Nat} {p : Int} (h : takeStep l n = some (p, l', n')) (hf : formP 4096 l) (hs : smallL l) : formP 4096 l' ∧ smallL l' ∧ n ≤ n' ∧ (n ≤ 4096 → n' ≤ 4096) := by
  rcases takeStep_cases h with ⟨q, qs, t, rfl, rfl, rfl, rfl⟩ | ⟨_, hm, rfl, rfl, rfl⟩
  · exact ⟨rest_form hf rfl, rest_small hs, Nat.le_refl _, id⟩
  · exact ⟨hf, hs, by omega, fun _ => by omega⟩
theorem pages_grow {pg : List S89} {n n' : Nat} (h : pg.length ≤ n) (h2 : n ≤ n') : (pg ++ List.replicate (n - pg.length) z89).length = n ∧ (pg ++ List.replicate (n - pg.length) z89) ++ List.replicate (n' - n) z89 = pg ++ List.replicate (n' - pg.length) z89 := by
  refine ⟨by simp; omega, ?_⟩
  rw [List.append_assoc, List.replicate_append_replicate]
  congr 2
  omega
theorem R_off {w w' : World} {base g : Nat} {v : Value} {l : List Int} (h : (Kd.int .i64).R 3 w base (fun q => q ≠ g) v l) (hk : ∀ k, k < w.heap.size → k ≠ g → ¬ offV v k → w'.heap[k]? = w.heap[k]?) : (Kd.int .i64).R 3 w' base (fun q => q ≠ g) v l := by
  have h0 := h.1
  refine Kd.R_mono (Kd.R_step (Kd.R_tight rfl h) (fun k ho hlt => hk k hlt (h0 k ho.symm) (fun hx => hx ho))) (fun k ho => h0 k ho.symm)
theorem take_any {w0 : World} {b g : Nat} {sp : Array Value} {pg : List S89} {l l' : List S64} {X : Nat → Prop} {p : Int} {n' : Nat} (w : World) (h : EndM w0 b g sp pg l X w) (hbg : b + 5 ≤ g) (hX : ∀ k, w.heap.size ≤ k → X k) (hst : takeStep l pg.length = some (p, l', n')) (hf : fullL l) (hs : smallL l) :
    Calls Tryz.prog 54 #[.pointer (some ⟨g, 0, none⟩)] w fun e w' => e = .returned (.int .i64 p) ∧ EndM w0 b g sp (pg ++ List.replicate (n' - pg.length) z89) l' X w' ∧ (∀ k, k < w.heap.size → k ≠ g → ¬ X k → w'.heap[k]? = w.heap[k]?) ∧ w.heap.size ≤ w'.heap.size := by
  obtain ⟨P, hN, hA, hE, hB, hS, hq⟩ := h
  have hP : ∀ k, P.ownBlock = some k → k < w.heap.size := Kd.N_lt hN
  have hPX : ∀ k, P.ownBlock = some k → X k := fun k hk => (hN.1 k hk).2
  have new : ∀ (h0 : l = [] ∨ (rd_T64 l 0).f0 ≠ 0) (hm : pg.length < 4096), Calls Tryz.prog 54 #[.pointer (some ⟨g, 0, none⟩)] w fun e w' => e = .returned (.int .i64 pg.length) ∧ EndM w0 b g sp (pg ++ [z89]) l X w' ∧ (∀ k, k < w.heap.size → k ≠ g → ¬ X k → w'.heap[k]? = w.heap[k]?) ∧ w.heap.size ≤ w'.heap.size := by
    intro h0 hm
    refine (takeX_new l g P pg b w X hX hA h0 hN hm (by omega)).mono ?_
    rintro e w' ⟨rfl, P', ha, hn, ht⟩
    refine ⟨rfl, ⟨P', hn, ha, hE.keep (fun k hb5 hk hlt => ht.keep.2 k hlt ⟨by omega, fun e => by have := hq k e.symm; omega⟩), hB.trans ht.below, Nat.le_trans hS ht.keep.1, fun q e => ?_⟩, fun k hk hkg hkX => ht.keep.2 k hk ⟨hkg, fun e => hkX (hPX k e.symm)⟩, ht.keep.1⟩
    rcases ht.own with ho | ⟨c, ho, hle⟩
    · exact hq q (ho ▸ e)
    · rw [ho] at e; injection e with e; subst e; omega
  have hnew : pg.length < 4096 → pg ++ List.replicate (pg.length + 1 - pg.length) z89 = pg ++ [z89] := fun _ => by rw [show pg.length + 1 - pg.length = 1 by omega]; rfl
  rcases takeStep_cases hst with ⟨q, qs, t, rfl, rfl, rfl, rfl⟩ | ⟨h0, hm, rfl, rfl, rfl⟩
  · refine (takeX_yes p qs t g P w X hX hA hP hs).mono ?_
    rintro e w' ⟨rfl, ha, ht⟩
    refine ⟨rfl, ⟨P, ?_, ha, hE.turned ht hbg, hB.trans (ht.below.mono (by omega)), Nat.le_trans hS ht.size, hq⟩, fun k hk hkg _ => ht.keep.2 k hk hkg (by simp), ht.size⟩
    rw [Nat.sub_self, List.replicate_zero, List.append_nil]
    exact ht.N (fun k hk => hk.1) hN
  · rw [hnew hm]
    exact new h0 hm
def EndR (w : World) (ver tree first : Int) (pg : List S89) (l : List S64) (e : Ending) (w' : World) : Prop := ∃ PV LA lc, e = .returned (.tuple #[.agg #[PV, .slice none 0 0, .slice none 0 0, .slice none 0 0, .int .i64 ver, .int .i64 tree], .int .i64 first, .slice LA l.length lc, .int .i64 0]) ∧ Kd.N k89 89 w' w.heap.size (fun _ => True) PV pg ∧ Kd.N k64 64 w' w.heap.size (fun _ => True) (.slice LA l.length lc) l ∧ Below w.heap.size w w'
theorem below_same {w : World} {b : Nat} {v : Value} {t : TypeId} (h : w.heap[b]? = some (.cells #[v] t (0, 0))) : Below w.heap.size w (w.setCell ⟨b, 0, none⟩ v) := by
  refine ⟨rfl, rfl, rfl, by simp, fun k hk => ?_⟩
  by_cases e : k = b
  · subst e
    exact (blk_put h 0 v rfl).trans h.symm
  · exact Below.heap_setCell w ⟨b, 0, none⟩ v k e
theorem N_store_o {P : Program} {o : Oper} {a : Act} {Q : Exit → Act → World → Prop} {Kc : Act → World → Prop} {α : Type} (d : Kd α) {w0 W : World} (base : Nat) (hN : o.dst = none) (t : TypeId) (p x : Operand) (ho : o.op = .store t p x) (e : TypeId) {g n cap o' : Nat} (i : Int) (j : Nat) (xs : List α) (x' : α) (u : Value) (seg c : List Value) (ok okp : Nat → Prop)
    (haddr : a.eval p = .pointer (some ⟨g, o', none⟩)) (hoff : o' = i.toNat * d.sz + j) (hx : a.eval x = u) (hu : u.cells.toList = seg) (ht : (P.info? t).map (·.size) = some seg.length) (h1 : ∀ q ∈ seg, q.oneCell' = true)
    (HO : Kd.N d e W base ok (.slice (some ⟨g, 0, none⟩) n cap) xs) (h0 : 0 ≤ i) (hi : i < n) (hcl : c.length = d.sz) (hcc : ∀ j u, c[j]? = some u → W.cell? ⟨g, i.toNat * d.sz + j, none⟩ = some u)
    (hj : j + seg.length ≤ d.sz) (hM : Kd.FK d W okp x' (c.take j ++ seg ++ c.drop (j + seg.length))) (hokp : ∀ k, okp k → ok k ∧ k ≠ g) (HB : Below base w0 W)
    (h : ∀ w1, Kd.N d e w1 base ok (.slice (some ⟨g, 0, none⟩) n cap) (xs.set i.toNat x') → Below base w0 w1 → W.grownBy w1 (some g) → Kc a w1) : Oper.wp P o a W Kc Q := by
  subst hoff
  obtain ⟨hrow, hg⟩ := Kd.N_seg HO i h0 hi hcl hcc hj hM hokp
  have hbg : base ≤ g := Kd.N_base HO g (by simp [Value.ownBlock])
  have hnx : n = xs.length := (Kd.N_reads' HO).1
  obtain ⟨_, rows, hl, hR, _⟩ := HO
  obtain ⟨_, inner, hown, hr⟩ := hR
  have hil : i.toNat < n := by omega
  have hB : Below base w0 (W.setCells g (i.toNat * d.sz + j) seg) := HB.trans ⟨hg.os, hg.tape, hg.output, hg.size, fun k hk => by
    have hlt : k < W.heap.size ∨ W.heap.size ≤ k := Nat.lt_or_ge _ _
    rcases hlt with hlt | hge
    · exact hg.block k hlt (fun he => by injection he with he; omega)
    · exact setCells_far seg _ k (by omega)⟩
  have hrun : (Instr.storeAt t (.pointer (some ⟨g, i.toNat * d.sz + j, none⟩)) u).run P W = .ok () (W.setCells g (i.toNat * d.sz + j) seg) := by
    rcases hown.2 with ⟨hv, _⟩ | ⟨g', cap', cur, hv, hb, hh, hnc, hcm, hcs, _⟩
    · cases hv
    injection hv with ha _ hc
    injection ha with ha
    injection ha with hg'
    subst hg'; subst hc
    refine run_store_run t u seg hh hu ht ?_ h1
    have h2 : i.toNat * d.sz + d.sz ≤ n * d.sz := by rw [← Nat.succ_mul]; exact Nat.mul_le_mul_right _ hil
    have h3 : n * d.sz ≤ cap * d.sz := Nat.mul_le_mul_right _ (by omega)
    have hcs2 : cur.size = cap * d.sz := hcs
    omega
  unfold Oper.wp execOp
  simp only [ho, haddr, hx, Sem.run_bind, Sem.run_pure, Result.andThen_ok, hrun]
  show Kc (a.put o.dst undef) _
  rw [hN]
  exact h _ hrow hB hg
def EndS (W : World) (b : Nat) (sp C1 : Array Value) (x2 x3 : Value) : Prop :=
  W.heap[b]? = some (.cells sp 25 (0, 0)) ∧ W.heap[b + 1]? = some (.cells C1 25 (0, 0)) ∧ W.heap[b + 1 + 1]? = some (.cells #[x2] 3 (0, 0)) ∧ W.heap[b + 1 + 1 + 1]? = some (.cells #[x3] 26 (0, 0)) ∧ W.heap[b + 1 + 1 + 1 + 1]? = some (.cells #[.int .i64 0] 30 (0, 0))
def EndT (w0 : World) (b g : Nat) (sp C1 : Array Value) (x2 x3 P : Value) (pg : List S89) (l : List S64) (W : World) : Prop :=
  Kd.N k89 89 W b (fun q => q ≠ g ∧ off5 b q) P pg ∧ AccX (off5 b) W g P l ∧ EndS W b sp C1 x2 x3 ∧ Below b w0 W ∧ g + 1 ≤ W.heap.size ∧ b + 5 ≤ g ∧ ∀ q, P.ownBlock = some q → b + 5 ≤ q
theorem EndS.below {W W' : World} {b : Nat} {sp C1 : Array Value} {x2 x3 : Value} (h : EndS W b sp C1 x2 x3) (hb : Below W.heap.size W W') : EndS W' b sp C1 x2 x3 :=
  ⟨blk_below h.1 hb, blk_below h.2.1 hb, blk_below h.2.2.1 hb, blk_below h.2.2.2.1 hb, blk_below h.2.2.2.2 hb⟩
theorem EndT.below {w0 W W' : World} {b g : Nat} {sp C1 : Array Value} {x2 x3 P : Value} {pg : List S89} {l : List S64} (h : EndT w0 b g sp C1 x2 x3 P pg l W) (hb : Below W.heap.size W W') : EndT w0 b g sp C1 x2 x3 P pg l W' := by
  obtain ⟨hN, hA, hE, hB, hS, hg, hq⟩ := h
  exact ⟨Kd.N_below hN hb, hA.below hb, hE.below hb, hB.trans (hb.mono (by omega)), Nat.le_trans hS hb.size, hg, hq⟩
theorem EndT.far {w0 W : World} {b g : Nat} {sp C1 C1' : Array Value} {x2 x3 x2' x3' P : Value} {pg : List S89} {l : List S64} (h : EndT w0 b g sp C1 x2 x3 P pg l W) (p : Addr) (v : Value) (hp : b ≤ p.block ∧ p.block < b + 5) (hs : EndS (W.setCell p v) b sp C1' x2' x3') : EndT w0 b g sp C1' x2' x3' P pg l (W.setCell p v) := by
  obtain ⟨hN, hA, hE, hB, hS, hg, hq⟩ := h
  have hoff : ∀ k, off5 b k → k ≠ p.block := fun k hk e => by rcases hk with hk | hk <;> omega
  obtain ⟨A, c, h1, h2, h3⟩ := hA
  exact ⟨Kd.N_far hN (fun k hk => hoff k hk.2) v, ⟨A, c, (Below.heap_setCell W p v g (by omega)).trans h1, h2, Kd.F_far h3 (fun k hk => hoff k hk.2) v⟩, hs, hB.setCell (p := p) hp.1 v, by rw [World.size_setCell]; exact hS, hg, hq⟩
theorem EndS.set1 {W : World} {b : Nat} {sp C1 C1' : Array Value} {x2 x3 : Value} (h : EndS W b sp C1 x2 x3) (j : Nat) (v : Value) (hc : C1.setIfInBounds j v = C1') : EndS (W.setCell ⟨b + 1, j, none⟩ v) b sp C1' x2 x3 :=
  ⟨blk_far h.1 (p := ⟨b + 1, j, none⟩) (by show b ≠ b + 1; omega) v, blk_put h.2.1 j v hc, blk_far h.2.2.1 (p := ⟨b + 1, j, none⟩) (by show b + 1 + 1 ≠ b + 1; omega) v, blk_far h.2.2.2.1 (p := ⟨b + 1, j, none⟩) (by show b + 1 + 1 + 1 ≠ b + 1; omega) v, blk_far h.2.2.2.2 (p := ⟨b + 1, j, none⟩) (by show b + 1 + 1 + 1 + 1 ≠ b + 1; omega) v⟩
theorem EndS.set2 {W : World} {b : Nat} {sp C1 : Array Value} {x2 x3 : Value} (h : EndS W b sp C1 x2 x3) (v : Value) : EndS (W.setCell ⟨b + 1 + 1, 0, none⟩ v) b sp C1 v x3 :=
  ⟨blk_far h.1 (p := ⟨b + 1 + 1, 0, none⟩) (by show b ≠ b + 1 + 1; omega) v, blk_far h.2.1 (p := ⟨b + 1 + 1, 0, none⟩) (by show b + 1 ≠ b + 1 + 1; omega) v, blk_put h.2.2.1 0 v rfl, blk_far h.2.2.2.1 (p := ⟨b + 1 + 1, 0, none⟩) (by show b + 1 + 1 + 1 ≠ b + 1 + 1; omega) v, blk_far h.2.2.2.2 (p := ⟨b + 1 + 1, 0, none⟩) (by show b + 1 + 1 + 1 + 1 ≠ b + 1 + 1; omega) v⟩
theorem EndS.set3 {W : World} {b : Nat} {sp C1 : Array Value} {x2 x3 : Value} (h : EndS W b sp C1 x2 x3) (v : Value) : EndS (W.setCell ⟨b + 1 + 1 + 1, 0, none⟩ v) b sp C1 x2 v :=
  ⟨blk_far h.1 (p := ⟨b + 1 + 1 + 1, 0, none⟩) (by show b ≠ b + 1 + 1 + 1; omega) v, blk_far h.2.1 (p := ⟨b + 1 + 1 + 1, 0, none⟩) (by show b + 1 ≠ b + 1 + 1 + 1; omega) v, blk_far h.2.2.1 (p := ⟨b + 1 + 1 + 1, 0, none⟩) (by show b + 1 + 1 ≠ b + 1 + 1 + 1; omega) v, blk_put h.2.2.2.1 0 v rfl, blk_far h.2.2.2.2 (p := ⟨b + 1 + 1 + 1, 0, none⟩) (by show b + 1 + 1 + 1 + 1 ≠ b + 1 + 1 + 1; omega) v⟩
theorem EndT.set1 {w0 W : World} {b g : Nat} {sp C1 : Array Value} {x2 x3 P : Value} {pg : List S89} {l : List S64} (h : EndT w0 b g sp C1 x2 x3 P pg l W) (j : Nat) (v : Value) (C1' : Array Value) (hc : C1.setIfInBounds j v = C1') : EndT w0 b g sp C1' x2 x3 P pg l (W.setCell ⟨b + 1, j, none⟩ v) :=
  h.far _ v ⟨by show b ≤ b + 1; omega, by show b + 1 < b + 5; omega⟩ (h.2.2.1.set1 j v hc)
theorem EndT.set2 {w0 W : World} {b g : Nat} {sp C1 : Array Value} {x2 x3 P : Value} {pg : List S89} {l : List S64} (h : EndT w0 b g sp C1 x2 x3 P pg l W) (v : Value) : EndT w0 b g sp C1 v x3 P pg l (W.setCell ⟨b + 1 + 1, 0, none⟩ v) :=
  h.far _ v ⟨by show b ≤ b + 1 + 1; omega, by show b + 1 + 1 < b + 5; omega⟩ (h.2.2.1.set2 v)
theorem EndT.set3 {w0 W : World} {b g : Nat} {sp C1 : Array Value} {x2 x3 P : Value} {pg : List S89} {l : List S64} (h : EndT w0 b g sp C1 x2 x3 P pg l W) (v : Value) : EndT w0 b g sp C1 x2 v P pg l (W.setCell ⟨b + 1 + 1 + 1, 0, none⟩ v) :=
  h.far _ v ⟨by show b ≤ b + 1 + 1 + 1; omega, by show b + 1 + 1 + 1 < b + 5; omega⟩ (h.2.2.1.set3 v)
theorem set_same_heap {w : World} {b j : Nat} {C : Array Value} {t : TypeId} {v : Value} (h : w.heap[b]? = some (.cells C t (0, 0))) (hc : C.setIfInBounds j v = C) : Below w.heap.size w (w.setCell ⟨b, j, none⟩ v) := by
  refine ⟨rfl, rfl, rfl, by simp, fun k hk => ?_⟩
  by_cases e : k = b
  · subst e
    exact (blk_put h j v hc).trans h.symm
  · exact Below.heap_setCell w ⟨b, j, none⟩ v k e
theorem below_same6 {w : World} {b : Nat} {a0 a1 a2 a3 a4 a5 : Value} {t : TypeId} (h : w.heap[b]? = some (.cells #[a0, a1, a2, a3, a4, a5] t (0, 0))) : Below w.heap.size w (w.setCells b 0 [a0, a1, a2, a3, a4, a5]) := by
  have s : ∀ (W : World), Below w.heap.size w W → w.heap.size = W.heap.size → ∀ (j : Nat) (v : Value), (#[a0, a1, a2, a3, a4, a5] : Array Value).setIfInBounds j v = #[a0, a1, a2, a3, a4, a5] → Below w.heap.size w (W.setCell ⟨b, j, none⟩ v) ∧ w.heap.size = (W.setCell ⟨b, j, none⟩ v).heap.size := fun W hb hs j v hc => by
    have hW := blk_below h hb
    exact ⟨hb.trans ((set_same_heap hW hc).mono (by omega)), by rw [World.size_setCell]; exact hs⟩
  obtain ⟨b0, s0⟩ := s w (Below.refl _ _) rfl 0 a0 rfl
  obtain ⟨b1, s1⟩ := s _ b0 s0 1 a1 rfl
  obtain ⟨b2, s2⟩ := s _ b1 s1 2 a2 rfl
  obtain ⟨b3, s3⟩ := s _ b2 s2 3 a3 rfl
  obtain ⟨b4, s4⟩ := s _ b3 s3 4 a4 rfl
  exact (s _ b4 s4 5 a5 rfl).1
def EndL (b g : Nat) (PV LV vv tv x2 : Value) (W : World) : Prop := W.cell? ⟨g, 0, none⟩ = some PV ∧ W.cell? ⟨g, 1, none⟩ = some LV ∧ W.cell? ⟨b, 4, none⟩ = some vv ∧ W.cell? ⟨b, 5, none⟩ = some tv ∧ W.cell? ⟨b + 1 + 1, 0, none⟩ = some x2
theorem EndL.below {b g : Nat} {PV LV vv tv x2 : Value} {W W' : World} (h : EndL b g PV LV vv tv x2 W) (hb : Below W.heap.size W W') : EndL b g PV LV vv tv x2 W' :=
  ⟨cellB hb (Nat.le_refl _) h.1, cellB hb (Nat.le_refl _) h.2.1, cellB hb (Nat.le_refl _) h.2.2.1, cellB hb (Nat.le_refl _) h.2.2.2.1, cellB hb (Nat.le_refl _) h.2.2.2.2⟩
theorem EndL.far {b g : Nat} {PV LV vv tv x2 : Value} {W : World} (h : EndL b g PV LV vv tv x2 W) (p : Addr) (v : Value) (h1 : p.block ≠ g) (h2 : p.block ≠ b) (h3 : p.block ≠ b + 1 + 1) : EndL b g PV LV vv tv x2 (W.setCell p v) :=
  ⟨(World.cell?_setCell_other W p _ v (fun e => h1 (by rw [e]))).trans h.1, (World.cell?_setCell_other W p _ v (fun e => h1 (by rw [e]))).trans h.2.1, (World.cell?_setCell_other W p _ v (fun e => h2 (by rw [e]))).trans h.2.2.1, (World.cell?_setCell_other W p _ v (fun e => h2 (by rw [e]))).trans h.2.2.2.1, (World.cell?_setCell_other W p _ v (fun e => h3 (by rw [e]))).trans h.2.2.2.2⟩
theorem EndC.s {W : World} {b : Nat} {sp : Array Value} (h : EndC W b sp) : EndS W b sp #[.slice none 0 0, .slice none 0 0, .slice none 0 0, .slice none 0 0, .int .i64 0, .int .i64 0] (.int .i64 0) (.slice none 0 0) := h
theorem EndT.merge {w0 W : World} {b g : Nat} {sp C1 : Array Value} {x2 x3 P : Value} {pg : List S89} {l : List S64} {A7 : Option Addr} {c7 : Nat} (h : EndT w0 b g sp C1 x2 x3 P pg l W) (hc : W.cell? ⟨g, 1, none⟩ = some (.slice A7 l.length c7)) (hs : smallL l) :
    Calls Tryz.prog 56 #[.slice A7 l.length c7, .slice none 0 0] W fun e w' => ∃ v, e = .returned v ∧ Kd.N k64 64 w' b (fun k => b + 5 ≤ k) v l ∧ Below W.heap.size W w' := by
  obtain ⟨hN, ⟨A, c, h1, h2, h3⟩, hE, hB, hS, hg, hq⟩ := h
  have e : (.slice A l.length c : Value) = .slice A7 l.length c7 := by
    have := (blk_cell h1 1).symm.trans hc
    simpa using this
  injection e with e1 _ e2
  subst e1 e2
  refine (together_new l [] A c none 0 W (Kd.F_now h3) h2 (Kd.C_nil k64 W) (Nat.le_refl _) hs ⟨by simp, by simp [pagesOf, flat]⟩).mono ?_
  rintro e w' ⟨v, rfl, hv, hb⟩
  rw [merge_nil2] at hv
  exact ⟨v, rfl, Kd.N_mono (Kd.N_lower hv (by omega)) (fun k hk => Nat.le_trans (by omega) (hk : _ ≤ k)), hb⟩
theorem AccX.mono {X X' : Nat → Prop} {w : World} {g : Nat} {P : Value} {l : List S64} (h : AccX X w g P l) (hX : ∀ k, X k → X' k) : AccX X' w g P l := by
  obtain ⟨A, c, h1, h2, h3⟩ := h
  exact ⟨A, c, h1, h2, Kd.F_mono h3 (fun k hk => ⟨hk.1, hX k hk.2⟩)⟩
def EndV (b : Nat) (v : Value) (l : List S64) (W : World) : Prop := Kd.N k64 64 W b (fun k => b + 5 ≤ k) v l
theorem EndV.below {b : Nat} {v : Value} {l : List S64} {W W' : World} (h : EndV b v l W) (hb : Below W.heap.size W W') : EndV b v l W' := Kd.N_below h hb
theorem EndV.far {b : Nat} {v : Value} {l : List S64} {W : World} (h : EndV b v l W) (p : Addr) (u : Value) (hp : p.block < b + 5) : EndV b v l (W.setCell p u) := Kd.N_far h (fun k hk e => by have h1 : b + 5 ≤ k := hk; omega) u
theorem wp_two {P : Program} {md : Region.Mode} {ops : Array Oper} {Q : Exit → Act → World → Prop} {S T U : World → Prop} {fuel : Nat} {listed : Array Bool} {a : Act} {W : World} (h : T W) (hu : U W) (hS : S W) (k : ∀ W', T W' → U W' → S W' → wpAnyH P md ops Q S fuel listed a W') : wpAnyH P md ops Q S fuel listed a W := k W h hu hS
theorem end_results (tmps : Array Value) (W : World) (b : Nat) (p0 p1 p2 p3 p4 p5 x2 x3 x4 : Value) (h6 : tmps[6]?.getD undef = .pointer (some ⟨b + 1, 0, none⟩)) (h7 : tmps[7]?.getD undef = .pointer (some ⟨b + 1 + 1, 0, none⟩)) (h8 : tmps[8]?.getD undef = .pointer (some ⟨b + 1 + 1 + 1, 0, none⟩)) (h9 : tmps[9]?.getD undef = .pointer (some ⟨b + 1 + 1 + 1 + 1, 0, none⟩))
    (c10 : W.cell? ⟨b + 1, 0, none⟩ = some p0) (c11 : W.cell? ⟨b + 1, 1, none⟩ = some p1) (c12 : W.cell? ⟨b + 1, 2, none⟩ = some p2) (c13 : W.cell? ⟨b + 1, 3, none⟩ = some p3) (c14 : W.cell? ⟨b + 1, 4, none⟩ = some p4) (c15 : W.cell? ⟨b + 1, 5, none⟩ = some p5)
    (c20 : W.cell? ⟨b + 1 + 1, 0, none⟩ = some x2) (c30 : W.cell? ⟨b + 1 + 1 + 1, 0, none⟩ = some x3) (c40 : W.cell? ⟨b + 1 + 1 + 1 + 1, 0, none⟩ = some x4) : (results Tryz.f15 tmps).run Tryz.prog W = .ok (.tuple #[.agg #[p0, p1, p2, p3, p4, p5], x2, x3, x4]) W := by
  unfold results
  rw [Tryz.results15]
  simp [h6, h7, h8, h9, c10, c11, c12, c13, c14, c15, c20, c30, c40, go_sem]
set_option maxHeartbeats 400000 in
theorem reset44 (b : Nat) (a0 a1 a2 a3 a4 a5 x y : Value) (w : World) (h1 : w.heap[b + 1]? = some (.cells #[a0, a1, a2, a3, a4, a5] 25 (0, 0))) (h2 : w.heap[b + 2]? = some (.cells #[x] 3 (0, 0))) (h3 : w.heap[b + 3]? = some (.cells #[y] 26 (0, 0))) :
    Calls Tryz.prog 44 #[.pointer (some ⟨b + 1, 0, none⟩), .pointer (some ⟨b + 2, 0, none⟩), .pointer (some ⟨b + 3, 0, none⟩)] w fun e w' => e = .returned (.tuple #[]) ∧
      w' = ((w.setCells (b + 1) 0 [.slice none 0 0, .slice none 0 0, .slice none 0 0, .slice none 0 0, .int .i64 0, .int .i64 0]).setCell ⟨b + 2, 0, none⟩ (.int .i64 0)).setCell ⟨b + 3, 0, none⟩ (.slice none 0 0) := by
  have c0 := blk_cell h1 0
  have c1 := blk_cell h1 1
  have c2 := blk_cell h1 2
  have c3 := blk_cell h1 3
  have c4 := blk_cell h1 4
  have c5 := blk_cell h1 5
  have d0 := blk_cell h2 0
  have e0 := blk_cell h3 0
  have z0 := blk_frozen h1 0
  have z1 := blk_frozen h1 1
  have z2 := blk_frozen h1 2
  have z3 := blk_frozen h1 3
  have z4 := blk_frozen h1 4
  have z5 := blk_frozen h1 5
  have z6 := blk_frozen h2 0
  have z7 := blk_frozen h3 0
  clear h1 h2 h3
  go_enter Tryz.func44, Tryz.ntmps44
  go_wp2
  go_end0
  exact ⟨rfl, rfl⟩
def first0 : List S64 → List Int
  | [] => []
  | f :: _ => if f.f0 = 0 then f.f1 else []
theorem first0_yes {f : S64} {t : List S64} (h : f.f0 = 0) : first0 (f :: t) = f.f1 := by rw [first0, if_pos h]
theorem first0_no {f : S64} {t : List S64} (h : ¬ f.f0 = 0) : first0 (f :: t) = [] := by rw [first0, if_neg h]
theorem keepAll_yes {k : Int} {f : S64} {t : List S64} (h : f.f0 = 0) : keepAll k (f :: t) = keepL k f.f1 t := by rw [keepAll, if_pos h]
theorem keepAll_no {k : Int} {f : S64} {t : List S64} (h : ¬ f.f0 = 0) : keepAll k (f :: t) = f :: t := by rw [keepAll, if_neg h]
theorem form_mono {p q : Int} {l : List S64} (h : formP p l) (hq : p ≤ q) : formP q l :=
  ⟨fun f hf => ⟨(h.1 f hf).1, (h.1 f hf).2.1, (h.1 f hf).2.2.1, fun n hn => ⟨((h.1 f hf).2.2.2.1 n hn).1, by have := ((h.1 f hf).2.2.2.1 n hn).2; omega⟩, (h.1 f hf).2.2.2.2⟩, h.2⟩
theorem form_cons {p : Int} {f : S64} {t : List S64} (h : formP p (f :: t)) : (∀ y ∈ t, f.f0 < y.f0) ∧ formP p t := by
  obtain ⟨h1, h2⟩ := h
  rw [List.map_cons, List.pairwise_cons] at h2
  exact ⟨fun y hy => h2.1 _ (List.mem_map_of_mem hy), fun g hg => h1 g (List.mem_cons_of_mem _ hg), h2.2⟩
theorem first0_form {p : Int} {l : List S64} (h : formP p l) : (∀ x ∈ first0 l, 2 ≤ x ∧ x ≤ p - 1) ∧ (first0 l).Pairwise (· < ·) := by
  cases l with
  | nil => exact ⟨fun x hx => (by cases hx), List.Pairwise.nil⟩
  | cons f t =>
    by_cases e : f.f0 = 0
    · rw [first0_yes e]; exact (h.1 f (List.mem_cons_self)).2.2.2
    · rw [first0_no e]; exact ⟨fun x hx => (by cases hx), List.Pairwise.nil⟩
theorem first0_later {p : Int} {f : S64} {t : List S64} (h : formP p (f :: t)) : first0 t = [] := by
  obtain ⟨h1, h2⟩ := form_cons h
  have h0 := (h.1 f (List.mem_cons_self)).1
  cases t with
  | nil => rfl
  | cons g t =>
    have := h1 g (List.mem_cons_self)
    exact first0_no (by omega)
theorem first0_rest {p : Int} {f : S64} {t : List S64} (h : formP p (f :: t)) (qs : List Int) : first0 (restL qs t) = qs := by
  unfold restL
  split
  · next e => rw [first0_later h, e]
  · exact first0_yes rfl
def TI (n : Nat) (l : List S64) (own : List Int) : Prop := formP 4096 l ∧ smallL l ∧ 2 ≤ n ∧ n ≤ 4096 ∧ (∀ x ∈ first0 l, x < n) ∧ own.Nodup ∧ (∀ x ∈ own, 2 ≤ x ∧ x < n) ∧ ∀ x ∈ own, x ∉ first0 l
theorem TI_step {n n' : Nat} {l l' : List S64} {own : List Int} {p : Int} (h : TI n l own) (hs : takeStep l n = some (p, l', n')) : TI n' l' (own ++ [p]) := by
  obtain ⟨h1, h2, h3, h4, h5, h6, h7, h8⟩ := h
  obtain ⟨k1, k2, k3, k4⟩ := takeStep_keeps hs h1 h2
  rcases takeStep_cases hs with ⟨q, qs, t, rfl, rfl, rfl, rfl⟩ | ⟨h0, hm, rfl, rfl, rfl⟩
  · have e : first0 ((⟨0, p :: qs⟩ : S64) :: t) = p :: qs := first0_yes rfl
    have hF := first0_form h1
    rw [e] at h5 h8 hF
    rw [List.pairwise_cons] at hF
    refine ⟨k1, k2, h3, k4 h4, ?_, ?_, ?_, ?_⟩
    · rw [first0_rest h1]; exact fun x hx => h5 x (List.mem_cons_of_mem _ hx)
    · rw [List.nodup_append]
      refine ⟨h6, (by simp), fun a ha b hb e9 => ?_⟩
      obtain rfl := List.mem_singleton.1 hb
      exact h8 a ha (by rw [e9]; exact List.mem_cons_self)
    · intro x hx
      rcases List.mem_append.1 hx with hx | hx
      · exact h7 x hx
      · obtain rfl := List.mem_singleton.1 hx
        exact ⟨(hF.1 x (List.mem_cons_self)).1, h5 x (List.mem_cons_self)⟩
    · rw [first0_rest h1]
      intro x hx
      rcases List.mem_append.1 hx with hx | hx
      · exact fun hq => h8 x hx (List.mem_cons_of_mem _ hq)
      · obtain rfl := List.mem_singleton.1 hx
        exact fun hq => absurd (hF.2.1 x hq) (by omega)
  · have e : first0 l' = [] := by
      cases l' with
      | nil => rfl
      | cons f t =>
        rcases h0 with h0 | h0
        · cases h0
        · exact first0_no (by simpa [rd_T64] using h0)
    refine ⟨k1, k2, by omega, k4 h4, ?_, ?_, ?_, ?_⟩
    · rw [e]; intro x hx; cases hx
    · rw [List.nodup_append]
      refine ⟨h6, (by simp), fun a ha b hb e9 => ?_⟩
      obtain rfl := List.mem_singleton.1 hb
      have := (h7 a ha).2
      omega
    · intro x hx
      rcases List.mem_append.1 hx with hx | hx
      · have := h7 x hx; omega
      · obtain rfl := List.mem_singleton.1 hx; omega
    · rw [e]; intro x _ hx; cases hx
theorem TI_run {k : Nat} : ∀ {n m : Nat} {l l4 : List S64} {own own4 : List Int}, TI n l own → takeRun k l n own = some (l4, m, own4) → TI m l4 own4 ∧ n ≤ m ∧ (partsOf l4).length ≤ own4.length := by
  induction k with
  | zero => intro n m l l4 own own4 _ h; simp [takeRun] at h
  | succ k ih =>
    intro n m l l4 own own4 hT h
    rw [takeRun] at h
    split at h
    · next hd =>
      obtain ⟨rfl, rfl, rfl⟩ : l = l4 ∧ n = m ∧ own = own4 := by simpa using h
      exact ⟨hT, Nat.le_refl _, hd⟩
    · split at h
      · next p l' n' he =>
        obtain ⟨a, b, c⟩ := ih (TI_step hT he) h
        exact ⟨a, Nat.le_trans (takeStep_keeps he hT.1 hT.2.1).2.2.1 b, c⟩
      · simp at h
def roundsL (l : List S64) (n : Nat) : Nat := (first0 l).length + (4096 - n)
theorem rounds_step {n n' : Nat} {l l' : List S64} {p : Int} (h1 : formP 4096 l) (hn : n ≤ 4096) (hs : takeStep l n = some (p, l', n')) : roundsL l' n' < roundsL l n := by
  unfold roundsL
  rcases takeStep_cases hs with ⟨q, qs, t, rfl, rfl, rfl, rfl⟩ | ⟨h0, hm, rfl, rfl, rfl⟩
  · have e : first0 ((⟨0, p :: qs⟩ : S64) :: t) = p :: qs := first0_yes rfl
    rw [first0_rest h1, e, List.length_cons]
    omega
  · omega
theorem TI_num {n : Nat} {l : List S64} {own : List Int} {ver : Int} (h : TI n l own) (hv : 0 ≤ ver ∧ ver ≤ 1099511627776) : numB own ver = true := by
  obtain ⟨h1, h2, h3, h4, h5, h6, h7, h8⟩ := h
  exact decide_eq_true ⟨h6, fun x hx => by have := h7 x hx; omega, hv⟩
theorem listPg_no {l : List S64} {own : List Int} {v : Int} : ∀ p ∈ listPg l own v, p.no ∈ own := by
  intro p hp
  unfold listPg chTo at hp
  obtain ⟨i, hi, rfl⟩ := List.mem_mapIdx.1 hp
  rw [fillTo_length] at hi
  rw [if_pos hi]
  show rd own (i : Int) ∈ own
  rw [rd_at own i hi]
  exact List.getElem_mem hi
theorem TI_idx {n : Nat} {l : List S64} {own : List Int} {ver : Int} (h : TI n l own) : ∀ p ∈ listPg l own ver, 0 ≤ p.no ∧ p.no < n := by
  intro p hp
  have := h.2.2.2.2.2.2.1 p.no (listPg_no p hp)
  omega
def endL2 (free gone : List Int) (rest : List S64) (ver : Int) : List S64 := putL 0 free (putL (ver - 1) gone rest)
def endL3 (free gone : List Int) (rest : List S64) (ver : Int) (n : Nat) (shrink : Bool) : List S64 :=
  if shrink then keepAll (tailN (endL2 free gone rest ver) n) (endL2 free gone rest ver) else endL2 free gone rest ver
def endN3 (free gone : List Int) (rest : List S64) (ver : Int) (n : Nat) (shrink : Bool) : Nat :=
  if shrink then (tailN (endL2 free gone rest ver) n).toNat else n
theorem keepAll_form {p k : Int} {l : List S64} (h : formP p l) : formP p (keepAll k l) := by
  cases l with
  | nil => exact h
  | cons f t =>
    by_cases e : f.f0 = 0
    · rw [keepAll_yes e]
      unfold keepL restL
      split
      · exact (form_cons h).2
      · next hne =>
        have hf := h.1 f (List.mem_cons_self)
        refine ⟨fun g hg => ?_, ?_⟩
        · rcases List.mem_cons.1 hg with rfl | hg
          · refine ⟨by show (0 : Int) ≤ 0; omega, by show (0 : Int) ≤ _; omega, hne, fun x hx => hf.2.2.2.1 x (List.mem_filter.1 hx).1, hf.2.2.2.2.filter _⟩
          · exact h.1 g (List.mem_cons_of_mem _ hg)
        · rw [List.map_cons, List.pairwise_cons]
          refine ⟨fun a ha => ?_, (form_cons h).2.2⟩
          obtain ⟨y, hy, rfl⟩ := List.mem_map.1 ha
          have := (form_cons h).1 y hy
          show (0 : Int) < y.f0
          omega
    · rw [keepAll_no e]; exact h
theorem keepAll_small {k : Int} {l : List S64} (h : smallL l) : smallL (keepAll k l) := by
  cases l with
  | nil => exact h
  | cons f t =>
    by_cases e : f.f0 = 0
    · rw [keepAll_yes e]
      unfold smallL at *
      unfold keepL restL
      rw [pages_cons] at h
      have := List.length_filter_le (fun x => decide (x < k)) f.f1
      simp only [List.length_cons] at h
      split
      · omega
      · rw [pages_cons]; simp only [List.length_cons]; omega
    · rw [keepAll_no e]; exact h
theorem keepAll_first {p k : Int} {l : List S64} (h : formP p l) : first0 (keepAll k l) = (first0 l).filter fun x => decide (x < k) := by
  cases l with
  | nil => rfl
  | cons f t =>
    by_cases e : f.f0 = 0
    · rw [keepAll_yes e]
      unfold keepL
      rw [first0_rest h, first0_yes e]
    · rw [keepAll_no e, first0_no e]
      rfl
theorem end_TI {free gone : List Int} {rest : List S64} {ver : Int} {n : Nat} {shrink : Bool} (hs : free.length ≤ 1000 ∧ gone.length ≤ 1000 ∧ (pagesOf rest).length ≤ 10000 ∧ rest.length ≤ 10000) (hn : 2 ≤ n ∧ n ≤ 4096) (h : validB n (endL2 free gone rest ver) = true) :
    TI (endN3 free gone rest ver n shrink) (endL3 free gone rest ver n shrink) [] ∧ endN3 free gone rest ver n shrink ≤ n := by
  have hV := of_decide_eq_true h
  have hf4 := form_mono hV.2.1 (show (n : Int) ≤ 4096 by omega)
  have hsm : smallL (endL2 free gone rest ver) := by
    unfold endL2
    have q1 := putL_len (ver - 1) gone rest
    have q2 := putL_len 0 free (putL (ver - 1) gone rest)
    exact ⟨by omega, by omega⟩
  have h0 := (first0_form hV.2.1).1
  have ht := tailN_le _ n hV.2.1 (by omega)
  unfold endN3 endL3
  cases shrink with
  | false =>
    simp only [Bool.false_eq_true, if_false]
    exact ⟨⟨hf4, hsm, hn.1, hn.2, fun x hx => by have := h0 x hx; omega, List.nodup_nil, (fun x hx => by cases hx), (fun x hx => by cases hx)⟩, Nat.le_refl _⟩
  | true =>
    simp only [if_true]
    obtain ⟨m, hm⟩ : ∃ m : Nat, tailN (endL2 free gone rest ver) n = (m : Int) := ⟨(tailN (endL2 free gone rest ver) n).toNat, by omega⟩
    rw [hm] at ht ⊢
    rw [Int.toNat_natCast]
    refine ⟨⟨keepAll_form hf4, keepAll_small hsm, by omega, by omega, ?_, List.nodup_nil, (fun x hx => by cases hx), (fun x hx => by cases hx)⟩, by omega⟩
    rw [keepAll_first hV.2.1]
    intro x hx
    exact of_decide_eq_true (List.mem_filter.1 hx).2
theorem inc_len : ∀ (l : List Int) (a b : Int), l.Pairwise (· < ·) → (∀ x ∈ l, a ≤ x ∧ x ≤ b) → l.length ≤ (b - a + 1).toNat := by
  intro l
  induction l with
  | nil => intro a b _ _; simp
  | cons x t ih =>
    intro a b hp hm
    rw [List.pairwise_cons] at hp
    have hx := hm x (List.mem_cons_self)
    have := ih (x + 1) b hp.2 (fun y hy => by have h1 := hp.1 y hy; have h2 := hm y (List.mem_cons_of_mem _ hy); omega)
    rw [List.length_cons]
    omega
theorem rounds_le {l : List S64} {n : Nat} (h : formP 4096 l) : roundsL l n ≤ 8192 := by
  have h1 := first0_form h
  have := inc_len _ 2 (4096 - 1) h1.2 h1.1
  unfold roundsL
  omega
theorem takeRun_done {k : Nat} {l : List S64} {n : Nat} {own : List Int} (hd : (partsOf l).length ≤ own.length) : takeRun (k + 1) l n own = some (l, n, own) := by
  rw [takeRun, if_pos hd]
theorem takeRun_some {k : Nat} {l l' : List S64} {n n' : Nat} {own : List Int} {p : Int} (hd : ¬ (partsOf l).length ≤ own.length) (hs : takeStep l n = some (p, l', n')) : takeRun (k + 1) l n own = takeRun k l' n' (own ++ [p]) := by
  rw [takeRun, if_neg hd, hs]
theorem takeRun_none {k : Nat} {l : List S64} {n : Nat} {own : List Int} (hd : ¬ (partsOf l).length ≤ own.length) (hs : takeStep l n = none) : takeRun (k + 1) l n own = none := by
  rw [takeRun, if_neg hd, hs]
theorem takeStep_full {l : List S64} {n : Nat} (h : takeStep l n = none) (hf : fullL l) : (l = [] ∨ (rd_T64 l 0).f0 ≠ 0) ∧ ¬ n < 4096 := by
  rcases l with _ | ⟨⟨v, _ | ⟨q, qs⟩⟩, t⟩
  · rw [takeStep] at h
    split at h
    · simp at h
    · next hm => exact ⟨.inl rfl, hm⟩
  · exact absurd rfl (hf ⟨v, []⟩ (List.mem_cons_self))
  · rw [takeStep] at h
    split at h
    · simp at h
    · next hv =>
      split at h
      · simp at h
      · next hm => exact ⟨.inr hv, hm⟩
def endP3 (pg : List S89) (free gone : List Int) (rest : List S64) (ver : Int) (shrink : Bool) : List S89 :=
  if shrink then (zeroAll free pg).take (endN3 free gone rest ver pg.length true) else zeroAll free pg
def endX (pg : List S89) (free gone : List Int) (rest : List S64) (ver : Int) (shrink : Bool) : Except Int (List S89 × Int × List S64) :=
  if (1 ≤ ver ∧ ver ≤ 1099511627776) ∧ 2 ≤ pg.length ∧ pg.length ≤ 4096 then
    if (validB pg.length rest = true ∧ incB pg.length free = true ∧ incB pg.length gone = true) ∧ validB pg.length (endL2 free gone rest ver) = true then
      match takeRun 1000000 (endL3 free gone rest ver pg.length shrink) (endN3 free gone rest ver pg.length shrink) [] with
      | none => .error 7
      | some (l, m, own) => .ok (layAll (listPg l own ver) (endP3 pg free gone rest ver shrink ++ List.replicate (m - endN3 free gone rest ver pg.length shrink) z89), own.headD 0, l)
    else .error 2
  else .error 1
theorem endX_1 {pg : List S89} {free gone : List Int} {rest : List S64} {ver : Int} {shrink : Bool} (h : ¬ ((1 ≤ ver ∧ ver ≤ 1099511627776) ∧ 2 ≤ pg.length ∧ pg.length ≤ 4096)) : endX pg free gone rest ver shrink = .error 1 := by
  unfold endX; rw [if_neg h]
theorem endX_2 {pg : List S89} {free gone : List Int} {rest : List S64} {ver : Int} {shrink : Bool} (h : (1 ≤ ver ∧ ver ≤ 1099511627776) ∧ 2 ≤ pg.length ∧ pg.length ≤ 4096) (h2 : ¬ ((validB pg.length rest = true ∧ incB pg.length free = true ∧ incB pg.length gone = true) ∧ validB pg.length (endL2 free gone rest ver) = true)) : endX pg free gone rest ver shrink = .error 2 := by
  unfold endX; rw [if_pos h, if_neg h2]
theorem endX_7 {pg : List S89} {free gone : List Int} {rest : List S64} {ver : Int} {shrink : Bool} (h : (1 ≤ ver ∧ ver ≤ 1099511627776) ∧ 2 ≤ pg.length ∧ pg.length ≤ 4096) (h2 : (validB pg.length rest = true ∧ incB pg.length free = true ∧ incB pg.length gone = true) ∧ validB pg.length (endL2 free gone rest ver) = true)
    (h3 : takeRun 1000000 (endL3 free gone rest ver pg.length shrink) (endN3 free gone rest ver pg.length shrink) [] = none) : endX pg free gone rest ver shrink = .error 7 := by
  unfold endX; rw [if_pos h, if_pos h2, h3]
theorem endX_0 {pg : List S89} {free gone : List Int} {rest : List S64} {ver : Int} {shrink : Bool} (h : (1 ≤ ver ∧ ver ≤ 1099511627776) ∧ 2 ≤ pg.length ∧ pg.length ≤ 4096) (h2 : (validB pg.length rest = true ∧ incB pg.length free = true ∧ incB pg.length gone = true) ∧ validB pg.length (endL2 free gone rest ver) = true)
    {l : List S64} {m : Nat} {own : List Int} (h3 : takeRun 1000000 (endL3 free gone rest ver pg.length shrink) (endN3 free gone rest ver pg.length shrink) [] = some (l, m, own)) :
    endX pg free gone rest ver shrink = .ok (layAll (listPg l own ver) (endP3 pg free gone rest ver shrink ++ List.replicate (m - endN3 free gone rest ver pg.length shrink) z89), own.headD 0, l) := by
  unfold endX; rw [if_pos h, if_pos h2, h3]
def EndA (w : World) (ver tree : Int) (r : Except Int (List S89 × Int × List S64)) (e : Ending) (w' : World) : Prop :=
  match r with
  | .error x => e = .returned (.tuple #[.agg #[.slice none 0 0, .slice none 0 0, .slice none 0 0, .slice none 0 0, .int .i64 0, .int .i64 0], .int .i64 0, .slice none 0 0, .int .i64 x]) ∧ Below w.heap.size w w'
  | .ok (pg, first, l) => EndR w ver tree first pg l e w'
theorem take_none {w0 : World} {b g : Nat} {sp : Array Value} {pg : List S89} {l : List S64} {X : Nat → Prop} (w : World) (h : EndM w0 b g sp pg l X w) (hst : takeStep l pg.length = none) (hf : fullL l) (hl : pg.length ≤ 1000000) :
    Calls Tryz.prog 54 #[.pointer (some ⟨g, 0, none⟩)] w fun e w' => e = .panicked [failE 7] ∧ w = w' := by
  obtain ⟨P, hN, hA, hE, hB, hS, hq⟩ := h
  obtain ⟨h0, hm⟩ := takeStep_full hst hf
  exact take_full l g P pg b w hA.acc h0 (Kd.N_mono hN (fun k hk => hk.1)) hm hl
end Go.Proofs.YtpnhelcemodnmaaGreat
namespace Go.Proofs.YtpnhelcemodnmaaGreat.PA
open Go.RowKit Go.Proofs.YtpnhelcemodnmaaGreatW.PrintWords Go.Proofs.YtpnhelcemodnmaaGreatW.PrintLast Go.Proofs.YtpnhelcemodnmaaGreatW.PrintMore
attribute [local go_sem] max2_int min2_int max_two min_two max_three min_three max_four min_four
set_option linter.unusedVariables false
set_option linter.unusedSimpArgs false
mutual
def understoryref12_cut.l0 : Nat → List (S64) → Int → List (S64) → Int → Option ((List (S64)))
  | 0, _, _, _, _ => none
  | k + 1, x0, x1, x5, x6 => if x6 < (x0.length : Int) then (if 0 ≤ x6 then (understoryref12_cut.l1 k x0 x1 x5 x6 0 ((rd_T64 x0 x6).f0) ([] : List Int)) else (none)) else (some x5)
def understoryref12_cut.l1 : Nat → List (S64) → Int → List (S64) → Int → Int → Int → List Int → Option ((List (S64)))
  | 0, _, _, _, _, _, _, _ => none
  | k + 1, x0, x1, x5, x6, x8, x379000, x379001 => if 0 ≤ x6 then (if x6 < (x0.length : Int) then (if x8 < (((rd_T64 x0 x6).f1).length : Int) then (if 0 ≤ x8 then (if (rd ((rd_T64 x0 x6).f1) x8) < x1 then (if x379001.length < 17592186044416 then (understoryref12_cut.l1 k x0 x1 x5 x6 (wrap64 (x8 + 1)) x379000 (x379001 ++ [rd ((rd_T64 x0 x6).f1) x8])) else (none)) else (understoryref12_cut.l1 k x0 x1 x5 x6 (wrap64 (x8 + 1)) x379000 x379001)) else (none)) else (if (x379001.length : Int) > 0 then (if x5.length < 4398046511104 then (understoryref12_cut.l0 k x0 x1 (x5 ++ [(⟨x379000, x379001⟩ : S64)]) (wrap64 (x6 + 1))) else (none)) else (understoryref12_cut.l0 k x0 x1 x5 (wrap64 (x6 + 1))))) else (none)) else (none)
end
def understoryref12_cut.f (k : Nat) (l0 : List (S64)) (a1 : Int) : Option ((List (S64))) := understoryref12_cut.l0 k l0 a1 ([] : List (S64)) 0
theorem understoryref12_cut.mono_l : ∀ k, (∀ y0 y1 y2 y3, LeO (understoryref12_cut.l0 k y0 y1 y2 y3) (understoryref12_cut.l0 (k + 1) y0 y1 y2 y3)) ∧ (∀ y0 y1 y2 y3 y4 y5 y6, LeO (understoryref12_cut.l1 k y0 y1 y2 y3 y4 y5 y6) (understoryref12_cut.l1 (k + 1) y0 y1 y2 y3 y4 y5 y6))
  | 0 => ⟨fun _ _ _ _ r h => by simp [understoryref12_cut.l0] at h, fun _ _ _ _ _ _ _ r h => by simp [understoryref12_cut.l1] at h⟩
  | k + 1 => by
    obtain ⟨ih0, ih1⟩ := understoryref12_cut.mono_l k
    refine ⟨?_, ?_⟩
    · intro y0 y1 y2 y3
      unfold understoryref12_cut.l0
      repeat' first
      | (with_reducible exact ih0 _ _ _ _)
      | (with_reducible exact ih1 _ _ _ _ _ _ _)
      | (with_reducible exact LeO.refl _)
      | (with_reducible exact LeO.none _)
      | (with_reducible refine LeO.ite ?_ ?_)
      | (with_reducible refine LeO.bind ?_ (fun _ => ?_))
      | exact ih0 _ _ _ _
      | exact ih1 _ _ _ _ _ _ _
      | exact LeO.none _
      | refine LeO.ite ?_ ?_
      | refine LeO.bind ?_ (fun _ => ?_)
    · intro y0 y1 y2 y3 y4 y5 y6
      unfold understoryref12_cut.l1
      repeat' first
      | (with_reducible exact ih0 _ _ _ _)
      | (with_reducible exact ih1 _ _ _ _ _ _ _)
      | (with_reducible exact LeO.refl _)
      | (with_reducible exact LeO.none _)
      | (with_reducible refine LeO.ite ?_ ?_)
      | (with_reducible refine LeO.bind ?_ (fun _ => ?_))
      | exact ih0 _ _ _ _
      | exact ih1 _ _ _ _ _ _ _
      | exact LeO.none _
      | refine LeO.ite ?_ ?_
      | refine LeO.bind ?_ (fun _ => ?_)
theorem understoryref12_cut.mono : ∀ a0 a1 k, LeO (understoryref12_cut.f k a0 a1) (understoryref12_cut.f (k + 1) a0 a1) := by
  intro a0 a1 k
  obtain ⟨ih0, ih1⟩ := understoryref12_cut.mono_l k
  unfold understoryref12_cut.f
  repeat' first
      | (with_reducible exact ih0 _ _ _ _)
      | (with_reducible exact ih1 _ _ _ _ _ _ _)
      | (with_reducible exact LeO.refl _)
      | (with_reducible exact LeO.none _)
      | (with_reducible refine LeO.ite ?_ ?_)
      | (with_reducible refine LeO.bind ?_ (fun _ => ?_))
      | exact ih0 _ _ _ _
      | exact ih1 _ _ _ _ _ _ _
      | exact LeO.none _
      | refine LeO.ite ?_ ?_
      | refine LeO.bind ?_ (fun _ => ?_)
def understoryref04_isPage.f (a0 : Int) : Option (Bool) := if a0 ≥ 2 then (some (decide (a0 < 4096))) else (some false)
end Go.Proofs.YtpnhelcemodnmaaGreat.PA
namespace Go.Proofs.YtpnhelcemodnmaaGreat.PA
open Go.RowKit Go.Proofs.YtpnhelcemodnmaaGreatW.PrintWords Go.Proofs.YtpnhelcemodnmaaGreatW.PrintLast Go.Proofs.YtpnhelcemodnmaaGreatW.PrintMore
attribute [local go_sem] max2_int min2_int max_two min_two max_three min_three max_four min_four
set_option linter.unusedVariables false
set_option linter.unusedSimpArgs false
mutual
def understoryref04_freed.l0 : Nat → List (S64) → Int → Option (Bool)
  | 0, _, _ => none
  | k + 1, x0, x3 => if x3 < (x0.length : Int) then (if 0 ≤ x3 then (if ((rd_T64 x0 x3).f0) < 0 then (understoryref04_freed.j1 k x0 x3 true ((rd_T64 x0 x3).f0) ((rd_T64 x0 x3).f1)) else (if ((rd_T64 x0 x3).f0) > 1099511627776 then (understoryref04_freed.j1 k x0 x3 true ((rd_T64 x0 x3).f0) ((rd_T64 x0 x3).f1)) else (if x3 > 0 then (if 0 ≤ (wrap64 (x3 - 1)) then (if (wrap64 (x3 - 1)) < (x0.length : Int) then (if ((rd_T64 x0 x3).f0) ≤ ((rd_T64 x0 (wrap64 (x3 - 1))).f0) then (understoryref04_freed.j1 k x0 x3 true ((rd_T64 x0 x3).f0) ((rd_T64 x0 x3).f1)) else (understoryref04_freed.j1 k x0 x3 ((((rd_T64 x0 x3).f1).length : Int) == 0) ((rd_T64 x0 x3).f0) ((rd_T64 x0 x3).f1))) else (none)) else (none)) else (understoryref04_freed.j1 k x0 x3 ((((rd_T64 x0 x3).f1).length : Int) == 0) ((rd_T64 x0 x3).f0) ((rd_T64 x0 x3).f1))))) else (none)) else (some true)
def understoryref04_freed.j1 : Nat → List (S64) → Int → Bool → Int → List Int → Option (Bool)
  | 0, _, _, _, _, _ => none
  | k + 1, x0, x3, x44, x392000, x392001 => if x44 = true then (some false) else (understoryref04_freed.l1 k x0 x3 0 x392000 x392001)
def understoryref04_freed.l1 : Nat → List (S64) → Int → Int → Int → List Int → Option (Bool)
  | 0, _, _, _, _, _ => none
  | k + 1, x0, x3, x5, x392000, x392001 => if x5 < (x392001.length : Int) then (if 0 ≤ x5 then ((understoryref04_isPage.f (rd x392001 x5)).bind fun t394 => (if t394 = true then (if x5 > 0 then (if 0 ≤ (wrap64 (x5 - 1)) then (if (wrap64 (x5 - 1)) < (x392001.length : Int) then (if (rd x392001 x5) ≤ (rd x392001 (wrap64 (x5 - 1))) then (some false) else (understoryref04_freed.l1 k x0 x3 (wrap64 (x5 + 1)) x392000 x392001)) else (none)) else (none)) else (understoryref04_freed.l1 k x0 x3 (wrap64 (x5 + 1)) x392000 x392001)) else (some false))) else (none)) else (understoryref04_freed.l0 k x0 (wrap64 (x3 + 1)))
end
def understoryref04_freed.f (k : Nat) (l0 : List (S64)) : Option (Bool) := understoryref04_freed.l0 k l0 0
theorem understoryref04_freed.mono_l : ∀ k, (∀ y0 y1, LeO (understoryref04_freed.l0 k y0 y1) (understoryref04_freed.l0 (k + 1) y0 y1)) ∧ (∀ y0 y1 y2 y3 y4, LeO (understoryref04_freed.j1 k y0 y1 y2 y3 y4) (understoryref04_freed.j1 (k + 1) y0 y1 y2 y3 y4)) ∧ (∀ y0 y1 y2 y3 y4, LeO (understoryref04_freed.l1 k y0 y1 y2 y3 y4) (understoryref04_freed.l1 (k + 1) y0 y1 y2 y3 y4))
  | 0 => ⟨fun _ _ r h => by simp [understoryref04_freed.l0] at h, fun _ _ _ _ _ r h => by simp [understoryref04_freed.j1] at h, fun _ _ _ _ _ r h => by simp [understoryref04_freed.l1] at h⟩
  | k + 1 => by
    obtain ⟨ih0, ih1, ih2⟩ := understoryref04_freed.mono_l k
    refine ⟨?_, ?_, ?_⟩
    · intro y0 y1
      unfold understoryref04_freed.l0
      repeat' first
      | (with_reducible exact ih0 _ _)
      | (with_reducible exact ih1 _ _ _ _ _)
      | (with_reducible exact ih2 _ _ _ _ _)
      | (with_reducible exact LeO.refl _)
      | (with_reducible exact LeO.none _)
      | (with_reducible refine LeO.ite ?_ ?_)
      | (with_reducible refine LeO.bind ?_ (fun _ => ?_))
      | exact ih0 _ _
      | exact ih1 _ _ _ _ _
      | exact ih2 _ _ _ _ _
      | exact LeO.none _
      | refine LeO.ite ?_ ?_
      | refine LeO.bind ?_ (fun _ => ?_)
    · intro y0 y1 y2 y3 y4
      unfold understoryref04_freed.j1
      repeat' first
      | (with_reducible exact ih0 _ _)
      | (with_reducible exact ih1 _ _ _ _ _)
      | (with_reducible exact ih2 _ _ _ _ _)
      | (with_reducible exact LeO.refl _)
      | (with_reducible exact LeO.none _)
      | (with_reducible refine LeO.ite ?_ ?_)
      | (with_reducible refine LeO.bind ?_ (fun _ => ?_))
      | exact ih0 _ _
      | exact ih1 _ _ _ _ _
      | exact ih2 _ _ _ _ _
      | exact LeO.none _
      | refine LeO.ite ?_ ?_
      | refine LeO.bind ?_ (fun _ => ?_)
    · intro y0 y1 y2 y3 y4
      unfold understoryref04_freed.l1
      repeat' first
      | (with_reducible exact ih0 _ _)
      | (with_reducible exact ih1 _ _ _ _ _)
      | (with_reducible exact ih2 _ _ _ _ _)
      | (with_reducible exact LeO.refl _)
      | (with_reducible exact LeO.none _)
      | (with_reducible refine LeO.ite ?_ ?_)
      | (with_reducible refine LeO.bind ?_ (fun _ => ?_))
      | exact ih0 _ _
      | exact ih1 _ _ _ _ _
      | exact ih2 _ _ _ _ _
      | exact LeO.none _
      | refine LeO.ite ?_ ?_
      | refine LeO.bind ?_ (fun _ => ?_)
theorem understoryref04_freed.mono : ∀ a0 k, LeO (understoryref04_freed.f k a0) (understoryref04_freed.f (k + 1) a0) := by
  intro a0 k
  obtain ⟨ih0, ih1, ih2⟩ := understoryref04_freed.mono_l k
  unfold understoryref04_freed.f
  repeat' first
      | (with_reducible exact ih0 _ _)
      | (with_reducible exact ih1 _ _ _ _ _)
      | (with_reducible exact ih2 _ _ _ _ _)
      | (with_reducible exact LeO.refl _)
      | (with_reducible exact LeO.none _)
      | (with_reducible refine LeO.ite ?_ ?_)
      | (with_reducible refine LeO.bind ?_ (fun _ => ?_))
      | exact ih0 _ _
      | exact ih1 _ _ _ _ _
      | exact ih2 _ _ _ _ _
      | exact LeO.none _
      | refine LeO.ite ?_ ?_
      | refine LeO.bind ?_ (fun _ => ?_)
end Go.Proofs.YtpnhelcemodnmaaGreat.PA
namespace Go.Proofs.YtpnhelcemodnmaaGreat.PA
open Go.RowKit Go.Proofs.YtpnhelcemodnmaaGreatW.PrintWords Go.Proofs.YtpnhelcemodnmaaGreatW.PrintLast Go.Proofs.YtpnhelcemodnmaaGreatW.PrintMore
attribute [local go_sem] max2_int min2_int max_two min_two max_three min_three max_four min_four
set_option linter.unusedVariables false
set_option linter.unusedSimpArgs false
mutual
def understoryref04_parts.l0 : Nat → List (S64) → List (List (S64)) → List (S64) → Int → Int → Option ((List (List (S64))))
  | 0, _, _, _, _, _ => none
  | k + 1, x0, x3, x4, x5, x6 => if x6 < (x0.length : Int) then (if 0 ≤ x6 then (understoryref04_parts.l1 k x0 x3 x4 x5 x6 ((rd_T64 x0 x6).f1)) else (none)) else (if (x4.length : Int) > 0 then (if x3.length < 5864062014805 then (some (x3 ++ [x4])) else (none)) else (some x3))
def understoryref04_parts.l1 : Nat → List (S64) → List (List (S64)) → List (S64) → Int → Int → List Int → Option ((List (List (S64))))
  | 0, _, _, _, _, _, _ => none
  | k + 1, x0, x3, x4, x5, x6, x7 => if (x7.length : Int) > 0 then (if x5 < 12 then (if x3.length < 5864062014805 then (understoryref04_parts.l1 k x0 (x3 ++ [x4]) ([] : List (S64)) 490 x6 x7) else (none)) else (if 0 ≤ x6 then (if x6 < (x0.length : Int) then (if 0 ≤ (mn (wrap64 (Int.tdiv (wrap64 (x5 - 8)) 4)) (x7.length : Int)) then (if (mn (wrap64 (Int.tdiv (wrap64 (x5 - 8)) 4)) (x7.length : Int)) ≤ (x7.length : Int) then (if x4.length < 4398046511104 then (understoryref04_parts.l1 k x0 x3 (x4 ++ [(⟨(rd_T64 x0 x6).f0, (x7.take ((mn (wrap64 (Int.tdiv (wrap64 (x5 - 8)) 4)) (x7.length : Int)) : Int).toNat)⟩ : S64)]) (wrap64 ((wrap64 (x5 - 8)) - (wrap64 (4 * (mn (wrap64 (Int.tdiv (wrap64 (x5 - 8)) 4)) (x7.length : Int)))))) x6 (x7.drop ((mn (wrap64 (Int.tdiv (wrap64 (x5 - 8)) 4)) (x7.length : Int)) : Int).toNat)) else (none)) else (none)) else (none)) else (none)) else (none))) else (understoryref04_parts.l0 k x0 x3 x4 x5 (wrap64 (x6 + 1)))
end
def understoryref04_parts.f (k : Nat) (l0 : List (S64)) : Option ((List (List (S64)))) := understoryref04_parts.l0 k l0 ([] : List (List (S64))) ([] : List (S64)) 490 0
theorem understoryref04_parts.mono_l : ∀ k, (∀ y0 y1 y2 y3 y4, LeO (understoryref04_parts.l0 k y0 y1 y2 y3 y4) (understoryref04_parts.l0 (k + 1) y0 y1 y2 y3 y4)) ∧ (∀ y0 y1 y2 y3 y4 y5, LeO (understoryref04_parts.l1 k y0 y1 y2 y3 y4 y5) (understoryref04_parts.l1 (k + 1) y0 y1 y2 y3 y4 y5))
  | 0 => ⟨fun _ _ _ _ _ r h => by simp [understoryref04_parts.l0] at h, fun _ _ _ _ _ _ r h => by simp [understoryref04_parts.l1] at h⟩
  | k + 1 => by
    obtain ⟨ih0, ih1⟩ := understoryref04_parts.mono_l k
    refine ⟨?_, ?_⟩
    · intro y0 y1 y2 y3 y4
      unfold understoryref04_parts.l0
      repeat' first
      | (with_reducible exact ih0 _ _ _ _ _)
      | (with_reducible exact ih1 _ _ _ _ _ _)
      | (with_reducible exact LeO.refl _)
      | (with_reducible exact LeO.none _)
      | (with_reducible refine LeO.ite ?_ ?_)
      | (with_reducible refine LeO.bind ?_ (fun _ => ?_))
      | exact ih0 _ _ _ _ _
      | exact ih1 _ _ _ _ _ _
      | exact LeO.none _
      | refine LeO.ite ?_ ?_
      | refine LeO.bind ?_ (fun _ => ?_)
    · intro y0 y1 y2 y3 y4 y5
      unfold understoryref04_parts.l1
      repeat' first
      | (with_reducible exact ih0 _ _ _ _ _)
      | (with_reducible exact ih1 _ _ _ _ _ _)
      | (with_reducible exact LeO.refl _)
      | (with_reducible exact LeO.none _)
      | (with_reducible refine LeO.ite ?_ ?_)
      | (with_reducible refine LeO.bind ?_ (fun _ => ?_))
      | exact ih0 _ _ _ _ _
      | exact ih1 _ _ _ _ _ _
      | exact LeO.none _
      | refine LeO.ite ?_ ?_
      | refine LeO.bind ?_ (fun _ => ?_)
theorem understoryref04_parts.mono : ∀ a0 k, LeO (understoryref04_parts.f k a0) (understoryref04_parts.f (k + 1) a0) := by
  intro a0 k
  obtain ⟨ih0, ih1⟩ := understoryref04_parts.mono_l k
  unfold understoryref04_parts.f
  repeat' first
      | (with_reducible exact ih0 _ _ _ _ _)
      | (with_reducible exact ih1 _ _ _ _ _ _)
      | (with_reducible exact LeO.refl _)
      | (with_reducible exact LeO.none _)
      | (with_reducible refine LeO.ite ?_ ?_)
      | (with_reducible refine LeO.bind ?_ (fun _ => ?_))
      | exact ih0 _ _ _ _ _
      | exact ih1 _ _ _ _ _ _
      | exact LeO.none _
      | refine LeO.ite ?_ ?_
      | refine LeO.bind ?_ (fun _ => ?_)
def understoryref04_ListNeeds.f (k : Nat) (l0 : List (S64)) : Option (Int × Int) := (understoryref04_freed.f k l0).bind fun t419 => (if t419 = true then ((understoryref04_parts.f k l0).bind fun t420 => (some ((t420.length : Int), 0))) else (some (0, 2)))
theorem understoryref04_ListNeeds.mono : ∀ a0 k, LeO (understoryref04_ListNeeds.f k a0) (understoryref04_ListNeeds.f (k + 1) a0) := by
  intro a0 k
  unfold understoryref04_ListNeeds.f
  repeat' first
      | (with_reducible exact understoryref04_freed.mono _ _)
      | (with_reducible exact understoryref04_parts.mono _ _)
      | (with_reducible exact LeO.refl _)
      | (with_reducible exact LeO.none _)
      | (with_reducible refine LeO.ite ?_ ?_)
      | (with_reducible refine LeO.bind ?_ (fun _ => ?_))
      | exact understoryref04_freed.mono _ _
      | exact understoryref04_parts.mono _ _
      | exact LeO.none _
      | refine LeO.ite ?_ ?_
      | refine LeO.bind ?_ (fun _ => ?_)
def understoryref12_without.l0 : Nat → List Int → Int → List Int → Int → Option (List Int)
  | 0, _, _, _, _ => none
  | k + 1, x0, x1, x5, x6 => if x6 < (x0.length : Int) then (if 0 ≤ x6 then (if (rd x0 x6) = x1 then (understoryref12_without.l0 k x0 x1 x5 (wrap64 (x6 + 1))) else (if x5.length < 17592186044416 then (understoryref12_without.l0 k x0 x1 (x5 ++ [rd x0 x6]) (wrap64 (x6 + 1))) else (none))) else (none)) else (some x5)
def understoryref12_without.f (k : Nat) (l0 : List Int) (a1 : Int) : Option (List Int) := understoryref12_without.l0 k l0 a1 ([] : List Int) 0
theorem understoryref12_without.mono_l : ∀ k, (∀ y0 y1 y2 y3, LeO (understoryref12_without.l0 k y0 y1 y2 y3) (understoryref12_without.l0 (k + 1) y0 y1 y2 y3))
  | 0 => fun _ _ _ _ r h => by simp [understoryref12_without.l0] at h
  | k + 1 => by
    have ih0 := understoryref12_without.mono_l k
    · intro y0 y1 y2 y3
      unfold understoryref12_without.l0
      repeat' first
      | (with_reducible exact ih0 _ _ _ _)
      | (with_reducible exact LeO.refl _)
      | (with_reducible exact LeO.none _)
      | (with_reducible refine LeO.ite ?_ ?_)
      | (with_reducible refine LeO.bind ?_ (fun _ => ?_))
      | exact ih0 _ _ _ _
      | exact LeO.none _
      | refine LeO.ite ?_ ?_
      | refine LeO.bind ?_ (fun _ => ?_)
theorem understoryref12_without.mono : ∀ a0 a1 k, LeO (understoryref12_without.f k a0 a1) (understoryref12_without.f (k + 1) a0 a1) := by
  intro a0 a1 k
  have ih0 := understoryref12_without.mono_l k
  unfold understoryref12_without.f
  repeat' first
      | (with_reducible exact ih0 _ _ _ _)
      | (with_reducible exact LeO.refl _)
      | (with_reducible exact LeO.none _)
      | (with_reducible refine LeO.ite ?_ ?_)
      | (with_reducible refine LeO.bind ?_ (fun _ => ?_))
      | exact ih0 _ _ _ _
      | exact LeO.none _
      | refine LeO.ite ?_ ?_
      | refine LeO.bind ?_ (fun _ => ?_)
end Go.Proofs.YtpnhelcemodnmaaGreat.PA
namespace Go.Proofs.YtpnhelcemodnmaaGreat
open Go.RowKit Go.Shelf Go.Proofs.YtpnhelcemodnmaaGreatW.PrintWords Go.Proofs.YtpnhelcemodnmaaGreatW.PrintLast Go.Proofs.YtpnhelcemodnmaaGreatW.PrintMore PA
set_option linter.unusedVariables false
set_option linter.unusedSimpArgs false
attribute [local go_sem] Oper.semAt_some
end Go.Proofs.YtpnhelcemodnmaaGreat
namespace Go.Proofs.YtpnhelcemodnmaaGreat.PA
open Go.RowKit Go.Proofs.YtpnhelcemodnmaaGreatW.PrintWords Go.Proofs.YtpnhelcemodnmaaGreatW.PrintLast Go.Proofs.YtpnhelcemodnmaaGreatW.PrintMore
attribute [local go_sem] max2_int min2_int max_two min_two max_three min_three max_four min_four
set_option linter.unusedVariables false
set_option linter.unusedSimpArgs false
mutual
def understoryref12_Is.l0 : Nat → List (S64) → Int → List Bool → Int → Option (Bool)
  | 0, _, _, _, _ => none
  | k + 1, x0, x1, x5, x6 => if x6 < (x0.length : Int) then (if 0 ≤ x6 then (if ((rd_T64 x0 x6).f0) < 0 then (understoryref12_Is.j1 k x0 x1 x5 x6 true ((rd_T64 x0 x6).f0) ((rd_T64 x0 x6).f1)) else (if ((rd_T64 x0 x6).f0) > 1099511627776 then (understoryref12_Is.j1 k x0 x1 x5 x6 true ((rd_T64 x0 x6).f0) ((rd_T64 x0 x6).f1)) else (if x6 > 0 then (if 0 ≤ (wrap64 (x6 - 1)) then (if (wrap64 (x6 - 1)) < (x0.length : Int) then (if ((rd_T64 x0 x6).f0) ≤ ((rd_T64 x0 (wrap64 (x6 - 1))).f0) then (understoryref12_Is.j1 k x0 x1 x5 x6 true ((rd_T64 x0 x6).f0) ((rd_T64 x0 x6).f1)) else (understoryref12_Is.j1 k x0 x1 x5 x6 ((((rd_T64 x0 x6).f1).length : Int) == 0) ((rd_T64 x0 x6).f0) ((rd_T64 x0 x6).f1))) else (none)) else (none)) else (understoryref12_Is.j1 k x0 x1 x5 x6 ((((rd_T64 x0 x6).f1).length : Int) == 0) ((rd_T64 x0 x6).f0) ((rd_T64 x0 x6).f1))))) else (none)) else (some true)
def understoryref12_Is.j1 : Nat → List (S64) → Int → List Bool → Int → Bool → Int → List Int → Option (Bool)
  | 0, _, _, _, _, _, _, _ => none
  | k + 1, x0, x1, x5, x6, x50, x304000, x304001 => if x50 = true then (some false) else (understoryref12_Is.l1 k x0 x1 x5 x6 0 x304000 x304001)
def understoryref12_Is.l1 : Nat → List (S64) → Int → List Bool → Int → Int → Int → List Int → Option (Bool)
  | 0, _, _, _, _, _, _, _ => none
  | k + 1, x0, x1, x5, x6, x8, x304000, x304001 => if x8 < (x304001.length : Int) then (if 0 ≤ x8 then (if (rd x304001 x8) < 2 then (some false) else (if (rd x304001 x8) ≥ x1 then (some false) else (if 0 ≤ (rd x304001 x8) then (if (rd x304001 x8) < (x5.length : Int) then (if rdOf false x5 (rd x304001 x8) = true then (some false) else (if x8 > 0 then (if 0 ≤ (wrap64 (x8 - 1)) then (if (wrap64 (x8 - 1)) < (x304001.length : Int) then (if (rd x304001 x8) ≤ (rd x304001 (wrap64 (x8 - 1))) then (some false) else (understoryref12_Is.l1 k x0 x1 (x5.set ((rd x304001 x8) : Int).toNat true) x6 (wrap64 (x8 + 1)) x304000 x304001)) else (none)) else (none)) else (understoryref12_Is.l1 k x0 x1 (x5.set ((rd x304001 x8) : Int).toNat true) x6 (wrap64 (x8 + 1)) x304000 x304001))) else (none)) else (none)))) else (none)) else (understoryref12_Is.l0 k x0 x1 x5 (wrap64 (x6 + 1)))
end
def understoryref12_Is.f (k : Nat) (l0 : List (S64)) (a1 : Int) : Option (Bool) := if 0 ≤ a1 then (if (a1 : Int).toNat ≤ 281474976710656 then (understoryref12_Is.l0 k l0 a1 (List.replicate (a1 : Int).toNat false) 0) else (none)) else (none)
theorem understoryref12_Is.mono_l : ∀ k, (∀ y0 y1 y2 y3, LeO (understoryref12_Is.l0 k y0 y1 y2 y3) (understoryref12_Is.l0 (k + 1) y0 y1 y2 y3)) ∧ (∀ y0 y1 y2 y3 y4 y5 y6, LeO (understoryref12_Is.j1 k y0 y1 y2 y3 y4 y5 y6) (understoryref12_Is.j1 (k + 1) y0 y1 y2 y3 y4 y5 y6)) ∧ (∀ y0 y1 y2 y3 y4 y5 y6, LeO (understoryref12_Is.l1 k y0 y1 y2 y3 y4 y5 y6) (understoryref12_Is.l1 (k + 1) y0 y1 y2 y3 y4 y5 y6))
  | 0 => ⟨fun _ _ _ _ r h => by simp [understoryref12_Is.l0] at h, fun _ _ _ _ _ _ _ r h => by simp [understoryref12_Is.j1] at h, fun _ _ _ _ _ _ _ r h => by simp [understoryref12_Is.l1] at h⟩
  | k + 1 => by
    obtain ⟨ih0, ih1, ih2⟩ := understoryref12_Is.mono_l k
    refine ⟨?_, ?_, ?_⟩
    · intro y0 y1 y2 y3
      unfold understoryref12_Is.l0
      repeat' first
      | (with_reducible exact ih0 _ _ _ _)
      | (with_reducible exact ih1 _ _ _ _ _ _ _)
      | (with_reducible exact ih2 _ _ _ _ _ _ _)
      | (with_reducible exact LeO.refl _)
      | (with_reducible exact LeO.none _)
      | (with_reducible refine LeO.ite ?_ ?_)
      | (with_reducible refine LeO.bind ?_ (fun _ => ?_))
      | exact ih0 _ _ _ _
      | exact ih1 _ _ _ _ _ _ _
      | exact ih2 _ _ _ _ _ _ _
      | exact LeO.none _
      | refine LeO.ite ?_ ?_
      | refine LeO.bind ?_ (fun _ => ?_)
    · intro y0 y1 y2 y3 y4 y5 y6
      unfold understoryref12_Is.j1
      repeat' first
      | (with_reducible exact ih0 _ _ _ _)
      | (with_reducible exact ih1 _ _ _ _ _ _ _)
      | (with_reducible exact ih2 _ _ _ _ _ _ _)
      | (with_reducible exact LeO.refl _)
      | (with_reducible exact LeO.none _)
      | (with_reducible refine LeO.ite ?_ ?_)
      | (with_reducible refine LeO.bind ?_ (fun _ => ?_))
      | exact ih0 _ _ _ _
      | exact ih1 _ _ _ _ _ _ _
      | exact ih2 _ _ _ _ _ _ _
      | exact LeO.none _
      | refine LeO.ite ?_ ?_
      | refine LeO.bind ?_ (fun _ => ?_)
    · intro y0 y1 y2 y3 y4 y5 y6
      unfold understoryref12_Is.l1
      repeat' first
      | (with_reducible exact ih0 _ _ _ _)
      | (with_reducible exact ih1 _ _ _ _ _ _ _)
      | (with_reducible exact ih2 _ _ _ _ _ _ _)
      | (with_reducible exact LeO.refl _)
      | (with_reducible exact LeO.none _)
      | (with_reducible refine LeO.ite ?_ ?_)
      | (with_reducible refine LeO.bind ?_ (fun _ => ?_))
      | exact ih0 _ _ _ _
      | exact ih1 _ _ _ _ _ _ _
      | exact ih2 _ _ _ _ _ _ _
      | exact LeO.none _
      | refine LeO.ite ?_ ?_
      | refine LeO.bind ?_ (fun _ => ?_)
theorem understoryref12_Is.mono : ∀ a0 a1 k, LeO (understoryref12_Is.f k a0 a1) (understoryref12_Is.f (k + 1) a0 a1) := by
  intro a0 a1 k
  obtain ⟨ih0, ih1, ih2⟩ := understoryref12_Is.mono_l k
  unfold understoryref12_Is.f
  repeat' first
      | (with_reducible exact ih0 _ _ _ _)
      | (with_reducible exact ih1 _ _ _ _ _ _ _)
      | (with_reducible exact ih2 _ _ _ _ _ _ _)
      | (with_reducible exact LeO.refl _)
      | (with_reducible exact LeO.none _)
      | (with_reducible refine LeO.ite ?_ ?_)
      | (with_reducible refine LeO.bind ?_ (fun _ => ?_))
      | exact ih0 _ _ _ _
      | exact ih1 _ _ _ _ _ _ _
      | exact ih2 _ _ _ _ _ _ _
      | exact LeO.none _
      | refine LeO.ite ?_ ?_
      | refine LeO.bind ?_ (fun _ => ?_)
end Go.Proofs.YtpnhelcemodnmaaGreat.PA
namespace Go.Proofs.YtpnhelcemodnmaaGreat.PA
open Go.RowKit Go.Proofs.YtpnhelcemodnmaaGreatW.PrintWords Go.Proofs.YtpnhelcemodnmaaGreatW.PrintLast Go.Proofs.YtpnhelcemodnmaaGreatW.PrintMore
attribute [local go_sem] max2_int min2_int max_two min_two max_three min_three max_four min_four
set_option linter.unusedVariables false
set_option linter.unusedSimpArgs false
mutual
def understoryref04_numbered.l0 : Nat → List Int → Int → Int → Option (Bool)
  | 0, _, _, _ => none
  | k + 1, x0, x1, x5 => if x5 < (x0.length : Int) then (if 0 ≤ x5 then ((understoryref04_isPage.f (rd x0 x5)).bind fun t451 => (if t451 = true then (understoryref04_numbered.l1 k x0 x1 x5 0) else (some false))) else (none)) else (if x1 ≥ 0 then (some (decide (x1 ≤ 1099511627776))) else (some false))
def understoryref04_numbered.l1 : Nat → List Int → Int → Int → Int → Option (Bool)
  | 0, _, _, _, _ => none
  | k + 1, x0, x1, x5, x6 => if x6 < x5 then (if 0 ≤ x6 then (if x6 < (x0.length : Int) then (if 0 ≤ x5 then (if x5 < (x0.length : Int) then (if (rd x0 x6) = (rd x0 x5) then (some false) else (understoryref04_numbered.l1 k x0 x1 x5 (wrap64 (x6 + 1)))) else (none)) else (none)) else (none)) else (none)) else (understoryref04_numbered.l0 k x0 x1 (wrap64 (x5 + 1)))
end
def understoryref04_numbered.f (k : Nat) (l0 : List Int) (a1 : Int) : Option (Bool) := understoryref04_numbered.l0 k l0 a1 0
theorem understoryref04_numbered.mono_l : ∀ k, (∀ y0 y1 y2, LeO (understoryref04_numbered.l0 k y0 y1 y2) (understoryref04_numbered.l0 (k + 1) y0 y1 y2)) ∧ (∀ y0 y1 y2 y3, LeO (understoryref04_numbered.l1 k y0 y1 y2 y3) (understoryref04_numbered.l1 (k + 1) y0 y1 y2 y3))
  | 0 => ⟨fun _ _ _ r h => by simp [understoryref04_numbered.l0] at h, fun _ _ _ _ r h => by simp [understoryref04_numbered.l1] at h⟩
  | k + 1 => by
    obtain ⟨ih0, ih1⟩ := understoryref04_numbered.mono_l k
    refine ⟨?_, ?_⟩
    · intro y0 y1 y2
      unfold understoryref04_numbered.l0
      repeat' first
      | (with_reducible exact ih0 _ _ _)
      | (with_reducible exact ih1 _ _ _ _)
      | (with_reducible exact LeO.refl _)
      | (with_reducible exact LeO.none _)
      | (with_reducible refine LeO.ite ?_ ?_)
      | (with_reducible refine LeO.bind ?_ (fun _ => ?_))
      | exact ih0 _ _ _
      | exact ih1 _ _ _ _
      | exact LeO.none _
      | refine LeO.ite ?_ ?_
      | refine LeO.bind ?_ (fun _ => ?_)
    · intro y0 y1 y2 y3
      unfold understoryref04_numbered.l1
      repeat' first
      | (with_reducible exact ih0 _ _ _)
      | (with_reducible exact ih1 _ _ _ _)
      | (with_reducible exact LeO.refl _)
      | (with_reducible exact LeO.none _)
      | (with_reducible refine LeO.ite ?_ ?_)
      | (with_reducible refine LeO.bind ?_ (fun _ => ?_))
      | exact ih0 _ _ _
      | exact ih1 _ _ _ _
      | exact LeO.none _
      | refine LeO.ite ?_ ?_
      | refine LeO.bind ?_ (fun _ => ?_)
theorem understoryref04_numbered.mono : ∀ a0 a1 k, LeO (understoryref04_numbered.f k a0 a1) (understoryref04_numbered.f (k + 1) a0 a1) := by
  intro a0 a1 k
  obtain ⟨ih0, ih1⟩ := understoryref04_numbered.mono_l k
  unfold understoryref04_numbered.f
  repeat' first
      | (with_reducible exact ih0 _ _ _)
      | (with_reducible exact ih1 _ _ _ _)
      | (with_reducible exact LeO.refl _)
      | (with_reducible exact LeO.none _)
      | (with_reducible refine LeO.ite ?_ ?_)
      | (with_reducible refine LeO.bind ?_ (fun _ => ?_))
      | exact ih0 _ _ _
      | exact ih1 _ _ _ _
      | exact LeO.none _
      | refine LeO.ite ?_ ?_
      | refine LeO.bind ?_ (fun _ => ?_)
def understoryref12_Check.f (k : Nat) (l0 : List (S64)) (a1 : Int) : Option (Int) := (understoryref12_size.f a1).bind fun t454 => (if t454 = true then ((understoryref12_Is.f k l0 a1).bind fun t455 => (if t455 = true then (some 0) else (some 2))) else (some 1))
theorem understoryref12_Check.mono : ∀ a0 a1 k, LeO (understoryref12_Check.f k a0 a1) (understoryref12_Check.f (k + 1) a0 a1) := by
  intro a0 a1 k
  unfold understoryref12_Check.f
  repeat' first
      | (with_reducible exact understoryref12_Is.mono _ _ _)
      | (with_reducible exact LeO.refl _)
      | (with_reducible exact LeO.none _)
      | (with_reducible refine LeO.ite ?_ ?_)
      | (with_reducible refine LeO.bind ?_ (fun _ => ?_))
      | exact understoryref12_Is.mono _ _ _
      | exact LeO.none _
      | refine LeO.ite ?_ ?_
      | refine LeO.bind ?_ (fun _ => ?_)
end Go.Proofs.YtpnhelcemodnmaaGreat.PA
namespace Go.Proofs.YtpnhelcemodnmaaGreat
open Go.RowKit Go.Shelf Go.Proofs.YtpnhelcemodnmaaGreatW.PrintWords Go.Proofs.YtpnhelcemodnmaaGreatW.PrintLast Go.Proofs.YtpnhelcemodnmaaGreatW.PrintMore PA
set_option linter.unusedVariables false
set_option linter.unusedSimpArgs false
attribute [local go_sem] Oper.semAt_some
theorem parts_cons (f : S64) (t : List S64) (h : fullL (f :: t)) : partsOf (f :: t) = (cutL 490 (f :: t)).1 :: partsOf (cutL 490 (f :: t)).2 := by
  unfold partsOf
  rw [partsL]
  have hc := cut_less f t h
  rw [parts_more _ ((pagesOf (cutL 490 (f :: t)).2).length + 1) _ (cut_left 490 _ h).1 (by omega) (by omega)]
theorem parts_nil : partsOf [] = [] := rfl
theorem glue_cons (x : S64) (ps : List S64) (h : ps ≠ []) (L : List S64) : glue (x :: ps) L = x :: glue ps L := by
  cases L with
  | nil => rfl
  | cons g t =>
    rcases List.eq_nil_or_concat ps with e | ⟨i, y, e⟩
    · exact absurd e h
    · rw [List.concat_eq_append] at e
      subst e
      rw [glue, glue]
      by_cases c : y.f0 = g.f0
      · rw [glue1_more c, show x :: (i ++ [y]) = (x :: i) ++ [y] from rfl, glue1_more c]; rfl
      · have h1 : ∀ z, (i ++ [y]).getLast? = some z → z.f0 ≠ g.f0 := fun z hz => by rw [List.getLast?_concat] at hz; injection hz with hz; rw [← hz]; exact c
        have h2 : ∀ z, (x :: (i ++ [y])).getLast? = some z → z.f0 ≠ g.f0 := fun z hz => by rw [show x :: (i ++ [y]) = (x :: i) ++ [y] from rfl, List.getLast?_concat] at hz; injection hz with hz; rw [← hz]; exact c
        rw [glue1_new h1, glue1_new h2]; rfl
theorem glue_append (o ps : List S64) (h : ps ≠ []) (L : List S64) : glue (o ++ ps) L = o ++ glue ps L := by
  induction o with
  | nil => rfl
  | cons x o ih => rw [List.cons_append, glue_cons x (o ++ ps) (by simp [h]), ih]; rfl
theorem glue1_last (out : List S64) (p : S64) : ∃ i z, glue1 out p = i ++ [z] ∧ z.f0 = p.f0 ∧ ∀ g : S64, g.f0 = p.f0 → glue1 out ⟨p.f0, p.f1 ++ g.f1⟩ = i ++ [⟨z.f0, z.f1 ++ g.f1⟩] := by
  rcases List.eq_nil_or_concat out with rfl | ⟨i, x, rfl⟩
  · exact ⟨[], p, rfl, rfl, fun g _ => rfl⟩
  · rw [List.concat_eq_append]
    by_cases c : x.f0 = p.f0
    · refine ⟨i, ⟨x.f0, x.f1 ++ p.f1⟩, glue1_more c, c, fun g _ => ?_⟩
      rw [glue1_more (f := ⟨p.f0, p.f1 ++ g.f1⟩) c, List.append_assoc]
    · have h1 : ∀ q : S64, q.f0 = p.f0 → glue1 (i ++ [x]) q = (i ++ [x]) ++ [q] := fun q hq => glue1_new fun z hz => by rw [List.getLast?_concat] at hz; injection hz with hz; rw [← hz, hq]; exact c
      exact ⟨i ++ [x], p, h1 p rfl, rfl, fun g _ => h1 _ rfl⟩
theorem glue_assoc (out P L : List S64) (h : P ≠ []) : glue (glue out P) L = glue out (glue P L) := by
  cases P with
  | nil => exact absurd rfl h
  | cons p ps =>
    cases L with
    | nil => rfl
    | cons g t =>
      by_cases hp : ps = []
      · subst hp
        rw [show glue out [p] = glue1 out p from List.append_nil _]
        obtain ⟨i, z, e1, e2, e3⟩ := glue1_last out p
        by_cases c : p.f0 = g.f0
        · rw [show glue [p] (g :: t) = [⟨p.f0, p.f1 ++ g.f1⟩] ++ t from by rw [glue, show [p] = [] ++ [p] from rfl, glue1_more c]; rfl]
          rw [glue, e1, glue1_more (e2.trans c), List.singleton_append, glue, e3 g c.symm]
        · rw [show glue [p] (g :: t) = p :: g :: t from by rw [glue, glue1_new (fun z hz => by simp at hz; rw [← hz]; exact c)]; rfl]
          rw [glue, e1, glue1_new (fun y hy => by rw [List.getLast?_concat] at hy; injection hy with hy; rw [← hy, e2]; exact c), glue, e1, List.append_assoc]; rfl
      · rw [show glue out (p :: ps) = glue1 out p ++ ps from rfl, glue_append _ ps hp, glue_cons p ps hp]; rfl
theorem cut_glue (l : List S64) (hp : (l.map (·.f0)).Pairwise (· < ·)) : ∀ r, glue (cutL r l).1 (cutL r l).2 = l := by
  induction l with
  | nil => intro r; rw [cutL]; rfl
  | cons f t ih =>
    intro r
    rw [List.map_cons, List.pairwise_cons] at hp
    by_cases h1 : r < 12
    · rw [cut_full h1]; rfl
    · by_cases h2 : (r - 8) / 4 < f.f1.length
      · rw [cut_part h1 h2]
        show glue1 [_] _ ++ t = f :: t
        have e := glue1_more (init := []) (g := ⟨f.f0, f.f1.take ((r - 8) / 4)⟩) (f := ⟨f.f0, f.f1.drop ((r - 8) / 4)⟩) rfl
        rw [List.take_append_drop] at e
        refine (congrArg (· ++ t) e).trans ?_
        rfl
      · rw [cut_more h1 h2]
        have hi := ih hp.2 (r - (8 + 4 * f.f1.length))
        obtain ⟨P, hP⟩ : ∃ P, (cutL (r - (8 + 4 * f.f1.length)) t).1 = P := ⟨_, rfl⟩
        obtain ⟨L, hL⟩ : ∃ L, (cutL (r - (8 + 4 * f.f1.length)) t).2 = L := ⟨_, rfl⟩
        rw [hP, hL] at hi ⊢
        by_cases hn : P = []
        · subst hn
          have hLt : L = t := by rw [← hi]; cases L <;> rfl
          subst hLt
          cases L with
          | nil => rfl
          | cons g s =>
            rw [glue, glue1_new (fun z hz => by simp at hz; have := hp.1 g.f0 (List.mem_map_of_mem (List.mem_cons_self)); rw [← hz]; omega)]
            rfl
        · rw [glue_cons f P hn, hi]
theorem cut_fst_ne (f : S64) (t : List S64) : (cutL 490 (f :: t)).1 ≠ [] := by
  by_cases h2 : (490 - 8) / 4 < f.f1.length
  · rw [cut_part (by omega) h2]; simp
  · rw [cut_more (by omega) h2]; simp
theorem cut_incr (r : Nat) (l : List S64) (hp : (l.map (·.f0)).Pairwise (· < ·)) : ((cutL r l).2.map (·.f0)).Pairwise (· < ·) := by
  induction l generalizing r with
  | nil => rw [cutL]; exact hp
  | cons f t ih =>
    by_cases h1 : r < 12
    · rw [cut_full h1]; exact hp
    · by_cases h2 : (r - 8) / 4 < f.f1.length
      · rw [cut_part h1 h2]; exact hp
      · rw [cut_more h1 h2]
        rw [List.map_cons, List.pairwise_cons] at hp
        exact ih _ hp.2
theorem join_parts (n : Nat) : ∀ (l out : List S64), fullL l → (pagesOf l).length < n → (l.map (·.f0)).Pairwise (· < ·) → (partsL n l).foldl glue out = glue out l := by
  induction n with
  | zero => intro l out _ h; omega
  | succ n ih =>
    intro l out hf hn hp
    cases l with
    | nil => rw [partsL]; rfl
    | cons f t =>
      rw [partsL, List.foldl_cons]
      have c1 := cut_left 490 (f :: t) hf
      have hless : (pagesOf (cutL 490 (f :: t)).2).length < (pagesOf (f :: t)).length := cut_less f t hf
      rw [ih _ _ c1.1 (by omega) (cut_incr 490 _ hp), glue_assoc _ _ _ (cut_fst_ne f t), cut_glue _ hp]
def stepP (x n : Nat) : Nat := if 120 ≤ x % 122 then 122 * (x / 122 + 1 + (n - 1) / 120) + 3 + (n - 1) % 120 else 122 * (x / 122 + (n + x % 122 - 1) / 120) + 3 + (n + x % 122 - 1) % 120
def posL (x : Nat) (l : List S64) : Nat := l.foldl (fun y f => stepP y f.f1.length) x
def pagesAt (x : Nat) : Nat := (x + 121) / 122
theorem stepP_mono {x y m n : Nat} (hx : x ≤ y) (hm : 1 ≤ m) (hn : m ≤ n) : stepP x m ≤ stepP y n := by
  unfold stepP
  split <;> split <;> omega
theorem stepP_shift (x n : Nat) : stepP (122 + x) n = 122 + stepP x n := by
  unfold stepP
  have e1 : (122 + x) % 122 = x % 122 := by omega
  have e2 : (122 + x) / 122 = x / 122 + 1 := by omega
  rw [e1, e2]
  split <;> omega
theorem posL_shift (l : List S64) : ∀ x, posL (122 + x) l = 122 + posL x l := by
  induction l with
  | nil => intro x; rfl
  | cons f t ih => intro x; show posL (stepP (122 + x) _) t = _; rw [stepP_shift, ih]; rfl
theorem posL_mono (l : List S64) (hf : fullL l) : ∀ {x y : Nat}, x ≤ y → posL x l ≤ posL y l := by
  induction l with
  | nil => intro x y h; exact h
  | cons f t ih =>
    intro x y h
    exact ih (fun g hg => hf g (List.mem_cons_of_mem _ hg)) (stepP_mono h (List.length_pos_iff.2 (hf f (List.mem_cons_self))) (Nat.le_refl _))
theorem count_pos (N : Nat) : ∀ (l : List S64), fullL l → (pagesOf l).length ≤ N → ∀ k, k ≤ 122 → (l ≠ [] ∨ 1 ≤ k) → (partsOf (cutL (490 - 4 * k) l).2).length + 1 = pagesAt (posL k l) := by
  induction N using Nat.strongRecOn with
  | _ N IH =>
    intro l hf hN k hk hne
    cases l with
    | nil =>
      rw [cutL, parts_nil]
      rcases hne with h | h
      · exact absurd rfl h
      · show 0 + 1 = (k + 121) / 122; omega
    | cons f t =>
      have hfl : 1 ≤ f.f1.length := List.length_pos_iff.2 (hf f (List.mem_cons_self))
      have hft : fullL t := fun g hg => hf g (List.mem_cons_of_mem _ hg)
      have hpc := pages_cons f t
      have main : ∀ k, k < 120 → (partsOf (cutL (490 - 4 * k) (f :: t)).2).length + 1 = pagesAt (posL k (f :: t)) := by
        intro k hk
        have e4 : (490 - 4 * k - 8) / 4 = 120 - k := by omega
        by_cases h2 : (490 - 4 * k - 8) / 4 < f.f1.length
        · rw [cut_part (by omega) h2, e4]
          rw [e4] at h2
          have hdl : (f.f1.drop (120 - k)).length = f.f1.length - (120 - k) := List.length_drop
          have hfl2 : fullL (⟨f.f0, f.f1.drop (120 - k)⟩ :: t : List S64) := by
            intro g hg
            rcases List.mem_cons.1 hg with rfl | hg
            · intro e; have := congrArg List.length e; simp at this; omega
            · exact hft g hg
          have hp2 := pages_cons ⟨f.f0, f.f1.drop (120 - k)⟩ t
          dsimp only at hp2
          rw [parts_cons _ t hfl2, List.length_cons]
          have ih := IH (pagesOf (⟨f.f0, f.f1.drop (120 - k)⟩ :: t : List S64)).length (by omega) _ hfl2 (Nat.le_refl _) 0 (by omega) (.inl (by simp))
          rw [show 490 - 4 * 0 = 490 from rfl] at ih
          rw [ih]
          show pagesAt (posL (stepP 0 (f.f1.drop (120 - k)).length) t) + 1 = pagesAt (posL (stepP k f.f1.length) t)
          have es : stepP k f.f1.length = 122 + stepP 0 (f.f1.drop (120 - k)).length := by
            rw [hdl]
            unfold stepP
            rw [if_neg (by omega), if_neg (by omega)]
            omega
          rw [es, posL_shift]
          unfold pagesAt
          omega
        · rw [cut_more (by omega) h2]
          rw [e4] at h2
          rw [show 490 - 4 * k - (8 + 4 * f.f1.length) = 490 - 4 * (k + 2 + f.f1.length) by omega]
          rw [IH (pagesOf t).length (by omega) t hft (Nat.le_refl _) (k + 2 + f.f1.length) (by omega) (.inr (by omega))]
          show pagesAt (posL (k + 2 + f.f1.length) t) = pagesAt (posL (stepP k f.f1.length) t)
          have es : stepP k f.f1.length = k + 2 + f.f1.length := by
            unfold stepP
            rw [if_neg (by omega)]
            omega
          rw [es]
      by_cases h120 : k < 120
      · exact main k h120
      · rw [cut_full (by omega)]
        show (partsOf (f :: t)).length + 1 = _
        rw [parts_cons f t hf, List.length_cons]
        have h0 := main 0 (by omega)
        rw [show 490 - 4 * 0 = 490 from rfl] at h0
        rw [h0]
        show pagesAt (posL (stepP 0 f.f1.length) t) + 1 = pagesAt (posL (stepP k f.f1.length) t)
        have es : stepP k f.f1.length = 122 + stepP 0 f.f1.length := by
          unfold stepP
          rw [if_neg (show ¬ 120 ≤ 0 % 122 by omega)]
          split <;> omega
        rw [es, posL_shift]
        unfold pagesAt
        omega
theorem parts_count (l : List S64) (hf : fullL l) : (partsOf l).length = pagesAt (posL 0 l) := by
  cases l with
  | nil => rfl
  | cons f t =>
    rw [parts_cons f t hf, List.length_cons]
    exact count_pos _ (f :: t) hf (Nat.le_refl _) 0 (by omega) (.inl (by simp))
theorem parts_rest (q : Int) (qs : List Int) (t : List S64) (hf : fullL (⟨0, q :: qs⟩ :: t)) : (partsOf (restL qs t)).length ≤ (partsOf (⟨0, q :: qs⟩ :: t)).length := by
  have hft : fullL t := fun g hg => hf g (List.mem_cons_of_mem _ hg)
  rw [parts_count _ hf]
  have key : posL 0 (restL qs t) ≤ posL 0 (⟨0, q :: qs⟩ :: t : List S64) ∧ fullL (restL qs t) := by
    unfold restL
    split
    · exact ⟨posL_mono t hft (Nat.zero_le _), hft⟩
    · next h =>
      refine ⟨posL_mono t hft (stepP_mono (Nat.le_refl 0) (List.length_pos_iff.2 h) (by simp)), fun g hg => ?_⟩
      rcases List.mem_cons.1 hg with rfl | hg
      · exact h
      · exact hft g hg
  rw [parts_count _ key.2]
  unfold pagesAt
  have := key.1
  omega
theorem ver_cell {w : World} {A : Option Addr} {ps : List S89} (h : k89.C w A ps.length ps) (h0 : 0 < ps.length) : ∃ b o, A = some ⟨b, o, none⟩ ∧ w.cell? ⟨b, o + 2, none⟩ = some (.int .i64 (ps.getD 0 z89).ver) := by
  obtain ⟨b, o, A1, c1, rfl, hx, _, _⟩ := at_89p h 0 h0
  have e : ps.getD 0 z89 = ps[0] := by simp [h0]
  rw [e]
  exact ⟨b, o, rfl, hx 2 _ rfl⟩
theorem pages_back {J : List S64} {ps : List S89} {ns : List Int} {ver : Int} (hS : smallL J) (hF : formP 4096 J) (hnl : ns.length = ps.length) (hm : ps.length ≤ 1000000) (hPN : (partsOf J).length ≤ ps.length) (hN : numB ns ver = true) (hPG : listPg J ns ver = ps)
    (OA NA : Option Addr) (oc nc : Nat) (w1 : World) (h1 : k64.C w1 OA J.length J) (h2 : J.length ≤ oc) (hC : (Kd.int .i64).C w1 NA ns.length ns) (hcn : ns.length ≤ nc) :
    Calls Tryz.prog 55 #[.slice OA J.length oc, .slice NA ns.length nc, .int .i64 ver] w1 fun e w' => ∃ u, e = .returned (.tuple #[u, .int .i64 0]) ∧ Kd.N k89 89 w' w1.heap.size (fun q => w1.heap.size ≤ q) u ps ∧ Below w1.heap.size w1 w' := by
  have hm' : ns.length ≤ 1000000 := hnl ▸ hm
  have hp' : (partsOf J).length ≤ ns.length := hnl ▸ hPN
  subst hPG
  exact pages_yes J ns ver OA NA oc nc w1 h1 h2 hS hF hC hcn hm' hp' hN
set_option maxRecDepth 100000 in
set_option maxHeartbeats 4000000 in
theorem plistOf_yes (ps : List S89) (A : Option Addr) (c : Nat) (w : World) (hA : k89.C w A ps.length ps) (hc : ps.length ≤ c) (hm : ps.length ≤ 1000000) (h0 : 0 < ps.length) (hs : smallL (joinL ps)) (hf : formP 4096 (joinL ps)) (hpl : ∀ x ∈ ps, plainP x)
    (ver : Int) (hv : (ps.getD 0 z89).ver = ver) (hn : numB (numsOf ps) ver = true) (hpn : (partsOf (joinL ps)).length ≤ ps.length) (hpg : listPg (joinL ps) (numsOf ps) ver = ps) :
    Calls Tryz.prog 74 #[.slice A ps.length c] w fun e w' => ∃ v, e = .returned (.tuple #[v, .int .i64 0]) ∧ Kd.N k64 64 w' w.heap.size (fun y => w.heap.size ≤ y) v (joinL ps) ∧ Below w.heap.size w w' := by
  have HA := Aside0.mk hA
  have HS := Aside0.mk hs
  have HSK := Aside0.mk (join_small hs)
  have HF := Aside0.mk hf
  have HPL := Aside0.mk hpl
  have HV := Lib.hid hv
  have HN := Lib.hid hn
  have HPN := Lib.hid hpn
  have HPG := Lib.hid hpg
  have hz : ((ps.length : Int) == 0) = false := beq_eq_false_iff_ne.2 (by omega)
  have hz2 : (ps.length == 0) = false := beq_eq_false_iff_ne.2 (by omega)
  clear hA hs hf hpl hv hn hpn hpg
  go_enter Tryz.func74, Tryz.ntmps74
  go_upto_region 5 with (fail)
  go_loopw [4, 17] (fun o i wr => ∃ (k : Nat) (L : Value), k ≤ ps.length ∧ i = .int .i64 k ∧ Aside0 (OutP wr w.heap.size o L (joinL (ps.take k))) ∧ Aside0 (Below w.heap.size w wr))
    (fun _ i _ => ps.length - (intOf i).toNat)
  case atStart => exact ⟨0, .slice none 0 0, Nat.zero_le _, rfl, ⟨OutP.nil _ _⟩, ⟨Below.refl _ _⟩⟩
  case round =>
    obtain ⟨k, L, hk, rfl, HO, HW⟩ := hrel
    obtain ⟨OA, oc, hO⟩ := HO.out.slice
    subst hO
    by_cases hlt : k < ps.length
    · obtain ⟨b, o, A1, c1, rfl, hx, hl1, hC1⟩ := at_89p HA.out k hlt
      replace hx := fun j v hv => cellB HW.out (Nat.le_refl _) (hx j v hv)
      have HJS := Lib.hid (join_take_succ ps k hlt)
      have HSM := Lib.hid (HSK.out (k + 1))
      obtain ⟨T, hT⟩ : ∃ T, ps[k] = T := ⟨_, rfl⟩
      rw [hT] at hx hl1 hC1 HJS
      obtain ⟨J, hJ⟩ : ∃ J, joinL (ps.take k) = J := ⟨_, rfl⟩
      rw [hJ] at HO HJS ⊢
      rw [HJS.out] at HSM
      obtain ⟨pk, pn, pv, pt, pl, pb, ⟨e1, e2, e3⟩, px, pd, fr⟩ := T
      simp only [cells89] at hx
      dsimp only at hl1 hC1
      replace HJS : Hid (joinL (ps.take (k + 1)) = glue J fr) := HJS
      replace HSM : Hid (smallL (glue J fr)) := HSM
      have HC1 := Aside0.mk hC1
      have x0 : wr.cell? ⟨b, o + k * 10, none⟩ = some (.int .i64 pk) := hx 0 _ rfl
      have x1 : wr.cell? ⟨b, o + k * 10 + 1, none⟩ = some (.int .i64 pn) := hx 1 _ rfl
      have x2 : wr.cell? ⟨b, o + k * 10 + 2, none⟩ = some (.int .i64 pv) := hx 2 _ rfl
      have x3 : wr.cell? ⟨b, o + k * 10 + 3, none⟩ = some (.int .i64 pt) := hx 3 _ rfl
      have x4 : wr.cell? ⟨b, o + k * 10 + 4, none⟩ = some (.int .i64 pl) := hx 4 _ rfl
      have x5 : wr.cell? ⟨b, o + k * 10 + 5, none⟩ = some (.bool pb) := hx 5 _ rfl
      have x6 : wr.cell? ⟨b, o + k * 10 + 6, none⟩ = some (.slice e1 e2 e3) := hx 6 _ rfl
      have x7 : wr.cell? ⟨b, o + k * 10 + 7, none⟩ = some (.int .i64 px) := hx 7 _ rfl
      have x8 : wr.cell? ⟨b, o + k * 10 + 8, none⟩ = some (.string pd) := hx 8 _ rfl
      have x9 : wr.cell? ⟨b, o + k * 10 + 9, none⟩ = some (.slice A1 fr.length c1) := hx 9 _ rfl
      clear hT hJ hC1 hx
      go_upto_region 7 with (fail)
      have hb1 := below_alloc1 wr (.cells #[.int .i64 pk, .int .i64 pn, .int .i64 pv, .int .i64 pt, .int .i64 pl, .bool pb, .slice e1 e2 e3, .int .i64 px, .string pd, .slice A1 fr.length c1] 89)
      have hk1 := blk_new wr (.cells #[.int .i64 pk, .int .i64 pn, .int .i64 pv, .int .i64 pt, .int .i64 pl, .bool pb, .slice e1 e2 e3, .int .i64 px, .string pd, .slice A1 fr.length c1] 89)
      obtain ⟨W1, hW1⟩ : ∃ W1, wr.alloc (.cells #[.int .i64 pk, .int .i64 pn, .int .i64 pv, .int .i64 pt, .int .i64 pl, .bool pb, .slice e1 e2 e3, .int .i64 px, .string pd, .slice A1 fr.length c1] 89) = W1 := ⟨_, rfl⟩
      obtain ⟨G, hG⟩ : ∃ G, wr.heap.size = G := ⟨_, rfl⟩
      rw [hW1] at hb1 hk1 ⊢
      rw [hG] at hk1 ⊢
      have u9 : W1.cell? ⟨G, 9, none⟩ = some (.slice A1 fr.length c1) := (blk_cell hk1 9).trans rfl
      have HB1 := Aside0.mk (HW.out.trans (hb1.mono HW.out.size))
      have HO1 : Aside0 (OutP W1 w.heap.size (.slice OA J.length oc) L (glue J (fr.take 0))) := ⟨by rw [glue_take_zero]; exact HO.out.below hb1⟩
      clear x0 x1 x2 x3 x4 x5 x6 x7 x8 x9 hW1 hG hb1 hk1 HO HW
      go_upto_region 8 with (fail)
      go_loopw [4, 24] (fun o2 i wi => ∃ (q : Nat) (L : Value), q ≤ fr.length ∧ i = .int .i64 q ∧ Aside0 (OutP wi w.heap.size o2 L (glue J (fr.take q))) ∧ Aside0 (Below w.heap.size w wi))
        (fun _ i _ => fr.length - (intOf i).toNat)
      case atStart => exact ⟨0, L, Nat.zero_le _, rfl, HO1, HB1⟩
      case round =>
        clear HO1 HB1
        obtain ⟨q, L, hq, rfl, HO, HW⟩ := hrel
        obtain ⟨OA, oc, hO⟩ := HO.out.slice
        subst hO
        have hfl := Kd.C_max HC1.out
        by_cases hql : q < fr.length
        · obtain ⟨ad, X1, cx, rfl, hx0, hx1, hl1, hCX⟩ := at_T64 (Kd.C_below HC1.out HW.out) (q : Int) (by omega) (by omega)
          rw [Int.toNat_natCast] at hx0 hx1
          have hsl : (pagesOf fr).length ≤ 1000000 := by have h := HSM.out.2; rw [glue_pages, List.length_append] at h; omega
          have hxl : (rd_T64 fr (q : Int)).f1.length ≤ 1000000 := by
            have h2 := pages_take_succ fr q hql
            have h3 := pages_take_le fr (q + 1)
            rw [h2, List.length_append] at h3
            omega
          have hge := rd_nat fr q hql
          obtain ⟨T, hT⟩ : ∃ T, rd_T64 fr (q : Int) = T := ⟨_, rfl⟩
          rw [hT] at hx0 hx1 hl1 hCX hxl hge
          have HGE := Lib.hid hge
          obtain ⟨v, xs⟩ := T
          dsimp only at hx0 hx1 hl1 hCX hxl
          have hol := (glue_take_le J fr q).1
          have holm : (glue J (fr.take q)).length ≤ 1000000 := Nat.le_trans hol HSM.out.1
          have hopm : (pagesOf (glue J (fr.take q))).length ≤ 1000000 := Nat.le_trans (glue_take_le J fr q).2 HSM.out.2
          have HG0 := Aside0.mk (show q = 0 → glue J (fr.take (q + 1)) = glue1 (glue J (fr.take q)) ⟨v, xs⟩ from fun e => by
            subst e
            rw [glue_take_zero, glue_take_one J ⟨v, xs⟩ fr (by rw [List.getElem?_eq_getElem hql, hge])])
          have HG1 := Aside0.mk (show 0 < q → glue J (fr.take (q + 1)) = glue J (fr.take q) ++ [⟨v, xs⟩] from fun e => by rw [glue_take_succ J fr q e hql, hge])
          obtain ⟨Q, hQ⟩ : ∃ Q, glue J (fr.take q) = Q := ⟨_, rfl⟩
          rw [hQ] at HO HG0 HG1 holm hopm ⊢
          clear hT hQ hge hol hsl
          go_upto_region 10 with (fail)
          have hb1 := below_alloc1 wr (.cells #[.int .i64 v, .slice X1 xs.length cx] 64)
          have hk1 := blk_new wr (.cells #[.int .i64 v, .slice X1 xs.length cx] 64)
          have HCL := Aside0.mk (cloneInt xs X1 cx (wr.alloc (.cells #[.int .i64 v, .slice X1 xs.length cx] 64)) (Kd.C_below hCX hb1) (by omega))
          obtain ⟨fb, hfb⟩ : ∃ fb, wr.heap.size = fb := ⟨_, rfl⟩
          obtain ⟨W1, hW1⟩ : ∃ W1, wr.alloc (.cells #[.int .i64 v, .slice X1 xs.length cx] 64) = W1 := ⟨_, rfl⟩
          have hs1 : W1.heap.size = fb + 1 := by rw [← hW1, ← hfb]; simp
          rw [hW1] at hb1 hk1 HCL ⊢
          have HW0 := Aside0.mk hb1
          have HFB := Lib.hid hfb
          have HS1 := Lib.hid hs1
          rw [hfb] at hk1 ⊢
          have u0 : W1.cell? ⟨fb, 0, none⟩ = some (.int .i64 v) := (blk_cell hk1 0).trans rfl
          have u1 : W1.cell? ⟨fb, 1, none⟩ = some (.slice X1 xs.length cx) := (blk_cell hk1 1).trans rfl
          have HK1 := Aside0.mk hk1
          clear hW1 hfb hk1 hb1 hx0 hx1 hCX hs1
          go_upto_region 11 with (go_at_call 96; (refine HCL.out.mono ?_); rintro e w4 ⟨L2, rfl, hr4, hb4⟩; obtain ⟨YA, yc, rfl⟩ := Kd.R_slice hr4; have hk4 := blk_below HK1.out hb4; have z1 := blk_frozen hk4 1; have y1 : w4.cell? ⟨fb, 1, none⟩ = some (.slice X1 xs.length cx) := (blk_cell hk4 1).trans rfl)
          have hyb : ∀ y, (Value.slice YA xs.length yc).ownBlock = some y → fb + 1 ≤ y := fun y hy => HS1.out ▸ Kd.R_base hr4 y hy
          have hr5 := Kd.R_mono (Kd.R_far (p := ⟨fb, 1, none⟩) (Kd.R_reok rfl hr4 (ok := fun y => y ≠ fb) (fun y hy e => by have := hyb y hy; omega)) (fun y hy => hy) (.slice YA xs.length yc)) (fun _ _ => trivial)
          have hb5 := (HW0.out.trans (hb4.mono HW0.out.size)).setCell (p := ⟨fb, 1, none⟩) (Nat.le_of_eq HFB.out) (.slice YA xs.length yc)
          have hk5 := blk_put hk4 1 (.slice YA xs.length yc) rfl
          obtain ⟨w5, hw5⟩ : ∃ w5, w4.setCell ⟨fb, 1, none⟩ (.slice YA xs.length yc) = w5 := ⟨_, rfl⟩
          rw [hw5] at hr5 hb5 hk5 ⊢
          rw [HS1.out] at hr5
          have hk5' : w5.heap[fb]? = some (.cells #[.int .i64 v, .slice YA xs.length yc] 64 (0, 0)) := hk5
          have HK5 := Aside0.mk hk5'
          have HR5 := Aside0.mk hr5
          have HB5 := Aside0.mk hb5
          have HOP := Aside0.mk (HO.out.below hb5)
          have HW5 := Aside0.mk (HW.out.trans (hb5.mono HW.out.size))
          have hwf : w.heap.size ≤ fb := HFB.out ▸ HW.out.size
          clear hr4 hb4 hk4 z1 y1 hyb hr5 hb5 hk5 hk5' hw5 u0 u1 HCL HK1 HW0
          have hwr : IntKind.i64.wrap ((Q.length : Int) - 1) = (Q.length : Int) - 1 := by rw [IntKind.wrap_i64]; omega
          go_upto_region 12 with (fail)
          have b0 : w5.cell? ⟨fb, 0, none⟩ = some (.int .i64 v) := (blk_cell HK5.out 0).trans rfl
          have hdec := Classical.propDecidable (q = 0 ∧ ∃ g, Q.getLast? = some g ∧ g.f0 = v)
          go_cut [24, 51] from 24 to 68 (fun ii cc wx => ii = .int .i64 (q : Int) ∧ cc = .bool (decide (q = 0 ∧ ∃ g, Q.getLast? = some g ∧ g.f0 = v)) ∧ Drawn0 w5 wx)
          case first =>
            by_cases c1 : q = 0
            · have d1 : ((q : Int) == 0) = true := by rw [c1]; rfl
              have d1n : (q == 0) = true := by rw [c1]; rfl
              by_cases c2 : Q = []
              · have hcc : decide (q = 0 ∧ ∃ g, Q.getLast? = some g ∧ g.f0 = v) = false := decide_eq_false fun h => by obtain ⟨_, g, hg, _⟩ := h; rw [c2] at hg; simp at hg
                have hQ0 : Q.length = 0 := by rw [c2]; rfl
                clear c1 c2 hwr
                repeat (go_quiet (fail); try go_wp2)
                go_meet
                case rel => refine ⟨rfl, by rw [hcc], ?_⟩; repeat (first | exact Drawn0.refl _ | apply Drawn0.step)
              · have hQl := List.length_pos_iff.2 c2
                have d2 : decide ((0 : Int) ≤ (Q.length : Int) - 1) = true := decide_eq_true (by omega)
                obtain ⟨ob, oc', hOe, hob1, hob2, _⟩ := Kd.N_form HOP.out.N hQl
                injection hOe with e1 _ e3
                subst e1 e3
                obtain ⟨cs, hcl, hFK, hcc0, _⟩ := Kd.N_elem HOP.out.N z64 ((Q.length : Int) - 1) (by omega) (by omega)
                obtain ⟨A9, c9, rfl, _, _⟩ := k64_openF hFK
                have hg0 := hcc0 0 _ rfl
                have hlt9 : ((Q.length : Int) - 1).toNat = Q.length - 1 := by omega
                rw [hlt9] at hg0
                have hgl : Q.getLast? = some (Q.getD (Q.length - 1) z64) := by rw [List.getLast?_eq_getElem?]; simp [show Q.length - 1 < Q.length by omega]
                obtain ⟨g, hg⟩ : ∃ g, Q.getD (Q.length - 1) z64 = g := ⟨_, rfl⟩
                rw [hg] at hg0 hgl
                replace hg0 : w5.cell? ⟨ob, (Q.length - 1) * 2, none⟩ = some (.int .i64 g.f0) := hg0
                have hql1 : (Q.length : Int) - 1 < (Q.length : Int) := by omega
                have hql0 : (0 : Int) ≤ (Q.length : Int) - 1 := by omega
                have hql2 : (1 : Int) ≤ (Q.length : Int) := by omega
                have hql3 : 1 ≤ Q.length := by omega
                have hql4 : decide ((1 : Int) ≤ (Q.length : Int)) = true := decide_eq_true hql2
                have hql5 : decide (1 ≤ Q.length) = true := decide_eq_true hql3
                have hql6 : decide (0 < Q.length) = true := decide_eq_true hQl
                obtain ⟨g0, hg00⟩ : ∃ x, g.f0 = x := ⟨_, rfl⟩
                rw [hg00] at hg0
                by_cases c3 : g0 = v
                · have hcc : decide (q = 0 ∧ ∃ g, Q.getLast? = some g ∧ g.f0 = v) = true := decide_eq_true ⟨c1, g, hgl, by rw [hg00, c3]⟩
                  have d3 : (g0 == v) = true := by rw [c3]; simp
                  clear c1 c2 c3 hgl hg hg00 hFK hcc0 hcl hob1 hob2
                  repeat (go_quiet (fail); try go_wp2)
                  go_meet
                  case rel => refine ⟨rfl, by rw [hcc], ?_⟩; repeat (first | exact Drawn0.refl _ | apply Drawn0.step)
                · have hcc : decide (q = 0 ∧ ∃ g, Q.getLast? = some g ∧ g.f0 = v) = false := decide_eq_false fun h => by obtain ⟨_, g', hg', he⟩ := h; rw [hgl] at hg'; injection hg' with hg'; rw [← hg', hg00] at he; exact c3 he
                  have d3 : (g0 == v) = false := beq_eq_false_iff_ne.2 c3
                  clear c1 c2 c3 hgl hg hg00 hFK hcc0 hcl hob1 hob2
                  repeat (go_quiet (fail); try go_wp2)
                  go_meet
                  case rel => refine ⟨rfl, by rw [hcc], ?_⟩; repeat (first | exact Drawn0.refl _ | apply Drawn0.step)
            · have hcc : decide (q = 0 ∧ ∃ g, Q.getLast? = some g ∧ g.f0 = v) = false := decide_eq_false fun h => c1 h.1
              have d1 : ((q : Int) == 0) = false := beq_eq_false_iff_ne.2 (by omega)
              have d1n : (q == 0) = false := beq_eq_false_iff_ne.2 c1
              clear c1
              repeat (go_quiet (fail); try go_wp2)
              go_meet
              case rel => refine ⟨rfl, by rw [hcc], ?_⟩; repeat (first | exact Drawn0.refl _ | apply Drawn0.step)
          case rest =>
            obtain ⟨rfl, rfl, nd, rfl⟩ := hcut
            have HK6 : Aside0 ((w5.drewN nd).heap[fb]? = some (.cells #[.int .i64 v, .slice YA xs.length yc] 64 (0, 0))) := ⟨blk_drewN HK5.out nd⟩
            have HR6 := Aside0.mk (Kd.R_drewN HR5.out nd)
            have HB6 := Aside0.mk (pw_below_drewN HB5.out nd)
            have HW6 := Aside0.mk (pw_below_drewN HW5.out nd)
            have HOP6 := Aside0.mk (HOP.out.below (pw_below_drewN (Below.refl _ _) nd))
            obtain ⟨w6, hw6⟩ : ∃ w6, w5.drewN nd = w6 := ⟨_, rfl⟩
            rw [hw6] at HK6 HR6 HB6 HW6 HOP6 ⊢
            clear hw6 HK5 HR5 HB5 HOP HW5 hwr b0
            by_cases hcd : q = 0 ∧ ∃ g, Q.getLast? = some g ∧ g.f0 = v
            · rw [decide_eq_true hcd]
              obtain ⟨c1, x, hgl, hxv⟩ := hcd
              obtain ⟨init, rfl⟩ : ∃ init, Q = init ++ [x] := by
                rcases List.eq_nil_or_concat Q with rfl | ⟨i, g, rfl⟩
                · simp at hgl
                · rw [List.concat_eq_append, List.getLast?_concat] at hgl
                  injection hgl with hgl
                  exact ⟨i, by rw [List.concat_eq_append, hgl]⟩
              have hgn := HG0.out c1
              rw [glue1_more (f := ⟨v, xs⟩) hxv] at hgn
              have HGN := Lib.hid hgn
              obtain ⟨ob, oc', hOe, hob1, hob2, _⟩ := Kd.N_form HOP6.out.N (by simp)
              injection hOe with e1 e2 e3
              subst e1 e3
              obtain ⟨hcn, HO0, HO1', HLX', hgx, oces, hoces⟩ := HOP6.out.cells
              obtain ⟨X, xc, rfl⟩ := Kd.R_slice HLX'
              have HLX := Aside0.mk HLX'
              have HO1 := Aside0.mk HO1'
              have HF1 := Aside0.mk (show w6.cell? ⟨fb, 1, none⟩ = some (.slice YA xs.length yc) from (blk_cell HK6.out 1).trans rfl)
              have HYC := Aside0.mk (Kd.R_reads' HR6.out).2.2
              have HS6 : Aside0 (w.heap.size ≤ w6.drew.heap.size) := ⟨HW6.out.size⟩
              have hopx : (pagesOf (init ++ [x])).length = (pagesOf init).length + x.f1.length := by rw [pages_append, List.length_append, pages_one]
              have HLB : Aside0 ((x.f1.length + xs.length) * 8 ≤ 140737488355328) := ⟨by omega⟩
              have HOL := Aside0.mk hgx
              have HOB := Aside0.mk hob1
              have HFL : Aside0 (some fb ≠ (Value.slice X x.f1.length xc).ownBlock) := ⟨fun e => by
                have h := Kd.R_lt HO.out.cells.2.2.2.1 fb e.symm
                have := HFB.out
                omega⟩
              have HFZ : Aside0 (∀ W9, w6.drew.grownBy W9 (Value.slice X x.f1.length xc).ownBlock → W9.frozen? ⟨ob, init.length * 2 + 1, none⟩ = false) := ⟨fun W9 hg => blk_frozen ((hg.block ob (blk_lt hoces) hgx).trans hoces) _⟩
              have hn9 : (init ++ [x]).length = init.length + 1 := by simp
              obtain ⟨n, hn⟩ : ∃ n, (init ++ [x]).length = n := ⟨_, rfl⟩
              rw [hn] at hn9 hcn HOP6 ⊢
              have hni : (n : Int) - 1 = (init.length : Int) := by omega
              have HNI := Lib.hid hn9
              rw [hni]
              have hil : init.length < n := by omega
              clear hn hni hn9 hcn HO0 HO1' HLX' hgx hoces hgl hgn hob1 hob2 holm hopm hopx
              go_upto_region 13 with (fail)
              refine wp_region_noPanic ?_
              refine wp_region_keptK (S := fun W => W.cell? ⟨ob, init.length * 2 + 1, none⟩ = some (.slice X x.f1.length xc) ∧ W.cell? ⟨fb, 1, none⟩ = some (.slice YA xs.length yc)) 12 (by kernel_rfl) (⟨HO1.out, HF1.out⟩) (fun hS => ?_)
              simp only [List.size_toArray, List.length_cons, List.length_nil, Nat.reduceAdd, Array.replicate_succ, Array.replicate_zero, List.push_toArray, List.nil_append, List.cons_append]
              refine take_atK (i := 0) 52 (.slice (some ⟨ob, 0, none⟩) n oc) [12] rfl rfl (by kernel_rfl) (by decide) (by decide) (by kernel_rfl) (by kernel_rfl) (by kernel_rfl) (by kernel_rfl) (fun _ _ _ h => h) (Or.inl ⟨by rfl, fun W hW => by go_simp⟩) hS ?_
              try simp only [List.setIfInBounds_toArray, List.set_cons_zero, List.set_cons_succ]
              refine take_atK (i := 1) 53 (.int .i64 (init.length : Int)) [12] rfl rfl (by kernel_rfl) (by decide) (by decide) (by kernel_rfl) (by kernel_rfl) (by kernel_rfl) (by kernel_rfl) (fun _ _ _ h => h) (Or.inl ⟨by rfl, fun W hW => by go_simp⟩) hS ?_
              try simp only [List.setIfInBounds_toArray, List.set_cons_zero, List.set_cons_succ]
              refine take_atK (i := 2) 54 (.slice (some ⟨ob, 0, none⟩) n oc) [12] rfl rfl (by kernel_rfl) (by decide) (by decide) (by kernel_rfl) (by kernel_rfl) (by kernel_rfl) (by kernel_rfl) (fun _ _ _ h => h) (Or.inl ⟨by rfl, fun W hW => by go_simp⟩) hS ?_
              try simp only [List.setIfInBounds_toArray, List.set_cons_zero, List.set_cons_succ]
              refine take_atK (i := 3) 55 (.int .i64 (init.length : Int)) [12] rfl rfl (by kernel_rfl) (by decide) (by decide) (by kernel_rfl) (by kernel_rfl) (by kernel_rfl) (by kernel_rfl) (fun _ _ _ h => h) (Or.inl ⟨by rfl, fun W hW => by go_simp⟩) hS ?_
              try simp only [List.setIfInBounds_toArray, List.set_cons_zero, List.set_cons_succ]
              refine take_atK (i := 4) 56 (.pointer (some ⟨ob, init.length * 2, none⟩)) [12] rfl rfl (by kernel_rfl) (by decide) (by decide) (by kernel_rfl) (by kernel_rfl) (by kernel_rfl) (by kernel_rfl) (fun _ _ _ h => h) (Or.inl ⟨by rfl, fun W hW => by go_simp⟩) hS ?_
              try simp only [List.setIfInBounds_toArray, List.set_cons_zero, List.set_cons_succ]
              refine take_atK (i := 5) 57 (.pointer (some ⟨ob, init.length * 2 + 1, none⟩)) [12] rfl rfl (by kernel_rfl) (by decide) (by decide) (by kernel_rfl) (by kernel_rfl) (by kernel_rfl) (by kernel_rfl) (fun _ _ _ h => h) (Or.inl ⟨by rfl, fun W hW => by go_simp⟩) hS ?_
              try simp only [List.setIfInBounds_toArray, List.set_cons_zero, List.set_cons_succ]
              refine take_atK (i := 6) 58 (.slice X x.f1.length xc) [12] rfl rfl (by kernel_rfl) (by decide) (by decide) (by kernel_rfl) (by kernel_rfl) (by kernel_rfl) (by kernel_rfl) (fun _ _ _ h => h) (Or.inl ⟨by rfl, fun W hW => by have h0 := hW.1; go_simp⟩) hS ?_
              try simp only [List.setIfInBounds_toArray, List.set_cons_zero, List.set_cons_succ]
              refine take_atK (i := 7) 59 (.pointer (some ⟨fb, 1, none⟩)) [12] rfl rfl (by kernel_rfl) (by decide) (by decide) (by kernel_rfl) (by kernel_rfl) (by kernel_rfl) (by kernel_rfl) (fun _ _ _ h => h) (Or.inl ⟨by rfl, fun W hW => by go_simp⟩) hS ?_
              try simp only [List.setIfInBounds_toArray, List.set_cons_zero, List.set_cons_succ]
              refine take_atK (i := 8) 60 (.slice YA xs.length yc) [12] rfl rfl (by kernel_rfl) (by decide) (by decide) (by kernel_rfl) (by kernel_rfl) (by kernel_rfl) (by kernel_rfl) (fun _ _ _ h => h) (Or.inl ⟨by rfl, fun W hW => by have h0 := hW.2; go_simp⟩) hS ?_
              try simp only [List.setIfInBounds_toArray, List.set_cons_zero, List.set_cons_succ]
              refine wpAnyK_ready (rs := [9]) (by kernel_rfl) (by simp) ?_
              refine AllReadyK.cons rfl (fun K hK => ?_) AllReadyK.nil
              refine Kd.R_append_rows_step (Kd.int .i64) (w0 := w6.drew) w.heap.size (by rfl) (.tmp 58) (.tmp 60) 23 3 (.int .i64 0) 8 rfl Tryz.underlying23 info3 rfl (by decide) (by omega) (.slice X x.f1.length xc) x.f1 xs YA xs.length yc (fun _ => True) (fun _ => False) rfl rfl (Kd.R_drew HLX.out) (Kd.C_drew HYC.out) (fun _ _ h => h) (fun _ hk => hk.elim) (fun _ _ => trivial) (Below.refl _ _) HS6.out HLB.out ?_
              intro v9 w9 hr9 hb9 hg9 hat9
              obtain ⟨zs, hzs⟩ : ∃ zs, x.f1 ++ xs = zs := ⟨_, rfl⟩
              rw [hzs] at hr9
              have HZS := Lib.hid hzs
              clear hzs
              obtain ⟨Z, zc, rfl⟩ := Kd.R_slice hr9
              refine hK.out _ _ (⟨cell_grown (W := w6.drew) hg9 hS.1 HOL.out, cell_grown (W := w6.drew) hg9 hS.2 HFL.out⟩) (fun hS => ?_)
              clear hK K
              try simp only [Act.put, List.getElem_toArray, List.getElem_cons_succ, List.getElem_cons_zero, List.setIfInBounds_toArray, List.set_cons_zero, List.set_cons_succ]
              refine take_atK (i := 10) 62 (.pointer (some ⟨ob, init.length * 2, none⟩)) [11, 12] rfl rfl (by kernel_rfl) (by decide) (by decide) (by kernel_rfl) (by kernel_rfl) (by kernel_rfl) (by kernel_rfl) (fun _ _ _ h => h) (Or.inl ⟨by rfl, fun W hW => by go_simp⟩) hS ?_
              try simp only [List.setIfInBounds_toArray, List.set_cons_zero, List.set_cons_succ]
              refine take_atK (i := 11) 63 (.pointer (some ⟨ob, init.length * 2 + 1, none⟩)) [12] rfl rfl (by kernel_rfl) (by decide) (by decide) (by kernel_rfl) (by kernel_rfl) (by kernel_rfl) (by kernel_rfl) (fun _ _ _ h => h) (Or.inl ⟨by rfl, fun W hW => by go_simp⟩) hS ?_
              try simp only [List.setIfInBounds_toArray, List.set_cons_zero, List.set_cons_succ]
              refine storeK (by kernel_rfl) (by decide) rfl rfl (fun K hK => ?_)
              have y0 := hS.1
              have z0 : w9.frozen? ⟨ob, init.length * 2 + 1, none⟩ = false := HFZ.out w9 hg9
              go_simp
              refine hK.out _ _ ?_
              clear hK K
              have hS : True := trivial
              try simp only [Act.put, List.getElem_toArray, List.getElem_cons_succ, List.getElem_cons_zero, List.setIfInBounds_toArray, List.set_cons_zero, List.set_cons_succ]
              refine wpAnyH_done (by kernel_rfl) ?_ _
              refine NoPanic.normal ?_
              have HGF := Aside0.mk (OutP.more (x2 := ⟨x.f0, zs⟩) (HOP6.out.below (below_drew1 (Below.refl _ w6))) rfl hr9 hg9 hat9)
              have HB9 := Aside0.mk ((HW6.out.trans ((below_drew1 (Below.refl _ w6)).trans (hb9.mono (Nat.le_refl _)))).setCell (p := ⟨ob, init.length * 2 + 1, none⟩) HOB.out (.slice Z zs.length zc))
              clear hr9 hg9 hat9 hb9
              go_wp2
              go_roundw
              case rel => exact ⟨q + 1, _, by omega, by go_num, ⟨by rw [HGN.out, HZS.out]; exact HGF.out⟩, HB9⟩
              case measure => simp [intOf]; omega
            · rw [decide_eq_false hcd]
              have hgn : glue J (fr.take (q + 1)) = Q ++ [⟨v, xs⟩] := by
                by_cases c1 : q = 0
                · rw [HG0.out c1]
                  exact glue1_new fun g hg e => hcd ⟨c1, g, hg, e⟩
                · exact HG1.out (by omega)
              have HGN := Lib.hid hgn
              obtain ⟨rows, hrows⟩ := HO.out
              have HRW := Aside0.mk (Kd.R_below hrows.2.1 HB6.out)
              have HRO := Aside0.mk hrows
              have hrl := hrows.1
              have b0 : w6.cell? ⟨fb, 0, none⟩ = some (.int .i64 v) := (blk_cell HK6.out 0).trans rfl
              have b1 : w6.cell? ⟨fb, 1, none⟩ = some (.slice YA xs.length yc) := (blk_cell HK6.out 1).trans rfl
              have HWS := Aside0.mk HW6.out.size
              clear hcd hgn hrows
              go_wp2_with (at_builtin; refine Kd.R_append (Kd.raw 2) (w0 := w) w.heap.size rfl (.tmp 64) (.tmp 66) 26 64 (.agg #[.int .i64 0, .slice none 0 0]) 32 rfl Tryz.underlying26 info64 rfl (by decide) (by decide) (.slice OA Q.length oc) rows [.int .i64 v, .slice YA xs.length yc] [.int .i64 v, .slice YA xs.length yc] (fun _ => True) (fun _ => False) rfl rfl ⟨rfl, rfl, by intro u hu; rcases List.mem_cons.1 hu with rfl | hu; rfl; obtain rfl := List.mem_singleton.1 hu; rfl⟩ (fun _ hk => hk.elim) (fun _ _ => trivial) HRW.out HW6.out HWS.out (by rw [hrl]; omega) ?_; intro v9 w9 hr9 hb9 hg9 hat9)
              go_roundw
              case rel =>
                refine ⟨q + 1, .slice YA xs.length yc, by omega, by go_num, ⟨?_⟩, ⟨hb9⟩⟩
                rw [HGN.out]
                exact OutP.push HRO.out HB6.out (Nat.le_trans hwf (Nat.le_of_eq HFB.out.symm)) (Kd.R_lower HR6.out (by rw [HFB.out]; omega)) hr9 hg9 hat9
              case measure => simp [intOf]; omega
        · obtain rfl : q = fr.length := by omega
          have HO2 : Aside0 (OutP wr w.heap.size (.slice OA (glue J (fr.take fr.length)).length oc) L (joinL (ps.take (k + 1)))) := ⟨by rw [HJS.out]; have h := HO.out; rwa [List.take_length] at h ⊢⟩
          clear HO
          go_wp2
          go_roundw
          case rel => exact ⟨k + 1, L, by omega, by go_num, HO2, HW⟩
          case measure => simp [intOf]; omega
    · obtain rfl : k = ps.length := by omega
      obtain ⟨b, o, rfl, hx2⟩ := ver_cell HA.out h0
      rw [HV.out] at hx2
      have HVC := Aside0.mk (cellB HW.out (Nat.le_refl _) hx2)
      have HO2 : Aside0 (OutP wr w.heap.size (.slice OA (joinL (ps.take ps.length)).length oc) L (joinL ps)) := ⟨by have h := HO.out; rwa [List.take_length] at h ⊢⟩
      have hjl : (joinL (ps.take ps.length)).length = (joinL ps).length := by rw [List.take_length]
      rw [hjl] at HO2 ⊢
      have HNU := Aside0.mk (numbers_of ps (some ⟨b, o, none⟩) c wr.drew (Kd.C_drew (Kd.C_below HA.out HW.out)) hc hm)
      obtain ⟨ns, hns⟩ : ∃ ns, numsOf ps = ns := ⟨_, rfl⟩
      have hnl : ns.length = ps.length := by rw [← hns]; simp [numsOf]
      obtain ⟨J, hJ⟩ : ∃ J, joinL ps = J := ⟨_, rfl⟩
      rw [hJ] at HO2 HS HF HPN HPG ⊢
      rw [hns] at HN HPG
      have HNS := Lib.hid hns
      have hNC := Aside0.mk (Kd.N_reads' HO2.out.N)
      have HLP := Aside0.mk (fun (w1 : World) (NA : Option Addr) (nc : Nat) (hb : Below wr.drew.heap.size wr.drew w1) (hC : (Kd.int .i64).C w1 NA ns.length ns) (hcn : ns.length ≤ nc) => pages_back HS.out HF.out hnl hm HPN.out HN.out HPG.out OA NA oc nc w1 (Kd.C_below (Kd.C_drew hNC.out.2.2) hb) hNC.out.2.1 hC hcn)
      have HEQ := Aside0.mk (fun (w1 : World) (UA : Option Addr) (uc : Nat) (hb : Below w.heap.size w w1) (hC : k89.C w1 UA ps.length ps) (hcu : ps.length ≤ uc) => equalPages ps (some ⟨b, o, none⟩) UA c uc w1 (Kd.C_below HA.out hb) hc hC hcu HPL.out)
      have HW0 := HW
      have HJ := Lib.hid hJ
      clear hnl HO hx2 hjl hJ hns HSK HS HF HPN HPG HN HV
      go_upto_region 17 with (fail)
      refine wp_region_held_drew (S := fun W => W.cell? ⟨b, o + 2, none⟩ = some (.int .i64 ver)) (by kernel_rfl) (HVC.out) (fun hS => ?_)
      simp only [List.size_toArray, List.length_cons, List.length_nil, Nat.reduceAdd, Array.replicate_succ, Array.replicate_zero, List.push_toArray, List.nil_append, List.cons_append]
      refine take_at (i := 0) 71 (.slice OA J.length oc) rfl rfl (by kernel_rfl) (by kernel_rfl) (by kernel_rfl) (fun _ _ _ h => h) (Or.inl ⟨by rfl, fun W hW => by go_simp⟩) hS ?_
      try simp only [List.setIfInBounds_toArray, List.set_cons_zero, List.set_cons_succ]
      refine take_at (i := 1) 72 (.slice (some ⟨b, o, none⟩) ps.length c) rfl rfl (by kernel_rfl) (by kernel_rfl) (by kernel_rfl) (fun _ _ _ h => h) (Or.inl ⟨by rfl, fun W hW => by go_simp⟩) hS ?_
      try simp only [List.setIfInBounds_toArray, List.set_cons_zero, List.set_cons_succ]
      refine take_at (i := 3) 74 (.slice (some ⟨b, o, none⟩) ps.length c) rfl rfl (by kernel_rfl) (by kernel_rfl) (by kernel_rfl) (fun _ _ _ h => h) (Or.inl ⟨by rfl, fun W hW => by go_simp⟩) hS ?_
      try simp only [List.setIfInBounds_toArray, List.set_cons_zero, List.set_cons_succ]
      refine take_at (i := 4) 75 (.pointer (some ⟨b, o, none⟩)) rfl rfl (by kernel_rfl) (by kernel_rfl) (by kernel_rfl) (fun _ _ _ h => h) (Or.inl ⟨by rfl, fun W hW => by go_simp⟩) hS ?_
      try simp only [List.setIfInBounds_toArray, List.set_cons_zero, List.set_cons_succ]
      refine take_at (i := 5) 76 (.pointer (some ⟨b, o + 2, none⟩)) rfl rfl (by kernel_rfl) (by kernel_rfl) (by kernel_rfl) (fun _ _ _ h => h) (Or.inl ⟨by rfl, fun W hW => by go_simp⟩) hS ?_
      try simp only [List.setIfInBounds_toArray, List.set_cons_zero, List.set_cons_succ]
      refine take_at (i := 6) 77 (.int .i64 ver) rfl rfl (by kernel_rfl) (by kernel_rfl) (by kernel_rfl) (fun _ _ _ h => h) (Or.inl ⟨by rfl, fun W hW => by have h0 := hW; go_simp⟩) hS ?_
      try simp only [List.setIfInBounds_toArray, List.set_cons_zero, List.set_cons_succ]
      refine wpAnyH_ready (rs := [2]) (by kernel_rfl) (by simp) ?_
      refine AllReadyH.cons rfl (fun K hK => ?_) AllReadyH.nil
      go_simp
      refine HNU.out.mono ?_
      rintro e w1 ⟨v1, rfl, hr1, hb1⟩
      rw [HNS.out] at hr1
      obtain ⟨NA, nc, rfl⟩ := Kd.R_slice hr1
      refine hK.out _ _ (cellB hb1 (Nat.le_refl _) hS) (fun hS => ?_)
      clear hK K
      try simp only [Act.put, List.getElem_toArray, List.getElem_cons_succ, List.getElem_cons_zero, List.setIfInBounds_toArray, List.set_cons_zero, List.set_cons_succ]
      refine wpAnyH_ready (rs := [7]) (by kernel_rfl) (by simp) ?_
      refine AllReadyH.cons rfl (fun K hK => ?_) AllReadyH.nil
      go_simp
      have hb1w := HW0.out.drew.trans (hb1.mono HW0.out.drew.size)
      refine (HLP.out w1 NA nc hb1 (Kd.R_reads' hr1).2.2 (Kd.R_reads' hr1).2.1).mono ?_
      rintro e w2 ⟨u, rfl, hu, hb2⟩
      obtain ⟨UA, uc, rfl⟩ := Kd.N_slice hu
      refine hK.out _ _ (cellB hb2 (Nat.le_refl _) hS) (fun hS => ?_)
      clear hK K
      try simp only [Act.put, List.getElem_toArray, List.getElem_cons_succ, List.getElem_cons_zero, List.setIfInBounds_toArray, List.set_cons_zero, List.set_cons_succ]
      refine take_at (i := 8) 70 (.tuple #[.slice UA ps.length uc, .int .i64 0]) rfl rfl (by kernel_rfl) (by kernel_rfl) (by kernel_rfl) (fun _ _ _ h => h) (Or.inl ⟨by rfl, fun W hW => by go_simp⟩) hS ?_
      try simp only [List.setIfInBounds_toArray, List.set_cons_zero, List.set_cons_succ]
      refine take_at (i := 9) 79 (.slice UA ps.length uc) rfl rfl (by kernel_rfl) (by kernel_rfl) (by kernel_rfl) (fun _ _ _ h => h) (Or.inl ⟨by rfl, fun W hW => by go_simp⟩) hS ?_
      try simp only [List.setIfInBounds_toArray, List.set_cons_zero, List.set_cons_succ]
      refine take_at (i := 10) 80 (.int .i64 0) rfl rfl (by kernel_rfl) (by kernel_rfl) (by kernel_rfl) (fun _ _ _ h => h) (Or.inl ⟨by rfl, fun W hW => by go_simp⟩) hS ?_
      try simp only [List.setIfInBounds_toArray, List.set_cons_zero, List.set_cons_succ]
      refine take_at (i := 11) 10 (.slice UA ps.length uc) rfl rfl (by kernel_rfl) (by kernel_rfl) (by kernel_rfl) (fun _ _ _ h => h) (Or.inl ⟨by rfl, fun W hW => by go_simp⟩) hS ?_
      try simp only [List.setIfInBounds_toArray, List.set_cons_zero, List.set_cons_succ]
      refine take_at (i := 12) 11 (.int .i64 0) rfl rfl (by kernel_rfl) (by kernel_rfl) (by kernel_rfl) (fun _ _ _ h => h) (Or.inl ⟨by rfl, fun W hW => by go_simp⟩) hS ?_
      try simp only [List.setIfInBounds_toArray, List.set_cons_zero, List.set_cons_succ]
      refine wpAnyH_done (by kernel_rfl) ?_ _
      clear hS
      have HU2 := Aside0.mk (Kd.N_reads' hu)
      have HB2 := Aside0.mk (hb1w.trans (hb2.mono hb1w.size))
      have HO9 := Aside0.mk (Kd.N_below HO2.out.N ((below_drew1 (Below.refl _ wr)).trans (hb1.trans (hb2.mono hb1.size))))
      have HE2 := HEQ.out w2 UA uc HB2.out HU2.out.2.2 HU2.out.2.1
      clear hu hb1w hb1 hb2 hr1 HNU HLP
      go_wp2_with (go_at_call 116; (refine HE2.mono ?_); rintro e w3 ⟨rfl, hb3⟩)
      go_ret2
      exact ⟨_, rfl, by rw [HJ.out]; exact Kd.N_below HO9.out hb3, HB2.out.trans (hb3.mono HB2.out.size)⟩
theorem size89 : (Tryz.prog.info? 89).map (fun i => i.size) = some 10 := by kernel_rfl
theorem load89 {W : World} {ad : Addr} {cs : List Value} (hl : cs.length = 10) (h : ∀ j v, cs[j]? = some v → W.cell? (ad.add j) = some v) : (loadVar 89 ad).run Tryz.prog W = .ok (.agg cs.toArray) W := by
  have h1 := run_loadCells_list (P := Tryz.prog) W ad cs h
  rw [hl] at h1
  have hagg : (isAgg 89).run Tryz.prog W = .ok true W := by kernel_rfl
  have hsz : (sizeOf 89).run Tryz.prog W = .ok 10 W := by kernel_rfl
  unfold loadVar
  simp only [Sem.run_bind, hagg, Result.andThen_ok, if_true, hsz, h1, Sem.run_pure]
theorem exec_load89 {o : Oper} {W : World} (ρ : Operand → Value) (x : Operand) (ho : o.op = .load 89 x) {ad : Addr} (hx : ρ x = .pointer (some ad)) {cs : List Value} (hl : cs.length = 10) (h : ∀ j v, cs[j]? = some v → W.cell? (ad.add j) = some v) :
    (execOp ρ o).run Tryz.prog W = .ok (.value (.agg cs.toArray)) W := by
  unfold execOp
  simp only [ho, hx, Instr.loadAt, Instr.sureAddr, Sem.run_bind, Sem.run_pure, Result.andThen_ok, load89 hl h]
def LoC (W : World) (b : Nat) (sp : Array Value) (nu : Value) (S : List Int) : Prop :=
  W.heap[b]? = some (.cells sp 25 (0, 0)) ∧ W.heap[b + 1]? = some (.cells #[.slice none 0 0] 26 (0, 0)) ∧ W.heap[b + 1 + 1]? = some (.cells #[nu] 23 (0, 0)) ∧ W.heap[b + 1 + 1 + 1]? = some (.cells #[.int .i64 0] 30 (0, 0)) ∧ Bits W (b + 1 + 1 + 1 + 1) (setOf S)
theorem LoC.keep {W W' : World} {b : Nat} {sp : Array Value} {nu : Value} {S : List Int} (h : LoC W b sp nu S) (hk : ∀ k, b ≤ k → k < b + 5 → k < W.heap.size → W'.heap[k]? = W.heap[k]?) : LoC W' b sp nu S := by
  obtain ⟨h0, h1, h2, h3, h4⟩ := h
  exact ⟨(hk _ (by omega) (by omega) (blk_lt h0)).trans h0, (hk _ (by omega) (by omega) (blk_lt h1)).trans h1, (hk _ (by omega) (by omega) (blk_lt h2)).trans h2, (hk _ (by omega) (by omega) (blk_lt h3)).trans h3, h4.kept (hk _ (by omega) (by omega) h4.lt)⟩
theorem LoC.below {W W' : World} {b : Nat} {sp : Array Value} {nu : Value} {S : List Int} (h : LoC W b sp nu S) (hb : Below W.heap.size W W') : LoC W' b sp nu S := h.keep fun k _ _ hk => hb.block k hk
def ChainP (pg : List S89) (own : List Int) (ps : List S89) : Prop :=
  ps.length = own.length ∧ own.Nodup ∧ ∀ i, i < own.length → (2 ≤ rd own (i : Int) ∧ rd own (i : Int) < pg.length) ∧ pg.getD (rd own (i : Int)).toNat z89 = ps.getD i z89 ∧ (ps.getD i z89).kind = 4 ∧ (ps.getD i z89).no = rd own (i : Int) ∧ (ps.getD i z89).next = rd own ((i + 1 : Nat) : Int)
def LoM (w W : World) (b : Nat) (sp : Array Value) (own : List Int) (ps : List S89) (k : Nat) (P nu : Value) : Prop :=
  LoC W b sp nu (own.take k) ∧ Kd.N k89 89 W (b + 5) (fun y => (y < b ∨ b + 5 ≤ y) ∧ some y ≠ nu.ownBlock) P (ps.take k) ∧ (Kd.int .i64).R 3 W (b + 5) (fun _ => True) nu (own.take k) ∧ Below b w W ∧ b + 5 ≤ W.heap.size
attribute [local go_sem] max2_int min2_int max_two min_two
def lenOf (v : Value) : Nat := match v with | .slice _ n _ => n | _ => 0
theorem page_row {W : World} {n : Nat} {x : S89} {A1 : Option Addr} {c1 : Nat} {ok ok' : Nat → Prop} (hk : W.heap[n]? = some (.cells (cells89 x A1 c1).toArray 89 (0, 0))) (hF : Kd.F k64 W ok A1 x.freed.length x.freed) (hl : x.freed.length ≤ c1) (hn : ok' n) (hok : ∀ y, ok y → ok' y) : Kd.F k89 W ok' (some ⟨n, 0, none⟩) 1 [x] :=
  fun W' hW => one_row ((hW n hn (blk_lt hk)).trans hk) rfl (k89_mk W' x hl (hF W' (fun y hy hlt => hW y (hok y hy) hlt)))
theorem build22 (x : S89) (A : Option Addr) (c : Nat) (w : World) : (Instr.buildSlice 22 1 #[(0, .agg (cells89 x A c).toArray)]).run Tryz.prog w = .ok (.slice (some ⟨w.heap.size, 0, none⟩) 1 1) (w.alloc (.cells (cells89 x A c).toArray 89)) := by kernel_rfl
theorem build23 (x : Int) (w : World) : (Instr.buildSlice 23 1 #[(0, .int .i64 x)]).run Tryz.prog w = .ok (.slice (some ⟨w.heap.size, 0, none⟩) 1 1) (w.alloc (.cells #[.int .i64 x] 3)) := by kernel_rfl
theorem LoC.add {W : World} {b m : Nat} {sp : Array Value} {nu : Value} {S : List Int} (h : LoC W b sp nu S) (hm : m < 4096) : LoC (W.setCell ⟨b + 1 + 1 + 1 + 1, m, none⟩ (.bool true)) b sp nu (S ++ [(m : Int)]) := by
  obtain ⟨h0, h1, h2, h3, h4⟩ := h
  refine ⟨blk_far h0 (p := ⟨b + 1 + 1 + 1 + 1, m, none⟩) (by show b ≠ b + 1 + 1 + 1 + 1; omega) _, blk_far h1 (p := ⟨b + 1 + 1 + 1 + 1, m, none⟩) (by show b + 1 ≠ b + 1 + 1 + 1 + 1; omega) _, blk_far h2 (p := ⟨b + 1 + 1 + 1 + 1, m, none⟩) (by show b + 1 + 1 ≠ b + 1 + 1 + 1 + 1; omega) _, blk_far h3 (p := ⟨b + 1 + 1 + 1 + 1, m, none⟩) (by show b + 1 + 1 + 1 ≠ b + 1 + 1 + 1 + 1; omega) _, ?_⟩
  rw [setOf_snoc]
  exact h4.add m hm
theorem lo_step {w W0 W : World} {b k : Nat} {sp : Array Value} {nu nu2 P : Value} {own : List Int} {ps Q : List S89} {U2 : List Int} (hL : LoC W b sp nu (own.take (k + 1))) (hq : Q = ps.take (k + 1)) (hN : Kd.N k89 89 W (b + 5) (fun y => (y < b ∨ b + 5 ≤ y) ∧ some y ≠ nu2.ownBlock) P Q) (hR : (Kd.int .i64).R 3 W (b + 5) (fun _ => True) nu2 U2) (hB : Below (b + 5) W0 W) (hBw : Below b w W0) (hu : U2 = own.take (k + 1)) (hs : b + 5 ≤ W0.heap.size) :
    LoM w (W.setCell ⟨b + 1 + 1, 0, none⟩ nu2) b sp own ps (k + 1) P nu2 := by
  subst hq hu
  obtain ⟨h0, h1, h2, h3, h4⟩ := hL
  have hPb := Kd.N_base hN
  have hRb := Kd.R_base hR
  refine ⟨⟨blk_far h0 (p := ⟨b + 1 + 1, 0, none⟩) (by show b ≠ b + 1 + 1; omega) _, blk_far h1 (p := ⟨b + 1 + 1, 0, none⟩) (by show b + 1 ≠ b + 1 + 1; omega) _, blk_put h2 0 _ rfl, blk_far h3 (p := ⟨b + 1 + 1, 0, none⟩) (by show b + 1 + 1 + 1 ≠ b + 1 + 1; omega) _, h4.kept (Below.heap_setCell _ _ _ _ (by show b + 1 + 1 + 1 + 1 ≠ b + 1 + 1; omega))⟩, ?_, ?_, (hBw.trans (hB.mono (by omega))).setCell (p := ⟨b + 1 + 1, 0, none⟩) (by show b ≤ b + 1 + 1; omega) _, by rw [World.size_setCell]; exact Nat.le_trans hs hB.size⟩
  · exact Kd.N_far (p := ⟨b + 1 + 1, 0, none⟩) hN (fun y hy e => by have e' : y = b + 1 + 1 := e; have := hy.1; omega) _
  · exact Kd.R_mono (Kd.R_far (p := ⟨b + 1 + 1, 0, none⟩) (Kd.R_reok rfl hR (ok := fun y => b + 5 ≤ y) hRb) (fun y hy e => by have e' : y = b + 1 + 1 := e; omega) _) (fun _ _ => trivial)
def FinC (w W : World) (b : Nat) (v nu : Value) (l : List S64) (O : List Int) : Prop :=
  W.heap[b + 1]? = some (.cells #[v] 26 (0, 0)) ∧ W.heap[b + 1 + 1]? = some (.cells #[nu] 23 (0, 0)) ∧ W.heap[b + 1 + 1 + 1]? = some (.cells #[.int .i64 0] 30 (0, 0)) ∧ Kd.N k64 64 W (b + 5) (fun y => b + 5 ≤ y) v l ∧ (Kd.int .i64).R 3 W (b + 5) (fun y => b + 5 ≤ y) nu O ∧ Below b w W
theorem FinC.same1 {w W : World} {b : Nat} {v nu : Value} {l : List S64} {O : List Int} (h : FinC w W b v nu l O) : FinC w (W.setCell ⟨b + 1, 0, none⟩ v) b v nu l O := by
  obtain ⟨h1, h2, h3, h4, h5, h6⟩ := h
  exact ⟨blk_put h1 0 _ rfl, blk_far h2 (p := ⟨b + 1, 0, none⟩) (by show b + 1 + 1 ≠ b + 1; omega) _, blk_far h3 (p := ⟨b + 1, 0, none⟩) (by show b + 1 + 1 + 1 ≠ b + 1; omega) _, Kd.N_far (p := ⟨b + 1, 0, none⟩) h4 (fun y hy e => by have e' : y = b + 1 := e; omega) _, Kd.R_far (p := ⟨b + 1, 0, none⟩) h5 (fun y hy e => by have e' : y = b + 1 := e; omega) _, h6.setCell (p := ⟨b + 1, 0, none⟩) (by show b ≤ b + 1; omega) _⟩
theorem FinC.same2 {w W : World} {b : Nat} {v nu : Value} {l : List S64} {O : List Int} (h : FinC w W b v nu l O) : FinC w (W.setCell ⟨b + 1 + 1, 0, none⟩ nu) b v nu l O := by
  obtain ⟨h1, h2, h3, h4, h5, h6⟩ := h
  exact ⟨blk_far h1 (p := ⟨b + 1 + 1, 0, none⟩) (by show b + 1 ≠ b + 1 + 1; omega) _, blk_put h2 0 _ rfl, blk_far h3 (p := ⟨b + 1 + 1, 0, none⟩) (by show b + 1 + 1 + 1 ≠ b + 1 + 1; omega) _, Kd.N_far (p := ⟨b + 1 + 1, 0, none⟩) h4 (fun y hy e => by have e' : y = b + 1 + 1 := e; omega) _, Kd.R_far (p := ⟨b + 1 + 1, 0, none⟩) h5 (fun y hy e => by have e' : y = b + 1 + 1 := e; omega) _, h6.setCell (p := ⟨b + 1 + 1, 0, none⟩) (by show b ≤ b + 1 + 1; omega) _⟩
theorem FinC.same3 {w W : World} {b : Nat} {v nu : Value} {l : List S64} {O : List Int} (h : FinC w W b v nu l O) : FinC w (W.setCell ⟨b + 1 + 1 + 1, 0, none⟩ (.int .i64 0)) b v nu l O := by
  obtain ⟨h1, h2, h3, h4, h5, h6⟩ := h
  exact ⟨blk_far h1 (p := ⟨b + 1 + 1 + 1, 0, none⟩) (by show b + 1 ≠ b + 1 + 1 + 1; omega) _, blk_far h2 (p := ⟨b + 1 + 1 + 1, 0, none⟩) (by show b + 1 + 1 ≠ b + 1 + 1 + 1; omega) _, blk_put h3 0 _ rfl, Kd.N_far (p := ⟨b + 1 + 1 + 1, 0, none⟩) h4 (fun y hy e => by have e' : y = b + 1 + 1 + 1 := e; omega) _, Kd.R_far (p := ⟨b + 1 + 1 + 1, 0, none⟩) h5 (fun y hy e => by have e' : y = b + 1 + 1 + 1 := e; omega) _, h6.setCell (p := ⟨b + 1 + 1 + 1, 0, none⟩) (by show b ≤ b + 1 + 1 + 1; omega) _⟩
theorem FinC.mk2 {w W : World} {b : Nat} {sp : Array Value} {v nu : Value} {l : List S64} {O S : List Int} (h : LoC W b sp nu S) (hv : Kd.N k64 64 W (b + 5) (fun y => b + 5 ≤ y) v l) (hR : (Kd.int .i64).R 3 W (b + 5) (fun _ => True) nu O) (hB : Below b w W) :
    FinC w ((W.setCell ⟨b + 1, 0, none⟩ v).setCell ⟨b + 1 + 1 + 1, 0, none⟩ (.int .i64 0)) b v nu l O := by
  obtain ⟨h0, h1, h2, h3, h4⟩ := h
  have hR' := Kd.R_reok rfl hR (ok := fun y => b + 5 ≤ y) (Kd.R_base hR)
  have k1 : (W.setCell ⟨b + 1, 0, none⟩ v).heap[b + 1]? = some (.cells #[v] 26 (0, 0)) := blk_put h1 0 _ rfl
  refine FinC.same3 (W := W.setCell ⟨b + 1, 0, none⟩ v) ⟨k1, blk_far h2 (p := ⟨b + 1, 0, none⟩) (by show b + 1 + 1 ≠ b + 1; omega) _, blk_far h3 (p := ⟨b + 1, 0, none⟩) (by show b + 1 + 1 + 1 ≠ b + 1; omega) _, Kd.N_far (p := ⟨b + 1, 0, none⟩) hv (fun y hy e => by have e' : y = b + 1 := e; omega) _, Kd.R_far (p := ⟨b + 1, 0, none⟩) hR' (fun y hy e => by have e' : y = b + 1 := e; omega) _, hB.setCell (p := ⟨b + 1, 0, none⟩) (by show b ≤ b + 1; omega) _⟩
theorem list_results (tmps : Array Value) (W : World) (b : Nat) (x1 x2 x3 : Value) (h4 : tmps[4]?.getD undef = .pointer (some ⟨b + 1, 0, none⟩)) (h5 : tmps[5]?.getD undef = .pointer (some ⟨b + 1 + 1, 0, none⟩)) (h6 : tmps[6]?.getD undef = .pointer (some ⟨b + 1 + 1 + 1, 0, none⟩))
    (c1 : W.cell? ⟨b + 1, 0, none⟩ = some x1) (c2 : W.cell? ⟨b + 1 + 1, 0, none⟩ = some x2) (c3 : W.cell? ⟨b + 1 + 1 + 1, 0, none⟩ = some x3) : (results Tryz.f32 tmps).run Tryz.prog W = .ok (.tuple #[x1, x2, x3]) W := by
  unfold results
  rw [Tryz.results32]
  simp [h4, h5, h6, c1, c2, c3, go_sem]
set_option maxRecDepth 100000 in
set_option maxHeartbeats 4000000 in
theorem spaceListOf (pg : List S89) (own : List Int) (ps : List S89) (PA F1 F2 F3 : Option Addr) (pc n1 d1 n2 d2 n3 d3 : Nat) (ver tree : Int) (w : World) (hPG : k89.C w PA pg.length pg) (hpc : pg.length ≤ pc) (hpl : pg.length ≤ 4096) (hch : ChainP pg own ps) (hol : own.length ≤ 1000000) (l : List S64)
    (hL : ∀ (W : World) (P : Option Addr) (c : Nat), k89.C W P ps.length ps → ps.length ≤ c → Calls Tryz.prog 74 #[.slice P ps.length c] W fun e w' => ∃ v, e = .returned (.tuple #[v, .int .i64 0]) ∧ Kd.N k64 64 w' W.heap.size (fun y => W.heap.size ≤ y) v l ∧ Below W.heap.size W w') :
    Calls Tryz.prog 32 #[.agg #[Value.slice PA pg.length pc, .slice F1 n1 d1, .slice F2 n2 d2, .slice F3 n3 d3, .int .i64 ver, .int .i64 tree], .int .i64 (rd own 0)] w fun e w' => ∃ v u, e = .returned (.tuple #[v, u, .int .i64 0]) ∧ Kd.N k64 64 w' w.heap.size (fun y => w.heap.size ≤ y) v l ∧ (Kd.int .i64).R 3 w' w.heap.size (fun _ => True) u (sortI own) ∧ Below w.heap.size w w' := by
  have hmf : ∀ (fn : Fn) (first cap : Array Value) (w : World), (Instr.makeFunc fn first cap).run Tryz.prog w = .ok (.func fn first cap) w := fun _ _ _ _ => rfl
  have HPG := Aside0.mk hPG
  have HCH := Aside0.mk hch
  have HL := Aside0.mk hL
  clear hPG hch hL
  go_enter_defers Tryz.func32, Tryz.ntmps32
  go_upto_region 5 with (fail)
  obtain ⟨b, hb⟩ : ∃ b, w.heap.size = b := ⟨_, rfl⟩
  obtain ⟨W0, hW0⟩ : ∃ x, ((((w.alloc (.cells #[.slice PA pg.length pc, .slice F1 n1 d1, .slice F2 n2 d2, .slice F3 n3 d3, .int .i64 ver, .int .i64 tree] 25)).alloc (.cells #[.slice none 0 0] 26)).alloc (.cells #[.slice none 0 0] 23)).alloc (.cells #[.int .i64 0] 30)).alloc (.cells Tryz.zeroCells129 129) = x := ⟨_, rfl⟩
  have HL0 : Aside0 (LoC W0 b #[.slice PA pg.length pc, .slice F1 n1 d1, .slice F2 n2 d2, .slice F3 n3 d3, .int .i64 ver, .int .i64 tree] (.slice none 0 0) (own.take 0)) := ⟨by
    rw [← hW0, ← hb, List.take_zero]
    refine ⟨blk_alloc (blk_alloc (blk_alloc (blk_alloc (blk_new _ _) _) _) _) _, ?_, ?_, ?_, ?_⟩
    · have := blk_new (w.alloc (.cells #[.slice PA pg.length pc, .slice F1 n1 d1, .slice F2 n2 d2, .slice F3 n3 d3, .int .i64 ver, .int .i64 tree] 25)) (.cells #[.slice none 0 0] 26)
      rw [World.size_alloc] at this
      exact blk_alloc (blk_alloc (blk_alloc this _) _) _
    · have := blk_new ((w.alloc (.cells #[.slice PA pg.length pc, .slice F1 n1 d1, .slice F2 n2 d2, .slice F3 n3 d3, .int .i64 ver, .int .i64 tree] 25)).alloc (.cells #[.slice none 0 0] 26)) (.cells #[.slice none 0 0] 23)
      rw [World.size_alloc, World.size_alloc] at this
      exact blk_alloc (blk_alloc this _) _
    · have := blk_new (((w.alloc (.cells #[.slice PA pg.length pc, .slice F1 n1 d1, .slice F2 n2 d2, .slice F3 n3 d3, .int .i64 ver, .int .i64 tree] 25)).alloc (.cells #[.slice none 0 0] 26)).alloc (.cells #[.slice none 0 0] 23)) (.cells #[.int .i64 0] 30)
      rw [World.size_alloc, World.size_alloc, World.size_alloc] at this
      exact blk_alloc this _
    · have := blk_new ((((w.alloc (.cells #[.slice PA pg.length pc, .slice F1 n1 d1, .slice F2 n2 d2, .slice F3 n3 d3, .int .i64 ver, .int .i64 tree] 25)).alloc (.cells #[.slice none 0 0] 26)).alloc (.cells #[.slice none 0 0] 23)).alloc (.cells #[.int .i64 0] 30)) (.cells Tryz.zeroCells129 129)
      rw [World.size_alloc, World.size_alloc, World.size_alloc, World.size_alloc] at this
      exact Bits.zero this⟩
  have HB0 : Aside0 (Below b w W0) := ⟨by rw [← hW0, ← hb]; exact ((((below_alloc1 w _).alloc (by simp) _).alloc (by simp; omega) _).alloc (by simp; omega) _).alloc (by simp; omega) _⟩
  have HS0 : Aside0 (b + 5 ≤ W0.heap.size) := ⟨by rw [← hW0, ← hb]; simp⟩
  rw [hW0, hb]
  have HBW := Lib.hid hb
  clear hW0
  go_loopw [8, 9] (fun o i wr => ∃ (k : Nat) , k ≤ own.length ∧ i = .int .i64 (rd own (k : Int)) ∧ ∃ nu, Aside0 (LoM w wr b #[.slice PA pg.length pc, .slice F1 n1 d1, .slice F2 n2 d2, .slice F3 n3 d3, .int .i64 ver, .int .i64 tree] own ps k o nu))
    (fun o _ _ => own.length - lenOf o)
  case atStart => exact ⟨0, Nat.zero_le _, rfl, .slice none 0 0, ⟨HL0.out, by rw [List.take_zero]; exact Kd.N_nil _ _ _ _ _, by rw [List.take_zero]; exact Kd.R_nil _ _ _ _ _, HB0.out, HS0.out⟩⟩
  case round =>
    clear HL0 HB0 HS0
    obtain ⟨k, hk, rfl, NU, HM⟩ := hrel
    obtain ⟨PV, c8, hPV⟩ := Kd.N_slice HM.out.2.1
    obtain ⟨NA, nc, hNA⟩ := Kd.R_slice HM.out.2.2.1
    subst hPV hNA
    obtain ⟨T, hT⟩ : ∃ T, ps.take k = T := ⟨_, rfl⟩
    obtain ⟨U, hU⟩ : ∃ U, own.take k = U := ⟨_, rfl⟩
    have hTl : T.length = k := by rw [← hT, List.length_take]; have := HCH.out.1; omega
    have hUl : U.length = k := by rw [← hU, List.length_take]; omega
    have HTE := Lib.hid hT
    have HUE := Lib.hid hU
    rw [hT, hU, hTl, hUl] at HM
    rw [hT, hTl]
    have HTL := Lib.hid hTl
    have HUL := Lib.hid hUl
    clear hT hU hTl hUl
    by_cases hlt : k < own.length
    · obtain ⟨⟨hn1, hn2⟩, hpg, hkd, hno, hnx⟩ := HCH.out.2.2 k hlt
      obtain ⟨m, hm⟩ : ∃ m : Nat, rd own (k : Int) = (m : Int) := ⟨(rd own (k : Int)).toNat, by omega⟩
      rw [hm] at hn1 hn2 hpg hno ⊢
      rw [Int.toNat_natCast] at hpg
      have hml : m < pg.length := by omega
      obtain ⟨pb, po, A1, c1, hPAe, hx, hl1, hC1⟩ := at_89p HPG.out m hml
      subst hPAe
      have hgx : pg[m] = ps.getD k z89 := by rw [← hpg]; simp [hml]
      rw [hgx] at hx hl1 hC1
      have HTQ := Lib.hid (show T ++ [ps.getD k z89] = ps.take (k + 1) by
        have hkp : k < ps.length := by rw [HCH.out.1]; exact hlt
        rw [← HTE.out, List.take_succ_eq_append_getElem hkp]
        simp [hkp])
      have HUQ := Lib.hid (show U ++ [(m : Int)] = own.take (k + 1) by rw [← HUE.out, List.take_succ_eq_append_getElem hlt, ← rd_cast own k hlt, hm])
      have hfresh : setOf U m = false := by
        unfold setOf
        rw [Bool.eq_false_iff]
        intro h
        rw [List.contains_iff_mem, ← HUE.out] at h
        have h2 := HCH.out.2.1.sublist (List.take_sublist (k + 1) own)
        rw [List.take_succ_eq_append_getElem hlt, List.nodup_append] at h2
        exact h2.2.2 _ h _ (List.mem_singleton.2 rfl) (by rw [← rd_cast own k hlt, hm])
      obtain ⟨p, hp⟩ : ∃ p, ps.getD k z89 = p := ⟨_, rfl⟩
      rw [hp] at hkd hno hnx hx hl1 hC1 HTQ
      have HPGC := Aside0.mk (Kd.C_F k64_heap hC1)
      obtain ⟨hL0, hN0, hR0, hB0, hS0⟩ := HM.out
      rw [HUE.out] at hL0 hR0
      rw [HTE.out] at hN0
      have hpbb : pb < b := by
        have h := hx 0 _ rfl
        have := World.block_lt_of_cell? _ _ h
        rw [HBW.out] at this
        exact this
      have x0 : wr.cell? ⟨b, 0, none⟩ = some (.slice (some ⟨pb, po, none⟩) pg.length pc) := (blk_cell hL0.1 0).trans rfl
      have hwx : ∀ j v, (cells89 p A1 c1)[j]? = some v → wr.cell? ⟨pb, po + m * 10 + j, none⟩ = some v := fun j v hv => cellB hB0 (Nat.le_of_eq HBW.out) (hx j v hv)
      have xk : wr.cell? ⟨pb, po + m * 10, none⟩ = some (.int .i64 4) := by have h := hwx 0 _ rfl; rw [hkd] at h; exact h
      have xn : wr.cell? ⟨pb, po + m * 10 + 1, none⟩ = some (.int .i64 (m : Int)) := by have h := hwx 1 _ rfl; rw [hno] at h; exact h
      have hm4 : m < 4096 := by omega
      have hadd := add_any (b + 1 + 1 + 1 + 1) m false hm4
      have HBC := Aside0.mk (fun nd => (hL0.2.2.2.2.kept (w1 := wr.drewN nd) rfl).cell m hm4)
      have HBF := Aside0.mk (fun nd => (hL0.2.2.2.2.kept (w1 := wr.drewN nd) rfl).free m)
      rw [hfresh] at HBC
      have HADD := Aside0.mk hadd
      have HWI := Lib.hid (show decide (2 ≤ (m : Int) ∧ (m : Int) ≤ (pg.length : Int) - 1) = true from decide_eq_true ⟨by omega, by omega⟩)
      have hmin : min (pg.length : Int) 4096 = (pg.length : Int) := by omega
      have hminn : min pg.length 4096 = pg.length := by omega
      have hwr : IntKind.i64.wrap ((pg.length : Int) - 1) = (pg.length : Int) - 1 := by rw [IntKind.wrap_i64]; omega
      have hnz : ((m : Int) != 0) = true := by simp; omega
      have hnz2 : (m != 0) = true := by simp; omega
      go_upto_region 8 with (first
        | (go_at_call 46; (with_reducible refine (within_any (m : Int) 2 ((pg.length : Int) - 1) _).mono ?_); rintro e wa ⟨rfl, ⟨nd, rfl⟩⟩; rw [HWI.out])
        | (go_at_call 72; (refine (HADD.out _ (HBC.out nd) (HBF.out nd)).mono ?_); rintro e wa ⟨rfl, rfl⟩)
        | (go_at_call 45; (with_reducible refine (need_yes _ _).mono ?_); rintro e w' ⟨rfl, rfl⟩))
      have HLO : Aside0 (LoC ((wr.drewN nd).setCell ⟨b + 1 + 1 + 1 + 1, m, none⟩ (.bool true)) b #[.slice (some ⟨pb, po, none⟩) pg.length pc, .slice F1 n1 d1, .slice F2 n2 d2, .slice F3 n3 d3, .int .i64 ver, .int .i64 tree] (.slice NA k nc) (own.take (k + 1))) := ⟨by rw [← HUQ.out]; exact (hL0.below (pw_below_drewN (Below.refl _ wr) nd)).add hm4⟩
      have HN : Aside0 (Kd.N k89 89 ((wr.drewN nd).setCell ⟨b + 1 + 1 + 1 + 1, m, none⟩ (.bool true)) (b + 5) (fun y => (y < b ∨ b + 5 ≤ y) ∧ some y ≠ (Value.slice NA k nc).ownBlock) (.slice PV k c8) T) := ⟨Kd.N_far (p := ⟨b + 1 + 1 + 1 + 1, m, none⟩) (Kd.N_drewN hN0 nd) (fun y hy e => by have e' : y = b + 1 + 1 + 1 + 1 := e; have := hy.1; omega) _⟩
      have HR : Aside0 ((Kd.int .i64).R 3 ((wr.drewN nd).setCell ⟨b + 1 + 1 + 1 + 1, m, none⟩ (.bool true)) (b + 5) (fun _ => True) (.slice NA k nc) U) := ⟨Kd.R_mono (Kd.R_far (p := ⟨b + 1 + 1 + 1 + 1, m, none⟩) (Kd.R_reok rfl (Kd.R_drewN hR0 nd) (ok := fun y => b + 5 ≤ y) (Kd.R_base hR0)) (fun y hy e => by have e' : y = b + 1 + 1 + 1 + 1 := e; omega) _) (fun _ _ => trivial)⟩
      have HBX : Aside0 (Below b w ((wr.drewN nd).setCell ⟨b + 1 + 1 + 1 + 1, m, none⟩ (.bool true))) := ⟨(pw_below_drewN hB0 nd).setCell (p := ⟨b + 1 + 1 + 1 + 1, m, none⟩) (by show b ≤ b + 1 + 1 + 1 + 1; omega) _⟩
      have HS : Aside0 (b + 5 ≤ ((wr.drewN nd).setCell ⟨b + 1 + 1 + 1 + 1, m, none⟩ (.bool true)).heap.size) := ⟨by rw [World.size_setCell]; exact hS0⟩
      obtain ⟨w1, hw1⟩ : ∃ x, (wr.drewN nd).setCell ⟨b + 1 + 1 + 1 + 1, m, none⟩ (.bool true) = x := ⟨_, rfl⟩
      rw [hw1] at HLO HN HR HBX HS ⊢
      have HF : Aside0 (Kd.F k64 w1 (fun y => y < b) A1 p.freed.length p.freed) := ⟨Kd.F_mono (Kd.F_step HPGC.out (fun y hy _ => HBX.out.block y (HBW.out ▸ hy))) (fun y hy => HBW.out ▸ hy)⟩
      have HX0 : Aside0 (w1.cell? ⟨b, 0, none⟩ = some (.slice (some ⟨pb, po, none⟩) pg.length pc)) := ⟨(blk_cell HLO.out.1 0).trans rfl⟩
      have HXP : Aside0 (∀ (j : Nat) (v : Value), (cells89 p A1 c1)[j]? = some v → w1.cell? ⟨pb, po + m * 10 + j, none⟩ = some v) := ⟨fun j v hv => cellB HBX.out (Nat.le_of_eq HBW.out) (hx j v hv)⟩
      have HX2 : Aside0 (w1.cell? ⟨b + 1 + 1, 0, none⟩ = some (.slice NA k nc)) := ⟨(blk_cell HLO.out.2.2.1 0).trans rfl⟩
      have HX7 : Aside0 (w.cell? ⟨pb, po + m * 10 + 7, none⟩ = some (.int .i64 (rd own ((k + 1 : Nat) : Int)))) := ⟨by have h := hx 7 _ rfl; rw [← hnx]; exact h⟩
      obtain ⟨Q, hQ⟩ : ∃ Q, T ++ [p] = Q := ⟨_, rfl⟩
      obtain ⟨U2, hU2⟩ : ∃ U2, U ++ [(m : Int)] = U2 := ⟨_, rfl⟩
      have HQ2 := Lib.hid (hQ.symm.trans HTQ.out)
      have HU3 := Lib.hid (hU2.symm.trans HUQ.out)
      have HQL := Lib.hid (show Q.length = k + 1 by rw [← hQ, List.length_append, HTL.out]; rfl)
      have HQ := Lib.hid hQ
      have HU2 := Lib.hid hU2
      clear hw1 hL0 hN0 hR0 hB0 hS0 hx hwx xk xn x0 hadd HBC HBF HADD HWI hmin hminn hwr hnz hnz2 hQ hU2 hfresh hkd hno hnx hpg hgx hC1 hp HM hn1 hn2 HPGC HTQ HUQ
      refine wp_region_noPanic ?_
      refine wp_region_keptK (S := fun W => W.cell? ⟨b, 0, none⟩ = some (.slice (some ⟨pb, po, none⟩) pg.length pc) ∧ (∀ (j : Nat) (v : Value), (cells89 p A1 c1)[j]? = some v → W.cell? ⟨pb, po + m * 10 + j, none⟩ = some v) ∧ W.cell? ⟨b + 1 + 1, 0, none⟩ = some (.slice NA k nc)) 13 (by kernel_rfl) (⟨HX0.out, HXP.out, HX2.out⟩) (fun hS => ?_)
      simp only [List.size_toArray, List.length_cons, List.length_nil, Nat.reduceAdd, Array.replicate_succ, Array.replicate_zero, List.push_toArray, List.nil_append, List.cons_append]
      obtain ⟨W0, hW0⟩ : ∃ x, w1.drew = x := ⟨_, rfl⟩
      have hN := Kd.N_drew HN.out
      have hR := Kd.R_drew HR.out
      have hF := Kd.F_drew HF.out
      have hLo := HLO.out.below (below_drew1 (Below.refl _ w1))
      have hBw := HBX.out.drew
      have hs0 : b + 5 ≤ w1.drew.heap.size := HS.out
      rw [hW0] at hS hN hR hF hLo hBw hs0 ⊢
      clear hW0
      have hB := Below.refl (b + 5) W0
      have hPl : ∀ y, (Value.slice PV k c8).ownBlock = some y → b + 5 ≤ y ∧ y < W0.heap.size := fun y hy => ⟨Kd.N_base hN y hy, Kd.N_lt hN y hy⟩
      have hNl : ∀ y, (Value.slice NA k nc).ownBlock = some y → b + 5 ≤ y ∧ y < W0.heap.size := fun y hy => ⟨Kd.R_base hR y hy, Kd.R_lt hR y hy⟩
      have hPN : ∀ y, (Value.slice PV k c8).ownBlock = some y → some y ≠ (Value.slice NA k nc).ownBlock := fun y hy => (hN.1 y hy).2
      have hFA : ∀ y, W0.heap.size ≤ y → (y < b ∨ b + 5 ≤ y) ∧ some y ≠ (Value.slice NA k nc).ownBlock := fun y hy => ⟨.inr (by omega), fun e => by have := (hNl y e.symm).2; omega⟩
      have hOA : ∀ x, W0.heap.size ≤ x → ∀ y, (y < b ∨ y = x) → ((y < b ∨ b + 5 ≤ y) ∧ some y ≠ (Value.slice NA k nc).ownBlock) ∧ some y ≠ (Value.slice PV k c8).ownBlock := fun x hx y hy => ⟨⟨hy.elim .inl (fun e => .inr (by omega)), fun e => by have := hNl y e.symm; omega⟩, fun e => by have := hPl y e.symm; omega⟩
      have hPX : ∀ y, y < b + 5 → some y ≠ (Value.slice PV k c8).ownBlock := fun y hy e => by have := (hPl y e.symm).1; omega
      have hNX : ∀ y, y < b + 5 → some y ≠ (Value.slice NA k nc).ownBlock := fun y hy e => by have := (hNl y e.symm).1; omega
      refine take_atK (i := 0) 54 (.slice PV k c8) [13] rfl rfl (by kernel_rfl) (by decide) (by decide) (by kernel_rfl) (by kernel_rfl) (by kernel_rfl) (by kernel_rfl) (fun _ _ _ h => h) (Or.inl ⟨by rfl, fun W hW => by go_simp⟩) hS ?_
      try simp only [List.setIfInBounds_toArray, List.set_cons_zero, List.set_cons_succ]
      refine take_atK (i := 1) 55 (.pointer (some ⟨b, 0, none⟩)) [13] rfl rfl (by kernel_rfl) (by decide) (by decide) (by kernel_rfl) (by kernel_rfl) (by kernel_rfl) (by kernel_rfl) (fun _ _ _ h => h) (Or.inl ⟨by rfl, fun W hW => by go_simp⟩) hS ?_
      try simp only [List.setIfInBounds_toArray, List.set_cons_zero, List.set_cons_succ]
      refine take_atK (i := 2) 56 (.slice (some ⟨pb, po, none⟩) pg.length pc) [13] rfl rfl (by kernel_rfl) (by decide) (by decide) (by kernel_rfl) (by kernel_rfl) (by kernel_rfl) (by kernel_rfl) (fun _ _ _ h => h) (Or.inl ⟨by rfl, fun W hW => by have h0 := hW.1; go_simp⟩) hS ?_
      try simp only [List.setIfInBounds_toArray, List.set_cons_zero, List.set_cons_succ]
      refine take_atK (i := 3) 57 (.int .i64 (m : Int)) [13] rfl rfl (by kernel_rfl) (by decide) (by decide) (by kernel_rfl) (by kernel_rfl) (by kernel_rfl) (by kernel_rfl) (fun _ _ _ h => h) (Or.inl ⟨by rfl, fun W hW => by go_simp⟩) hS ?_
      try simp only [List.setIfInBounds_toArray, List.set_cons_zero, List.set_cons_succ]
      refine take_atK (i := 4) 58 (.pointer (some ⟨pb, po + m * 10, none⟩)) [13] rfl rfl (by kernel_rfl) (by decide) (by decide) (by kernel_rfl) (by kernel_rfl) (by kernel_rfl) (by kernel_rfl) (fun _ _ _ h => h) (Or.inl ⟨by rfl, fun W hW => by go_simp⟩) hS ?_
      try simp only [List.setIfInBounds_toArray, List.set_cons_zero, List.set_cons_succ]
      refine take_atK (i := 5) 59 (.agg (cells89 p A1 c1).toArray) [13] rfl rfl (by kernel_rfl) (by decide) (by decide) (by kernel_rfl) (by kernel_rfl) (by kernel_rfl) (by kernel_rfl) (fun _ _ _ h => h) (Or.inl ⟨by rfl, fun W hW => exec_load89 _ _ rfl (ad := ⟨pb, po + m * 10, none⟩) rfl rfl (fun j v hv => by rw [Addr.add_lit]; exact hW.2.1 j v hv)⟩) hS ?_
      try simp only [List.setIfInBounds_toArray, List.set_cons_zero, List.set_cons_succ]
      refine take_atK (i := 8) 62 (.slice NA k nc) [13] rfl rfl (by kernel_rfl) (by decide) (by decide) (by kernel_rfl) (by kernel_rfl) (by kernel_rfl) (by kernel_rfl) (fun _ _ _ h => h) (Or.inl ⟨by rfl, fun W hW => by have h0 := hW.2.2; go_simp⟩) hS ?_
      try simp only [List.setIfInBounds_toArray, List.set_cons_zero, List.set_cons_succ]
      refine take_atK (i := 9) 63 (.int .i64 (m : Int)) [13] rfl rfl (by kernel_rfl) (by decide) (by decide) (by kernel_rfl) (by kernel_rfl) (by kernel_rfl) (by kernel_rfl) (fun _ _ _ h => h) (Or.inl ⟨by rfl, fun W hW => by go_simp⟩) hS ?_
      try simp only [List.setIfInBounds_toArray, List.set_cons_zero, List.set_cons_succ]
      refine wpAnyK_ready (rs := [6, 10]) (by kernel_rfl) (by simp) ?_
      refine AllReadyK.cons rfl (fun K hK => ?_) ?_
      · skip
        rw [if_pos (by rfl)]
        refine oper_build1 (.tmp 59) rfl rfl (build22 p A1 c1 _) ?_
        refine hK.out _ _ (⟨cellB (below_alloc1 _ _) (Nat.le_refl _) hS.1, fun j v hv => cellB (below_alloc1 _ _) (Nat.le_refl _) (hS.2.1 j v hv), cellB (below_alloc1 _ _) (Nat.le_refl _) hS.2.2⟩) (fun hS => ?_)
        clear hK K
        have hnA0 : W0.heap.size ≤ W0.heap.size := hB.size
        have hA := blk_new W0 (.cells (cells89 p A1 c1).toArray 89)
        have hN := Kd.N_alloc hN (.cells (cells89 p A1 c1).toArray 89)
        have hR := Kd.R_alloc hR (.cells (cells89 p A1 c1).toArray 89)
        have hF := Kd.F_alloc hF (.cells (cells89 p A1 c1).toArray 89)
        have hB := hB.alloc (Nat.le_trans hs0 hB.size) (.cells (cells89 p A1 c1).toArray 89)
        obtain ⟨nA, hne1⟩ : ∃ x, W0.heap.size = x := ⟨_, rfl⟩
        obtain ⟨W1, hW1⟩ : ∃ x, W0.alloc (.cells (cells89 p A1 c1).toArray 89) = x := ⟨_, rfl⟩
        rw [hW1] at hS hA hN hR hF hB ⊢
        have hnA : W0.heap.size ≤ nA := by omega
        rw [hne1] at hA ⊢
        clear hne1 hW1 hnA0
        try simp only [Act.put, List.getElem_toArray, List.getElem_cons_succ, List.getElem_cons_zero, List.setIfInBounds_toArray, List.set_cons_zero, List.set_cons_succ]
        refine wpAnyK_ready (rs := [7, 10]) (by kernel_rfl) (by simp) ?_
        refine AllReadyK.cons rfl (fun K hK => ?_) ?_
        · skip
          refine Kd.N_append_rows_step k89 (w0 := W0) (b + 5) (by rfl) (.tmp 54) (.tmp 60) 22 89 (.agg (cells89 z89 none 0).toArray) 120 rfl Tryz.underlying22 info89 rfl (by decide) (by decide) (.slice PV k c8) T [p] (some ⟨nA, 0, none⟩) 1 1 (fun y => (y < b ∨ b + 5 ≤ y) ∧ some y ≠ (Value.slice NA k nc).ownBlock) (fun y => y < b ∨ y = nA) rfl rfl hN (page_row hA hF hl1 (.inr rfl) (fun y hy => .inl hy)) (hOA nA hnA) (fun y hy => hFA y (Nat.le_trans hB.size hy)) hB (Nat.le_trans hs0 hB.size) (by rw [HTL.out]; omega) ?_
          intro vA W2 hNA hBA hgA hatA
          rw [HQ.out] at hNA
          obtain ⟨VA, vc, rfl⟩ := Kd.N_slice hNA
          refine hK.out _ _ (⟨cell_grown hgA hS.1 (hPX b (by omega)), fun j v hv => cell_grown hgA (hS.2.1 j v hv) (hPX pb (by omega)), cell_grown hgA hS.2.2 (hPX (b + 1 + 1) (by omega))⟩) (fun hS => ?_)
          clear hK K
          have hN := hNA
          have hR := Kd.R_grown2 hR rfl hgA (fun y hy => hPN y hy)
          have hB := hBA
          have hF := Kd.F_grown hF hgA (fun y hy e => by have := (hPl y e.symm).1; omega)
          try simp only [Act.put, List.getElem_toArray, List.getElem_cons_succ, List.getElem_cons_zero, List.setIfInBounds_toArray, List.set_cons_zero, List.set_cons_succ]
          refine wpAnyK_ready (rs := [10]) (by kernel_rfl) (by simp) ?_
          refine AllReadyK.cons rfl (fun K hK => ?_) AllReadyK.nil
          rw [if_pos (by rfl)]
          refine oper_build1 (.tmp 63) rfl rfl (build23 (m : Int) _) ?_
          refine hK.out _ _ (⟨cellB (below_alloc1 _ _) (Nat.le_refl _) hS.1, fun j v hv => cellB (below_alloc1 _ _) (Nat.le_refl _) (hS.2.1 j v hv), cellB (below_alloc1 _ _) (Nat.le_refl _) hS.2.2⟩) (fun hS => ?_)
          clear hK K
          have hnB0 : W0.heap.size ≤ W2.heap.size := hB.size
          have hKB := blk_new W2 (.cells #[.int .i64 (m : Int)] 3)
          have hN := Kd.N_alloc hN (.cells #[.int .i64 (m : Int)] 3)
          have hR := Kd.R_alloc hR (.cells #[.int .i64 (m : Int)] 3)
          have hF := Kd.F_alloc hF (.cells #[.int .i64 (m : Int)] 3)
          have hB := hB.alloc (Nat.le_trans hs0 hB.size) (.cells #[.int .i64 (m : Int)] 3)
          obtain ⟨nB, hne3⟩ : ∃ x, W2.heap.size = x := ⟨_, rfl⟩
          obtain ⟨W3, hW3⟩ : ∃ x, W2.alloc (.cells #[.int .i64 (m : Int)] 3) = x := ⟨_, rfl⟩
          rw [hW3] at hS hKB hN hR hF hB ⊢
          have hnB : W0.heap.size ≤ nB := by omega
          rw [hne3] at hKB ⊢
          clear hne3 hW3 hnB0
          try simp only [Act.put, List.getElem_toArray, List.getElem_cons_succ, List.getElem_cons_zero, List.setIfInBounds_toArray, List.set_cons_zero, List.set_cons_succ]
          refine wpAnyK_ready (rs := [11]) (by kernel_rfl) (by simp) ?_
          refine AllReadyK.cons rfl (fun K hK => ?_) AllReadyK.nil
          refine Kd.R_append_rows_step (Kd.int .i64) (w0 := W0) (b + 5) (by rfl) (.tmp 62) (.tmp 64) 23 3 (.int .i64 0) 8 rfl Tryz.underlying23 info3 rfl (by decide) (by omega) (.slice NA k nc) U [(m : Int)] (some ⟨nB, 0, none⟩) 1 1 (fun _ => True) (fun _ => False) rfl rfl hR (one_row hKB rfl rfl) (fun _ _ h => h) (fun _ hk => hk.elim) (fun _ _ => trivial) hB (Nat.le_trans hs0 hB.size) (by rw [HUL.out]; omega) ?_
          intro vB W4 hRB hBB hgB hatB
          rw [HU2.out] at hRB
          obtain ⟨VB, bc, rfl⟩ := Kd.R_slice hRB
          refine hK.out _ _ (⟨cell_grown hgB hS.1 (hNX b (by omega)), fun j v hv => cell_grown hgB (hS.2.1 j v hv) (hNX pb (by omega)), cell_grown hgB hS.2.2 (hNX (b + 1 + 1) (by omega))⟩) (fun hS => ?_)
          clear hK K
          have hN := Kd.N_after hN hgB hatB
          have hR := hRB
          have hB := hBB
          try simp only [Act.put, List.getElem_toArray, List.getElem_cons_succ, List.getElem_cons_zero, List.setIfInBounds_toArray, List.set_cons_zero, List.set_cons_succ]
          refine take_atK (i := 12) 8 (.slice VA Q.length vc) [13] rfl rfl (by kernel_rfl) (by decide) (by decide) (by kernel_rfl) (by kernel_rfl) (by kernel_rfl) (by kernel_rfl) (fun _ _ _ h => h) (Or.inl ⟨by rfl, fun W hW => by go_simp⟩) hS ?_
          try simp only [List.setIfInBounds_toArray, List.set_cons_zero, List.set_cons_succ]
          refine storeK (by kernel_rfl) (by decide) rfl rfl (fun K hK => ?_)
          have hlo := hLo.keep (fun y h5 h6 _ => hB.block y h6)
          have y0 := hS.2.2
          have z0 : W4.frozen? ⟨b + 1 + 1, 0, none⟩ = false := blk_frozen hlo.2.2.1 0
          go_simp
          refine hK.out _ _ ?_
          clear hK K
          have hS : True := trivial
          try simp only [Act.put, List.getElem_toArray, List.getElem_cons_succ, List.getElem_cons_zero, List.setIfInBounds_toArray, List.set_cons_zero, List.set_cons_succ]
          refine wpAnyH_done (by kernel_rfl) ?_ _
          refine NoPanic.normal ?_
          have HLO2 := Aside0.mk (hLo.keep (fun y h5 h6 _ => hB.block y h6))
          have HFIN := Aside0.mk (lo_step HLO2.out HQ2.out hN hR hB hBw HU3.out hs0)
          have q0 : (W4.setCell ⟨b + 1 + 1, 0, none⟩ (.slice VB U2.length bc)).cell? ⟨b, 0, none⟩ = some (.slice (some ⟨pb, po, none⟩) pg.length pc) := (blk_cell HFIN.out.1.1 0).trans rfl
          have q7 : (W4.setCell ⟨b + 1 + 1, 0, none⟩ (.slice VB U2.length bc)).cell? ⟨pb, po + m * 10 + 7, none⟩ = some (.int .i64 (rd own ((k + 1 : Nat) : Int))) := cellB (HFIN.out.2.2.2.1) (Nat.le_of_eq HBW.out) HX7.out
          obtain ⟨W9, hW9⟩ : ∃ x, W4.setCell ⟨b + 1 + 1, 0, none⟩ (.slice VB U2.length bc) = x := ⟨_, rfl⟩
          rw [hW9] at HFIN q0 q7 ⊢
          clear hN hR hB hF hBw hLo hPl hNl hPN hFA hOA hPX hNX hW9
          go_wp2
          go_roundw
          case rel => exact ⟨k + 1, by omega, rfl, _, HFIN⟩
          case measure => have := HQL.out; have := HTL.out; simp only [lenOf]; omega
        refine AllReadyK.cons rfl (fun K hK => ?_) AllReadyK.nil
        rw [if_pos (by rfl)]
        refine oper_build1 (.tmp 63) rfl rfl (build23 (m : Int) _) ?_
        refine hK.out _ _ (⟨cellB (below_alloc1 _ _) (Nat.le_refl _) hS.1, fun j v hv => cellB (below_alloc1 _ _) (Nat.le_refl _) (hS.2.1 j v hv), cellB (below_alloc1 _ _) (Nat.le_refl _) hS.2.2⟩) (fun hS => ?_)
        clear hK K
        have hnB0 : W0.heap.size ≤ W1.heap.size := hB.size
        have hKB := blk_new W1 (.cells #[.int .i64 (m : Int)] 3)
        have hA := blk_alloc (o' := (.cells #[.int .i64 (m : Int)] 3)) hA
        have hN := Kd.N_alloc hN (.cells #[.int .i64 (m : Int)] 3)
        have hR := Kd.R_alloc hR (.cells #[.int .i64 (m : Int)] 3)
        have hF := Kd.F_alloc hF (.cells #[.int .i64 (m : Int)] 3)
        have hB := hB.alloc (Nat.le_trans hs0 hB.size) (.cells #[.int .i64 (m : Int)] 3)
        obtain ⟨nB, hne6⟩ : ∃ x, W1.heap.size = x := ⟨_, rfl⟩
        obtain ⟨W6, hW6⟩ : ∃ x, W1.alloc (.cells #[.int .i64 (m : Int)] 3) = x := ⟨_, rfl⟩
        rw [hW6] at hS hKB hN hR hF hB hA ⊢
        have hnB : W0.heap.size ≤ nB := by omega
        rw [hne6] at hKB ⊢
        clear hne6 hW6 hnB0
        try simp only [Act.put, List.getElem_toArray, List.getElem_cons_succ, List.getElem_cons_zero, List.setIfInBounds_toArray, List.set_cons_zero, List.set_cons_succ]
        refine wpAnyK_ready (rs := [7]) (by kernel_rfl) (by simp) ?_
        refine AllReadyK.cons rfl (fun K hK => ?_) AllReadyK.nil
        refine Kd.N_append_rows_step k89 (w0 := W0) (b + 5) (by rfl) (.tmp 54) (.tmp 60) 22 89 (.agg (cells89 z89 none 0).toArray) 120 rfl Tryz.underlying22 info89 rfl (by decide) (by decide) (.slice PV k c8) T [p] (some ⟨nA, 0, none⟩) 1 1 (fun y => (y < b ∨ b + 5 ≤ y) ∧ some y ≠ (Value.slice NA k nc).ownBlock) (fun y => y < b ∨ y = nA) rfl rfl hN (page_row hA hF hl1 (.inr rfl) (fun y hy => .inl hy)) (hOA nA hnA) (fun y hy => hFA y (Nat.le_trans hB.size hy)) hB (Nat.le_trans hs0 hB.size) (by rw [HTL.out]; omega) ?_
        intro vA W7 hNA hBA hgA hatA
        rw [HQ.out] at hNA
        obtain ⟨VA, vc, rfl⟩ := Kd.N_slice hNA
        refine hK.out _ _ (⟨cell_grown hgA hS.1 (hPX b (by omega)), fun j v hv => cell_grown hgA (hS.2.1 j v hv) (hPX pb (by omega)), cell_grown hgA hS.2.2 (hPX (b + 1 + 1) (by omega))⟩) (fun hS => ?_)
        clear hK K
        have hN := hNA
        have hR := Kd.R_grown2 hR rfl hgA (fun y hy => hPN y hy)
        have hB := hBA
        have hKB := (hgA.block nB (blk_lt hKB) (fun e => by have := (hPl nB e.symm).2; omega)).trans hKB
        have hF := Kd.F_grown hF hgA (fun y hy e => by have := (hPl y e.symm).1; omega)
        try simp only [Act.put, List.getElem_toArray, List.getElem_cons_succ, List.getElem_cons_zero, List.setIfInBounds_toArray, List.set_cons_zero, List.set_cons_succ]
        refine wpAnyK_ready (rs := [11]) (by kernel_rfl) (by simp) ?_
        refine AllReadyK.cons rfl (fun K hK => ?_) AllReadyK.nil
        refine Kd.R_append_rows_step (Kd.int .i64) (w0 := W0) (b + 5) (by rfl) (.tmp 62) (.tmp 64) 23 3 (.int .i64 0) 8 rfl Tryz.underlying23 info3 rfl (by decide) (by omega) (.slice NA k nc) U [(m : Int)] (some ⟨nB, 0, none⟩) 1 1 (fun _ => True) (fun _ => False) rfl rfl hR (one_row hKB rfl rfl) (fun _ _ h => h) (fun _ hk => hk.elim) (fun _ _ => trivial) hB (Nat.le_trans hs0 hB.size) (by rw [HUL.out]; omega) ?_
        intro vB W8 hRB hBB hgB hatB
        rw [HU2.out] at hRB
        obtain ⟨VB, bc, rfl⟩ := Kd.R_slice hRB
        refine hK.out _ _ (⟨cell_grown hgB hS.1 (hNX b (by omega)), fun j v hv => cell_grown hgB (hS.2.1 j v hv) (hNX pb (by omega)), cell_grown hgB hS.2.2 (hNX (b + 1 + 1) (by omega))⟩) (fun hS => ?_)
        clear hK K
        have hN := Kd.N_after hN hgB hatB
        have hR := hRB
        have hB := hBB
        try simp only [Act.put, List.getElem_toArray, List.getElem_cons_succ, List.getElem_cons_zero, List.setIfInBounds_toArray, List.set_cons_zero, List.set_cons_succ]
        refine take_atK (i := 12) 8 (.slice VA Q.length vc) [13] rfl rfl (by kernel_rfl) (by decide) (by decide) (by kernel_rfl) (by kernel_rfl) (by kernel_rfl) (by kernel_rfl) (fun _ _ _ h => h) (Or.inl ⟨by rfl, fun W hW => by go_simp⟩) hS ?_
        try simp only [List.setIfInBounds_toArray, List.set_cons_zero, List.set_cons_succ]
        refine storeK (by kernel_rfl) (by decide) rfl rfl (fun K hK => ?_)
        have hlo := hLo.keep (fun y h5 h6 _ => hB.block y h6)
        have y0 := hS.2.2
        have z0 : W8.frozen? ⟨b + 1 + 1, 0, none⟩ = false := blk_frozen hlo.2.2.1 0
        go_simp
        refine hK.out _ _ ?_
        clear hK K
        have hS : True := trivial
        try simp only [Act.put, List.getElem_toArray, List.getElem_cons_succ, List.getElem_cons_zero, List.setIfInBounds_toArray, List.set_cons_zero, List.set_cons_succ]
        refine wpAnyH_done (by kernel_rfl) ?_ _
        refine NoPanic.normal ?_
        have HLO2 := Aside0.mk (hLo.keep (fun y h5 h6 _ => hB.block y h6))
        have HFIN := Aside0.mk (lo_step HLO2.out HQ2.out hN hR hB hBw HU3.out hs0)
        have q0 : (W8.setCell ⟨b + 1 + 1, 0, none⟩ (.slice VB U2.length bc)).cell? ⟨b, 0, none⟩ = some (.slice (some ⟨pb, po, none⟩) pg.length pc) := (blk_cell HFIN.out.1.1 0).trans rfl
        have q7 : (W8.setCell ⟨b + 1 + 1, 0, none⟩ (.slice VB U2.length bc)).cell? ⟨pb, po + m * 10 + 7, none⟩ = some (.int .i64 (rd own ((k + 1 : Nat) : Int))) := cellB (HFIN.out.2.2.2.1) (Nat.le_of_eq HBW.out) HX7.out
        obtain ⟨W9, hW9⟩ : ∃ x, W8.setCell ⟨b + 1 + 1, 0, none⟩ (.slice VB U2.length bc) = x := ⟨_, rfl⟩
        rw [hW9] at HFIN q0 q7 ⊢
        clear hN hR hB hF hBw hLo hPl hNl hPN hFA hOA hPX hNX hW9
        go_wp2
        go_roundw
        case rel => exact ⟨k + 1, by omega, rfl, _, HFIN⟩
        case measure => have := HQL.out; have := HTL.out; simp only [lenOf]; omega
      refine AllReadyK.cons rfl (fun K hK => ?_) AllReadyK.nil
      rw [if_pos (by rfl)]
      refine oper_build1 (.tmp 63) rfl rfl (build23 (m : Int) _) ?_
      refine hK.out _ _ (⟨cellB (below_alloc1 _ _) (Nat.le_refl _) hS.1, fun j v hv => cellB (below_alloc1 _ _) (Nat.le_refl _) (hS.2.1 j v hv), cellB (below_alloc1 _ _) (Nat.le_refl _) hS.2.2⟩) (fun hS => ?_)
      clear hK K
      have hnB0 : W0.heap.size ≤ W0.heap.size := hB.size
      have hKB := blk_new W0 (.cells #[.int .i64 (m : Int)] 3)
      have hN := Kd.N_alloc hN (.cells #[.int .i64 (m : Int)] 3)
      have hR := Kd.R_alloc hR (.cells #[.int .i64 (m : Int)] 3)
      have hF := Kd.F_alloc hF (.cells #[.int .i64 (m : Int)] 3)
      have hB := hB.alloc (Nat.le_trans hs0 hB.size) (.cells #[.int .i64 (m : Int)] 3)
      obtain ⟨nB, hne10⟩ : ∃ x, W0.heap.size = x := ⟨_, rfl⟩
      obtain ⟨W10, hW10⟩ : ∃ x, W0.alloc (.cells #[.int .i64 (m : Int)] 3) = x := ⟨_, rfl⟩
      rw [hW10] at hS hKB hN hR hF hB ⊢
      have hnB : W0.heap.size ≤ nB := by omega
      rw [hne10] at hKB ⊢
      clear hne10 hW10 hnB0
      try simp only [Act.put, List.getElem_toArray, List.getElem_cons_succ, List.getElem_cons_zero, List.setIfInBounds_toArray, List.set_cons_zero, List.set_cons_succ]
      refine wpAnyK_ready (rs := [6]) (by kernel_rfl) (by simp) ?_
      refine AllReadyK.cons rfl (fun K hK => ?_) AllReadyK.nil
      rw [if_pos (by rfl)]
      refine oper_build1 (.tmp 59) rfl rfl (build22 p A1 c1 _) ?_
      refine hK.out _ _ (⟨cellB (below_alloc1 _ _) (Nat.le_refl _) hS.1, fun j v hv => cellB (below_alloc1 _ _) (Nat.le_refl _) (hS.2.1 j v hv), cellB (below_alloc1 _ _) (Nat.le_refl _) hS.2.2⟩) (fun hS => ?_)
      clear hK K
      have hnA0 : W0.heap.size ≤ W10.heap.size := hB.size
      have hA := blk_new W10 (.cells (cells89 p A1 c1).toArray 89)
      have hKB := blk_alloc (o' := (.cells (cells89 p A1 c1).toArray 89)) hKB
      have hN := Kd.N_alloc hN (.cells (cells89 p A1 c1).toArray 89)
      have hR := Kd.R_alloc hR (.cells (cells89 p A1 c1).toArray 89)
      have hF := Kd.F_alloc hF (.cells (cells89 p A1 c1).toArray 89)
      have hB := hB.alloc (Nat.le_trans hs0 hB.size) (.cells (cells89 p A1 c1).toArray 89)
      obtain ⟨nA, hne11⟩ : ∃ x, W10.heap.size = x := ⟨_, rfl⟩
      obtain ⟨W11, hW11⟩ : ∃ x, W10.alloc (.cells (cells89 p A1 c1).toArray 89) = x := ⟨_, rfl⟩
      rw [hW11] at hS hA hN hR hF hB hKB ⊢
      have hnA : W0.heap.size ≤ nA := by omega
      rw [hne11] at hA ⊢
      clear hne11 hW11 hnA0
      try simp only [Act.put, List.getElem_toArray, List.getElem_cons_succ, List.getElem_cons_zero, List.setIfInBounds_toArray, List.set_cons_zero, List.set_cons_succ]
      refine wpAnyK_ready (rs := [7]) (by kernel_rfl) (by simp) ?_
      refine AllReadyK.cons rfl (fun K hK => ?_) AllReadyK.nil
      refine Kd.N_append_rows_step k89 (w0 := W0) (b + 5) (by rfl) (.tmp 54) (.tmp 60) 22 89 (.agg (cells89 z89 none 0).toArray) 120 rfl Tryz.underlying22 info89 rfl (by decide) (by decide) (.slice PV k c8) T [p] (some ⟨nA, 0, none⟩) 1 1 (fun y => (y < b ∨ b + 5 ≤ y) ∧ some y ≠ (Value.slice NA k nc).ownBlock) (fun y => y < b ∨ y = nA) rfl rfl hN (page_row hA hF hl1 (.inr rfl) (fun y hy => .inl hy)) (hOA nA hnA) (fun y hy => hFA y (Nat.le_trans hB.size hy)) hB (Nat.le_trans hs0 hB.size) (by rw [HTL.out]; omega) ?_
      intro vA W12 hNA hBA hgA hatA
      rw [HQ.out] at hNA
      obtain ⟨VA, vc, rfl⟩ := Kd.N_slice hNA
      refine hK.out _ _ (⟨cell_grown hgA hS.1 (hPX b (by omega)), fun j v hv => cell_grown hgA (hS.2.1 j v hv) (hPX pb (by omega)), cell_grown hgA hS.2.2 (hPX (b + 1 + 1) (by omega))⟩) (fun hS => ?_)
      clear hK K
      have hN := hNA
      have hR := Kd.R_grown2 hR rfl hgA (fun y hy => hPN y hy)
      have hB := hBA
      have hKB := (hgA.block nB (blk_lt hKB) (fun e => by have := (hPl nB e.symm).2; omega)).trans hKB
      have hF := Kd.F_grown hF hgA (fun y hy e => by have := (hPl y e.symm).1; omega)
      try simp only [Act.put, List.getElem_toArray, List.getElem_cons_succ, List.getElem_cons_zero, List.setIfInBounds_toArray, List.set_cons_zero, List.set_cons_succ]
      refine wpAnyK_ready (rs := [11]) (by kernel_rfl) (by simp) ?_
      refine AllReadyK.cons rfl (fun K hK => ?_) AllReadyK.nil
      refine Kd.R_append_rows_step (Kd.int .i64) (w0 := W0) (b + 5) (by rfl) (.tmp 62) (.tmp 64) 23 3 (.int .i64 0) 8 rfl Tryz.underlying23 info3 rfl (by decide) (by omega) (.slice NA k nc) U [(m : Int)] (some ⟨nB, 0, none⟩) 1 1 (fun _ => True) (fun _ => False) rfl rfl hR (one_row hKB rfl rfl) (fun _ _ h => h) (fun _ hk => hk.elim) (fun _ _ => trivial) hB (Nat.le_trans hs0 hB.size) (by rw [HUL.out]; omega) ?_
      intro vB W13 hRB hBB hgB hatB
      rw [HU2.out] at hRB
      obtain ⟨VB, bc, rfl⟩ := Kd.R_slice hRB
      refine hK.out _ _ (⟨cell_grown hgB hS.1 (hNX b (by omega)), fun j v hv => cell_grown hgB (hS.2.1 j v hv) (hNX pb (by omega)), cell_grown hgB hS.2.2 (hNX (b + 1 + 1) (by omega))⟩) (fun hS => ?_)
      clear hK K
      have hN := Kd.N_after hN hgB hatB
      have hR := hRB
      have hB := hBB
      try simp only [Act.put, List.getElem_toArray, List.getElem_cons_succ, List.getElem_cons_zero, List.setIfInBounds_toArray, List.set_cons_zero, List.set_cons_succ]
      refine take_atK (i := 12) 8 (.slice VA Q.length vc) [13] rfl rfl (by kernel_rfl) (by decide) (by decide) (by kernel_rfl) (by kernel_rfl) (by kernel_rfl) (by kernel_rfl) (fun _ _ _ h => h) (Or.inl ⟨by rfl, fun W hW => by go_simp⟩) hS ?_
      try simp only [List.setIfInBounds_toArray, List.set_cons_zero, List.set_cons_succ]
      refine storeK (by kernel_rfl) (by decide) rfl rfl (fun K hK => ?_)
      have hlo := hLo.keep (fun y h5 h6 _ => hB.block y h6)
      have y0 := hS.2.2
      have z0 : W13.frozen? ⟨b + 1 + 1, 0, none⟩ = false := blk_frozen hlo.2.2.1 0
      go_simp
      refine hK.out _ _ ?_
      clear hK K
      have hS : True := trivial
      try simp only [Act.put, List.getElem_toArray, List.getElem_cons_succ, List.getElem_cons_zero, List.setIfInBounds_toArray, List.set_cons_zero, List.set_cons_succ]
      refine wpAnyH_done (by kernel_rfl) ?_ _
      refine NoPanic.normal ?_
      have HLO2 := Aside0.mk (hLo.keep (fun y h5 h6 _ => hB.block y h6))
      have HFIN := Aside0.mk (lo_step HLO2.out HQ2.out hN hR hB hBw HU3.out hs0)
      have q0 : (W13.setCell ⟨b + 1 + 1, 0, none⟩ (.slice VB U2.length bc)).cell? ⟨b, 0, none⟩ = some (.slice (some ⟨pb, po, none⟩) pg.length pc) := (blk_cell HFIN.out.1.1 0).trans rfl
      have q7 : (W13.setCell ⟨b + 1 + 1, 0, none⟩ (.slice VB U2.length bc)).cell? ⟨pb, po + m * 10 + 7, none⟩ = some (.int .i64 (rd own ((k + 1 : Nat) : Int))) := cellB (HFIN.out.2.2.2.1) (Nat.le_of_eq HBW.out) HX7.out
      obtain ⟨W9, hW9⟩ : ∃ x, W13.setCell ⟨b + 1 + 1, 0, none⟩ (.slice VB U2.length bc) = x := ⟨_, rfl⟩
      rw [hW9] at HFIN q0 q7 ⊢
      clear hN hR hB hF hBw hLo hPl hNl hPN hFA hOA hPX hNX hW9
      go_wp2
      go_roundw
      case rel => exact ⟨k + 1, by omega, rfl, _, HFIN⟩
      case measure => have := HQL.out; have := HTL.out; simp only [lenOf]; omega
    · obtain rfl : k = own.length := by omega
      have hz : rd own (own.length : Int) = 0 := by unfold rd; simp
      have hUo : U = own := by rw [← HUE.out, List.take_length]
      have hTo : T = ps := by rw [← HTE.out]; exact List.take_of_length_le (by rw [HCH.out.1]; exact Nat.le_refl _)
      obtain ⟨hL0, hN0, hR0, hB0, hS0⟩ := HM.out
      rw [HUE.out] at hL0 hR0
      rw [HTE.out] at hN0
      subst hUo hTo
      rw [hz]
      have hlp := HCH.out.1
      have x2 : wr.cell? ⟨b + 1 + 1, 0, none⟩ = some (.slice NA U.length nc) := (blk_cell hL0.2.2.1 0).trans rfl
      have HSO := Aside0.mk (sort_R hR0 (by omega))
      have hPN : ∀ y, (y < b ∨ b + 5 ≤ y) ∧ some y ≠ (Value.slice NA U.length nc).ownBlock → ¬ some y = (Value.slice NA U.length nc).ownBlock := fun y hy => hy.2
      have HN0 := Aside0.mk hN0
      have HL0 := Aside0.mk hL0
      have HB0 := Aside0.mk hB0
      clear HM hL0 hN0 hR0 hB0 hk hlt HTE HUE HTL HUL hz
      go_upto_region 10 with (go_at_call 73; (refine HSO.out.mono ?_); rintro e w4 ⟨rfl, hr4, hk4, hb4⟩)
      have hN4 := Kd.N_kept HN0.out hk4 hPN
      have hL4 := HL0.out.keep (fun y h5 h6 _ => hb4.block y h6)
      rw [← hlp] at hN4
      have HCL := Aside0.mk (HL.out w4 PV c8 (Kd.N_reads' hN4).2.2 (Kd.N_reads' hN4).2.1)
      have hB4 := HB0.out.trans (hb4.mono (by omega))
      have hs4 : b + 5 ≤ w4.heap.size := Nat.le_trans hS0 hb4.size
      rw [hlp] at HCL
      have HL4 := Aside0.mk hL4
      have HR4 := Aside0.mk hr4
      have HB4 := Aside0.mk hB4
      clear hN4 hL4 hr4 hB4 hk4 hb4 HN0 HL0 HB0 hPN x2 HSO
      go_upto_region 11 with (go_at_call 74; (refine HCL.out.mono ?_); rintro e w5 ⟨v, rfl, hv, hb5⟩; obtain ⟨LA, lc, rfl⟩ := Kd.N_slice hv; have HL5 := Aside0.mk (HL4.out.below hb5); have y1 : w5.cell? ⟨b + 1, 0, none⟩ = some (.slice none 0 0) := (blk_cell HL5.out.2.1 0).trans rfl; have z1 := blk_frozen HL5.out.2.1 0; have y3 : w5.cell? ⟨b + 1 + 1 + 1, 0, none⟩ = some (.int .i64 0) := (blk_cell HL5.out.2.2.2.1 0).trans rfl; have z3 := blk_frozen HL5.out.2.2.2.1 0)
      have HFC0 := Aside0.mk (FinC.mk2 HL5.out (Kd.N_mono (Kd.N_lower hv hs4) (fun y hy => Nat.le_trans hs4 hy)) (Kd.R_below HR4.out hb5) (HB4.out.trans (hb5.mono (by omega))))
      obtain ⟨w6, hw6⟩ : ∃ x, (w5.setCell ⟨b + 1, 0, none⟩ (.slice LA l.length lc)).setCell ⟨b + 1 + 1 + 1, 0, none⟩ (.int .i64 0) = x := ⟨_, rfl⟩
      rw [hw6] at HFC0 ⊢
      obtain ⟨O9, hO9⟩ : ∃ O9, sortI U = O9 := ⟨_, rfl⟩
      have HO9 := Lib.hid hO9
      rw [hO9] at HFC0
      obtain ⟨n9, hn9⟩ : ∃ n9, U.length = n9 := ⟨_, rfl⟩
      have HFC : Aside0 (FinC w w6.drew b (.slice LA l.length lc) (.slice NA n9 nc) l O9) := ⟨by
        rw [← hn9]
        obtain ⟨f1, f2, f3, f4, f5, f6⟩ := HFC0.out
        exact ⟨f1, f2, f3, Kd.N_drew f4, Kd.R_drew f5, f6.drew⟩⟩
      have x3 : w6.cell? ⟨b + 1 + 1 + 1, 0, none⟩ = some (.int .i64 0) := (blk_cell HFC0.out.2.2.1 0).trans rfl
      clear hw6 hv hb5 y1 z1 y3 z3 HL5 HL4 HR4 HB4 HCL HFC0 hO9 hn9
      go_upto_region 12 with (go_at_call 45; (with_reducible refine (need_yes _ _).mono ?_); rintro e w' ⟨rfl, rfl⟩)
      refine wp_region_noPanic ?_
      refine wp_region_held_drew (S := fun W => FinC w W b (.slice LA l.length lc) (.slice NA n9 nc) l O9) (by kernel_rfl) (HFC.out) (fun hS => ?_)
      simp only [List.size_toArray, List.length_cons, List.length_nil, Nat.reduceAdd, Array.replicate_succ, Array.replicate_zero, List.push_toArray, List.nil_append, List.cons_append]
      obtain ⟨V0, hV0⟩ : ∃ x, w6.drew = x := ⟨_, rfl⟩
      rw [hV0] at hS ⊢
      clear hV0
      refine take_at (i := 0) 76 (.slice LA l.length lc) rfl rfl (by kernel_rfl) (by kernel_rfl) (by kernel_rfl) (fun _ _ _ h => h) (Or.inl ⟨by rfl, fun W hW => by have h0 : W.cell? ⟨b + 1, 0, none⟩ = some (.slice LA l.length lc) := (blk_cell hW.1 0).trans rfl; go_simp⟩) hS ?_
      try simp only [List.setIfInBounds_toArray, List.set_cons_zero, List.set_cons_succ]
      refine take_at (i := 1) 77 (.slice NA n9 nc) rfl rfl (by kernel_rfl) (by kernel_rfl) (by kernel_rfl) (fun _ _ _ h => h) (Or.inl ⟨by rfl, fun W hW => by have h0 : W.cell? ⟨b + 1 + 1, 0, none⟩ = some (.slice NA n9 nc) := (blk_cell hW.2.1 0).trans rfl; go_simp⟩) hS ?_
      try simp only [List.setIfInBounds_toArray, List.set_cons_zero, List.set_cons_succ]
      refine wpAnyH_ready (rs := [2]) (by kernel_rfl) (by simp) ?_
      refine AllReadyH.cons rfl (fun K hK => ?_) AllReadyH.nil
      have y0 : V0.cell? ⟨b + 1, 0, none⟩ = some (.slice LA l.length lc) := (blk_cell hS.1 0).trans rfl
      have z0 := blk_frozen hS.1 0
      go_simp
      refine hK.out _ _ (FinC.same1 hS) (fun hS => ?_)
      clear hK K
      obtain ⟨W1, hW1⟩ : ∃ x, V0.setCell ⟨b + 1, 0, none⟩ (.slice LA l.length lc) = x := ⟨_, rfl⟩
      rw [hW1] at hS ⊢
      clear hW1
      try simp only [Act.put, List.getElem_toArray, List.getElem_cons_succ, List.getElem_cons_zero, List.setIfInBounds_toArray, List.set_cons_zero, List.set_cons_succ]
      refine wpAnyH_ready (rs := [3]) (by kernel_rfl) (by simp) ?_
      refine AllReadyH.cons rfl (fun K hK => ?_) AllReadyH.nil
      have y0 : W1.cell? ⟨b + 1 + 1, 0, none⟩ = some (.slice NA n9 nc) := (blk_cell hS.2.1 0).trans rfl
      have z0 := blk_frozen hS.2.1 0
      go_simp
      refine hK.out _ _ (FinC.same2 hS) (fun hS => ?_)
      clear hK K
      obtain ⟨W2, hW2⟩ : ∃ x, W1.setCell ⟨b + 1 + 1, 0, none⟩ (.slice NA n9 nc) = x := ⟨_, rfl⟩
      rw [hW2] at hS ⊢
      clear hW2
      try simp only [Act.put, List.getElem_toArray, List.getElem_cons_succ, List.getElem_cons_zero, List.setIfInBounds_toArray, List.set_cons_zero, List.set_cons_succ]
      refine wpAnyH_ready (rs := [4]) (by kernel_rfl) (by simp) ?_
      refine AllReadyH.cons rfl (fun K hK => ?_) AllReadyH.nil
      have y0 : W2.cell? ⟨b + 1 + 1 + 1, 0, none⟩ = some (.int .i64 0) := (blk_cell hS.2.2.1 0).trans rfl
      have z0 := blk_frozen hS.2.2.1 0
      go_simp
      refine hK.out _ _ (FinC.same3 hS) (fun hS => ?_)
      clear hK K
      obtain ⟨W3, hW3⟩ : ∃ x, W2.setCell ⟨b + 1 + 1 + 1, 0, none⟩ (.int .i64 0) = x := ⟨_, rfl⟩
      rw [hW3] at hS ⊢
      clear hW3
      try simp only [Act.put, List.getElem_toArray, List.getElem_cons_succ, List.getElem_cons_zero, List.setIfInBounds_toArray, List.set_cons_zero, List.set_cons_succ]
      refine wpAnyH_done (by kernel_rfl) ?_ _
      refine NoPanic.normal ?_
      have HFE := Aside0.mk hS
      clear hS
      try go_wp2
      refine leaves_cons (f := 43) (args := #[.pointer (some ⟨b + 1 + 1 + 1, 0, none⟩), .func (.func 71) #[] #[.pointer (some ⟨b + 1, 0, none⟩), .pointer (some ⟨b + 1 + 1, 0, none⟩)]]) (by simp) (by simp [go_sem]) ?_
      refine (caught_idle _ _ _ _ _).mono ?_
      rintro e u9 w9 ⟨rfl, rfl, rfl⟩
      obtain ⟨f1, f2, f3, f4, f5, f6⟩ := HFE.out
      refine ⟨_, list_results _ w9 b _ _ _ rfl rfl rfl ((blk_cell f1 0).trans rfl) ((blk_cell f2 0).trans rfl) ((blk_cell f3 0).trans rfl), ?_⟩
      refine ⟨_, _, rfl, ?_, ?_, ?_⟩
      · rw [HBW.out]; exact Kd.N_mono (Kd.N_lower f4 (by omega)) (fun y hy => by omega)
      · rw [HBW.out, HO9.out]; exact Kd.R_mono (Kd.R_lower f5 (by omega)) (fun _ _ => trivial)
      · rw [HBW.out]; exact f6
theorem listPg_length (l : List S64) (no : List Int) (v : Int) : (listPg l no v).length = no.length := by unfold listPg; rw [chTo_length, fillTo_length]
theorem listPg_at (l : List S64) (no : List Int) (v : Int) (i : Nat) (hi : i < no.length) :
    (listPg l no v)[i]? = some ⟨4, rd no (i : Int), v, 0, 0, false, (none, 0, 0), if i + 1 < no.length then rd no ((i + 1 : Nat) : Int) else 0, ⟨#[]⟩, if i < (partsOf l).length then rd_L3 (partsOf l) (i : Int) else []⟩ := by
  have hf : (fillTo (partsOf l).length no.length (partsOf l))[i]? = some (if i < (partsOf l).length then { z89 with freed := rd_L3 (partsOf l) (i : Int) } else z89) := by
    unfold fillTo
    simp [hi]
  unfold listPg chTo
  rw [List.getElem?_mapIdx, hf, fillTo_length]
  simp only [Option.map_some, if_pos hi]
  unfold chP
  split <;> rfl
end Go.Proofs.YtpnhelcemodnmaaGreat

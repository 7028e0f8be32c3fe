/- A region that draws its order, and in which a store turns what its loads read: the loads come ahead of the store in every order, so what they read need only be kept till then. -/
import Derived.Test.YtdpgebifeaakjaaDoorAH
namespace Go.Proofs.YtdpgebifeaakjaaDoor
set_option linter.unusedSimpArgs false
set_option linter.unusedVariables false
open Go.RowKit

section
variable {P : Program} {ops : Array Oper} {Q : Exit → Act → World → Prop} {md : Region.Mode} {S : World → Prop} {k : Nat}

/-- Whatever order is picked; S holds behind every operation that comes ahead of number k. -/
def wpAnyK (P : Program) (md : Region.Mode) (ops : Array Oper) (Q : Exit → Act → World → Prop) (S : World → Prop) (k : Nat) : Nat → Array Bool → Act → World → Prop
  | 0, l, a, w => Region.ready md ops l = [] ∧ Q .normal a w
  | f + 1, l, a, w => (Region.ready md ops l = [] → Q .normal a w) ∧
    ∀ i ∈ Region.ready md ops l, wpOp P ops Q i (fun a' w' => ((l.setIfInBounds i true).getD k true = true ∨ S w') ∧ wpAnyK P md ops Q S k f (l.setIfInBounds i true) a' w') a w
theorem wpAny_of_K : ∀ (f : Nat) (l : Array Bool) (a : Act) (w : World), wpAnyK P md ops Q S k f l a w → wpAny P md ops Q f l a w
  | 0, _, _, _, h => h
  | f + 1, _, _, _, h => ⟨h.1, fun i hi => wpOp_mono (fun a' w' h' => wpAny_of_K f _ a' w' h'.2) (h.2 i hi)⟩
theorem getD_two {l : Array Bool} (h : l.getD k true = false) : l.getD k false = false := by
  rcases Nat.lt_or_ge k l.size with h' | h'
  · simp [h'] at h ⊢; exact h
  · simp [Array.getElem?_eq_none h'] at h
/-- Number k waits for number i. -/
def waitsFor (md : Region.Mode) (ops : Array Oper) (k i : Nat) : Bool := match ops[k]? with
  | some o => o.after.any fun e => Region.binds md e && e.on == i
  | none => false
theorem waitsFor_spec {m i : Nat} (h : waitsFor md ops m i = true) : ∃ om, ops[m]? = some om ∧ ∃ e ∈ om.after, Region.binds md e = true ∧ e.on = i := by
  unfold waitsFor at h
  cases ho : ops[m]? with
  | none => rw [ho] at h; cases h
  | some o =>
    rw [ho] at h
    obtain ⟨e, he, h2⟩ := Array.any_eq_true'.1 h
    rw [Bool.and_eq_true] at h2
    exact ⟨o, rfl, e, he, h2.1, eq_of_beq h2.2⟩
/-- Each of the chain waits for the one ahead of it. -/
def waitsChain (md : Region.Mode) (ops : Array Oper) : Nat → List Nat → Bool
  | _, [] => true
  | i, y :: ys => waitsFor md ops y i && waitsChain md ops y ys
theorem not_ready_chain {l : Array Bool} {j : Nat} (hj : j ∈ Region.ready md ops l) : ∀ (ps : List Nat) (i : Nat), waitsChain md ops i ps = true → l.getD i true = false → (∀ x ∈ ps, l.getD x true = false) → j ∉ ps
  | [], _, _, _, _ => by simp
  | y :: ys, i, h, hi, hun => by
    rw [waitsChain, Bool.and_eq_true] at h
    rw [List.mem_cons]
    rintro (rfl | hm)
    · obtain ⟨om, h2, e, he, hb, heq⟩ := waitsFor_spec h.1
      obtain ⟨_, oj, h3, h4⟩ := mem_ready.1 hj
      rw [h3] at h2
      cases h2
      have h5 := h4 e he hb
      rw [heq, getD_two hi] at h5
      cases h5
    · exact not_ready_chain hj ys y h.2 (hun y (List.mem_cons_self ..)) (fun x hx => hun x (List.mem_cons_of_mem _ hx)) hm
theorem wpAnyK_first {i : Nat} {oi : Oper} {v : Value} (hi : ops[i]? = some oi) (hsel : ∀ (j : Nat) (o : Oper) cs b, ops[j]? = some o → o.op ≠ .select cs b)
    (hQ : ∀ c a w, Q (.panic c) (a.put oi.dst v) w → Q (.panic c) a w) (ps : List Nat) (hki : waitsChain md ops i ps = true) (hkp : k ∈ ps) (hip : i ∉ ps) :
    ∀ (f : Nat) (l : Array Bool) (a : Act) (w : World), (∀ x ∈ ps, l.getD x true = false) →
      (∀ j oj, ops[j]? = some oj → j ≠ i → l.getD j true = false → (∀ e ∈ oj.after, Region.binds md e = true → e.on ≠ i) → oi.apart ops oj = true) →
      i ∈ Region.ready md ops l → YieldsIf P ops S oi v a → S w → wpAnyK P md ops Q S k f (l.setIfInBounds i true) (a.put oi.dst v) w → wpAnyK P md ops Q S k (f + 1) l a w := by
  intro f
  induction f with
  | zero =>
    intro l a w hlk _ hr hy hS H
    refine ⟨fun h => (by rw [h] at hr; cases hr), fun j hj => ?_⟩
    by_cases hji : j = i
    · subst hji; exact hy.wpOp hi hS ⟨.inr hS, H⟩
    · have := ready_mono hj hji
      rw [H.1] at this
      cases this
  | succ f ih =>
    intro l a w hlk hfree hr hy hS H
    refine ⟨fun h => (by rw [h] at hr; cases hr), fun j hj => ?_⟩
    by_cases hji : j = i
    · subst hji; exact hy.wpOp hi hS ⟨.inr hS, H⟩
    · have h1 := H.2 j (ready_mono hj hji)
      obtain ⟨hjun, oj, hoj, hall⟩ := mem_ready.1 hj
      have hun := (mem_ready.1 hr).1
      have hnot : ∀ e ∈ oj.after, Region.binds md e = true → e.on ≠ i := fun e he hb heq => by
        have h2 := hall e he hb
        rw [heq, getD_two hun] at h2
        cases h2
      have hjp : j ∉ ps := not_ready_chain hj ps i hki hun hlk
      have hjk : j ≠ k := fun e => hjp (e ▸ hkp)
      have hik : i ≠ k := fun e => hip (e ▸ hkp)
      have h2 := wpOp_putIf hoj (hfree j oj hoj hji hjun hnot) (fun cs b => hsel i oi cs b hi) (fun cs b => hsel j oj cs b hoj) hQ hy h1
      refine wpOp_mono (fun a' w' h3 => ?_) h2
      have hSk : S w' := h3.2.1.resolve_left (by rw [getD_set_ne true hjk, getD_set_ne true hik, hlk k hkp]; simp)
      refine ⟨.inr hSk, ih (l.setIfInBounds j true) a' w' (fun x hx => by
        have hxj : j ≠ x := by rintro rfl; exact hjp hx
        rw [getD_set_ne true hxj]; exact hlk x hx) (fun m om hm hmi hmun hno => hfree m om hm hmi ?_ hno) (ready_mono hr (Ne.symm hji)) h3.1 hSk ?_⟩
      · by_cases hjm : j = m
        · subst hjm; exact hjun
        · rw [getD_set_ne true hjm] at hmun; exact hmun
      · rw [Array.setIfInBounds_comm _ _ hji]
        exact h3.2.2
/-- An operation that yields in whatever world. -/
theorem wpAnyK_firstU {i : Nat} {oi : Oper} {v : Value} (hi : ops[i]? = some oi) (hsel : ∀ (j : Nat) (o : Oper) cs b, ops[j]? = some o → o.op ≠ .select cs b)
    (hQ : ∀ c a w, Q (.panic c) (a.put oi.dst v) w → Q (.panic c) a w) (hik : i ≠ k) :
    ∀ (f : Nat) (l : Array Bool) (a : Act) (w : World),
      (∀ j oj, ops[j]? = some oj → j ≠ i → l.getD j true = false → (∀ e ∈ oj.after, Region.binds md e = true → e.on ≠ i) → oi.apart ops oj = true) →
      i ∈ Region.ready md ops l → YieldsIf P ops (fun _ => True) oi v a → (l.getD k true = true ∨ S w) → wpAnyK P md ops Q S k f (l.setIfInBounds i true) (a.put oi.dst v) w → wpAnyK P md ops Q S k (f + 1) l a w := by
  intro f
  induction f with
  | zero =>
    intro l a w _ hr hy hS H
    refine ⟨fun h => (by rw [h] at hr; cases hr), fun j hj => ?_⟩
    by_cases hji : j = i
    · subst hji; exact hy.wpOp hi trivial ⟨by rw [getD_set_ne true hik]; exact hS, H⟩
    · have := ready_mono hj hji
      rw [H.1] at this
      cases this
  | succ f ih =>
    intro l a w hfree hr hy hS H
    refine ⟨fun h => (by rw [h] at hr; cases hr), fun j hj => ?_⟩
    by_cases hji : j = i
    · subst hji; exact hy.wpOp hi trivial ⟨by rw [getD_set_ne true hik]; exact hS, H⟩
    · have h1 := H.2 j (ready_mono hj hji)
      obtain ⟨hjun, oj, hoj, hall⟩ := mem_ready.1 hj
      have hun := (mem_ready.1 hr).1
      have hnot : ∀ e ∈ oj.after, Region.binds md e = true → e.on ≠ i := fun e he hb heq => by
        have h2 := hall e he hb
        rw [heq, getD_two hun] at h2
        cases h2
      have h2 := wpOp_putIf hoj (hfree j oj hoj hji hjun hnot) (fun cs b => hsel i oi cs b hi) (fun cs b => hsel j oj cs b hoj) hQ hy h1
      refine wpOp_mono (fun a' w' h3 => ?_) h2
      have hk2 : ((l.setIfInBounds i true).setIfInBounds j true).getD k true = (l.setIfInBounds j true).getD k true := by
        rw [Array.setIfInBounds_comm _ _ (Ne.symm hji), getD_set_ne true hik]
      have hSk : (l.setIfInBounds j true).getD k true = true ∨ S w' := by rw [← hk2]; exact h3.2.1
      refine ⟨hSk, ih (l.setIfInBounds j true) a' w' (fun m om hm hmi hmun hno => hfree m om hm hmi ?_ hno) (ready_mono hr (Ne.symm hji)) h3.1 hSk ?_⟩
      · by_cases hjm : j = m
        · subst hjm; exact hjun
        · rw [getD_set_ne true hjm] at hmun; exact hmun
      · rw [Array.setIfInBounds_comm _ _ hji]
        exact h3.2.2
/-- An operation ahead of number k is taken first. -/
theorem take_atK {i : Nat} {oi : Oper} {f : Nat} {l : Array Bool} {t : Array Value} {df : List Deferred} {w : World} (d : Nat) (v : Value) (ps : List Nat) (hi : ops[i]? = some oi) (hd : oi.dst = some d) (hw : waitsChain md ops i ps = true) (hkp : k ∈ ps) (hip : i ∉ ps) (hlk : ps.all (fun x => !l.getD x true) = true)
    (hs : Region.noSelect ops = true) (hf : Region.free md ops l i = true) (hr : (Region.ready md ops l).contains i = true)
    (hQ : ∀ c a w, Q (.panic c) (a.put oi.dst v) w → Q (.panic c) a w) (hy : YieldsIf P ops S oi v { tmps := t, defers := df }) (hS : S w)
    (h : wpAnyK P md ops Q S k f (l.setIfInBounds i true) { tmps := t.setIfInBounds d v, defers := df } w) : wpAnyK P md ops Q S k (f + 1) l { tmps := t, defers := df } w := by
  refine wpAnyK_first hi (Region.noSelect_spec hs) hQ ps hw hkp hip f l _ w (fun x hx => ?_) (Region.free_spec hi hf) (by simpa using hr) hy hS ?_
  · have := List.all_eq_true.1 hlk x hx
    simpa using this
  · rw [hd]
    exact h
/-- An operation that reads nothing is taken first. -/
theorem take_atU {i : Nat} {oi : Oper} {f : Nat} {l : Array Bool} {t : Array Value} {df : List Deferred} {w : World} (d : Nat) (v : Value) (hi : ops[i]? = some oi) (hd : oi.dst = some d) (hik : i ≠ k)
    (hs : Region.noSelect ops = true) (hf : Region.free md ops l i = true) (hr : (Region.ready md ops l).contains i = true)
    (hQ : ∀ c a w, Q (.panic c) (a.put oi.dst v) w → Q (.panic c) a w) (hy : YieldsIf P ops (fun _ => True) oi v { tmps := t, defers := df }) (hS : S w)
    (h : wpAnyK P md ops Q S k f (l.setIfInBounds i true) { tmps := t.setIfInBounds d v, defers := df } w) : wpAnyK P md ops Q S k (f + 1) l { tmps := t, defers := df } w := by
  refine wpAnyK_firstU hi (Region.noSelect_spec hs) hQ hik f l _ w (Region.free_spec hi hf) (by simpa using hr) hy (.inr hS) ?_
  rw [hd]
  exact h
/-- Each of those that may come up. -/
def AllReadyK (P : Program) (md : Region.Mode) (ops : Array Oper) (Q : Exit → Act → World → Prop) (S : World → Prop) (k f : Nat) (l : Array Bool) (a : Act) (w : World) (rs : List Nat) : Prop :=
  ∀ i ∈ rs, wpOp P ops Q i (fun a' w' => ((l.setIfInBounds i true).getD k true = true ∨ S w') ∧ wpAnyK P md ops Q S k f (l.setIfInBounds i true) a' w') a w
theorem AllReadyK.nil {f : Nat} {l : Array Bool} {a : Act} {w : World} : AllReadyK P md ops Q S k f l a w [] := fun _ h => by cases h
theorem AllReadyK.cons {f : Nat} {l : Array Bool} {a : Act} {w : World} {i : Nat} {o : Oper} {rs : List Nat} (ho : ops[i]? = some o)
    (h : ∀ K' : Act → World → Prop, Shut (∀ a w, S w → (S w → wpAnyK P md ops Q S k f (l.setIfInBounds i true) a w) → K' a w) → if Region.wanted o (yielded ops a.tmps) = true then Oper.wp P o a w K' Q else K' (a.put o.dst undef) w)
    (hs : AllReadyK P md ops Q S k f l a w rs) : AllReadyK P md ops Q S k f l a w (i :: rs) := fun j hj => by
  rcases List.mem_cons.1 hj with rfl | hj
  · exact wpOp_step ho (fun K' hK => h K' (fun a w hS hW => hK a w ⟨.inr hS, hW hS⟩))
  · exact hs j hj
theorem wpAnyK_ready {rs : List Nat} {f : Nat} {l : Array Bool} {a : Act} {w : World} (hr : Region.ready md ops l = rs) (hne : rs ≠ [])
    (h : AllReadyK P md ops Q S k f l a w rs) : wpAnyK P md ops Q S k (f + 1) l a w :=
  ⟨fun h0 => absurd (hr ▸ h0) hne, hr ▸ h⟩
/-- Behind number k nothing is to be kept. -/
theorem wpAnyK_of_H : ∀ (f : Nat) (l : Array Bool) (a : Act) (w : World), l.getD k true = true → wpAnyH P md ops Q (fun _ => True) f l a w → wpAnyK P md ops Q S k f l a w
  | 0, _, _, _, _, h => h
  | f + 1, l, a, w, hl, h => ⟨h.1, fun i hi => by
      have hl' : (l.setIfInBounds i true).getD k true = true := by
        by_cases e : i = k
        · subst e
          rcases Nat.lt_or_ge i l.size with h' | h'
          · simp [h']
          · simp [h']
        · rw [getD_set_ne true e]; exact hl
      exact wpOp_mono (fun a' w' h' => ⟨.inl hl', wpAnyK_of_H f _ a' w' hl' h'.2⟩) (h.2 i hi)⟩
/-- The store that is number k. -/
theorem storeK {f : Nat} {l : Array Bool} {a : Act} {w : World} {o : Oper} (hr : Region.ready md ops l = [k]) (hk : k < l.size) (ho : ops[k]? = some o) (hgd : o.guard = none)
    (h : ∀ K' : Act → World → Prop, Shut (∀ a w, wpAnyH P md ops Q (fun _ => True) f (l.setIfInBounds k true) a w → K' a w) → Oper.wp P o a w K' Q) : wpAnyK P md ops Q S k (f + 1) l a w := by
  refine ⟨fun h0 => absurd (hr ▸ h0) (by simp), fun i hi => ?_⟩
  rw [hr, List.mem_singleton] at hi
  subst hi
  have hl : (l.setIfInBounds i true).getD i true = true := by simp [hk]
  refine wpOp_step ho fun K' hK => ?_
  have hw : Region.wanted o (yielded ops a.tmps) = true := by simp [Region.wanted, hgd]
  rw [if_pos hw]
  exact h K' (fun a w hW => hK a w ⟨.inl hl, wpAnyK_of_H f _ a w hl hW⟩)
/-- The beginning. -/
theorem wp_region_keptK {id : Nat} {a : Act} {w : World} (k : Nat) (hm : P.follows .mixedOrders = true) (hS : S w.drew)
    (h : S w.drew → wpAnyK P .any ops Q S k ops.size (Array.replicate ops.size false) a w.drew) : (Code.region id ops true).wp P Q a w :=
  wp_region_any hm (wpAny_of_K _ _ _ _ (h hS))
end
end Go.Proofs.YtdpgebifeaakjaaDoor

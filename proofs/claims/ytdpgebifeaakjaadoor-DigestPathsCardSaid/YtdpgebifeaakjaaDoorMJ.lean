/- Trees in plain; slices of digests. -/
import Derived.Test.YtdpgebifeaakjaaDoorMH
import Derived.Test.YtdpgebifeaakjaaDoorMF
import Derived.Test.YtdpgebifeaakjaaDoorMI
import Derived.Deep.AppendLies
import Derived.Deep.Slices

/- Trees in plain; a slice of digests, as it lies. -/
namespace Go.Proofs.YtdpgebifeaakjaaDoor
set_option linter.unusedSimpArgs false
set_option linter.unusedVariables false
open Go.RowKit

/-- The digest of a tree (f: how deep at most). -/
def treeF : Nat → Nat → (Nat → Nat → BitVec 8) → (Nat → BitVec 8)
  | 0, _, _ => sha []
  | f + 1, n, D => if n = 0 then sha [] else if n = 1 then leafD (D 0) else nodeD (treeF f (halfN n) D) (treeF f (n - halfN n) fun j => D (halfN n + j))
theorem treeF_step (f n : Nat) (D : Nat → Nat → BitVec 8) (h0 : ¬ n = 0) (h1 : ¬ n = 1) : treeF (f + 1) n D = nodeD (treeF f (halfN n) D) (treeF f (n - halfN n) fun j => D (halfN n + j)) := by
  rw [treeF, if_neg h0, if_neg h1]
/-- A slice of digests, as it lies. -/
def Digs (W : World) (v : Value) (n : Nat) (D : Nat → Nat → BitVec 8) : Prop :=
  ∃ p cap, v = .slice p n cap ∧ n ≤ cap ∧ ∀ j, j < n → ∃ g o, p = some ⟨g, o, none⟩ ∧ W.rangeAt g (o + j * 16) (A8 16 (D j)).toList
theorem Digs.below {W W' : World} {v : Value} {n : Nat} {D : Nat → Nat → BitVec 8} (h : Digs W v n D) (hb : Below W.heap.size W W') : Digs W' v n D := by
  obtain ⟨p, cap, h1, h2, h3⟩ := h
  refine ⟨p, cap, h1, h2, fun j hj => ?_⟩
  obtain ⟨g, o, e, hr⟩ := h3 j hj
  exact ⟨g, o, e, rangeAt_below hr hb⟩
theorem Digs.left {W : World} {g o n cap : Nat} {D : Nat → Nat → BitVec 8} (h : Digs W (.slice (some ⟨g, o, none⟩) n cap) n D) (m : Nat) (hm : m ≤ n) : Digs W (.slice (some ⟨g, o, none⟩) m cap) m D := by
  obtain ⟨p, c, h1, h2, h3⟩ := h
  injection h1 with a b c'
  subst a c'
  exact ⟨_, _, rfl, by omega, fun j hj => h3 j (by omega)⟩
theorem Digs.right {W : World} {g o n cap : Nat} {D : Nat → Nat → BitVec 8} (h : Digs W (.slice (some ⟨g, o, none⟩) n cap) n D) (m : Nat) (hm : m ≤ n) : Digs W (.slice (some ⟨g, o + m * 16, none⟩) (n - m) (cap - m)) (n - m) (fun j => D (m + j)) := by
  obtain ⟨p, c, h1, h2, h3⟩ := h
  injection h1 with a b c'
  subst a c'
  refine ⟨_, _, rfl, by omega, fun j hj => ?_⟩
  obtain ⟨g', o', e, hr⟩ := h3 (m + j) (by omega)
  injection e with e
  injection e with e1 e2
  subst e1 e2
  refine ⟨_, _, rfl, ?_⟩
  rw [show o + m * 16 + j * 16 = o + (m + j) * 16 by omega]
  exact hr
theorem run_dig {W : World} {g o : Nat} {d : Nat → BitVec 8} (h : W.rangeAt g (o + 0 * 16) (A8 16 d).toList) : (loadVar 23 ⟨g, o, none⟩).run Tryd.prog W = .ok (.agg (A8 16 d)) W := by
  rw [Nat.zero_mul, Nat.add_zero] at h
  have := run_loadVar_mid W g o 23 (A8 16 d).toList _ h Tryd.underlying23 rfl (by rw [Array.length_toList, A8.size]; exact size23)
  rw [Array.toArray_toList] at this
  exact this
end Go.Proofs.YtdpgebifeaakjaaDoor

/- Rows of digests that grow: steps. -/
namespace Go.Proofs.YtdpgebifeaakjaaDoor
set_option linter.unusedSimpArgs false
set_option linter.unusedVariables false
open Go.RowKit

theorem build80 (T : Nat → BitVec 8) (w : World) : (Instr.buildSlice 80 1 #[(0, .agg (A8 16 T))]).run Tryd.prog w = .ok (.slice (some ⟨w.heap.size, 0, none⟩) 1 1) (w.alloc (.cells (A8 16 T) 23)) := by kernel_rfl
theorem info23 : (Tryd.prog.info? 23).map (fun i => (i.zero, i.size, i.bytes)) = some (some (.agg (A8 16 fun _ => 0#8)), 16, 16) := by kernel_rfl
/-- The cells of k digests. -/
def digCells (T : Nat → Nat → BitVec 8) : Nat → List Value
  | 0 => []
  | k + 1 => digCells T k ++ (A8 16 (T k)).toList
theorem digCells_length (T : Nat → Nat → BitVec 8) : ∀ k, (digCells T k).length = k * 16
  | 0 => rfl
  | k + 1 => by rw [digCells, List.length_append, digCells_length T k, Array.length_toList, A8.size]; omega
theorem digCells_at (T : Nat → Nat → BitVec 8) : ∀ (k i j : Nat), i < k → j < 16 → (digCells T k)[i * 16 + j]? = some (U8 (T i j))
  | 0, _, _, h, _ => by omega
  | k + 1, i, j, h, hj => by
    rw [digCells]
    by_cases e : i < k
    · rw [List.getElem?_append_left (by rw [digCells_length]; omega), digCells_at T k i j e hj]
    · have e' : i = k := by omega
      subst e'
      rw [List.getElem?_append_right (by rw [digCells_length]; omega), digCells_length, Nat.add_sub_cancel_left, Array.getElem?_toList, A8.get _ hj]
/-- A step of a region that makes a slice of one digest. -/
theorem step_build80 {ops : Array Oper} {o : Oper} {a : Act} {w : World} {K : Act → World → Prop} {Q : Exit → Act → World → Prop} {E : Prop} (hgd : o.guard = none) (x : Operand) (ho : o.op = .buildSlice 80 1 #[(0, x)])
    {T : Nat → BitVec 8} (hx : a.eval x = .agg (A8 16 T))
    (h : K (a.put o.dst (.slice (some ⟨w.heap.size, 0, none⟩) 1 1)) (w.alloc (.cells (A8 16 T) 23))) : if Region.wanted o (yielded ops a.tmps) = true then Oper.wp Tryd.prog o a w K Q else E := by
  have hw : Region.wanted o (yielded ops a.tmps) = true := by simp [Region.wanted, hgd]
  rw [if_pos hw]
  unfold Oper.wp execOp
  have e : (#[(0, x)].map fun (i, x) => (i, a.eval x)) = #[(0, .agg (A8 16 T))] := by
    simp [hx]
  simp only [ho, Sem.run_bind, e, build80, Result.andThen_ok, Sem.run_pure]
  exact h
/-- Owned cells that are digests read as a slice of them. -/
theorem Digs.of_owns {W : World} {base k : Nat} {v : Value} {T : Nat → Nat → BitVec 8} (h : W.ownsRow base 23 16 v k (digCells T k)) : Digs W v k T := by
  obtain ⟨_, ⟨rfl, rfl⟩ | ⟨g, cap, cur, rfl, _, hh, hk, _, hc, ht⟩⟩ := h
  · exact ⟨none, 0, rfl, Nat.le_refl _, fun j hj => by omega⟩
  · refine ⟨_, cap, rfl, hk, fun i hi => ⟨g, 0, rfl, fun j v hv => ?_⟩⟩
    have hj : j < 16 := by
      have := (List.getElem?_eq_some_iff.1 hv).1
      rw [Array.length_toList, A8.size] at this
      exact this
    rw [Array.getElem?_toList, A8.get _ hj] at hv
    have e : (cur.toList.take (k * 16))[i * 16 + j]? = (digCells T k)[i * 16 + j]? := by rw [ht]
    rw [digCells_at T k i j hi hj, List.getElem?_take_of_lt (by omega), Array.getElem?_toList] at e
    rw [← hv, ← e]
    simp [World.cell?, hh]
end Go.Proofs.YtdpgebifeaakjaaDoor

/- Two runs of digests as one. -/
namespace Go.Proofs.YtdpgebifeaakjaaDoor
set_option linter.unusedSimpArgs false
set_option linter.unusedVariables false

theorem digCells_congr {T U : Nat → Nat → BitVec 8} : ∀ k, (∀ i, i < k → T i = U i) → digCells T k = digCells U k
  | 0, _ => rfl
  | k + 1, h => by rw [digCells, digCells, digCells_congr k fun i hi => h i (by omega), h k (by omega)]
/-- Two runs joined. -/
def joinT (k : Nat) (T U : Nat → Nat → BitVec 8) (i : Nat) : Nat → BitVec 8 := if i < k then T i else U (i - k)
theorem digCells_join (T U : Nat → Nat → BitVec 8) (k : Nat) : ∀ m, digCells T k ++ digCells U m = digCells (joinT k T U) (k + m)
  | 0 => by
    rw [digCells, List.append_nil]
    exact digCells_congr k fun i hi => by rw [joinT, if_pos hi]
  | m + 1 => by
    rw [← Nat.add_assoc, digCells, digCells, ← digCells_join T U k m, List.append_assoc]
    congr 3
    rw [joinT, if_neg (by omega), Nat.add_sub_cancel_left]
end Go.Proofs.YtdpgebifeaakjaaDoor

/- The specification's Same, of two slices that read alike. -/
namespace Go.Proofs.YtdpgebifeaakjaaDoor
set_option linter.unusedSimpArgs false
set_option linter.unusedVariables false
open Go.RowKit

theorem neql23 (f : Nat → BitVec 8) (w : World) : (binOp .neq 23 (.agg (A8 16 f)) (.agg (A8 16 f))).run Tryd.prog w = .ok (.bool false) w := by
  have hE1 : Tryd.prog.cellsOf 5 = 1 := by kernel_rfl
  obtain ⟨i, hi, _⟩ := Option.map_eq_some_iff.1 size5
  rw [run_neq_struct, run_equalIn_array w _ _ _ Tryd.underlying23 hi]
  have := run_eqItems_Row (P := Tryd.prog) (n := 16) (d := 9999) hE1 Tryd.isAgg5 (fun i => U8 (f i)) (fun i => U8 (f i)) (fun i => f i == f i) (fun i w _ => by
    refine (run_equalIn_int w 9998 5 .u8 .u8 _ _ Tryd.underlying5).trans ?_
    rw [eq_n8]) w (List.range 16) (by simp)
  unfold A8
  rw [this]
  simp
set_option maxRecDepth 20000 in
set_option maxHeartbeats 2000000 in
theorem same_any (n : Nat) (D : Nat → Nat → BitVec 8) (u v : Value) (w : World) (hn : n ≤ 1099511627776) (hu : Digs w u n D) (hv : Digs w v n D) :
    Calls Tryd.prog 50 #[u, v] w fun e w' => e = .returned (.bool true) ∧ Below w.heap.size w w' := by
  obtain ⟨p, cap, rfl, hcap, hu⟩ := hu
  obtain ⟨q, cap2, rfl, hcap2, hv⟩ := hv
  have hB := Below.refl w.heap.size w
  go_enter Tryd.func50, Tryd.ntmps50
  go_wp2_with fail
  go_loopw [5] (fun s5 W => ∃ i : Nat, i ≤ n ∧ s5 = .int .i64 (i : Int) ∧ Below w.heap.size w W) (fun s5 _ => n - (intOf s5).toNat)
  case atStart => exact ⟨0, by omega, rfl, hB⟩
  case round =>
    clear hB
    obtain ⟨i, hi, rfl, hB⟩ := hrel
    by_cases hlt : i < n
    · have hlt1 : (i : Int) < (n : Int) := by omega
      obtain ⟨g, o, rfl, r1⟩ := hu i hlt
      obtain ⟨g2, o2, rfl, r2⟩ := hv i hlt
      have hne := neql23 (D i)
      generalize D i = d at r1 r2 hne
      replace r1 := rangeAt_below r1 hB.drew
      replace r2 := rangeAt_below r2 hB.drew
      have hp : (0 : Int) ≤ (i : Int) := by omega
      go_wp2_with fail
      refine wp_region_held_drew (S := fun w' => Below w.heap.size w w' ∧ w'.rangeAt g (o + i * 16) (A8 16 d).toList ∧ w'.rangeAt g2 (o2 + i * 16) (A8 16 d).toList) (by kernel_rfl) (⟨hB.drew, r1, r2⟩) (fun hS => ?_)
      refine take_at (i := 0) 17 (.slice (some ⟨g, o, none⟩) n cap) rfl rfl (by kernel_rfl) (by kernel_rfl) (by kernel_rfl) (fun _ _ _ h => h) (Or.inl ⟨by rfl, fun W hW => by go_simp⟩) hS ?_
      simp only [List.setIfInBounds_toArray, List.set_cons_zero, List.set_cons_succ]
      refine take_at (i := 1) 18 (.int .i64 (i : Int)) rfl rfl (by kernel_rfl) (by kernel_rfl) (by kernel_rfl) (fun _ _ _ h => h) (Or.inl ⟨by rfl, fun W hW => by go_simp⟩) hS ?_
      simp only [List.setIfInBounds_toArray, List.set_cons_zero, List.set_cons_succ]
      refine take_at (i := 2) 19 (.pointer (some ⟨g, o + i * 16, none⟩)) rfl rfl (by kernel_rfl) (by kernel_rfl) (by kernel_rfl) (fun _ _ _ h => h) (Or.inl ⟨by rfl, fun W hW => by go_simp⟩) hS ?_
      simp only [List.setIfInBounds_toArray, List.set_cons_zero, List.set_cons_succ]
      refine take_at (i := 3) 20 (.agg (A8 16 d)) rfl rfl (by kernel_rfl) (by kernel_rfl) (by kernel_rfl) (fun _ _ _ h => h) (Or.inl ⟨by rfl, fun W hW => exec_load_range _ 23 _ rfl g (o + i * 16) rfl hW.2.1 Tryd.underlying23 rfl size23 (A8.size _ _)⟩) hS ?_
      simp only [List.setIfInBounds_toArray, List.set_cons_zero, List.set_cons_succ]
      refine take_at (i := 4) 21 (.slice (some ⟨g2, o2, none⟩) n cap2) rfl rfl (by kernel_rfl) (by kernel_rfl) (by kernel_rfl) (fun _ _ _ h => h) (Or.inl ⟨by rfl, fun W hW => by go_simp⟩) hS ?_
      simp only [List.setIfInBounds_toArray, List.set_cons_zero, List.set_cons_succ]
      refine take_at (i := 5) 22 (.int .i64 (i : Int)) rfl rfl (by kernel_rfl) (by kernel_rfl) (by kernel_rfl) (fun _ _ _ h => h) (Or.inl ⟨by rfl, fun W hW => by go_simp⟩) hS ?_
      simp only [List.setIfInBounds_toArray, List.set_cons_zero, List.set_cons_succ]
      refine take_at (i := 6) 23 (.pointer (some ⟨g2, o2 + i * 16, none⟩)) rfl rfl (by kernel_rfl) (by kernel_rfl) (by kernel_rfl) (fun _ _ _ h => h) (Or.inl ⟨by rfl, fun W hW => by go_simp⟩) hS ?_
      simp only [List.setIfInBounds_toArray, List.set_cons_zero, List.set_cons_succ]
      refine take_at (i := 7) 24 (.agg (A8 16 d)) rfl rfl (by kernel_rfl) (by kernel_rfl) (by kernel_rfl) (fun _ _ _ h => h) (Or.inl ⟨by rfl, fun W hW => exec_load_range _ 23 _ rfl g2 (o2 + i * 16) rfl hW.2.2 Tryd.underlying23 rfl size23 (A8.size _ _)⟩) hS ?_
      simp only [List.setIfInBounds_toArray, List.set_cons_zero, List.set_cons_succ]
      refine take_at (i := 8) 25 (.bool false) rfl rfl (by kernel_rfl) (by kernel_rfl) (by kernel_rfl) (fun _ _ _ h => h) (Or.inl ⟨by rfl, fun W hW => by go_simp⟩) hS ?_
      simp only [List.setIfInBounds_toArray, List.set_cons_zero, List.set_cons_succ]
      refine wpAnyH_done (by kernel_rfl) ?_ _
      go_wp2_with fail
      exact ⟨⟨i + 1, by omega, by go_num, hS.1⟩, by simp [intOf]; omega⟩
    · have hlt1 : ¬ (i : Int) < (n : Int) := by omega
      go_wp2_with fail
      go_ret
      exact ⟨rfl, hB⟩
end Go.Proofs.YtdpgebifeaakjaaDoor

/- A slice of digests that came in, opened. -/
namespace Go.Proofs.YtdpgebifeaakjaaDoor
set_option linter.unusedSimpArgs false
set_option linter.unusedVariables false
open Go.ChangeShapes Go.WideShapes Go.ChangeAt Go.RowKit

set_option maxRecDepth 20000 in
theorem open_digs {H : Type} {enc : TypeId × Value → H} {W : World} {base b0 : Nat} {spare : Nat → Bool} {held : Bool} {r : Reach} {v : Value} {d : DataW H} {p : List MemPlace}
    (hv : Value.okWide Tryd.prog W r b0 80 v) (h : DataW.Trod enc Tryd.prog W base spare held 80 v d p) : ∃ (n : Nat) (D : Nat → Nat → BitVec 8), Digs W v n D ∧ n ≤ maxLen := by
  obtain ⟨a0, len, cap, rfl⟩ := okWide_slice Tryd.underlying80 hv
  obtain ⟨fuel, hf⟩ := h
  rcases Go.Deep.open_slice Tryd.underlying80 hf with ⟨hcs, hx⟩ | ⟨a, len', cap', m, n, E, Pl, hcs, hb, hle, hmax, hm, hx, hel⟩
  · simp [Value.cells] at hcs
    obtain ⟨rfl, rfl, rfl⟩ := hcs
    exact ⟨0, fun _ _ => 0#8, ⟨none, 0, rfl, Nat.le_refl _, fun j hj => by omega⟩, by decide⟩
  · simp [Value.cells] at hcs
    obtain ⟨rfl, rfl, rfl⟩ := hcs
    have hlm : len ≤ m := by rw [hm]; split <;> omega
    have key : ∀ i, i < len → ∃ f : Nat → BitVec 8, ∀ j, j < 16 → W.cell? ((a.add (i * 16)).add j) = some (U8 (f j)) := fun i hi => by
      obtain ⟨cs', h1, h2⟩ := hel i (by omega)
      rw [cells23] at h1
      obtain ⟨_, hl, hc⟩ := World.cells?_some h1
      obtain ⟨f, hcf⟩ := bytes_of_row (n := 16) Tryd.underlying23 hl h2
      refine ⟨f, fun j hj => ?_⟩
      rw [hc j (by omega), hcf, Array.getElem?_toList, A8.get _ hj]
    obtain ⟨D, hD⟩ := Go.Deep.choose_lt (α := Nat → BitVec 8) (p := fun i f => ∀ j, j < 16 → W.cell? ((a.add (i * 16)).add j) = some (U8 (f j))) (n := len) key
    refine ⟨len, D, ⟨some a, cap, rfl, hle, fun i hi => ?_⟩, Nat.le_trans hle hmax⟩
    have hp := hD i hi
    obtain ⟨b, o, spot⟩ := a
    have hspot : spot = none := by simpa [Addr.add] using World.cell?_spot (hD 0 (by omega) 0 (by omega))
    subst hspot
    refine ⟨b, o, rfl, fun j v hv => ?_⟩
    have hj : j < 16 := by
      have := (List.getElem?_eq_some_iff.1 hv).1
      rw [Array.length_toList, A8.size] at this
      exact this
    rw [Array.getElem?_toList, A8.get _ hj] at hv
    have hv' : U8 (D i j) = v := by simpa using hv
    have := hp j hj
    rw [Go.WideShapes.add_plain, Go.WideShapes.add_plain] at this
    rw [this, hv']
end Go.Proofs.YtdpgebifeaakjaaDoor

/- Texts put together for one claim: part 3. -/
import Derived.Deep.RegionHeld
import Derived.Deep.RegionHeld3
import Derived.Test.YtpnhelcemodnmaaGreatZ2
/- Steps of regions that draw their order. -/
namespace Go.Proofs.YtpnhelcemodnmaaGreat
open Go.RowKit Go.Shelf Go.Proofs.YtpnhelcemodnmaaGreatW.PrintWords Go.Proofs.YtpnhelcemodnmaaGreatW.PrintLast Go.Proofs.YtpnhelcemodnmaaGreatW.PrintMore PA
set_option linter.unusedVariables false
set_option linter.unusedSimpArgs false

/-- An operation taken first, its temporary named. -/
theorem take_at {P : Program} {md : Region.Mode} {ops : Array Oper} {Q : Exit → Act → World → Prop} {S : World → Prop} {i : Nat} {oi : Oper} {fuel : Nat} {listed : Array Bool} {t : Array Value} {df : List Deferred} {w : World} (d : Nat) (v : Value) (hi : ops[i]? = some oi) (hd : oi.dst = some d)
    (hs : Region.noSelect ops = true) (hf : Region.free md ops listed i = true) (hr : (Region.ready md ops listed).contains i = true)
    (hQ : ∀ c a w, Q (.panic c) (a.put oi.dst v) w → Q (.panic c) a w) (hy : YieldsIf P ops S oi v { tmps := t, defers := df }) (hS : S w)
    (h : wpAnyH P md ops Q S fuel (listed.setIfInBounds i true) { tmps := t.setIfInBounds d v, defers := df } w) : wpAnyH P md ops Q S (fuel + 1) listed { tmps := t, defers := df } w := by
  refine wpAnyH_take hi hs hf hr hQ hy hS ?_
  rw [hd]
  exact h
/-- A slice of one element is made. -/
theorem oper_build1 {P : Program} {o : Oper} {a : Act} {w : World} {K : Act → World → Prop} {Q : Exit → Act → World → Prop} {t e : Nat} (x : Operand) (ho : o.op = .buildSlice t 1 #[(0, x)]) {u : Value} {C : Array Value} (hx : a.eval x = u)
    (hz : (Instr.buildSlice t 1 #[(0, u)]).run P w = .ok (.slice (some ⟨w.heap.size, 0, none⟩) 1 1) (w.alloc (.cells C e)))
    (h : K (a.put o.dst (.slice (some ⟨w.heap.size, 0, none⟩) 1 1)) (w.alloc (.cells C e))) : Oper.wp P o a w K Q := by
  have e : (#[(0, x)].map fun (i, x) => (i, a.eval x)) = #[(0, u)] := by simp [hx]
  unfold Oper.wp execOp
  simp only [ho, Sem.run_bind, e, hz, Result.andThen_ok, Sem.run_pure]
  exact h
/-- A block of one element reads as a row of it. -/
theorem one_row {α : Type} {R : α → List Value → Prop} {sz : Nat} {w : World} {n : Nat} {t : TypeId} {C : Array Value} {p : α} (hb : w.heap[n]? = some (.cells C t (0, 0))) (hs : C.size = sz) (hp : R p C.toList) : ReadsRow R sz w (some ⟨n, 0, none⟩) 1 [p] := by
  refine ⟨rfl, by omega, fun _ => ⟨_, rfl, fun j q hj => ?_⟩⟩
  cases j with
  | zero =>
    obtain rfl : p = q := by simpa using hj
    refine ⟨C.toList, by rw [Array.length_toList, hs], hp, fun i u hu => ?_⟩
    rw [Array.getElem?_toList] at hu
    rw [Addr.add_lit]
    exact ((by simp only [Nat.zero_mul, Nat.zero_add]; exact blk_cell hb i) : w.cell? ⟨n, 0 + (0 * sz + i), none⟩ = C[i]?).trans hu
  | succ j => simp at hj
theorem build26 (x : Int) (p : Option Addr) (k c : Nat) (w : World) : (Instr.buildSlice 26 1 #[(0, .agg #[.int .i64 x, .slice p k c])]).run Tryz.prog w = .ok (.slice (some ⟨w.heap.size, 0, none⟩) 1 1) (w.alloc (.cells #[.int .i64 x, .slice p k c] 64)) := by kernel_rfl
theorem build64 (x : Int) (p : Option Addr) (k c : Nat) (w : World) : (Instr.build 64 #[(0, .int .i64 x), (1, .slice p k c)]).run Tryz.prog w = .ok (.agg #[.int .i64 x, .slice p k c]) w := by kernel_rfl
/-- What an append of an element with a row just made asks, where a row of numbers u lies beside. -/
theorem push_ready {w W0 w1 : World} {u r : Value} {us : List Int} {rs : List S64} {cA : Option Addr} {cc : Nat} {v : Int} {g : List Int} (HU : (Kd.int .i64).R 3 W0 w.heap.size (fun _ => True) u us) (HR : k64.R 64 W0 w.heap.size (fun k => True ∧ some k ≠ u.ownBlock) r rs) (HB : Below w.heap.size w W0)
    (hcv : (Kd.int .i64).R 3 w1 W0.heap.size (fun _ => True) (.slice cA g.length cc) g) (hcb : Below W0.heap.size W0 w1) :
    k64.R 64 (w1.alloc (.cells #[.int .i64 v, .slice cA g.length cc] 64)) w.heap.size (fun k => True ∧ some k ≠ u.ownBlock) r rs ∧
    ReadsRow (k64.M (w1.alloc (.cells #[.int .i64 v, .slice cA g.length cc] 64)) w.heap.size (fun k => W0.heap.size ≤ k)) 2 (w1.alloc (.cells #[.int .i64 v, .slice cA g.length cc] 64)) (some ⟨w1.heap.size, 0, none⟩) 1 [⟨v, g⟩] ∧
    (∀ k, W0.heap.size ≤ k → (True ∧ some k ≠ u.ownBlock) ∧ some k ≠ r.ownBlock) ∧ (∀ k, (w1.alloc (.cells #[.int .i64 v, .slice cA g.length cc] 64)).heap.size ≤ k → True ∧ some k ≠ u.ownBlock) ∧
    Below w.heap.size w (w1.alloc (.cells #[.int .i64 v, .slice cA g.length cc] 64)) ∧ (Kd.int .i64).R 3 (w1.alloc (.cells #[.int .i64 v, .slice cA g.length cc] 64)) w.heap.size (fun _ => True) u us := by
  have hs1 := hcb.size
  have hs0 := HB.size
  have hlu := Kd.R_lt HU
  have hlr := Kd.R_lt HR
  have hbb : Below W0.heap.size W0 (w1.alloc (.cells #[.int .i64 v, .slice cA g.length cc] 64)) := hcb.alloc hs1 _
  have hcA := Kd.R_below hcv (below_alloc1 w1 (.cells #[.int .i64 v, .slice cA g.length cc] 64))
  refine ⟨Kd.R_below HR hbb, one_row (blk_new w1 _) rfl (k64_mkM _ _ _ (⟨v, g⟩ : S64) (Kd.R_lower (Kd.R_mono (Kd.R_bound hcA) fun k hk => hk.2.1) hs0)), fun k hk => ⟨⟨trivial, fun e => ?_⟩, fun e => ?_⟩, fun k hk => ⟨trivial, fun e => ?_⟩, HB.trans (hbb.mono hs0), Kd.R_below HU hbb⟩
  · have := hlu k e.symm; omega
  · have := hlr k e.symm; omega
  · have := hlu k e.symm; simp at hk; omega
theorem addr_add0 (a : Addr) : a.add 0 = a := by cases a; rfl
/-- A slice cut at its end. -/
theorem exec_sliceTo {P : Program} {o : Oper} {W : World} (ρ : Operand → Value) (ty e : TypeId) (s : Nat) (x y : Operand) (ho : o.op = .slice ty x none (some y) none) (p : Option Addr) (k c hi : Nat) (hx : ρ x = .slice p k c) (hy : ρ y = .int .i64 (hi : Int))
    (hu : P.underlying ty = some (.slice e)) (hs : (P.info? e).map (·.size) = some s) (hk : hi ≤ c) :
    (execOp ρ o).run P W = .ok (.value (.slice p hi c)) W := by
  have hu' := run_underlying (P := P) (w := W) hu
  obtain ⟨i, hi', hs'⟩ := Option.map_eq_some_iff.1 hs
  have hk2 : (hi : Int) ≤ (c : Int) := by omega
  unfold execOp
  simp [ho, hx, hy, Instr.sliceAt, Instr.slice, Instr.sliceBounds, Instr.sliceBound, hu', sizeOf, typeInfo, hi', hs', asIntOf, hk, go_sem]
  try (intro _; cases p <;> simp [addr_add0])
/-- A slice cut at its beginning. -/
theorem exec_sliceFrom {P : Program} {o : Oper} {W : World} (ρ : Operand → Value) (ty e : TypeId) (s : Nat) (x y : Operand) (ho : o.op = .slice ty x (some y) none none) (p : Option Addr) (k c lo : Nat) (hx : ρ x = .slice p k c) (hy : ρ y = .int .i64 (lo : Int))
    (hu : P.underlying ty = some (.slice e)) (hs : (P.info? e).map (·.size) = some s) (hk : lo ≤ k) :
    (execOp ρ o).run P W = .ok (.value (.slice (if c = lo then p else p.map (·.add (lo * s))) (k - lo) (c - lo))) W := by
  have hu' := run_underlying (P := P) (w := W) hu
  obtain ⟨i, hi', hs'⟩ := Option.map_eq_some_iff.1 hs
  have hk2 : (lo : Int) ≤ (k : Int) := by omega
  unfold execOp
  simp [ho, hx, hy, Instr.sliceAt, Instr.slice, Instr.sliceBounds, Instr.sliceBound, hu', sizeOf, typeInfo, hi', hs', asIntOf, hk, go_sem]
end Go.Proofs.YtpnhelcemodnmaaGreat

/- A list of freed pages split at a version; Check, Tail, Usable. -/
namespace Go.Proofs.YtpnhelcemodnmaaGreat
open Go.RowKit Go.Shelf Go.Proofs.YtpnhelcemodnmaaGreatW.PrintWords Go.Proofs.YtpnhelcemodnmaaGreatW.PrintLast Go.Proofs.YtpnhelcemodnmaaGreatW.PrintMore PA
set_option linter.unusedVariables false
set_option linter.unusedSimpArgs false
attribute [local go_sem] Oper.semAt_some

theorem pages_append (a b : List S64) : pagesOf (a ++ b) = pagesOf a ++ pagesOf b := by simp [pagesOf, flat_append]
theorem pages_one (x : S64) : pagesOf [x] = x.f1 := by simp [pagesOf, flat, List.map_map, Function.comp_def]
/-- The elements below a version; the others. -/
def lowL (o : Int) (l : List S64) : List S64 := l.filter fun f => decide (f.f0 < o)
def hiL (o : Int) (l : List S64) : List S64 := l.filter fun f => !decide (f.f0 < o)
theorem low_snoc (o : Int) (l : List S64) (x : S64) : lowL o (l ++ [x]) = lowL o l ++ if x.f0 < o then [x] else [] := by
  unfold lowL; rw [List.filter_append]; by_cases h : x.f0 < o <;> simp [h]
theorem hi_snoc (o : Int) (l : List S64) (x : S64) : hiL o (l ++ [x]) = hiL o l ++ if x.f0 < o then [] else [x] := by
  unfold hiL; rw [List.filter_append]; by_cases h : x.f0 < o <;> simp [h]
theorem take_rd (l : List S64) (i : Nat) (h : i < l.length) : l.take (i + 1) = l.take i ++ [rd_T64 l (i : Int)] := by
  rw [List.take_succ_eq_append_getElem h, rd_nat l i h]
theorem pages_low_le (o : Int) (l : List S64) : (pagesOf (lowL o l)).length ≤ (pagesOf l).length := by
  induction l with
  | nil => simp [lowL]
  | cons a t ih =>
    rw [show a :: t = [a] ++ t from rfl, show lowL o ([a] ++ t) = lowL o [a] ++ lowL o t from List.filter_append .., pages_append, pages_append]
    simp only [List.length_append]
    have : (pagesOf (lowL o [a])).length ≤ (pagesOf [a]).length := by
      unfold lowL
      by_cases h : a.f0 < o <;> simp [h, pagesOf, flat]
    omega
theorem pages_take_le (l : List S64) (k : Nat) : (pagesOf (l.take k)).length ≤ (pagesOf l).length := by
  conv => rhs; rw [← List.take_append_drop k l, pages_append, List.length_append]
  omega
set_option maxRecDepth 100000 in
set_option maxHeartbeats 4000000 in
theorem split_any (l : List S64) (o : Int) (A : Option Addr) (c : Nat) (w : World) (hC : k64.C w A l.length l) (hc : l.length ≤ c) (hl : l.length ≤ 1000000) (hpg : (pagesOf l).length ≤ 1000000) :
    Calls Tryz.prog 69 #[.slice A l.length c, .int .i64 o] w fun e w' => ∃ u r, e = .returned (.tuple #[u, r]) ∧ (Kd.int .i64).R 3 w' w.heap.size (fun _ => True) u (sortI (pagesOf (lowL o l))) ∧
      k64.R 64 w' w.heap.size (fun k => True ∧ some k ≠ u.ownBlock) r (hiL o l) ∧ Below w.heap.size w w' := by
  go_enter Tryz.func69, Tryz.ntmps69
  go_wp2
  go_loopw [4, 5, 10] (fun u r i wr => ∃ k : Nat, k ≤ l.length ∧ i = .int .i64 k ∧ (Kd.int .i64).R 3 wr w.heap.size (fun _ => True) u (pagesOf (lowL o (l.take k))) ∧
      k64.R 64 wr w.heap.size (fun k => True ∧ some k ≠ u.ownBlock) r (hiL o (l.take k)) ∧ Below w.heap.size w wr)
    (fun _ _ i _ => l.length - (intOf i).toNat)
  case atStart => exact ⟨0, Nat.zero_le _, rfl, Kd.R_nil _ _ _ _ _, Kd.R_nil _ _ _ _ _, Below.refl _ _⟩
  case round =>
    obtain ⟨k, hk, rfl, HU, HR, hB⟩ := hrel
    have HU := Aside0.mk HU
    have HR := Aside0.mk HR
    by_cases hlt : k < l.length
    · obtain ⟨ad, A1, c1, rfl, hx0, hx1, hl1, hC1⟩ := at_T64 (Kd.C_below hC hB) (k : Int) (by omega) (by omega)
      rw [Int.toNat_natCast] at hx0 hx1
      have HT := Lib.hid (take_rd l k hlt)
      obtain ⟨v, hv⟩ : ∃ v, v = (rd_T64 l (k : Int)).f0 := ⟨_, rfl⟩
      obtain ⟨g, hg⟩ : ∃ g, g = (rd_T64 l (k : Int)).f1 := ⟨_, rfl⟩
      rw [← hv] at hx0
      rw [← hg] at hx1 hl1 hC1
      have HV := Lib.hid hv
      have HG := Lib.hid hg
      clear hv hg
      by_cases hvo : v < o
      · have HS := Lib.hid (show pagesOf (lowL o (l.take (k + 1))) = pagesOf (lowL o (l.take k)) ++ g by rw [HT.out, low_snoc, pages_append, ← HV.out, if_pos hvo, pages_one, ← HG.out])
        have HS2 := Lib.hid (show hiL o (l.take (k + 1)) = hiL o (l.take k) by rw [HT.out, hi_snoc, ← HV.out, if_pos hvo, List.append_nil])
        have hbd : ((pagesOf (lowL o (l.take k))).length + g.length) * 8 ≤ 140737488355328 := by
          have h1 := pages_low_le o (l.take (k + 1))
          have h2 := pages_take_le l (k + 1)
          rw [HS.out, List.length_append] at h1
          omega
        have HBD := Aside0.mk hbd
        have HCA := Aside0.mk (Kd.C_alloc hC1 (.cells #[.int .i64 v, .slice A1 g.length c1] 64))
        have HUA := Aside0.mk (Kd.R_below HU.out (below_alloc1 wr (.cells #[.int .i64 v, .slice A1 g.length c1] 64)))
        have HRA := Aside0.mk (Kd.R_below HR.out (below_alloc1 wr (.cells #[.int .i64 v, .slice A1 g.length c1] 64)))
        have HBA := Aside0.mk (hB.alloc hB.size (.cells #[.int .i64 v, .slice A1 g.length c1] 64))
        clear hbd hC1
        go_wp2_with (at_builtin; refine Kd.R_append_rows (Kd.int .i64) (w0 := w) w.heap.size rfl (.tmp 18) (.tmp 20) 23 3 (.int .i64 0) 8 rfl Tryz.underlying23 info3 rfl (by decide) (by decide) _ _ g _ _ _ (fun _ => True) (fun _ => False) rfl rfl HUA.out HCA.out (fun _ _ h => h) (fun _ h => h.elim) (fun _ _ => trivial) HBA.out HBA.out.size HBD.out ?_; intro u1 w1 hu1 hb1 hg1 hat1)
        go_roundw
        case rel =>
          refine ⟨k + 1, by omega, by go_num, ?_, ?_, hb1⟩
          · rw [HS.out]; exact hu1
          · rw [HS2.out]; exact Kd.R_after HRA.out hg1 hat1
        case measure => simp [intOf]; omega
      · have HS := Lib.hid (show pagesOf (lowL o (l.take (k + 1))) = pagesOf (lowL o (l.take k)) by rw [HT.out, low_snoc, ← HV.out, if_neg hvo, List.append_nil])
        have HS2 := Lib.hid (show hiL o (l.take (k + 1)) = hiL o (l.take k) ++ [⟨v, g⟩] by rw [HT.out, hi_snoc, ← HV.out, if_neg hvo, HV.out, HG.out])
        go_upto_region 6 with (fail)
        have HCA := Aside0.mk (Kd.C_alloc hC1 (.cells #[.int .i64 v, .slice A1 g.length c1] 64))
        have HUA := Aside0.mk (Kd.R_below HU.out (below_alloc1 wr (.cells #[.int .i64 v, .slice A1 g.length c1] 64)))
        have HRA := Aside0.mk (Kd.R_below HR.out (below_alloc1 wr (.cells #[.int .i64 v, .slice A1 g.length c1] 64)))
        have HBA := Aside0.mk (hB.alloc hB.size (.cells #[.int .i64 v, .slice A1 g.length c1] 64))
        have hfb := blk_new wr (.cells #[.int .i64 v, .slice A1 g.length c1] 64)
        obtain ⟨W0, hW0⟩ : ∃ W0, wr.alloc (.cells #[.int .i64 v, .slice A1 g.length c1] 64) = W0 := ⟨_, rfl⟩
        rw [hW0] at HCA HUA HRA HBA hfb ⊢
        have hcc0 : W0.cell? ⟨wr.heap.size, 0, none⟩ = some (.int .i64 v) := (blk_cell hfb 0).trans rfl
        have hcc1 : W0.cell? ⟨wr.heap.size, 1, none⟩ = some (.slice A1 g.length c1) := (blk_cell hfb 1).trans rfl
        have hsz0 : W0.heap.size = wr.heap.size + 1 := by rw [← hW0]; simp
        obtain ⟨Bf, hBf⟩ : ∃ Bf, wr.heap.size = Bf := ⟨_, rfl⟩
        have HRO := HR
        rw [hBf] at hcc0 hcc1 hsz0 hfb ⊢
        clear hW0 hx0 hx1 hC1 HU HR hB
        have hg8 : g.length * 8 ≤ 140737488355328 := by
          have h1 := pages_take_le l (k + 1)
          rw [HT.out, pages_append, List.length_append, pages_one, ← HG.out] at h1
          omega
        have HG8 := Aside0.mk hg8
        clear hg8
        have hne : some Bf ≠ u5.ownBlock := fun e => by have := Kd.R_lt HRO.out _ e.symm; omega
        have HNE := Aside0.mk hne
        have hrl : ((hiL o (l.take k)).length + 1) * 32 ≤ 140737488355328 := by
          have : (hiL o (l.take k)).length ≤ (l.take k).length := List.length_filter_le _ _
          rw [List.length_take] at this
          omega
        have HRL := Aside0.mk hrl
        clear hne hrl
        refine wp_region_held_drew (S := fun W => W.heap[Bf]? = some (.cells #[.int .i64 v, .slice A1 g.length c1] 64 (0, 0))) (by kernel_rfl) (hfb) (fun hS => ?_)
        simp only [List.size_toArray, List.length_cons, List.length_nil, Nat.reduceAdd, Array.replicate_succ, Array.replicate_zero, List.push_toArray, List.nil_append, List.cons_append]
        refine take_at (i := 0) 22 (u5) rfl rfl (by kernel_rfl) (by kernel_rfl) (by kernel_rfl) (fun _ _ _ h => h) (Or.inl ⟨by rfl, fun W hW => by go_simp⟩) hS ?_
        try simp only [List.setIfInBounds_toArray, List.set_cons_zero, List.set_cons_succ]
        refine take_at (i := 1) 23 (.pointer (some ⟨Bf, 0, none⟩)) rfl rfl (by kernel_rfl) (by kernel_rfl) (by kernel_rfl) (fun _ _ _ h => h) (Or.inl ⟨by rfl, fun W hW => by go_simp⟩) hS ?_
        try simp only [List.setIfInBounds_toArray, List.set_cons_zero, List.set_cons_succ]
        refine take_at (i := 2) 24 (.int .i64 v) rfl rfl (by kernel_rfl) (by kernel_rfl) (by kernel_rfl) (fun _ _ _ h => h) (Or.inl ⟨by rfl, fun W hW => by have h0 : W.cell? ⟨Bf, 0, none⟩ = some (.int .i64 v) := (blk_cell hW 0).trans rfl; go_simp⟩) hS ?_
        try simp only [List.setIfInBounds_toArray, List.set_cons_zero, List.set_cons_succ]
        refine take_at (i := 3) 25 (.pointer (some ⟨Bf, 1, none⟩)) rfl rfl (by kernel_rfl) (by kernel_rfl) (by kernel_rfl) (fun _ _ _ h => h) (Or.inl ⟨by rfl, fun W hW => by go_simp⟩) hS ?_
        try simp only [List.setIfInBounds_toArray, List.set_cons_zero, List.set_cons_succ]
        refine take_at (i := 4) 26 (.slice A1 g.length c1) rfl rfl (by kernel_rfl) (by kernel_rfl) (by kernel_rfl) (fun _ _ _ h => h) (Or.inl ⟨by rfl, fun W hW => by have h0 : W.cell? ⟨Bf, 1, none⟩ = some (.slice A1 g.length c1) := (blk_cell hW 1).trans rfl; go_simp⟩) hS ?_
        try simp only [List.setIfInBounds_toArray, List.set_cons_zero, List.set_cons_succ]
        refine wpAnyH_ready (rs := [5]) (by kernel_rfl) (by simp) ?_
        refine AllReadyH.cons rfl (fun K hK => ?_) AllReadyH.nil
        go_simp
        refine (cloneInt g A1 c1 _ (Kd.C_drew HCA.out) HG8.out).mono ?_
        rintro e w1 ⟨cv, rfl, hcv, hcb⟩
        obtain ⟨cA, cc, rfl⟩ := Kd.R_slice hcv
        refine hK.out _ _ (blk_below hS hcb) (fun hS => ?_)
        clear hK K
        try simp only [Act.put, List.getElem_toArray, List.getElem_cons_succ, List.getElem_cons_zero, List.setIfInBounds_toArray, List.set_cons_zero, List.set_cons_succ]
        refine take_at (i := 6) 28 (.agg #[.int .i64 v, .slice cA g.length cc]) rfl rfl (by kernel_rfl) (by kernel_rfl) (by kernel_rfl) (fun _ _ _ h => h) (Or.inl ⟨by rfl, fun W hW => by have h0 := build64 v cA g.length cc W; go_simp⟩) hS ?_
        try simp only [List.setIfInBounds_toArray, List.set_cons_zero, List.set_cons_succ]
        refine wpAnyH_ready (rs := [7]) (by kernel_rfl) (by simp) ?_
        refine AllReadyH.cons rfl (fun K hK => ?_) AllReadyH.nil
        rw [if_pos (by rfl)]
        refine oper_build1 (.tmp 28) rfl rfl (build26 v cA g.length cc _) ?_
        refine hK.out _ _ (blk_alloc hS _) (fun hS => ?_)
        clear hK K
        try simp only [Act.put, List.getElem_toArray, List.getElem_cons_succ, List.getElem_cons_zero, List.setIfInBounds_toArray, List.set_cons_zero, List.set_cons_succ]
        refine wpAnyH_ready (rs := [8]) (by kernel_rfl) (by simp) ?_
        refine AllReadyH.cons rfl (fun K hK => ?_) AllReadyH.nil
        obtain ⟨p1, p2, p3, p4, p5, p6⟩ := push_ready (w := w) (W0 := W0.drew) (v := v) (Kd.R_drew HUA.out) (Kd.R_drew HRA.out) HBA.out.drew hcv hcb
        refine Kd.R_append_rows_step k64 (w0 := w) w.heap.size (by rfl) (.tmp 22) (.tmp 29) 26 64 (.agg #[.int .i64 0, .slice none 0 0]) 32 rfl Tryz.underlying26 info64 rfl (by decide) (by decide) u5 (hiL o (l.take k)) [⟨v, g⟩] _ 1 1 (fun k => True ∧ some k ≠ u4.ownBlock) (fun k => W0.drew.heap.size ≤ k) rfl rfl p1 p2 (fun _ _ h => h) p3 p4 p5 p5.size HRL.out ?_
        intro r1 w9 hr1 hb1 hg1 hat1
        refine hK.out _ _ (blk_grown hS hg1 HNE.out) (fun hS => ?_)
        clear hK K
        try simp only [Act.put, List.getElem_toArray, List.getElem_cons_succ, List.getElem_cons_zero, List.setIfInBounds_toArray, List.set_cons_zero, List.set_cons_succ]
        refine take_at (i := 9) 5 (r1) rfl rfl (by kernel_rfl) (by kernel_rfl) (by kernel_rfl) (fun _ _ _ h => h) (Or.inl ⟨by rfl, fun W hW => by go_simp⟩) hS ?_
        try simp only [List.setIfInBounds_toArray, List.set_cons_zero, List.set_cons_succ]
        refine wpAnyH_done (by kernel_rfl) ?_ _
        clear hS
        go_wp2
        go_roundw
        case rel => exact ⟨k + 1, by omega, by go_num, by rw [HS.out]; exact Kd.R_grown2 p6 rfl hg1 (fun q e => (p1.1 q e).2), by rw [HS2.out]; exact hr1, hb1⟩
        case measure => simp [intOf]; omega
    · obtain rfl : k = l.length := by omega
      rw [List.take_length] at HU HR
      have hbig : (pagesOf (lowL o l)).length < 4611686018427387904 := by have := pages_low_le o l; omega
      have HS := Lib.hid (sort_R HU.out hbig)
      clear hbig
      go_wp2_with (go_at_call 73; (with_reducible refine HS.out.mono ?_); rintro e w2 ⟨rfl, hu2, hk2, hb2⟩)
      go_ret2
      exact ⟨_, _, rfl, hu2, Kd.R_kept HR.out hk2 (fun k hk => hk.2), hB.trans hb2⟩
end Go.Proofs.YtpnhelcemodnmaaGreat

/- The reference's Is in plain: a list of freed pages is valid. -/
namespace Go.Proofs.YtpnhelcemodnmaaGreat
open Go.RowKit Go.Shelf Go.Proofs.YtpnhelcemodnmaaGreatW.PrintWords Go.Proofs.YtpnhelcemodnmaaGreatW.PrintLast Go.Proofs.YtpnhelcemodnmaaGreatW.PrintMore PA
set_option linter.unusedVariables false
set_option linter.unusedSimpArgs false
theorem is_false {p : Int} {l : List S64} {i : Nat} (h : i < l.length) (hn : ¬ okAt p l i) : decide (formP p l ∧ (pagesOf l).Nodup) = false := decide_eq_false fun hf => hn ((form_take p l i h).1 (form_of_take p l (i + 1) hf.1)).2
theorem is_l0 (l : List S64) (p : Int) (hp : 0 ≤ p) (hlm : l.length ≤ 9223372036854775806) (hm : ∀ f ∈ l, f.f1.length ≤ 9223372036854775806) (d : Nat) : ∀ (i : Nat), i ≤ l.length → l.length - i = d → formP p (l.take i) → (pagesOf (l.take i)).Nodup → ∃ K, understoryref12_Is.l0 K l p (metOf p (pagesOf (l.take i))) (i : Int) = some (decide (formP p l ∧ (pagesOf l).Nodup)) := by
  induction d with
  | zero =>
    intro i h1 h2 h3 h4
    obtain rfl : i = l.length := by omega
    rw [List.take_length] at h3 h4
    refine ⟨1, ?_⟩
    simp only [understoryref12_Is.l0]
    rw [if_neg (by omega)]
    simp [h3, h4]
  | succ d ih =>
    intro i h1 h2 h3 h4
    have hlt : i < l.length := by omega
    have hT := form_take p l i hlt
    have hml : (rd_T64 l (i : Int)).f1.length ≤ 9223372036854775806 := by rw [rd_nat l i hlt]; exact hm _ (List.getElem_mem hlt)
    have hpg : pagesOf (l.take (i + 1)) = pagesOf (l.take i) ++ (rd_T64 l (i : Int)).f1 := by rw [take_rd l i hlt, pages_append, pages_one]
    have hdone : ∀ b : Bool, b = false → ¬ okAt p l i → some b = some (decide (formP p l ∧ (pagesOf l).Nodup)) := fun b hb hn => by rw [is_false hlt hn, hb]
    by_cases c1 : (rd_T64 l (i : Int)).f0 < 0
    · refine ⟨2, ?_⟩
      simp only [understoryref12_Is.l0]
      rw [if_pos (by omega), if_pos (by omega), if_pos c1]
      simp only [understoryref12_Is.j1]
      exact hdone _ rfl fun h => by have := h.1.1; omega
    · by_cases c2 : (rd_T64 l (i : Int)).f0 > 1099511627776
      · refine ⟨2, ?_⟩
        simp only [understoryref12_Is.l0]
        rw [if_pos (by omega), if_pos (by omega), if_neg c1, if_pos c2]
        simp only [understoryref12_Is.j1]
        exact hdone _ rfl fun h => by have := h.1.2; omega
      · by_cases c3 : ∀ j, i = j + 1 → (rd_T64 l (j : Int)).f0 < (rd_T64 l (i : Int)).f0
        · have hstep : ∀ K, understoryref12_Is.l0 (K + 1) l p (metOf p (pagesOf (l.take i))) (i : Int) = understoryref12_Is.j1 K l p (metOf p (pagesOf (l.take i))) (i : Int) (((rd_T64 l (i : Int)).f1.length : Int) == 0) (rd_T64 l (i : Int)).f0 (rd_T64 l (i : Int)).f1 := by
            intro K
            simp only [understoryref12_Is.l0]
            rw [if_pos (by omega), if_pos (by omega), if_neg c1, if_neg c2]
            cases i with
            | zero => rw [if_neg (by simp)]
            | succ j =>
              have := c3 j rfl
              rw [if_pos (by omega), wrapn _ (by omega), show ((j + 1 : Nat) : Int) - 1 = (j : Int) by omega, if_pos (by omega), if_pos (by omega), if_neg (by omega)]
          by_cases c4 : (rd_T64 l (i : Int)).f1 = []
          · refine ⟨2, (hstep 1).trans ?_⟩
            simp only [understoryref12_Is.j1]
            rw [if_pos (by rw [c4]; rfl)]
            exact hdone _ rfl fun h => h.2.2.1 c4
          · have hne : ¬ ((((rd_T64 l (i : Int)).f1.length : Int) == 0) = true) := by
              have := List.length_pos_iff.2 c4
              simp; omega
            have hj : ∀ K, understoryref12_Is.l0 ((rd_T64 l (i : Int)).f1.length + 1 + K + 1 + 1) l p (metOf p (pagesOf (l.take i))) (i : Int) = if incP p (rd_T64 l (i : Int)).f1 ∧ (pagesOf (l.take i) ++ (rd_T64 l (i : Int)).f1).Nodup then understoryref12_Is.l0 K l p (metOf p (pagesOf (l.take i) ++ (rd_T64 l (i : Int)).f1)) (wrap64 ((i : Int) + 1)) else some false := by
              intro K
              rw [hstep]
              simp only [understoryref12_Is.j1]
              rw [if_neg hne]
              have := is_l1 l p i (rd_T64 l (i : Int)).f0 (rd_T64 l (i : Int)).f1 (pagesOf (l.take i)) hml hp _ K 0 (Nat.zero_le _) rfl ⟨by simp, by simp⟩ (by simpa using h4)
              simpa using this
            by_cases c5 : incP p (rd_T64 l (i : Int)).f1 ∧ (pagesOf (l.take i) ++ (rd_T64 l (i : Int)).f1).Nodup
            · obtain ⟨K, hK⟩ := ih (i + 1) (by omega) (by omega) (hT.2 ⟨h3, ⟨by omega, by omega⟩, c3, c4, c5.1⟩) (by rw [hpg]; exact c5.2)
              refine ⟨_, (hj K).trans ?_⟩
              rw [if_pos c5, wrapp i (by omega), ← hpg]
              exact hK
            · refine ⟨_, (hj 0).trans ?_⟩
              rw [if_neg c5]
              have : decide (formP p l ∧ (pagesOf l).Nodup) = false := decide_eq_false fun h => c5 ⟨((form_take p l i hlt).1 (form_of_take p l (i + 1) h.1)).2.2.2.2, by
                rw [← hpg]
                have h6 : pagesOf l = pagesOf (l.take (i + 1)) ++ pagesOf (l.drop (i + 1)) := by rw [← pages_append, List.take_append_drop]
                have h7 := h.2
                rw [h6] at h7
                exact (List.nodup_append.1 h7).1⟩
              rw [this]
        · refine ⟨2, ?_⟩
          simp only [understoryref12_Is.l0]
          rw [if_pos (by omega), if_pos (by omega), if_neg c1, if_neg c2]
          cases i with
          | zero => exact absurd (fun j hj => by omega) c3
          | succ j =>
            have c5 : (rd_T64 l ((j + 1 : Nat) : Int)).f0 ≤ (rd_T64 l (j : Int)).f0 := by
              by_cases h : (rd_T64 l (j : Int)).f0 < (rd_T64 l ((j + 1 : Nat) : Int)).f0
              · exact absurd (by intro j' hj'; obtain rfl : j = j' := (by omega); exact h) c3
              · omega
            rw [if_pos (by omega), wrapn _ (by omega), show ((j + 1 : Nat) : Int) - 1 = (j : Int) by omega, if_pos (by omega), if_pos (by omega), if_pos c5]
            simp only [understoryref12_Is.j1]
            exact hdone _ rfl fun h => by have := h.2.1 j rfl; omega
end Go.Proofs.YtpnhelcemodnmaaGreat

-- PRINTED by print.py (a twelfth state) out of the translation. Not trusted: Lean checks it.
namespace Go.Proofs.YtpnhelcemodnmaaGreat.PA
open Go.RowKit Go.Proofs.YtpnhelcemodnmaaGreatW.PrintWords Go.Proofs.YtpnhelcemodnmaaGreatW.PrintLast Go.Proofs.YtpnhelcemodnmaaGreatW.PrintMore
attribute [local go_sem] max2_int min2_int max_two min_two max_three min_three max_four min_four   -- for this text's walks alone
set_option linter.unusedVariables false
set_option linter.unusedSimpArgs false

/-! ### space_tail: function 51 -/
mutual
def space_tail.j0 : Nat → List (S64) → Int → Bool → Option (Int)
  | 0, _, _, _ => none
  | k + 1, x0, x1, x15 => if x15 = true then (some x1) else (if 0 < (x0.length : Int) then (space_tail.l0 k x0 x1 (wrap64 ((((rd_T64 x0 0).f1).length : Int) - 1))) else (none))
def space_tail.l0 : Nat → List (S64) → Int → Int → Option (Int)
  | 0, _, _, _ => none
  | k + 1, x0, x1, x5 => if x5 ≥ 0 then (if 0 < (x0.length : Int) then (if 0 ≤ x5 then (if x5 < (((rd_T64 x0 0).f1).length : Int) then (if (rd ((rd_T64 x0 0).f1) x5) = (wrap64 (x1 - 1)) then (space_tail.l0 k x0 (wrap64 (x1 - 1)) (wrap64 (x5 - 1))) else (some x1)) else (none)) else (none)) else (none)) else (some x1)
end
def space_tail.f (k : Nat) (l0 : List (S64)) (a1 : Int) : Option (Int) := if (l0.length : Int) = 0 then (space_tail.j0 k l0 a1 true) else (if 0 < (l0.length : Int) then (space_tail.j0 k l0 a1 (((rd_T64 l0 0).f0) != 0)) else (none))
theorem space_tail.mono_l : ∀ k, (∀ y0 y1 y2, LeO (space_tail.j0 k y0 y1 y2) (space_tail.j0 (k + 1) y0 y1 y2)) ∧ (∀ y0 y1 y2, LeO (space_tail.l0 k y0 y1 y2) (space_tail.l0 (k + 1) y0 y1 y2))
  | 0 => ⟨fun _ _ _ r h => by simp [space_tail.j0] at h, fun _ _ _ r h => by simp [space_tail.l0] at h⟩
  | k + 1 => by
    obtain ⟨ih0, ih1⟩ := space_tail.mono_l k
    refine ⟨?_, ?_⟩
    · intro y0 y1 y2
      unfold space_tail.j0
      repeat' first
      | (with_reducible exact ih0 _ _ _)
      | (with_reducible exact ih1 _ _ _)
      | (with_reducible exact LeO.refl _)
      | (with_reducible exact LeO.none _)
      | (with_reducible refine LeO.ite ?_ ?_)
      | (with_reducible refine LeO.bind ?_ (fun _ => ?_))
      | exact ih0 _ _ _
      | exact ih1 _ _ _
      | exact LeO.none _
      | refine LeO.ite ?_ ?_
      | refine LeO.bind ?_ (fun _ => ?_)
    · intro y0 y1 y2
      unfold space_tail.l0
      repeat' first
      | (with_reducible exact ih0 _ _ _)
      | (with_reducible exact ih1 _ _ _)
      | (with_reducible exact LeO.refl _)
      | (with_reducible exact LeO.none _)
      | (with_reducible refine LeO.ite ?_ ?_)
      | (with_reducible refine LeO.bind ?_ (fun _ => ?_))
      | exact ih0 _ _ _
      | exact ih1 _ _ _
      | exact LeO.none _
      | refine LeO.ite ?_ ?_
      | refine LeO.bind ?_ (fun _ => ?_)
theorem space_tail.mono : ∀ a0 a1 k, LeO (space_tail.f k a0 a1) (space_tail.f (k + 1) a0 a1) := by
  intro a0 a1 k
  obtain ⟨ih0, ih1⟩ := space_tail.mono_l k
  unfold space_tail.f
  repeat' first
      | (with_reducible exact ih0 _ _ _)
      | (with_reducible exact ih1 _ _ _)
      | (with_reducible exact LeO.refl _)
      | (with_reducible exact LeO.none _)
      | (with_reducible refine LeO.ite ?_ ?_)
      | (with_reducible refine LeO.bind ?_ (fun _ => ?_))
      | exact ih0 _ _ _
      | exact ih1 _ _ _
      | exact LeO.none _
      | refine LeO.ite ?_ ?_
      | refine LeO.bind ?_ (fun _ => ?_)
set_option maxHeartbeats 8000000 in
set_option maxRecDepth 100000 in
theorem space_tail.calls (k : Nat) (A0 : Option Addr) (c0 : Nat) (l0 : List (S64)) (a1 : Int) (r : Int) (w : World) (hr0 : Kd.C k64 w A0 l0.length l0) (hc0 : l0.length ≤ c0) (h : space_tail.f k l0 a1 = some r) :
    Calls Tryz.prog 51 #[.slice A0 l0.length c0, .int .i64 a1] w fun e w' => e = .returned (.int .i64 r) ∧ Drawn0 w w' := by
  have HR0 := Aside0.mk hr0
  have HC0 := Aside0.mk hc0
  clear hr0 hc0
  have H : (if (l0.length : Int) = 0 then (space_tail.j0 k l0 a1 true) else (if 0 < (l0.length : Int) then (space_tail.j0 k l0 a1 (((rd_T64 l0 0).f0) != 0)) else (none))) = some r := h
  clear h
  have HC3 := Aside0.mk H
  clear H
  go_enter Tryz.func51, Tryz.ntmps51
  go_upto_region 1 with (fail)
  go_cut [15] (fun v15 wc => ∃ (kq : Nat) (x15_2 : Bool), v15 = .bool x15_2 ∧ Aside0 (space_tail.j0 kq l0 a1 x15_2 = some r) ∧ Aside0 (kq ≤ k) ∧ Drawn0 w wc)
  case first =>
    have H := HC3.out
    clear HC3
    by_cases c4 : (l0.length : Int) = 0
    · rw [if_pos c4] at H
      have c4b0 : ((l0.length : Int) == 0) = true := beq_iff_eq.mpr c4
      have c4b1 : ((l0.length : Int) != 0) = false := bne_eq_false_iff_eq.mpr c4
      clear c4
      (first | rw [c4b0] | (simp only [i64_w, i32_w]; rw [c4b0]) | skip)
      have H' := Aside0.mk H
      clear H
      go_wp2
      go_meet
      case rel => exact ⟨_, (true), (by first | rfl | (simp; done) | (simp [*]; done)), H', ⟨by first | omega | exact Nat.le_refl _⟩, by repeat (first | exact Drawn0.refl _ | apply Drawn0.step)⟩
    · rw [if_neg c4] at H
      have c4b0 : ((l0.length : Int) == 0) = false := beq_eq_false_iff_ne.mpr c4
      have c4b1 : ((l0.length : Int) != 0) = true := bne_iff_ne.mpr c4
      have c4b2 : ¬ (l0 = []) := fun h_ => c4 (by rw [h_]; rfl)
      (first | rw [c4b0] | (simp only [i64_w, i32_w]; rw [c4b0]) | skip)
      by_cases c5 : 0 < (l0.length : Int)
      · rw [if_pos c5] at H
        have c5b0 : decide (0 < (l0.length : Int)) = true := decide_eq_true c5
        have c5b1 : decide (0 < l0.length) = true := decide_eq_true (by omega)
        clear c5
        have H' := Aside0.mk H
        clear H
        have p123 : 0 ≤ (0 : Int) := (by omega)
        have q123 : 0 < (l0.length : Int) := of_decide_eq_true (by first | (with_reducible assumption) | assumption)
        obtain ⟨ad123, A123_1, c123_1, e123, hx123_0, hx123_1, hl123_1, hi123_1⟩ := at_T64 HR0.out 0 p123 q123
        cases e123
        have qi123 : (0 < l0.length) = True := eq_true (by omega)
        (try rw [show ((0 : Int)).toNat = 0 from rfl] at hx123_0)
        (try rw [show 0 * 2 = 0 from rfl] at hx123_0)
        (try rw [Addr.add_zero'] at hx123_0)
        (try rw [show ((0 : Int)).toNat = 0 from rfl] at hx123_1)
        (try rw [show 0 * 2 = 0 from rfl] at hx123_1)
        (try rw [Addr.add_zero'] at hx123_1)
        have HR123_1 := Aside0.mk hi123_1
        have HC123_1 := Aside0.mk hl123_1
        clear hi123_1 hl123_1
        replace p123 := eq_true p123
        replace q123 := eq_true q123
        go_wp2
        go_meet
        case rel => exact ⟨_, ((((rd_T64 l0 0).f0) != 0)), (by first | rfl | (simp; done) | (simp [*]; done)), H', ⟨by first | omega | exact Nat.le_refl _⟩, by repeat (first | exact Drawn0.refl _ | apply Drawn0.step)⟩
      · rw [if_neg c5] at H
        exact absurd H (by simp)
  case rest =>
    clear HC3
    try clear c1
    try clear p1
    try clear q1
    try clear hx1
    try clear qi1
    try clear p2
    try clear c4
    try clear c4b0
    try clear c4b1
    try clear c4b2
    try clear c5
    try clear c5b0
    try clear c5b1
    try clear hx123_0
    try clear hx123_1
    try clear p123
    try clear q123
    obtain ⟨kq, x15_2, rfl, HA, HJ2, ⟨mc2, rfl⟩⟩ := hcut
    cases kq with
    | zero => exact absurd HA.out (by simp [space_tail.j0])
    | succ kj2 =>
      have H := HA.out
      clear HA
      simp only [space_tail.j0] at H
      by_cases c6 : x15_2 = true
      · subst c6
        have H1 : (some a1) = some r := by rw [if_pos rfl] at H; exact H
        clear H
        have H := H1
        clear H1
        obtain rfl := Option.some.inj H
        go_wp2
        go_ret
        exact ⟨by first | rfl | (simp; done) | (simp [*]; done), by repeat (first | exact Drawn0.refl _ | apply Drawn0.step)⟩
      · replace c6 := Bool.eq_false_iff.mpr c6
        subst c6
        have H1 : (if 0 < (l0.length : Int) then (space_tail.l0 kj2 l0 a1 (wrap64 ((((rd_T64 l0 0).f1).length : Int) - 1))) else (none)) = some r := by rw [if_neg (show ¬ (false = true) by decide)] at H; exact H
        clear H
        have H := H1
        clear H1
        by_cases c7 : 0 < (l0.length : Int)
        · rw [if_pos c7] at H
          have c7b0 : decide (0 < (l0.length : Int)) = true := decide_eq_true c7
          have c7b1 : decide (0 < l0.length) = true := decide_eq_true (by omega)
          clear c7
          have H' := Aside0.mk H
          clear H
          have p124 : 0 ≤ (0 : Int) := (by omega)
          have q124 : 0 < (l0.length : Int) := of_decide_eq_true (by first | (with_reducible assumption) | assumption)
          obtain ⟨ad124, A124_1, c124_1, e124, hx124_0, hx124_1, hl124_1, hi124_1⟩ := at_T64 HR0.out 0 p124 q124
          cases e124
          have qi124 : (0 < l0.length) = True := eq_true (by omega)
          (try rw [show ((0 : Int)).toNat = 0 from rfl] at hx124_0)
          (try rw [show 0 * 2 = 0 from rfl] at hx124_0)
          (try rw [Addr.add_zero'] at hx124_0)
          (try rw [show ((0 : Int)).toNat = 0 from rfl] at hx124_1)
          (try rw [show 0 * 2 = 0 from rfl] at hx124_1)
          (try rw [Addr.add_zero'] at hx124_1)
          have HR124_1 := Aside0.mk hi124_1
          have HC124_1 := Aside0.mk hl124_1
          clear hi124_1 hl124_1
          replace p124 := eq_true p124
          replace q124 := eq_true q124
          go_wp2
          go_loopg [1, 5] kj2 (fun kq v1 v5 w' => ∃ (x1_2 : Int) (x5_2 : Int), v1 = .int .i64 x1_2 ∧ v5 = .int .i64 x5_2 ∧ Aside0 (space_tail.l0 kq l0 x1_2 x5_2 = some r) ∧ Aside0 (kq ≤ kj2) ∧ Drawn0 w w')
          case atStart => exact ⟨(a1), (wrap64 ((((rd_T64 l0 0).f1).length : Int) - 1)), (by first | rfl | (simp; done) | (simp [*]; done)), (by first | rfl | (simp; done) | (simp [*]; done)), H', ⟨Nat.le_refl _⟩, by repeat (first | exact Drawn0.refl _ | apply Drawn0.step)⟩
          case round =>
            clear H'
            try clear c1
            try clear p1
            try clear q1
            try clear hx1
            try clear qi1
            try clear c2
            try clear p2
            try clear c4
            try clear c4b0
            try clear c4b1
            try clear c4b2
            try clear c5
            try clear c5b0
            try clear c5b1
            try clear c6
            try clear p6
            try clear c7
            try clear c7b0
            try clear c7b1
            try clear hx123_0
            try clear hx123_1
            try clear hx124_0
            try clear hx124_1
            try clear p1
            try clear p123
            try clear p124
            try clear p2
            try clear q1
            try clear q123
            try clear q124
            obtain ⟨x1_2, x5_2, rfl, rfl, HA, HK2, ⟨m2, rfl⟩⟩ := hrel
            cases gk with
            | zero => exact absurd HA.out (by simp [space_tail.l0])
            | succ k2 =>
              have H := HA.out
              clear HA
              simp only [space_tail.l0] at H
              by_cases c8 : x5_2 ≥ 0
              · rw [if_pos c8] at H
                have c8b0 : decide (0 ≤ x5_2) = true := decide_eq_true c8
                clear c8
                by_cases c9 : 0 < (l0.length : Int)
                · rw [if_pos c9] at H
                  have c9b0 : decide (0 < (l0.length : Int)) = true := decide_eq_true c9
                  have c9b1 : decide (0 < l0.length) = true := decide_eq_true (by omega)
                  clear c9
                  by_cases c10 : 0 ≤ x5_2
                  · rw [if_pos c10] at H
                    have c10b0 : decide (0 ≤ x5_2) = true := decide_eq_true c10
                    clear c10
                    by_cases c11 : x5_2 < (((rd_T64 l0 0).f1).length : Int)
                    · rw [if_pos c11] at H
                      have c11b0 : decide (x5_2 < (((rd_T64 l0 0).f1).length : Int)) = true := decide_eq_true c11
                      clear c11
                      by_cases c12 : (rd ((rd_T64 l0 0).f1) x5_2) = (wrap64 (x1_2 - 1))
                      · rw [if_pos c12] at H
                        have c12b0 : ((rd ((rd_T64 l0 0).f1) x5_2) == (wrap64 (x1_2 - 1))) = true := beq_iff_eq.mpr c12
                        have c12b1 : ((rd ((rd_T64 l0 0).f1) x5_2) != (wrap64 (x1_2 - 1))) = false := bne_eq_false_iff_eq.mpr c12
                        clear c12
                        have H' := Aside0.mk H
                        clear H
                        have p125 : 0 ≤ (0 : Int) := (by omega)
                        have q125 : 0 < (l0.length : Int) := of_decide_eq_true (by first | (with_reducible assumption) | assumption)
                        obtain ⟨ad125, A125_1, c125_1, e125, hx125_0, hx125_1, hl125_1, hi125_1⟩ := at_T64 HR0.out 0 p125 q125
                        obtain rfl : ad124 = ad125 := (by injection e125)
                        have qi125 : (0 < l0.length) = True := eq_true (by omega)
                        (try rw [show ((0 : Int)).toNat = 0 from rfl] at hx125_0)
                        (try rw [show 0 * 2 = 0 from rfl] at hx125_0)
                        (try rw [Addr.add_zero'] at hx125_0)
                        (try rw [show ((0 : Int)).toNat = 0 from rfl] at hx125_1)
                        (try rw [show 0 * 2 = 0 from rfl] at hx125_1)
                        (try rw [Addr.add_zero'] at hx125_1)
                        have HR125_1 := Aside0.mk hi125_1
                        have HC125_1 := Aside0.mk hl125_1
                        clear hi125_1 hl125_1
                        replace p125 := eq_true p125
                        replace q125 := eq_true q125
                        have p126 : 0 ≤ (x5_2 : Int) := of_decide_eq_true (by first | (with_reducible assumption) | assumption)
                        have q126 : x5_2 < (((rd_T64 l0 0).f1).length : Int) := of_decide_eq_true (by first | (with_reducible assumption) | assumption)
                        obtain ⟨ad126, e126, hx126_0⟩ := Kd.at_int HR125_1.out x5_2 p126 q126
                        cases e126
                        replace p126 := eq_true p126
                        replace q126 := eq_true q126
                        go_wp2
                        go_roundg k2
                        case measure => have := HJ2.out; have := HK2.out; omega
                        case rel => exact ⟨(wrap64 (x1_2 - 1)), (wrap64 (x5_2 - 1)), (by first | rfl | (simp; done) | (simp [*]; done)), (by first | rfl | (simp; done) | (simp [*]; done)), H', ⟨by have := HJ2.out; have := HK2.out; omega⟩, by repeat (first | exact Drawn0.refl _ | apply Drawn0.step)⟩
                      · rw [if_neg c12] at H
                        have c12b0 : ((rd ((rd_T64 l0 0).f1) x5_2) == (wrap64 (x1_2 - 1))) = false := beq_eq_false_iff_ne.mpr c12
                        have c12b1 : ((rd ((rd_T64 l0 0).f1) x5_2) != (wrap64 (x1_2 - 1))) = true := bne_iff_ne.mpr c12
                        obtain rfl := Option.some.inj H
                        have p125 : 0 ≤ (0 : Int) := (by omega)
                        have q125 : 0 < (l0.length : Int) := of_decide_eq_true (by first | (with_reducible assumption) | assumption)
                        obtain ⟨ad125, A125_1, c125_1, e125, hx125_0, hx125_1, hl125_1, hi125_1⟩ := at_T64 HR0.out 0 p125 q125
                        obtain rfl : ad124 = ad125 := (by injection e125)
                        have qi125 : (0 < l0.length) = True := eq_true (by omega)
                        (try rw [show ((0 : Int)).toNat = 0 from rfl] at hx125_0)
                        (try rw [show 0 * 2 = 0 from rfl] at hx125_0)
                        (try rw [Addr.add_zero'] at hx125_0)
                        (try rw [show ((0 : Int)).toNat = 0 from rfl] at hx125_1)
                        (try rw [show 0 * 2 = 0 from rfl] at hx125_1)
                        (try rw [Addr.add_zero'] at hx125_1)
                        have HR125_1 := Aside0.mk hi125_1
                        have HC125_1 := Aside0.mk hl125_1
                        clear hi125_1 hl125_1
                        replace p125 := eq_true p125
                        replace q125 := eq_true q125
                        have p126 : 0 ≤ (x5_2 : Int) := of_decide_eq_true (by first | (with_reducible assumption) | assumption)
                        have q126 : x5_2 < (((rd_T64 l0 0).f1).length : Int) := of_decide_eq_true (by first | (with_reducible assumption) | assumption)
                        obtain ⟨ad126, e126, hx126_0⟩ := Kd.at_int HR125_1.out x5_2 p126 q126
                        cases e126
                        replace p126 := eq_true p126
                        replace q126 := eq_true q126
                        go_wp2
                        go_ret
                        exact ⟨by first | rfl | (simp; done) | (simp [*]; done), by repeat (first | exact Drawn0.refl _ | apply Drawn0.step)⟩
                    · rw [if_neg c11] at H
                      exact absurd H (by simp)
                  · rw [if_neg c10] at H
                    exact absurd H (by simp)
                · rw [if_neg c9] at H
                  exact absurd H (by simp)
              · rw [if_neg c8] at H
                have c8b0 : decide (0 ≤ x5_2) = false := decide_eq_false c8
                clear c8
                obtain rfl := Option.some.inj H
                go_wp2
                go_ret
                exact ⟨by first | rfl | (simp; done) | (simp [*]; done), by repeat (first | exact Drawn0.refl _ | apply Drawn0.step)⟩
        · rw [if_neg c7] at H
          exact absurd H (by simp)

-- NOT PRINTED: function 53 (space_must)

-- NOT PRINTED: function 54 (space_account_take)

/-! ### cmp_isNaN_int: function 145 -/
def cmp_isNaN_int.f (a0 : Int) : Option (Bool) := some (a0 != a0)
/-! ### cmp_Less_int: function 155 -/
def cmp_Less_int.f (a0 : Int) (a1 : Int) : Option (Bool) := (cmp_isNaN_int.f a0).bind fun t127 => (if t127 = true then ((cmp_isNaN_int.f a1).bind fun t128 => (if t128 = true then (some (decide (a0 < a1))) else (some true))) else (some (decide (a0 < a1))))
end Go.Proofs.YtpnhelcemodnmaaGreat.PA

/- Check, Tail, Usable. -/
namespace Go.Proofs.YtpnhelcemodnmaaGreat
open Go.RowKit Go.Shelf Go.Proofs.YtpnhelcemodnmaaGreatW.PrintWords Go.Proofs.YtpnhelcemodnmaaGreatW.PrintLast Go.Proofs.YtpnhelcemodnmaaGreatW.PrintMore PA
set_option linter.unusedVariables false
set_option linter.unusedSimpArgs false
attribute [local go_sem] Oper.semAt_some

theorem ret_int {k : IntKind} {a b : Int} (h : a = b) : Ending.returned (.int k a) = .returned (.int k b) := by rw [h]
/-- The error of a list for a file of p pages. -/
def checkE (p : Int) (l : List S64) : Int := if 2 ≤ p ∧ p ≤ 4096 then (if validB p l = true then 0 else 2) else 1
set_option maxHeartbeats 1000000 in
theorem check_any (l : List S64) (p : Int) (A : Option Addr) (c : Nat) (w : World) (hC : k64.C w A l.length l) (hc : l.length ≤ c) :
    Calls Tryz.prog 28 #[.slice A l.length c, .int .i64 p] w fun e w' => e = .returned (.int .i64 (checkE p l)) ∧ Below w.heap.size w w' := by
  obtain ⟨n, hn⟩ : ∃ n, n = checkE p l := ⟨_, rfl⟩
  rw [← hn]
  have HN := Lib.hid hn
  clear hn
  by_cases h : 2 ≤ p ∧ p ≤ 4096
  · have HD := Lib.hid (decide_eq_true h)
    have HE := Lib.hid (show n = (if validB p l = true then 0 else 2) by rw [HN.out, checkE, if_pos h])
    have hv := fun (w1 : World) (hb : Below w.heap.size w w1) => valid_any l p A c w1 (Kd.C_below hC hb) hc
    have HV := Lib.hid hv
    obtain ⟨b, hb⟩ : ∃ b, validB p l = b := ⟨_, rfl⟩
    have HB := Lib.hid hb
    clear hv hb h
    cases b
    all_goals
      go_enter Tryz.func28, Tryz.ntmps28
      go_wp2_with (first | (go_at_call 46; (with_reducible refine (within_any p 2 4096 _).mono ?_); rintro e w' ⟨rfl, ⟨nd, rfl⟩⟩; rw [HD.out]) | (go_at_call 47; (refine (HV.out _ (pw_below_drewN (Below.refl _ _) nd)).mono ?_); rintro e w2 ⟨rfl, hb2⟩; rw [HB.out]))
      go_ret
      exact ⟨ret_int (by rw [HE.out, HB.out]; rfl), (pw_below_drewN (Below.refl _ _) nd).trans hb2⟩
  · have HD := Lib.hid (decide_eq_false h)
    have HE := Lib.hid (show n = 1 by rw [HN.out, checkE, if_neg h])
    clear h
    go_enter Tryz.func28, Tryz.ntmps28
    go_wp2_with (first | (go_at_call 46; (with_reducible refine (within_any p 2 4096 _).mono ?_); rintro e w' ⟨rfl, ⟨nd, rfl⟩⟩; rw [HD.out]))
    go_ret
    exact ⟨ret_int HE.out.symm, pw_below_drewN (Below.refl _ _) nd⟩
/-- A file's pages without those at its end that stand at the end of l, read backwards. -/
def tailL : List Int → Int → Int
  | [], p => p
  | x :: t, p => if x = p - 1 then tailL t (p - 1) else p
def tailN (l : List S64) (p : Int) : Int := match l with
  | [] => p
  | f :: _ => if f.f0 = 0 then tailL f.f1.reverse p else p
theorem tail_l0 (l : List S64) (hl : 0 < l.length) (m : Nat) : ∀ (k : Nat) (p : Int), m ≤ (rd_T64 l 0).f1.length → (rd_T64 l 0).f1.length ≤ 9223372036854775807 → m < k → -9223372036854775808 < p - m → p ≤ 9223372036854775807 →
    space_tail.l0 k l p ((m : Int) - 1) = some (tailL ((rd_T64 l 0).f1.take m).reverse p) := by
  induction m with
  | zero =>
    intro k p h1 h2 h3 h4 h5
    obtain ⟨k, rfl⟩ : ∃ m, k = m + 1 := ⟨k - 1, by omega⟩
    simp only [space_tail.l0]
    rw [if_neg (by omega)]
    simp [tailL]
  | succ m ih =>
    intro k p h1 h2 h3 h4 h5
    obtain ⟨k, rfl⟩ : ∃ m, k = m + 1 := ⟨k - 1, by omega⟩
    simp only [space_tail.l0]
    have e : ((m + 1 : Nat) : Int) - 1 = (m : Int) := by omega
    have hw : wrap64 (p - 1) = p - 1 := by unfold wrap64; omega
    rw [e, if_pos (by omega), if_pos (by omega), if_pos (by omega), if_pos (by omega), hw, wrapn m (by omega), rd_at _ m (by omega),
      List.take_succ_eq_append_getElem (show m < (rd_T64 l 0).f1.length by omega), List.reverse_append]
    show _ = some (tailL ((rd_T64 l 0).f1[m] :: _) p)
    rw [tailL]
    by_cases h : (rd_T64 l 0).f1[m] = p - 1
    · rw [if_pos h, if_pos h]
      exact ih k (p - 1) (by omega) h2 (by omega) (by omega) (by omega)
    · rw [if_neg h, if_neg h]
theorem tail_some (l : List S64) (p : Int) (h0 : 2 ≤ p) (h1 : p ≤ 4096) (hm : ∀ f ∈ l, f.f1.length ≤ 1000000) : space_tail.f 1000005 l p = some (tailN l p) := by
  unfold space_tail.f
  cases l with
  | nil => rfl
  | cons f t =>
    have hr : rd_T64 (f :: t) 0 = f := rfl
    have hf := hm f List.mem_cons_self
    rw [if_neg (by simp; omega), if_pos (by simp), hr]
    simp only [space_tail.j0]
    have ht : tailN (f :: t) p = if f.f0 = 0 then tailL f.f1.reverse p else p := rfl
    rw [ht]
    by_cases h : f.f0 = 0
    · rw [if_neg (by simp [h]), if_pos (by simp), if_pos h, hr]
      have := tail_l0 (f :: t) (by simp) f.f1.length 1000004 p (by rw [hr]; exact Nat.le_refl _) (by rw [hr]; omega) (by omega) (by omega) (by omega)
      rw [hr, List.take_length] at this
      rw [wrapn _ (by omega)]
      exact this
    · rw [if_pos (by simp [h]), if_neg h]
theorem tail_any (l : List S64) (p : Int) (A : Option Addr) (c : Nat) (w : World) (hC : k64.C w A l.length l) (hc : l.length ≤ c) (h0 : 2 ≤ p) (h1 : p ≤ 4096) (hm : ∀ f ∈ l, f.f1.length ≤ 1000000) :
    Calls Tryz.prog 51 #[.slice A l.length c, .int .i64 p] w fun e w' => e = .returned (.int .i64 (tailN l p)) ∧ Drawn0 w w' :=
  space_tail.calls _ A c l p _ w hC hc (tail_some l p h0 h1 hm)
/-- Lists of a bounded size. -/
def smallL (l : List S64) : Prop := l.length ≤ 1000000 ∧ (pagesOf l).length ≤ 1000000
theorem small_each {l : List S64} (h : smallL l) : ∀ f ∈ l, f.f1.length ≤ 1000000 := by
  intro f hf
  obtain ⟨a, b, rfl⟩ := List.append_of_mem hf
  have h2 := h.2
  rw [show a ++ f :: b = a ++ ([f] ++ b) from rfl, pages_append, pages_append, pages_one, List.length_append, List.length_append] at h2
  omega
set_option maxHeartbeats 1000000 in
theorem Tail_any (l : List S64) (p : Int) (A : Option Addr) (c : Nat) (w : World) (hC : k64.C w A l.length l) (hc : l.length ≤ c) (hs : smallL l) :
    Calls Tryz.prog 19 #[.slice A l.length c, .int .i64 p] w fun e w' => e = .returned (.tuple #[.int .i64 (if checkE p l = 0 then tailN l p else 0), .int .i64 (checkE p l)]) ∧ Below w.heap.size w w' := by
  have HC := Lib.hid (check_any l p A c w hC hc)
  obtain ⟨n, hn⟩ : ∃ n, checkE p l = n := ⟨_, rfl⟩
  by_cases h : n = 0
  · subst h
    have hp : 2 ≤ p ∧ p ≤ 4096 := by
      unfold checkE at hn
      by_cases h : 2 ≤ p ∧ p ≤ 4096
      · exact h
      · rw [if_neg h] at hn; cases hn
    have HT := Lib.hid (fun (w1 : World) (hb : Below w.heap.size w w1) => tail_any l p A c w1 (Kd.C_below hC hb) hc hp.1 hp.2 (small_each hs))
    have HN := Lib.hid hn
    clear hn hp hC hs
    rw [HN.out] at HC
    rw [HN.out, if_pos rfl]
    go_enter Tryz.func19, Tryz.ntmps19
    go_wp2_with (first | (go_at_call 28; (refine HC.out.mono ?_); rintro e w2 ⟨rfl, hb2⟩) | (go_at_call 51; (refine (HT.out _ hb2).mono ?_); rintro e w' ⟨rfl, ⟨nd, rfl⟩⟩))
    go_ret2
    exact ⟨rfl, pw_below_drewN hb2 nd⟩
  · have HN := Lib.hid hn
    have hz : (n == 0) = false := beq_eq_false_iff_ne.2 h
    have hz2 : (n != 0) = true := bne_iff_ne.2 h
    clear hn hC hs
    rw [HN.out] at HC
    rw [HN.out, if_neg h]
    clear h
    go_enter Tryz.func19, Tryz.ntmps19
    go_wp2_with (first | (go_at_call 28; (refine HC.out.mono ?_); rintro e w2 ⟨rfl, hb2⟩))
    go_ret2
    exact ⟨rfl, hb2⟩
/-- The error of Usable. -/
def useE (o : Int) (l : List S64) : Int := if validB 4096 l = true then (if 1 ≤ o ∧ o ≤ 1099511627776 then 0 else 1) else 2
set_option maxHeartbeats 1000000 in
theorem usable_no (l : List S64) (o : Int) (A : Option Addr) (c : Nat) (w : World) (hC : k64.C w A l.length l) (hc : l.length ≤ c) (he : useE o l ≠ 0) :
    Calls Tryz.prog 26 #[.slice A l.length c, .int .i64 o] w fun e w' => e = .returned (.tuple #[.slice none 0 0, .slice none 0 0, .int .i64 (useE o l)]) ∧ Below w.heap.size w w' := by
  have HV := Lib.hid (valid_any l 4096 A c w hC hc)
  unfold useE at he ⊢
  obtain ⟨b, hb⟩ : ∃ b, validB 4096 l = b := ⟨_, rfl⟩
  rw [hb] at he HV ⊢
  clear hb hC
  cases b with
  | false =>
    rw [if_neg (by simp)]
    clear he
    go_enter Tryz.func26, Tryz.ntmps26
    go_wp2_with (first | (go_at_call 47; (refine HV.out.mono ?_); rintro e w2 ⟨rfl, hb2⟩))
    go_ret3
    exact ⟨rfl, hb2⟩
  | true =>
    rw [if_pos rfl] at he ⊢
    by_cases h : 1 ≤ o ∧ o ≤ 1099511627776
    · rw [if_pos h] at he; exact absurd rfl he
    · rw [if_neg h]
      have HD := Lib.hid (decide_eq_false h)
      clear he h
      go_enter Tryz.func26, Tryz.ntmps26
      go_wp2_with (first | (go_at_call 47; (refine HV.out.mono ?_); rintro e w2 ⟨rfl, hb2⟩) | (go_at_call 46; (with_reducible refine (within_any o 1 1099511627776 _).mono ?_); rintro e w' ⟨rfl, ⟨nd, rfl⟩⟩; rw [HD.out]))
      go_ret3
      exact ⟨rfl, pw_below_drewN hb2 nd⟩
set_option maxHeartbeats 1000000 in
theorem usable_yes (l : List S64) (o : Int) (A : Option Addr) (c : Nat) (w : World) (hC : k64.C w A l.length l) (hc : l.length ≤ c) (hs : smallL l) (he : useE o l = 0) :
    Calls Tryz.prog 26 #[.slice A l.length c, .int .i64 o] w fun e w' => ∃ u r, e = .returned (.tuple #[u, r, .int .i64 0]) ∧ (Kd.int .i64).R 3 w' w.heap.size (fun _ => True) u (sortI (pagesOf (lowL o l))) ∧
      k64.R 64 w' w.heap.size (fun k => True ∧ some k ≠ u.ownBlock) r (hiL o l) ∧ Below w.heap.size w w' := by
  have HV := Lib.hid (valid_any l 4096 A c w hC hc)
  unfold useE at he
  have hb : validB 4096 l = true := by
    cases h : validB 4096 l with
    | true => rfl
    | false => rw [h, if_neg (by simp)] at he; cases he
  rw [hb] at he HV
  rw [if_pos rfl] at he
  have h : 1 ≤ o ∧ o ≤ 1099511627776 := by
    by_cases h : 1 ≤ o ∧ o ≤ 1099511627776
    · exact h
    · rw [if_neg h] at he; cases he
  have HD := Lib.hid (decide_eq_true h)
  have HS := Lib.hid (fun (w1 : World) (hb : Below w.heap.size w w1) => split_any l o A c w1 (Kd.C_below hC hb) hc hs.1 hs.2)
  clear he h hb hC hs
  go_enter Tryz.func26, Tryz.ntmps26
  go_wp2_with (first | (go_at_call 47; (refine HV.out.mono ?_); rintro e w2 ⟨rfl, hb2⟩) | (go_at_call 46; (with_reducible refine (within_any o 1 1099511627776 _).mono ?_); rintro e w' ⟨rfl, ⟨nd, rfl⟩⟩; rw [HD.out]) | (go_at_call 69; (refine (HS.out _ (pw_below_drewN hb2 nd)).mono ?_); rintro e w3 ⟨u, r, rfl, hu, hr, hb3⟩))
  go_ret3
  have hsz := (pw_below_drewN hb2 nd).size
  exact ⟨_, _, rfl, Kd.R_lower hu hsz, Kd.R_lower hr hsz, (pw_below_drewN hb2 nd).trans (hb3.mono hsz)⟩
end Go.Proofs.YtpnhelcemodnmaaGreat

/- The reference's Is at a call. -/
namespace Go.Proofs.YtpnhelcemodnmaaGreat
open Go.RowKit Go.Shelf Go.Proofs.YtpnhelcemodnmaaGreatW.PrintWords Go.Proofs.YtpnhelcemodnmaaGreatW.PrintLast Go.Proofs.YtpnhelcemodnmaaGreatW.PrintMore PA
set_option linter.unusedVariables false
set_option linter.unusedSimpArgs false
theorem is_some (l : List S64) (p : Int) (h0 : 0 ≤ p) (h1 : p ≤ 281474976710656) (hs : smallL l) : ∃ K, understoryref12_Is.f K l p = some (decide (formP p l ∧ (pagesOf l).Nodup)) := by
  obtain ⟨K, hK⟩ := is_l0 l p h0 (by have := hs.1; omega) (fun f hf => by have := small_each hs f hf; omega) _ 0 (Nat.zero_le _) rfl ⟨by simp, by simp⟩ (by simp [pagesOf, flat])
  refine ⟨K, ?_⟩
  unfold understoryref12_Is.f
  rw [if_pos h0, if_pos (by omega)]
  have e : metOf p (pagesOf (l.take 0)) = List.replicate p.toNat false := by
    rw [show pagesOf (l.take 0) = [] by simp [pagesOf, flat]]
    exact metOf_nil p
  rw [e] at hK
  exact hK
theorem is_any (l : List S64) (p : Int) (A : Option Addr) (c : Nat) (w : World) (hC : k64.C w A l.length l) (hc : l.length ≤ c) (h0 : 0 ≤ p) (h1 : p ≤ 281474976710656) (hs : smallL l) :
    Calls Tryz.prog 58 #[.slice A l.length c, .int .i64 p] w fun e w' => e = .returned (.bool (decide (formP p l ∧ (pagesOf l).Nodup))) ∧ Below w.heap.size w w' := by
  obtain ⟨K, hK⟩ := is_some l p h0 h1 hs
  exact understoryref12_Is.calls K A c l p _ w hC hc hK
theorem is_valid (l : List S64) (p : Int) (hp : 2 ≤ p ∧ p ≤ 4096) : decide (formP p l ∧ (pagesOf l).Nodup) = validB p l := by
  unfold validB validP
  by_cases h : formP p l ∧ (pagesOf l).Nodup
  · simp [h, hp]
  · simp [h, hp]
end Go.Proofs.YtpnhelcemodnmaaGreat

-- PRINTED by print.py (a twelfth state) out of the translation. Not trusted: Lean checks it.
namespace Go.Proofs.YtpnhelcemodnmaaGreat.PA
open Go.RowKit Go.Proofs.YtpnhelcemodnmaaGreatW.PrintWords Go.Proofs.YtpnhelcemodnmaaGreatW.PrintLast Go.Proofs.YtpnhelcemodnmaaGreatW.PrintMore
attribute [local go_sem] max2_int min2_int max_two min_two max_three min_three max_four min_four   -- for this text's walks alone
set_option linter.unusedVariables false
set_option linter.unusedSimpArgs false

/-! ### understorylaw12_short: function 14 -/
mutual
def understorylaw12_short.l0 : Nat → List (List (S64)) → Int → Option (Bool)
  | 0, _, _ => none
  | k + 1, x0, x3 => if x3 < (x0.length : Int) then (understorylaw12_short.l1 k x0 x3 0 0) else (some true)
def understorylaw12_short.l1 : Nat → List (List (S64)) → Int → Int → Int → Option (Bool)
  | 0, _, _, _, _ => none
  | k + 1, x0, x3, x4, x5 => if 0 ≤ x3 then (if x3 < (x0.length : Int) then (if x5 < ((rd_L3 x0 x3).length : Int) then (if x5 ≤ 200 then (if 0 ≤ x5 then (understorylaw12_short.l1 k x0 x3 (wrap64 (x4 + (((rd_T64 (rd_L3 x0 x3) x5).f1).length : Int))) (wrap64 (x5 + 1))) else (none)) else (if x4 > 900 then (some false) else (if ((rd_L3 x0 x3).length : Int) > 200 then (some false) else (understorylaw12_short.l0 k x0 (wrap64 (x3 + 1)))))) else (if x4 > 900 then (some false) else (if ((rd_L3 x0 x3).length : Int) > 200 then (some false) else (understorylaw12_short.l0 k x0 (wrap64 (x3 + 1)))))) else (none)) else (none)
end
def understorylaw12_short.f (k : Nat) (l0 : List (List (S64))) : Option (Bool) := understorylaw12_short.l0 k l0 0
theorem understorylaw12_short.mono_l : ∀ k, (∀ y0 y1, LeO (understorylaw12_short.l0 k y0 y1) (understorylaw12_short.l0 (k + 1) y0 y1)) ∧ (∀ y0 y1 y2 y3, LeO (understorylaw12_short.l1 k y0 y1 y2 y3) (understorylaw12_short.l1 (k + 1) y0 y1 y2 y3))
  | 0 => ⟨fun _ _ r h => by simp [understorylaw12_short.l0] at h, fun _ _ _ _ r h => by simp [understorylaw12_short.l1] at h⟩
  | k + 1 => by
    obtain ⟨ih0, ih1⟩ := understorylaw12_short.mono_l k
    refine ⟨?_, ?_⟩
    · intro y0 y1
      unfold understorylaw12_short.l0
      repeat' first
      | (with_reducible exact ih0 _ _)
      | (with_reducible exact ih1 _ _ _ _)
      | (with_reducible exact LeO.refl _)
      | (with_reducible exact LeO.none _)
      | (with_reducible refine LeO.ite ?_ ?_)
      | (with_reducible refine LeO.bind ?_ (fun _ => ?_))
      | exact ih0 _ _
      | exact ih1 _ _ _ _
      | exact LeO.none _
      | refine LeO.ite ?_ ?_
      | refine LeO.bind ?_ (fun _ => ?_)
    · intro y0 y1 y2 y3
      unfold understorylaw12_short.l1
      repeat' first
      | (with_reducible exact ih0 _ _)
      | (with_reducible exact ih1 _ _ _ _)
      | (with_reducible exact LeO.refl _)
      | (with_reducible exact LeO.none _)
      | (with_reducible refine LeO.ite ?_ ?_)
      | (with_reducible refine LeO.bind ?_ (fun _ => ?_))
      | exact ih0 _ _
      | exact ih1 _ _ _ _
      | exact LeO.none _
      | refine LeO.ite ?_ ?_
      | refine LeO.bind ?_ (fun _ => ?_)
theorem understorylaw12_short.mono : ∀ a0 k, LeO (understorylaw12_short.f k a0) (understorylaw12_short.f (k + 1) a0) := by
  intro a0 k
  obtain ⟨ih0, ih1⟩ := understorylaw12_short.mono_l k
  unfold understorylaw12_short.f
  repeat' first
      | (with_reducible exact ih0 _ _)
      | (with_reducible exact ih1 _ _ _ _)
      | (with_reducible exact LeO.refl _)
      | (with_reducible exact LeO.none _)
      | (with_reducible refine LeO.ite ?_ ?_)
      | (with_reducible refine LeO.bind ?_ (fun _ => ?_))
      | exact ih0 _ _
      | exact ih1 _ _ _ _
      | exact LeO.none _
      | refine LeO.ite ?_ ?_
      | refine LeO.bind ?_ (fun _ => ?_)
set_option maxHeartbeats 8000000 in
set_option maxRecDepth 100000 in
theorem understorylaw12_short.calls (k : Nat) (A0 : Option Addr) (c0 : Nat) (l0 : List (List (S64))) (r : Bool) (w : World) (hr0 : Kd.C (Kd.slice 64 k64) w A0 l0.length l0) (hc0 : l0.length ≤ c0) (h : understorylaw12_short.f k l0 = some r) :
    Calls Tryz.prog 14 #[.slice A0 l0.length c0] w fun e w' => e = .returned (.bool r) ∧ Drawn0 w w' := by
  have HR0 := Aside0.mk hr0
  have HC0 := Aside0.mk hc0
  clear hr0 hc0
  have H : (understorylaw12_short.l0 k l0 0) = some r := h
  clear h
  have H' := Aside0.mk H
  clear H
  go_enter Tryz.func14, Tryz.ntmps14
  go_wp2
  go_loopg [3] k (fun kq v3 w' => ∃ (x3_1 : Int), v3 = .int .i64 x3_1 ∧ Aside0 (understorylaw12_short.l0 kq l0 x3_1 = some r) ∧ Aside0 (kq ≤ k) ∧ Drawn0 w w')
  case atStart => exact ⟨(0), (by first | rfl | (simp; done) | (simp [*]; done)), H', ⟨Nat.le_refl _⟩, by repeat (first | exact Drawn0.refl _ | apply Drawn0.step)⟩
  case round =>
    clear H'
    try clear c1
    obtain ⟨x3_1, rfl, HA, HK1, ⟨m1, rfl⟩⟩ := hrel
    cases gk with
    | zero => exact absurd HA.out (by simp [understorylaw12_short.l0])
    | succ k1 =>
      have H := HA.out
      clear HA
      simp only [understorylaw12_short.l0] at H
      by_cases c2 : x3_1 < (l0.length : Int)
      · rw [if_pos c2] at H
        have c2b0 : decide (x3_1 < (l0.length : Int)) = true := decide_eq_true c2
        clear c2
        have H' := Aside0.mk H
        clear H
        go_wp2
        go_loopg [4, 5] k1 (fun kq v4 v5 w' => ∃ (x4_2 : Int) (x5_2 : Int), v4 = .int .i64 x4_2 ∧ v5 = .int .i64 x5_2 ∧ Aside0 (understorylaw12_short.l1 kq l0 x3_1 x4_2 x5_2 = some r) ∧ Aside0 (kq ≤ k1) ∧ Drawn0 w w')
        case atStart => exact ⟨(0), (0), (by first | rfl | (simp; done) | (simp [*]; done)), (by first | rfl | (simp; done) | (simp [*]; done)), H', ⟨Nat.le_refl _⟩, by repeat (first | exact Drawn0.refl _ | apply Drawn0.step)⟩
        case round =>
          clear H'
          try clear c1
          try clear c2
          try clear c2b0
          try clear p2
          obtain ⟨x4_2, x5_2, rfl, rfl, HA, HK2, ⟨m2, rfl⟩⟩ := hrel
          cases gk with
          | zero => exact absurd HA.out (by simp [understorylaw12_short.l1])
          | succ k2 =>
            have H := HA.out
            clear HA
            simp only [understorylaw12_short.l1] at H
            by_cases c3 : 0 ≤ x3_1
            · rw [if_pos c3] at H
              have c3b0 : decide (0 ≤ x3_1) = true := decide_eq_true c3
              clear c3
              by_cases c4 : x3_1 < (l0.length : Int)
              · rw [if_pos c4] at H
                have c4b0 : decide (x3_1 < (l0.length : Int)) = true := decide_eq_true c4
                clear c4
                by_cases c5 : x5_2 < ((rd_L3 l0 x3_1).length : Int)
                · rw [if_pos c5] at H
                  have c5b0 : decide (x5_2 < ((rd_L3 l0 x3_1).length : Int)) = true := decide_eq_true c5
                  clear c5
                  by_cases c6 : x5_2 ≤ 200
                  · rw [if_pos c6] at H
                    have c6b0 : decide (x5_2 ≤ 200) = true := decide_eq_true c6
                    clear c6
                    by_cases c7 : 0 ≤ x5_2
                    · rw [if_pos c7] at H
                      have c7b0 : decide (0 ≤ x5_2) = true := decide_eq_true c7
                      clear c7
                      have H' := Aside0.mk H
                      clear H
                      have p290 : 0 ≤ (x3_1 : Int) := of_decide_eq_true (by first | (with_reducible assumption) | assumption)
                      have q290 : x3_1 < (l0.length : Int) := of_decide_eq_true (by first | (with_reducible assumption) | assumption)
                      obtain ⟨ad290, A290_0, c290_0, e290, hx290_0, hl290_0, hi290_0⟩ := at_L3 HR0.out x3_1 p290 q290
                      cases e290
                      have HR290_0 := Aside0.mk hi290_0
                      have HC290_0 := Aside0.mk hl290_0
                      clear hi290_0 hl290_0
                      replace p290 := eq_true p290
                      replace q290 := eq_true q290
                      have p291 : 0 ≤ (x3_1 : Int) := of_decide_eq_true (by first | (with_reducible assumption) | assumption)
                      have q291 : x3_1 < (l0.length : Int) := of_decide_eq_true (by first | (with_reducible assumption) | assumption)
                      obtain ⟨ad291, A291_0, c291_0, e291, hx291_0, hl291_0, hi291_0⟩ := at_L3 HR0.out x3_1 p291 q291
                      obtain rfl : ad290 = ad291 := (by injection e291)
                      have HR291_0 := Aside0.mk hi291_0
                      have HC291_0 := Aside0.mk hl291_0
                      clear hi291_0 hl291_0
                      replace p291 := eq_true p291
                      replace q291 := eq_true q291
                      have ea_ := Option.some.inj (hx290_0.symm.trans hx291_0)
                      injection ea_ with ea_ en_ ec_
                      subst ea_
                      subst ec_
                      clear en_
                      have p292 : 0 ≤ (x5_2 : Int) := of_decide_eq_true (by first | (with_reducible assumption) | assumption)
                      have q292 : x5_2 < ((rd_L3 l0 x3_1).length : Int) := of_decide_eq_true (by first | (with_reducible assumption) | assumption)
                      obtain ⟨ad292, A292_1, c292_1, e292, hx292_0, hx292_1, hl292_1, hi292_1⟩ := at_T64 HR291_0.out x5_2 p292 q292
                      cases e292
                      have HR292_1 := Aside0.mk hi292_1
                      have HC292_1 := Aside0.mk hl292_1
                      clear hi292_1 hl292_1
                      replace p292 := eq_true p292
                      replace q292 := eq_true q292
                      go_wp2
                      go_roundg k2
                      case measure => have := HK1.out; have := HK2.out; omega
                      case rel => exact ⟨(wrap64 (x4_2 + (((rd_T64 (rd_L3 l0 x3_1) x5_2).f1).length : Int))), (wrap64 (x5_2 + 1)), (by first | rfl | (simp; done) | (simp [*]; done)), (by first | rfl | (simp; done) | (simp [*]; done)), H', ⟨by have := HK1.out; have := HK2.out; omega⟩, by repeat (first | exact Drawn0.refl _ | apply Drawn0.step)⟩
                    · rw [if_neg c7] at H
                      exact absurd H (by simp)
                  · rw [if_neg c6] at H
                    have c6b0 : decide (x5_2 ≤ 200) = false := decide_eq_false c6
                    clear c6
                    by_cases c8 : x4_2 > 900
                    · rw [if_pos c8] at H
                      have c8b0 : decide (900 < x4_2) = true := decide_eq_true c8
                      clear c8
                      obtain rfl := Option.some.inj H
                      have p290 : 0 ≤ (x3_1 : Int) := of_decide_eq_true (by first | (with_reducible assumption) | assumption)
                      have q290 : x3_1 < (l0.length : Int) := of_decide_eq_true (by first | (with_reducible assumption) | assumption)
                      obtain ⟨ad290, A290_0, c290_0, e290, hx290_0, hl290_0, hi290_0⟩ := at_L3 HR0.out x3_1 p290 q290
                      cases e290
                      have HR290_0 := Aside0.mk hi290_0
                      have HC290_0 := Aside0.mk hl290_0
                      clear hi290_0 hl290_0
                      replace p290 := eq_true p290
                      replace q290 := eq_true q290
                      go_wp2
                      go_ret
                      exact ⟨by first | rfl | (simp; done) | (simp [*]; done), by repeat (first | exact Drawn0.refl _ | apply Drawn0.step)⟩
                    · rw [if_neg c8] at H
                      have c8b0 : decide (900 < x4_2) = false := decide_eq_false c8
                      clear c8
                      by_cases c9 : ((rd_L3 l0 x3_1).length : Int) > 200
                      · rw [if_pos c9] at H
                        have c9b0 : decide (200 < ((rd_L3 l0 x3_1).length : Int)) = true := decide_eq_true c9
                        have c9b1 : decide (200 < (rd_L3 l0 x3_1).length) = true := decide_eq_true (by omega)
                        clear c9
                        obtain rfl := Option.some.inj H
                        have p290 : 0 ≤ (x3_1 : Int) := of_decide_eq_true (by first | (with_reducible assumption) | assumption)
                        have q290 : x3_1 < (l0.length : Int) := of_decide_eq_true (by first | (with_reducible assumption) | assumption)
                        obtain ⟨ad290, A290_0, c290_0, e290, hx290_0, hl290_0, hi290_0⟩ := at_L3 HR0.out x3_1 p290 q290
                        cases e290
                        have HR290_0 := Aside0.mk hi290_0
                        have HC290_0 := Aside0.mk hl290_0
                        clear hi290_0 hl290_0
                        replace p290 := eq_true p290
                        replace q290 := eq_true q290
                        have p293 : 0 ≤ (x3_1 : Int) := of_decide_eq_true (by first | (with_reducible assumption) | assumption)
                        have q293 : x3_1 < (l0.length : Int) := of_decide_eq_true (by first | (with_reducible assumption) | assumption)
                        obtain ⟨ad293, A293_0, c293_0, e293, hx293_0, hl293_0, hi293_0⟩ := at_L3 HR0.out x3_1 p293 q293
                        obtain rfl : ad290 = ad293 := (by injection e293)
                        have HR293_0 := Aside0.mk hi293_0
                        have HC293_0 := Aside0.mk hl293_0
                        clear hi293_0 hl293_0
                        replace p293 := eq_true p293
                        replace q293 := eq_true q293
                        have ea_ := Option.some.inj (hx290_0.symm.trans hx293_0)
                        injection ea_ with ea_ en_ ec_
                        subst ea_
                        subst ec_
                        clear en_
                        go_wp2
                        go_ret
                        exact ⟨by first | rfl | (simp; done) | (simp [*]; done), by repeat (first | exact Drawn0.refl _ | apply Drawn0.step)⟩
                      · rw [if_neg c9] at H
                        have c9b0 : decide (200 < ((rd_L3 l0 x3_1).length : Int)) = false := decide_eq_false c9
                        have c9b1 : decide (200 < (rd_L3 l0 x3_1).length) = false := decide_eq_false (by omega)
                        clear c9
                        have H' := Aside0.mk H
                        clear H
                        have p290 : 0 ≤ (x3_1 : Int) := of_decide_eq_true (by first | (with_reducible assumption) | assumption)
                        have q290 : x3_1 < (l0.length : Int) := of_decide_eq_true (by first | (with_reducible assumption) | assumption)
                        obtain ⟨ad290, A290_0, c290_0, e290, hx290_0, hl290_0, hi290_0⟩ := at_L3 HR0.out x3_1 p290 q290
                        cases e290
                        have HR290_0 := Aside0.mk hi290_0
                        have HC290_0 := Aside0.mk hl290_0
                        clear hi290_0 hl290_0
                        replace p290 := eq_true p290
                        replace q290 := eq_true q290
                        have p293 : 0 ≤ (x3_1 : Int) := of_decide_eq_true (by first | (with_reducible assumption) | assumption)
                        have q293 : x3_1 < (l0.length : Int) := of_decide_eq_true (by first | (with_reducible assumption) | assumption)
                        obtain ⟨ad293, A293_0, c293_0, e293, hx293_0, hl293_0, hi293_0⟩ := at_L3 HR0.out x3_1 p293 q293
                        obtain rfl : ad290 = ad293 := (by injection e293)
                        have HR293_0 := Aside0.mk hi293_0
                        have HC293_0 := Aside0.mk hl293_0
                        clear hi293_0 hl293_0
                        replace p293 := eq_true p293
                        replace q293 := eq_true q293
                        have ea_ := Option.some.inj (hx290_0.symm.trans hx293_0)
                        injection ea_ with ea_ en_ ec_
                        subst ea_
                        subst ec_
                        clear en_
                        go_wp2
                        go_roundg k2
                        case measure => have := HK1.out; have := HK2.out; omega
                        case rel => exact ⟨(wrap64 (x3_1 + 1)), (by first | rfl | (simp; done) | (simp [*]; done)), H', ⟨by have := HK1.out; have := HK2.out; omega⟩, by repeat (first | exact Drawn0.refl _ | apply Drawn0.step)⟩
                · rw [if_neg c5] at H
                  have c5b0 : decide (x5_2 < ((rd_L3 l0 x3_1).length : Int)) = false := decide_eq_false c5
                  clear c5
                  by_cases c10 : x4_2 > 900
                  · rw [if_pos c10] at H
                    have c10b0 : decide (900 < x4_2) = true := decide_eq_true c10
                    clear c10
                    obtain rfl := Option.some.inj H
                    have p290 : 0 ≤ (x3_1 : Int) := of_decide_eq_true (by first | (with_reducible assumption) | assumption)
                    have q290 : x3_1 < (l0.length : Int) := of_decide_eq_true (by first | (with_reducible assumption) | assumption)
                    obtain ⟨ad290, A290_0, c290_0, e290, hx290_0, hl290_0, hi290_0⟩ := at_L3 HR0.out x3_1 p290 q290
                    cases e290
                    have HR290_0 := Aside0.mk hi290_0
                    have HC290_0 := Aside0.mk hl290_0
                    clear hi290_0 hl290_0
                    replace p290 := eq_true p290
                    replace q290 := eq_true q290
                    go_wp2
                    go_ret
                    exact ⟨by first | rfl | (simp; done) | (simp [*]; done), by repeat (first | exact Drawn0.refl _ | apply Drawn0.step)⟩
                  · rw [if_neg c10] at H
                    have c10b0 : decide (900 < x4_2) = false := decide_eq_false c10
                    clear c10
                    by_cases c11 : ((rd_L3 l0 x3_1).length : Int) > 200
                    · rw [if_pos c11] at H
                      have c11b0 : decide (200 < ((rd_L3 l0 x3_1).length : Int)) = true := decide_eq_true c11
                      have c11b1 : decide (200 < (rd_L3 l0 x3_1).length) = true := decide_eq_true (by omega)
                      clear c11
                      obtain rfl := Option.some.inj H
                      have p290 : 0 ≤ (x3_1 : Int) := of_decide_eq_true (by first | (with_reducible assumption) | assumption)
                      have q290 : x3_1 < (l0.length : Int) := of_decide_eq_true (by first | (with_reducible assumption) | assumption)
                      obtain ⟨ad290, A290_0, c290_0, e290, hx290_0, hl290_0, hi290_0⟩ := at_L3 HR0.out x3_1 p290 q290
                      cases e290
                      have HR290_0 := Aside0.mk hi290_0
                      have HC290_0 := Aside0.mk hl290_0
                      clear hi290_0 hl290_0
                      replace p290 := eq_true p290
                      replace q290 := eq_true q290
                      have p294 : 0 ≤ (x3_1 : Int) := of_decide_eq_true (by first | (with_reducible assumption) | assumption)
                      have q294 : x3_1 < (l0.length : Int) := of_decide_eq_true (by first | (with_reducible assumption) | assumption)
                      obtain ⟨ad294, A294_0, c294_0, e294, hx294_0, hl294_0, hi294_0⟩ := at_L3 HR0.out x3_1 p294 q294
                      obtain rfl : ad290 = ad294 := (by injection e294)
                      have HR294_0 := Aside0.mk hi294_0
                      have HC294_0 := Aside0.mk hl294_0
                      clear hi294_0 hl294_0
                      replace p294 := eq_true p294
                      replace q294 := eq_true q294
                      have ea_ := Option.some.inj (hx290_0.symm.trans hx294_0)
                      injection ea_ with ea_ en_ ec_
                      subst ea_
                      subst ec_
                      clear en_
                      go_wp2
                      go_ret
                      exact ⟨by first | rfl | (simp; done) | (simp [*]; done), by repeat (first | exact Drawn0.refl _ | apply Drawn0.step)⟩
                    · rw [if_neg c11] at H
                      have c11b0 : decide (200 < ((rd_L3 l0 x3_1).length : Int)) = false := decide_eq_false c11
                      have c11b1 : decide (200 < (rd_L3 l0 x3_1).length) = false := decide_eq_false (by omega)
                      clear c11
                      have H' := Aside0.mk H
                      clear H
                      have p290 : 0 ≤ (x3_1 : Int) := of_decide_eq_true (by first | (with_reducible assumption) | assumption)
                      have q290 : x3_1 < (l0.length : Int) := of_decide_eq_true (by first | (with_reducible assumption) | assumption)
                      obtain ⟨ad290, A290_0, c290_0, e290, hx290_0, hl290_0, hi290_0⟩ := at_L3 HR0.out x3_1 p290 q290
                      cases e290
                      have HR290_0 := Aside0.mk hi290_0
                      have HC290_0 := Aside0.mk hl290_0
                      clear hi290_0 hl290_0
                      replace p290 := eq_true p290
                      replace q290 := eq_true q290
                      have p294 : 0 ≤ (x3_1 : Int) := of_decide_eq_true (by first | (with_reducible assumption) | assumption)
                      have q294 : x3_1 < (l0.length : Int) := of_decide_eq_true (by first | (with_reducible assumption) | assumption)
                      obtain ⟨ad294, A294_0, c294_0, e294, hx294_0, hl294_0, hi294_0⟩ := at_L3 HR0.out x3_1 p294 q294
                      obtain rfl : ad290 = ad294 := (by injection e294)
                      have HR294_0 := Aside0.mk hi294_0
                      have HC294_0 := Aside0.mk hl294_0
                      clear hi294_0 hl294_0
                      replace p294 := eq_true p294
                      replace q294 := eq_true q294
                      have ea_ := Option.some.inj (hx290_0.symm.trans hx294_0)
                      injection ea_ with ea_ en_ ec_
                      subst ea_
                      subst ec_
                      clear en_
                      go_wp2
                      go_roundg k2
                      case measure => have := HK1.out; have := HK2.out; omega
                      case rel => exact ⟨(wrap64 (x3_1 + 1)), (by first | rfl | (simp; done) | (simp [*]; done)), H', ⟨by have := HK1.out; have := HK2.out; omega⟩, by repeat (first | exact Drawn0.refl _ | apply Drawn0.step)⟩
              · rw [if_neg c4] at H
                exact absurd H (by simp)
            · rw [if_neg c3] at H
              exact absurd H (by simp)
      · rw [if_neg c2] at H
        have c2b0 : decide (x3_1 < (l0.length : Int)) = false := decide_eq_false c2
        clear c2
        obtain rfl := Option.some.inj H
        go_wp2
        go_ret
        exact ⟨by first | rfl | (simp; done) | (simp [*]; done), by repeat (first | exact Drawn0.refl _ | apply Drawn0.step)⟩

-- NOT PRINTED: function 13 (understorylaw12_small)

/-! ### understoryref12_in: function 67 -/
def understoryref12_in.l0 : Nat → List Int → Int → Int → Option (Bool)
  | 0, _, _, _ => none
  | k + 1, x0, x1, x5 => if x5 < (x0.length : Int) then (if 0 ≤ x5 then (if (rd x0 x5) = x1 then (some true) else (understoryref12_in.l0 k x0 x1 (wrap64 (x5 + 1)))) else (none)) else (some false)
def understoryref12_in.f (k : Nat) (l0 : List Int) (a1 : Int) : Option (Bool) := understoryref12_in.l0 k l0 a1 0
theorem understoryref12_in.mono_l : ∀ k, (∀ y0 y1 y2, LeO (understoryref12_in.l0 k y0 y1 y2) (understoryref12_in.l0 (k + 1) y0 y1 y2))
  | 0 => fun _ _ _ r h => by simp [understoryref12_in.l0] at h
  | k + 1 => by
    have ih0 := understoryref12_in.mono_l k
    · intro y0 y1 y2
      unfold understoryref12_in.l0
      repeat' first
      | (with_reducible exact ih0 _ _ _)
      | (with_reducible exact LeO.refl _)
      | (with_reducible exact LeO.none _)
      | (with_reducible refine LeO.ite ?_ ?_)
      | (with_reducible refine LeO.bind ?_ (fun _ => ?_))
      | exact ih0 _ _ _
      | exact LeO.none _
      | refine LeO.ite ?_ ?_
      | refine LeO.bind ?_ (fun _ => ?_)
theorem understoryref12_in.mono : ∀ a0 a1 k, LeO (understoryref12_in.f k a0 a1) (understoryref12_in.f (k + 1) a0 a1) := by
  intro a0 a1 k
  have ih0 := understoryref12_in.mono_l k
  unfold understoryref12_in.f
  repeat' first
      | (with_reducible exact ih0 _ _ _)
      | (with_reducible exact LeO.refl _)
      | (with_reducible exact LeO.none _)
      | (with_reducible refine LeO.ite ?_ ?_)
      | (with_reducible refine LeO.bind ?_ (fun _ => ?_))
      | exact ih0 _ _ _
      | exact LeO.none _
      | refine LeO.ite ?_ ?_
      | refine LeO.bind ?_ (fun _ => ?_)
/-! ### understoryref12_Tail: function 21 -/
mutual
def understoryref12_Tail.j0 : Nat → List (S64) → Int → Bool → Option (Int)
  | 0, _, _, _ => none
  | k + 1, x0, x1, x14 => if x14 = true then (some x1) else (understoryref12_Tail.l0 k x0 x1)
def understoryref12_Tail.l0 : Nat → List (S64) → Int → Option (Int)
  | 0, _, _ => none
  | k + 1, x0, x1 => if x1 > 2 then (if 0 < (x0.length : Int) then ((understoryref12_in.f k ((rd_T64 x0 0).f1) (wrap64 (x1 - 1))).bind fun t298 => (if t298 = true then (understoryref12_Tail.l0 k x0 (wrap64 (x1 - 1))) else (some x1))) else (none)) else (some x1)
end
def understoryref12_Tail.f (k : Nat) (l0 : List (S64)) (a1 : Int) : Option (Int) := if (l0.length : Int) = 0 then (understoryref12_Tail.j0 k l0 a1 true) else (if 0 < (l0.length : Int) then (understoryref12_Tail.j0 k l0 a1 (((rd_T64 l0 0).f0) != 0)) else (none))
theorem understoryref12_Tail.mono_l : ∀ k, (∀ y0 y1 y2, LeO (understoryref12_Tail.j0 k y0 y1 y2) (understoryref12_Tail.j0 (k + 1) y0 y1 y2)) ∧ (∀ y0 y1, LeO (understoryref12_Tail.l0 k y0 y1) (understoryref12_Tail.l0 (k + 1) y0 y1))
  | 0 => ⟨fun _ _ _ r h => by simp [understoryref12_Tail.j0] at h, fun _ _ r h => by simp [understoryref12_Tail.l0] at h⟩
  | k + 1 => by
    obtain ⟨ih0, ih1⟩ := understoryref12_Tail.mono_l k
    refine ⟨?_, ?_⟩
    · intro y0 y1 y2
      unfold understoryref12_Tail.j0
      repeat' first
      | (with_reducible exact ih0 _ _ _)
      | (with_reducible exact ih1 _ _)
      | (with_reducible exact understoryref12_in.mono _ _ _)
      | (with_reducible exact LeO.refl _)
      | (with_reducible exact LeO.none _)
      | (with_reducible refine LeO.ite ?_ ?_)
      | (with_reducible refine LeO.bind ?_ (fun _ => ?_))
      | exact ih0 _ _ _
      | exact ih1 _ _
      | exact understoryref12_in.mono _ _ _
      | exact LeO.none _
      | refine LeO.ite ?_ ?_
      | refine LeO.bind ?_ (fun _ => ?_)
    · intro y0 y1
      unfold understoryref12_Tail.l0
      repeat' first
      | (with_reducible exact ih0 _ _ _)
      | (with_reducible exact ih1 _ _)
      | (with_reducible exact understoryref12_in.mono _ _ _)
      | (with_reducible exact LeO.refl _)
      | (with_reducible exact LeO.none _)
      | (with_reducible refine LeO.ite ?_ ?_)
      | (with_reducible refine LeO.bind ?_ (fun _ => ?_))
      | exact ih0 _ _ _
      | exact ih1 _ _
      | exact understoryref12_in.mono _ _ _
      | exact LeO.none _
      | refine LeO.ite ?_ ?_
      | refine LeO.bind ?_ (fun _ => ?_)
theorem understoryref12_Tail.mono : ∀ a0 a1 k, LeO (understoryref12_Tail.f k a0 a1) (understoryref12_Tail.f (k + 1) a0 a1) := by
  intro a0 a1 k
  obtain ⟨ih0, ih1⟩ := understoryref12_Tail.mono_l k
  unfold understoryref12_Tail.f
  repeat' first
      | (with_reducible exact ih0 _ _ _)
      | (with_reducible exact ih1 _ _)
      | (with_reducible exact understoryref12_in.mono _ _ _)
      | (with_reducible exact LeO.refl _)
      | (with_reducible exact LeO.none _)
      | (with_reducible refine LeO.ite ?_ ?_)
      | (with_reducible refine LeO.bind ?_ (fun _ => ?_))
      | exact ih0 _ _ _
      | exact ih1 _ _
      | exact understoryref12_in.mono _ _ _
      | exact LeO.none _
      | refine LeO.ite ?_ ?_
      | refine LeO.bind ?_ (fun _ => ?_)
/-! ### understoryref12_size: function 57 -/
def understoryref12_size.f (a0 : Int) : Option (Bool) := if a0 ≥ 2 then (some (decide (a0 ≤ 4096))) else (some false)
set_option maxHeartbeats 8000000 in
set_option maxRecDepth 100000 in
theorem understoryref12_size.calls (a0 : Int) (r : Bool) (w : World) (h : understoryref12_size.f a0 = some r) :
    Calls Tryz.prog 57 #[.int .i64 a0] w fun e w' => e = .returned (.bool r) ∧ Drawn0 w w' := by
  have H : (if a0 ≥ 2 then (some (decide (a0 ≤ 4096))) else (some false)) = some r := h
  clear h
  by_cases c2 : a0 ≥ 2
  · rw [if_pos c2] at H
    have c2b0 : decide (2 ≤ a0) = true := decide_eq_true c2
    clear c2
    obtain rfl := Option.some.inj H
    go_enter Tryz.func57, Tryz.ntmps57
    go_wp2
    go_ret
    exact ⟨by first | rfl | (simp; done) | (simp [*]; done), by repeat (first | exact Drawn0.refl _ | apply Drawn0.step)⟩
  · rw [if_neg c2] at H
    have c2b0 : decide (2 ≤ a0) = false := decide_eq_false c2
    clear c2
    obtain rfl := Option.some.inj H
    go_enter Tryz.func57, Tryz.ntmps57
    go_wp2
    go_ret
    exact ⟨by first | rfl | (simp; done) | (simp [*]; done), by repeat (first | exact Drawn0.refl _ | apply Drawn0.step)⟩

end Go.Proofs.YtpnhelcemodnmaaGreat.PA

-- PRINTED by print.py (a twelfth state) out of the translation. Not trusted: Lean checks it.
namespace Go.Proofs.YtpnhelcemodnmaaGreat.PA
open Go.RowKit Go.Proofs.YtpnhelcemodnmaaGreatW.PrintWords Go.Proofs.YtpnhelcemodnmaaGreatW.PrintLast Go.Proofs.YtpnhelcemodnmaaGreatW.PrintMore
attribute [local go_sem] max2_int min2_int max_two min_two max_three min_three max_four min_four   -- for this text's walks alone
set_option linter.unusedVariables false
set_option linter.unusedSimpArgs false

/-! ### understoryref12_cut: function 62 -/
mutual
def understoryref12_cut.l0 : Nat → List (S64) → Int → List (S64) → Int → Option ((List (S64)))
  | 0, _, _, _, _ => none
  | k + 1, x0, x1, x5, x6 => if x6 < (x0.length : Int) then (if 0 ≤ x6 then (understoryref12_cut.l1 k x0 x1 x5 x6 0 ((rd_T64 x0 x6).f0) ([] : List Int)) else (none)) else (some x5)
def understoryref12_cut.l1 : Nat → List (S64) → Int → List (S64) → Int → Int → Int → List Int → Option ((List (S64)))
  | 0, _, _, _, _, _, _, _ => none
  | k + 1, x0, x1, x5, x6, x8, x379000, x379001 => if 0 ≤ x6 then (if x6 < (x0.length : Int) then (if x8 < (((rd_T64 x0 x6).f1).length : Int) then (if 0 ≤ x8 then (if (rd ((rd_T64 x0 x6).f1) x8) < x1 then (if x379001.length < 17592186044416 then (understoryref12_cut.l1 k x0 x1 x5 x6 (wrap64 (x8 + 1)) x379000 (x379001 ++ [rd ((rd_T64 x0 x6).f1) x8])) else (none)) else (understoryref12_cut.l1 k x0 x1 x5 x6 (wrap64 (x8 + 1)) x379000 x379001)) else (none)) else (if (x379001.length : Int) > 0 then (if x5.length < 4398046511104 then (understoryref12_cut.l0 k x0 x1 (x5 ++ [(⟨x379000, x379001⟩ : S64)]) (wrap64 (x6 + 1))) else (none)) else (understoryref12_cut.l0 k x0 x1 x5 (wrap64 (x6 + 1))))) else (none)) else (none)
end
def understoryref12_cut.f (k : Nat) (l0 : List (S64)) (a1 : Int) : Option ((List (S64))) := understoryref12_cut.l0 k l0 a1 ([] : List (S64)) 0
theorem understoryref12_cut.mono_l : ∀ k, (∀ y0 y1 y2 y3, LeO (understoryref12_cut.l0 k y0 y1 y2 y3) (understoryref12_cut.l0 (k + 1) y0 y1 y2 y3)) ∧ (∀ y0 y1 y2 y3 y4 y5 y6, LeO (understoryref12_cut.l1 k y0 y1 y2 y3 y4 y5 y6) (understoryref12_cut.l1 (k + 1) y0 y1 y2 y3 y4 y5 y6))
  | 0 => ⟨fun _ _ _ _ r h => by simp [understoryref12_cut.l0] at h, fun _ _ _ _ _ _ _ r h => by simp [understoryref12_cut.l1] at h⟩
  | k + 1 => by
    obtain ⟨ih0, ih1⟩ := understoryref12_cut.mono_l k
    refine ⟨?_, ?_⟩
    · intro y0 y1 y2 y3
      unfold understoryref12_cut.l0
      repeat' first
      | (with_reducible exact ih0 _ _ _ _)
      | (with_reducible exact ih1 _ _ _ _ _ _ _)
      | (with_reducible exact LeO.refl _)
      | (with_reducible exact LeO.none _)
      | (with_reducible refine LeO.ite ?_ ?_)
      | (with_reducible refine LeO.bind ?_ (fun _ => ?_))
      | exact ih0 _ _ _ _
      | exact ih1 _ _ _ _ _ _ _
      | exact LeO.none _
      | refine LeO.ite ?_ ?_
      | refine LeO.bind ?_ (fun _ => ?_)
    · intro y0 y1 y2 y3 y4 y5 y6
      unfold understoryref12_cut.l1
      repeat' first
      | (with_reducible exact ih0 _ _ _ _)
      | (with_reducible exact ih1 _ _ _ _ _ _ _)
      | (with_reducible exact LeO.refl _)
      | (with_reducible exact LeO.none _)
      | (with_reducible refine LeO.ite ?_ ?_)
      | (with_reducible refine LeO.bind ?_ (fun _ => ?_))
      | exact ih0 _ _ _ _
      | exact ih1 _ _ _ _ _ _ _
      | exact LeO.none _
      | refine LeO.ite ?_ ?_
      | refine LeO.bind ?_ (fun _ => ?_)
theorem understoryref12_cut.mono : ∀ a0 a1 k, LeO (understoryref12_cut.f k a0 a1) (understoryref12_cut.f (k + 1) a0 a1) := by
  intro a0 a1 k
  obtain ⟨ih0, ih1⟩ := understoryref12_cut.mono_l k
  unfold understoryref12_cut.f
  repeat' first
      | (with_reducible exact ih0 _ _ _ _)
      | (with_reducible exact ih1 _ _ _ _ _ _ _)
      | (with_reducible exact LeO.refl _)
      | (with_reducible exact LeO.none _)
      | (with_reducible refine LeO.ite ?_ ?_)
      | (with_reducible refine LeO.bind ?_ (fun _ => ?_))
      | exact ih0 _ _ _ _
      | exact ih1 _ _ _ _ _ _ _
      | exact LeO.none _
      | refine LeO.ite ?_ ?_
      | refine LeO.bind ?_ (fun _ => ?_)
/-! ### understoryref04_isPage: function 147 -/
def understoryref04_isPage.f (a0 : Int) : Option (Bool) := if a0 ≥ 2 then (some (decide (a0 < 4096))) else (some false)
end Go.Proofs.YtpnhelcemodnmaaGreat.PA

-- PRINTED by print.py (a twelfth state) out of the translation. Not trusted: Lean checks it.
namespace Go.Proofs.YtpnhelcemodnmaaGreat.PA
open Go.RowKit Go.Proofs.YtpnhelcemodnmaaGreatW.PrintWords Go.Proofs.YtpnhelcemodnmaaGreatW.PrintLast Go.Proofs.YtpnhelcemodnmaaGreatW.PrintMore
attribute [local go_sem] max2_int min2_int max_two min_two max_three min_three max_four min_four   -- for this text's walks alone
set_option linter.unusedVariables false
set_option linter.unusedSimpArgs false

/-! ### understoryref04_numbered: function 110 -/
mutual
def understoryref04_numbered.l0 : Nat → List Int → Int → Int → Option (Bool)
  | 0, _, _, _ => none
  | k + 1, x0, x1, x5 => if x5 < (x0.length : Int) then (if 0 ≤ x5 then ((understoryref04_isPage.f (rd x0 x5)).bind fun t451 => (if t451 = true then (understoryref04_numbered.l1 k x0 x1 x5 0) else (some false))) else (none)) else (if x1 ≥ 0 then (some (decide (x1 ≤ 1099511627776))) else (some false))
def understoryref04_numbered.l1 : Nat → List Int → Int → Int → Int → Option (Bool)
  | 0, _, _, _, _ => none
  | k + 1, x0, x1, x5, x6 => if x6 < x5 then (if 0 ≤ x6 then (if x6 < (x0.length : Int) then (if 0 ≤ x5 then (if x5 < (x0.length : Int) then (if (rd x0 x6) = (rd x0 x5) then (some false) else (understoryref04_numbered.l1 k x0 x1 x5 (wrap64 (x6 + 1)))) else (none)) else (none)) else (none)) else (none)) else (understoryref04_numbered.l0 k x0 x1 (wrap64 (x5 + 1)))
end
def understoryref04_numbered.f (k : Nat) (l0 : List Int) (a1 : Int) : Option (Bool) := understoryref04_numbered.l0 k l0 a1 0
theorem understoryref04_numbered.mono_l : ∀ k, (∀ y0 y1 y2, LeO (understoryref04_numbered.l0 k y0 y1 y2) (understoryref04_numbered.l0 (k + 1) y0 y1 y2)) ∧ (∀ y0 y1 y2 y3, LeO (understoryref04_numbered.l1 k y0 y1 y2 y3) (understoryref04_numbered.l1 (k + 1) y0 y1 y2 y3))
  | 0 => ⟨fun _ _ _ r h => by simp [understoryref04_numbered.l0] at h, fun _ _ _ _ r h => by simp [understoryref04_numbered.l1] at h⟩
  | k + 1 => by
    obtain ⟨ih0, ih1⟩ := understoryref04_numbered.mono_l k
    refine ⟨?_, ?_⟩
    · intro y0 y1 y2
      unfold understoryref04_numbered.l0
      repeat' first
      | (with_reducible exact ih0 _ _ _)
      | (with_reducible exact ih1 _ _ _ _)
      | (with_reducible exact LeO.refl _)
      | (with_reducible exact LeO.none _)
      | (with_reducible refine LeO.ite ?_ ?_)
      | (with_reducible refine LeO.bind ?_ (fun _ => ?_))
      | exact ih0 _ _ _
      | exact ih1 _ _ _ _
      | exact LeO.none _
      | refine LeO.ite ?_ ?_
      | refine LeO.bind ?_ (fun _ => ?_)
    · intro y0 y1 y2 y3
      unfold understoryref04_numbered.l1
      repeat' first
      | (with_reducible exact ih0 _ _ _)
      | (with_reducible exact ih1 _ _ _ _)
      | (with_reducible exact LeO.refl _)
      | (with_reducible exact LeO.none _)
      | (with_reducible refine LeO.ite ?_ ?_)
      | (with_reducible refine LeO.bind ?_ (fun _ => ?_))
      | exact ih0 _ _ _
      | exact ih1 _ _ _ _
      | exact LeO.none _
      | refine LeO.ite ?_ ?_
      | refine LeO.bind ?_ (fun _ => ?_)
theorem understoryref04_numbered.mono : ∀ a0 a1 k, LeO (understoryref04_numbered.f k a0 a1) (understoryref04_numbered.f (k + 1) a0 a1) := by
  intro a0 a1 k
  obtain ⟨ih0, ih1⟩ := understoryref04_numbered.mono_l k
  unfold understoryref04_numbered.f
  repeat' first
      | (with_reducible exact ih0 _ _ _)
      | (with_reducible exact ih1 _ _ _ _)
      | (with_reducible exact LeO.refl _)
      | (with_reducible exact LeO.none _)
      | (with_reducible refine LeO.ite ?_ ?_)
      | (with_reducible refine LeO.bind ?_ (fun _ => ?_))
      | exact ih0 _ _ _
      | exact ih1 _ _ _ _
      | exact LeO.none _
      | refine LeO.ite ?_ ?_
      | refine LeO.bind ?_ (fun _ => ?_)
/-! ### understoryref12_Check: function 20 -/
def understoryref12_Check.f (k : Nat) (l0 : List (S64)) (a1 : Int) : Option (Int) := (understoryref12_size.f a1).bind fun t454 => (if t454 = true then ((understoryref12_Is.f k l0 a1).bind fun t455 => (if t455 = true then (some 0) else (some 2))) else (some 1))
theorem understoryref12_Check.mono : ∀ a0 a1 k, LeO (understoryref12_Check.f k a0 a1) (understoryref12_Check.f (k + 1) a0 a1) := by
  intro a0 a1 k
  unfold understoryref12_Check.f
  repeat' first
      | (with_reducible exact understoryref12_Is.mono _ _ _)
      | (with_reducible exact LeO.refl _)
      | (with_reducible exact LeO.none _)
      | (with_reducible refine LeO.ite ?_ ?_)
      | (with_reducible refine LeO.bind ?_ (fun _ => ?_))
      | exact understoryref12_Is.mono _ _ _
      | exact LeO.none _
      | refine LeO.ite ?_ ?_
      | refine LeO.bind ?_ (fun _ => ?_)
set_option maxHeartbeats 8000000 in
set_option maxRecDepth 100000 in
theorem understoryref12_Check.calls (k : Nat) (A0 : Option Addr) (c0 : Nat) (l0 : List (S64)) (a1 : Int) (r : Int) (w : World) (hr0 : Kd.C k64 w A0 l0.length l0) (hc0 : l0.length ≤ c0) (h : understoryref12_Check.f k l0 a1 = some r) :
    Calls Tryz.prog 20 #[.slice A0 l0.length c0, .int .i64 a1] w fun e w' => e = .returned (.int .i64 r) ∧ Below w.heap.size w w' := by
  have HR0 := Aside0.mk hr0
  have HC0 := Aside0.mk hc0
  clear hr0 hc0
  have HB := Aside0.mk (Below.refl w.heap.size w)
  have H : ((understoryref12_size.f a1).bind fun t454 => (if t454 = true then ((understoryref12_Is.f k l0 a1).bind fun t455 => (if t455 = true then (some 0) else (some 2))) else (some 1))) = some r := h
  clear h
  replace H := Option.bind_eq_some_iff.mp H
  obtain ⟨t454, A30, H⟩ := H
  replace H : (if t454 = true then ((understoryref12_Is.f k l0 a1).bind fun t455 => (if t455 = true then (some 0) else (some 2))) else (some 1)) = some r := H
  have A3 := Aside0.mk A30
  clear A30
  by_cases c4 : t454 = true
  · subst c4
    have H1 : ((understoryref12_Is.f k l0 a1).bind fun t455 => (if t455 = true then (some 0) else (some 2))) = some r := by rw [if_pos rfl] at H; exact H
    clear H
    have H := H1
    clear H1
    replace H := Option.bind_eq_some_iff.mp H
    obtain ⟨t455, A50, H⟩ := H
    replace H : (if t455 = true then (some 0) else (some 2)) = some r := H
    have A5 := Aside0.mk A50
    clear A50
    by_cases c6 : t455 = true
    · subst c6
      have H1 : (some 0) = some r := by rw [if_pos rfl] at H; exact H
      clear H
      have H := H1
      clear H1
      obtain rfl := Option.some.inj H
      go_enter Tryz.func20, Tryz.ntmps20
      go_wp2_with (first | ((with_reducible refine gate_callee (f := 57) rfl ?_); refine goesL_ (some 6) rfl rfl Tryz.func57 (by kernel_rfl) rfl #[.int .i64 a1] rfl (by (try simp only [List.map_toArray, List.map_cons, List.map_nil]); first | done | rfl | (simp only [List.length_drop, List.length_take]; rfl)) ?_; (with_reducible refine (understoryref12_size.calls a1 true _ A3.out).mono ?_); rintro e w' ⟨rfl, ⟨nd, rfl⟩⟩; refine ⟨_, rfl, ?_⟩) | ((with_reducible refine gate_callee (f := 58) rfl ?_); refine goesL_ (some 10) rfl rfl Tryz.func58 (by kernel_rfl) rfl #[.slice A0 l0.length c0, .int .i64 a1] rfl (by (try simp only [List.map_toArray, List.map_cons, List.map_nil]); first | done | rfl | (simp only [List.length_drop, List.length_take]; rfl)) ?_; (with_reducible refine (understoryref12_Is.calls k _ _ l0 a1 true _ ?side1 ?side2 A5.out).mono ?_); (case side1 => repeat (first | exact HR0.out | (with_reducible refine Kd.C_alloc ?_ _) | (with_reducible refine Kd.C_drewN ?_ _) | (with_reducible refine Kd.C_drew ?_))); (case side2 => exact HC0.out); rintro e w7 ⟨rfl, hb⟩; refine ⟨_, rfl, ?_⟩; have n0_ := Aside0.mk (below_step (by repeat (first | (with_reducible first | exact HB.out | apply below_alloc | apply pw_below_drewN | apply below_drew1) | exact HB.out)) hb); clear HB; have HB := n0_; clear n0_; (try clear hb); (try clear hb2); (try clear hk); (try clear hi)))
      go_ret
      exact ⟨by first | rfl | (simp [errW_none, errW_some] <;> rfl) | (simp [*, errW_none, errW_some] <;> rfl), by repeat (first | (with_reducible first | exact HB.out | apply below_alloc | apply pw_below_drewN | apply below_drew1) | exact HB.out)⟩
    · replace c6 := Bool.eq_false_iff.mpr c6
      subst c6
      have H1 : (some 2) = some r := by rw [if_neg (show ¬ (false = true) by decide)] at H; exact H
      clear H
      have H := H1
      clear H1
      obtain rfl := Option.some.inj H
      go_enter Tryz.func20, Tryz.ntmps20
      go_wp2_with (first | ((with_reducible refine gate_callee (f := 57) rfl ?_); refine goesL_ (some 6) rfl rfl Tryz.func57 (by kernel_rfl) rfl #[.int .i64 a1] rfl (by (try simp only [List.map_toArray, List.map_cons, List.map_nil]); first | done | rfl | (simp only [List.length_drop, List.length_take]; rfl)) ?_; (with_reducible refine (understoryref12_size.calls a1 true _ A3.out).mono ?_); rintro e w' ⟨rfl, ⟨nd, rfl⟩⟩; refine ⟨_, rfl, ?_⟩) | ((with_reducible refine gate_callee (f := 58) rfl ?_); refine goesL_ (some 10) rfl rfl Tryz.func58 (by kernel_rfl) rfl #[.slice A0 l0.length c0, .int .i64 a1] rfl (by (try simp only [List.map_toArray, List.map_cons, List.map_nil]); first | done | rfl | (simp only [List.length_drop, List.length_take]; rfl)) ?_; (with_reducible refine (understoryref12_Is.calls k _ _ l0 a1 false _ ?side1 ?side2 A5.out).mono ?_); (case side1 => repeat (first | exact HR0.out | (with_reducible refine Kd.C_alloc ?_ _) | (with_reducible refine Kd.C_drewN ?_ _) | (with_reducible refine Kd.C_drew ?_))); (case side2 => exact HC0.out); rintro e w8 ⟨rfl, hb⟩; refine ⟨_, rfl, ?_⟩; have n0_ := Aside0.mk (below_step (by repeat (first | (with_reducible first | exact HB.out | apply below_alloc | apply pw_below_drewN | apply below_drew1) | exact HB.out)) hb); clear HB; have HB := n0_; clear n0_; (try clear hb); (try clear hb2); (try clear hk); (try clear hi)))
      go_ret
      exact ⟨by first | rfl | (simp [errW_none, errW_some] <;> rfl) | (simp [*, errW_none, errW_some] <;> rfl), by repeat (first | (with_reducible first | exact HB.out | apply below_alloc | apply pw_below_drewN | apply below_drew1) | exact HB.out)⟩
  · replace c4 := Bool.eq_false_iff.mpr c4
    subst c4
    have H1 : (some 1) = some r := by rw [if_neg (show ¬ (false = true) by decide)] at H; exact H
    clear H
    have H := H1
    clear H1
    obtain rfl := Option.some.inj H
    go_enter Tryz.func20, Tryz.ntmps20
    go_wp2_with (first | ((with_reducible refine gate_callee (f := 57) rfl ?_); refine goesL_ (some 6) rfl rfl Tryz.func57 (by kernel_rfl) rfl #[.int .i64 a1] rfl (by (try simp only [List.map_toArray, List.map_cons, List.map_nil]); first | done | rfl | (simp only [List.length_drop, List.length_take]; rfl)) ?_; (with_reducible refine (understoryref12_size.calls a1 false _ A3.out).mono ?_); rintro e w' ⟨rfl, ⟨nd, rfl⟩⟩; refine ⟨_, rfl, ?_⟩))
    go_ret
    exact ⟨by first | rfl | (simp [errW_none, errW_some] <;> rfl) | (simp [*, errW_none, errW_some] <;> rfl), by repeat (first | (with_reducible first | exact HB.out | apply below_alloc | apply pw_below_drewN | apply below_drew1) | exact HB.out)⟩

end Go.Proofs.YtpnhelcemodnmaaGreat.PA

/- The reference's Check answers as Check. -/
namespace Go.Proofs.YtpnhelcemodnmaaGreat
open Go.RowKit Go.Shelf Go.Proofs.YtpnhelcemodnmaaGreatW.PrintWords Go.Proofs.YtpnhelcemodnmaaGreatW.PrintLast Go.Proofs.YtpnhelcemodnmaaGreatW.PrintMore PA
set_option linter.unusedVariables false
set_option linter.unusedSimpArgs false
theorem size_some (p : Int) : understoryref12_size.f p = some (decide (2 ≤ p ∧ p ≤ 4096)) := by
  unfold understoryref12_size.f
  by_cases h : 2 ≤ p <;> by_cases h2 : p ≤ 4096 <;> simp [h, h2] <;> omega
theorem refCheck_some (l : List S64) (p : Int) (hs : smallL l) : ∃ K, understoryref12_Check.f K l p = some (checkE p l) := by
  by_cases h : 2 ≤ p ∧ p ≤ 4096
  · obtain ⟨K, hK⟩ := is_some l p (by omega) (by omega) hs
    refine ⟨K, ?_⟩
    unfold understoryref12_Check.f checkE
    rw [size_some, hK, is_valid l p h, if_pos h]
    simp only [Option.bind_some]
    rw [if_pos (by simpa using h)]
    split <;> rfl
  · refine ⟨0, ?_⟩
    unfold understoryref12_Check.f checkE
    rw [size_some, if_neg h]
    simp only [Option.bind_some]
    rw [if_neg (by simpa using h)]
theorem refCheck_any (l : List S64) (p : Int) (A : Option Addr) (c : Nat) (w : World) (hC : k64.C w A l.length l) (hc : l.length ≤ c) (hs : smallL l) :
    Calls Tryz.prog 20 #[.slice A l.length c, .int .i64 p] w fun e w' => e = .returned (.int .i64 (checkE p l)) ∧ Below w.heap.size w w' := by
  obtain ⟨K, hK⟩ := refCheck_some l p hs
  exact understoryref12_Check.calls K A c l p _ w hC hc hK
end Go.Proofs.YtpnhelcemodnmaaGreat

-- PRINTED by print.py (a twelfth state) out of the translation. Not trusted: Lean checks it.
namespace Go.Proofs.YtpnhelcemodnmaaGreat.PA
open Go.RowKit Go.Proofs.YtpnhelcemodnmaaGreatW.PrintWords Go.Proofs.YtpnhelcemodnmaaGreatW.PrintLast Go.Proofs.YtpnhelcemodnmaaGreatW.PrintMore
attribute [local go_sem] max2_int min2_int max_two min_two max_three min_three max_four min_four   -- for this text's walks alone
set_option linter.unusedVariables false
set_option linter.unusedSimpArgs false

-- NOT PRINTED: function 157 (slices_partitionOrdered_int)

-- NOT PRINTED: function 113 (slices_pdqsortOrdered_int)

-- NOT PRINTED: function 73 (slices_Sort_int_int)

-- NOT PRINTED: function 141 (slices_Compact_int_int)

-- NOT PRINTED: function 140 (slices_IndexFunc_int_int)

-- NOT PRINTED: function 142 (slices_ContainsFunc_int_int)

-- NOT PRINTED: function 100 (page_numbers)

-- NOT PRINTED: function 101 (page_chained)

-- NOT PRINTED: function 55 (page_ListPages)

-- NOT PRINTED: function 171 (api_Freed_171)

-- NOT PRINTED: function 144 (api_Freed_144)

-- NOT PRINTED: function 102 (api_Freed_102)

-- NOT PRINTED: function 56 (space_together)

-- NOT PRINTED: function 15 (space_End)

/-! ### understoryref04_SameInts: function 31 -/
def understoryref04_SameInts.l0 : Nat → List Int → List Int → Int → Option (Bool)
  | 0, _, _, _ => none
  | k + 1, x0, x1, x5 => if x5 < (x0.length : Int) then (if 0 ≤ x5 then (if x5 < (x1.length : Int) then (if (rd x0 x5) = (rd x1 x5) then (understoryref04_SameInts.l0 k x0 x1 (wrap64 (x5 + 1))) else (some false)) else (none)) else (none)) else (some true)
def understoryref04_SameInts.f (k : Nat) (l0 : List Int) (l1 : List Int) : Option (Bool) := if (l0.length : Int) = (l1.length : Int) then (understoryref04_SameInts.l0 k l0 l1 0) else (some false)
theorem understoryref04_SameInts.mono_l : ∀ k, (∀ y0 y1 y2, LeO (understoryref04_SameInts.l0 k y0 y1 y2) (understoryref04_SameInts.l0 (k + 1) y0 y1 y2))
  | 0 => fun _ _ _ r h => by simp [understoryref04_SameInts.l0] at h
  | k + 1 => by
    have ih0 := understoryref04_SameInts.mono_l k
    · intro y0 y1 y2
      unfold understoryref04_SameInts.l0
      repeat' first
      | (with_reducible exact ih0 _ _ _)
      | (with_reducible exact LeO.refl _)
      | (with_reducible exact LeO.none _)
      | (with_reducible refine LeO.ite ?_ ?_)
      | (with_reducible refine LeO.bind ?_ (fun _ => ?_))
      | exact ih0 _ _ _
      | exact LeO.none _
      | refine LeO.ite ?_ ?_
      | refine LeO.bind ?_ (fun _ => ?_)
theorem understoryref04_SameInts.mono : ∀ a0 a1 k, LeO (understoryref04_SameInts.f k a0 a1) (understoryref04_SameInts.f (k + 1) a0 a1) := by
  intro a0 a1 k
  have ih0 := understoryref04_SameInts.mono_l k
  unfold understoryref04_SameInts.f
  repeat' first
      | (with_reducible exact ih0 _ _ _)
      | (with_reducible exact LeO.refl _)
      | (with_reducible exact LeO.none _)
      | (with_reducible refine LeO.ite ?_ ?_)
      | (with_reducible refine LeO.bind ?_ (fun _ => ?_))
      | exact ih0 _ _ _
      | exact LeO.none _
      | refine LeO.ite ?_ ?_
      | refine LeO.bind ?_ (fun _ => ?_)
set_option maxHeartbeats 8000000 in
set_option maxRecDepth 100000 in
theorem understoryref04_SameInts.calls (k : Nat) (A0 : Option Addr) (c0 : Nat) (l0 : List Int) (A1 : Option Addr) (c1 : Nat) (l1 : List Int) (r : Bool) (w : World) (hr0 : Kd.C (Kd.int .i64) w A0 l0.length l0) (hc0 : l0.length ≤ c0) (hr1 : Kd.C (Kd.int .i64) w A1 l1.length l1) (hc1 : l1.length ≤ c1) (h : understoryref04_SameInts.f k l0 l1 = some r) :
    Calls Tryz.prog 31 #[.slice A0 l0.length c0, .slice A1 l1.length c1] w fun e w' => e = .returned (.bool r) ∧ Drawn0 w w' := by
  have HR0 := Aside0.mk hr0
  have HC0 := Aside0.mk hc0
  clear hr0 hc0
  have HR1 := Aside0.mk hr1
  have HC1 := Aside0.mk hc1
  clear hr1 hc1
  have H : (if (l0.length : Int) = (l1.length : Int) then (understoryref04_SameInts.l0 k l0 l1 0) else (some false)) = some r := h
  clear h
  by_cases c3 : (l0.length : Int) = (l1.length : Int)
  · rw [if_pos c3] at H
    have c3b0 : ((l0.length : Int) == (l1.length : Int)) = true := beq_iff_eq.mpr c3
    have c3b1 : ((l0.length : Int) != (l1.length : Int)) = false := bne_eq_false_iff_eq.mpr c3
    have c3b2 : (l0.length == l1.length) = true := by first | simpa using c3 | (simp at c3 ⊢; omega)
    clear c3
    have H' := Aside0.mk H
    clear H
    go_enter Tryz.func31, Tryz.ntmps31
    go_wp2
    repeat (go_quiet (fail); try go_wp2)
    go_loopg [5] k (fun kq v5 w' => ∃ (x5_1 : Int), v5 = .int .i64 x5_1 ∧ Aside0 (understoryref04_SameInts.l0 kq l0 l1 x5_1 = some r) ∧ Aside0 (kq ≤ k) ∧ Drawn0 w w')
    case atStart => exact ⟨(0), (by first | rfl | (simp; done) | (simp [*]; done)), H', ⟨Nat.le_refl _⟩, by repeat (first | exact Drawn0.refl _ | apply Drawn0.step)⟩
    case round =>
      clear H'
      try clear c1
      try clear p2
      try clear c3
      try clear c3b0
      try clear c3b1
      try clear c3b2
      obtain ⟨x5_1, rfl, HA, HK1, ⟨m1, rfl⟩⟩ := hrel
      cases gk with
      | zero => exact absurd HA.out (by simp [understoryref04_SameInts.l0])
      | succ k1 =>
        have H := HA.out
        clear HA
        simp only [understoryref04_SameInts.l0] at H
        by_cases c4 : x5_1 < (l0.length : Int)
        · rw [if_pos c4] at H
          have c4b0 : decide (x5_1 < (l0.length : Int)) = true := decide_eq_true c4
          clear c4
          by_cases c5 : 0 ≤ x5_1
          · rw [if_pos c5] at H
            have c5b0 : decide (0 ≤ x5_1) = true := decide_eq_true c5
            clear c5
            by_cases c6 : x5_1 < (l1.length : Int)
            · rw [if_pos c6] at H
              have c6b0 : decide (x5_1 < (l1.length : Int)) = true := decide_eq_true c6
              clear c6
              by_cases c7 : (rd l0 x5_1) = (rd l1 x5_1)
              · rw [if_pos c7] at H
                have c7b0 : ((rd l0 x5_1) == (rd l1 x5_1)) = true := beq_iff_eq.mpr c7
                have c7b1 : ((rd l0 x5_1) != (rd l1 x5_1)) = false := bne_eq_false_iff_eq.mpr c7
                clear c7
                have H' := Aside0.mk H
                clear H
                have p262 : 0 ≤ (x5_1 : Int) := of_decide_eq_true (by first | (with_reducible assumption) | assumption)
                have q262 : x5_1 < (l0.length : Int) := of_decide_eq_true (by first | (with_reducible assumption) | assumption)
                obtain ⟨ad262, e262, hx262_0⟩ := Kd.at_int HR0.out x5_1 p262 q262
                cases e262
                replace p262 := eq_true p262
                replace q262 := eq_true q262
                have p263 : 0 ≤ (x5_1 : Int) := of_decide_eq_true (by first | (with_reducible assumption) | assumption)
                have q263 : x5_1 < (l1.length : Int) := of_decide_eq_true (by first | (with_reducible assumption) | assumption)
                obtain ⟨ad263, e263, hx263_0⟩ := Kd.at_int HR1.out x5_1 p263 q263
                cases e263
                replace p263 := eq_true p263
                replace q263 := eq_true q263
                go_wp2
                repeat (go_quiet (fail); try go_wp2)
                go_roundg k1
                case measure => have := HK1.out; omega
                case rel => exact ⟨(wrap64 (x5_1 + 1)), (by first | rfl | (simp; done) | (simp [*]; done)), H', ⟨by have := HK1.out; omega⟩, by repeat (first | exact Drawn0.refl _ | apply Drawn0.step)⟩
              · rw [if_neg c7] at H
                have c7b0 : ((rd l0 x5_1) == (rd l1 x5_1)) = false := beq_eq_false_iff_ne.mpr c7
                have c7b1 : ((rd l0 x5_1) != (rd l1 x5_1)) = true := bne_iff_ne.mpr c7
                obtain rfl := Option.some.inj H
                have p262 : 0 ≤ (x5_1 : Int) := of_decide_eq_true (by first | (with_reducible assumption) | assumption)
                have q262 : x5_1 < (l0.length : Int) := of_decide_eq_true (by first | (with_reducible assumption) | assumption)
                obtain ⟨ad262, e262, hx262_0⟩ := Kd.at_int HR0.out x5_1 p262 q262
                cases e262
                replace p262 := eq_true p262
                replace q262 := eq_true q262
                have p263 : 0 ≤ (x5_1 : Int) := of_decide_eq_true (by first | (with_reducible assumption) | assumption)
                have q263 : x5_1 < (l1.length : Int) := of_decide_eq_true (by first | (with_reducible assumption) | assumption)
                obtain ⟨ad263, e263, hx263_0⟩ := Kd.at_int HR1.out x5_1 p263 q263
                cases e263
                replace p263 := eq_true p263
                replace q263 := eq_true q263
                go_wp2
                repeat (go_quiet (fail); try go_wp2)
                go_ret
                exact ⟨by first | rfl | (simp; done) | (simp [*]; done), by repeat (first | exact Drawn0.refl _ | apply Drawn0.step)⟩
            · rw [if_neg c6] at H
              exact absurd H (by simp)
          · rw [if_neg c5] at H
            exact absurd H (by simp)
        · rw [if_neg c4] at H
          have c4b0 : decide (x5_1 < (l0.length : Int)) = false := decide_eq_false c4
          clear c4
          obtain rfl := Option.some.inj H
          go_wp2
          repeat (go_quiet (fail); try go_wp2)
          go_ret
          exact ⟨by first | rfl | (simp; done) | (simp [*]; done), by repeat (first | exact Drawn0.refl _ | apply Drawn0.step)⟩
  · rw [if_neg c3] at H
    have c3b0 : ((l0.length : Int) == (l1.length : Int)) = false := beq_eq_false_iff_ne.mpr c3
    have c3b1 : ((l0.length : Int) != (l1.length : Int)) = true := bne_iff_ne.mpr c3
    have c3b2 : (l0.length == l1.length) = false := by first | simpa using c3 | (simp at c3 ⊢; omega)
    obtain rfl := Option.some.inj H
    go_enter Tryz.func31, Tryz.ntmps31
    go_wp2
    repeat (go_quiet (fail); try go_wp2)
    go_ret
    exact ⟨by first | rfl | (simp; done) | (simp [*]; done), by repeat (first | exact Drawn0.refl _ | apply Drawn0.step)⟩

/-! ### understoryref04_SameFreed: function 18 -/
def understoryref04_SameFreed.l0 : Nat → List (S64) → List (S64) → Int → Option (Bool)
  | 0, _, _, _ => none
  | k + 1, x0, x1, x5 => if x5 < (x0.length : Int) then (if 0 ≤ x5 then (if x5 < (x1.length : Int) then (if ((rd_T64 x0 x5).f0) = ((rd_T64 x1 x5).f0) then ((understoryref04_SameInts.f k ((rd_T64 x0 x5).f1) ((rd_T64 x1 x5).f1)).bind fun t268 => (if t268 = true then (understoryref04_SameFreed.l0 k x0 x1 (wrap64 (x5 + 1))) else (some false))) else (some false)) else (none)) else (none)) else (some true)
def understoryref04_SameFreed.f (k : Nat) (l0 : List (S64)) (l1 : List (S64)) : Option (Bool) := if (l0.length : Int) = (l1.length : Int) then (understoryref04_SameFreed.l0 k l0 l1 0) else (some false)
theorem understoryref04_SameFreed.mono_l : ∀ k, (∀ y0 y1 y2, LeO (understoryref04_SameFreed.l0 k y0 y1 y2) (understoryref04_SameFreed.l0 (k + 1) y0 y1 y2))
  | 0 => fun _ _ _ r h => by simp [understoryref04_SameFreed.l0] at h
  | k + 1 => by
    have ih0 := understoryref04_SameFreed.mono_l k
    · intro y0 y1 y2
      unfold understoryref04_SameFreed.l0
      repeat' first
      | (with_reducible exact ih0 _ _ _)
      | (with_reducible exact understoryref04_SameInts.mono _ _ _)
      | (with_reducible exact LeO.refl _)
      | (with_reducible exact LeO.none _)
      | (with_reducible refine LeO.ite ?_ ?_)
      | (with_reducible refine LeO.bind ?_ (fun _ => ?_))
      | exact ih0 _ _ _
      | exact understoryref04_SameInts.mono _ _ _
      | exact LeO.none _
      | refine LeO.ite ?_ ?_
      | refine LeO.bind ?_ (fun _ => ?_)
theorem understoryref04_SameFreed.mono : ∀ a0 a1 k, LeO (understoryref04_SameFreed.f k a0 a1) (understoryref04_SameFreed.f (k + 1) a0 a1) := by
  intro a0 a1 k
  have ih0 := understoryref04_SameFreed.mono_l k
  unfold understoryref04_SameFreed.f
  repeat' first
      | (with_reducible exact ih0 _ _ _)
      | (with_reducible exact understoryref04_SameInts.mono _ _ _)
      | (with_reducible exact LeO.refl _)
      | (with_reducible exact LeO.none _)
      | (with_reducible refine LeO.ite ?_ ?_)
      | (with_reducible refine LeO.bind ?_ (fun _ => ?_))
      | exact ih0 _ _ _
      | exact understoryref04_SameInts.mono _ _ _
      | exact LeO.none _
      | refine LeO.ite ?_ ?_
      | refine LeO.bind ?_ (fun _ => ?_)
set_option maxHeartbeats 8000000 in
set_option maxRecDepth 100000 in
theorem understoryref04_SameFreed.calls (k : Nat) (A0 : Option Addr) (c0 : Nat) (l0 : List (S64)) (A1 : Option Addr) (c1 : Nat) (l1 : List (S64)) (r : Bool) (w : World) (hr0 : Kd.C k64 w A0 l0.length l0) (hc0 : l0.length ≤ c0) (hr1 : Kd.C k64 w A1 l1.length l1) (hc1 : l1.length ≤ c1) (h : understoryref04_SameFreed.f k l0 l1 = some r) :
    Calls Tryz.prog 18 #[.slice A0 l0.length c0, .slice A1 l1.length c1] w fun e w' => e = .returned (.bool r) ∧ Drawn0 w w' := by
  have HR0 := Aside0.mk hr0
  have HC0 := Aside0.mk hc0
  clear hr0 hc0
  have HR1 := Aside0.mk hr1
  have HC1 := Aside0.mk hc1
  clear hr1 hc1
  have H : (if (l0.length : Int) = (l1.length : Int) then (understoryref04_SameFreed.l0 k l0 l1 0) else (some false)) = some r := h
  clear h
  by_cases c3 : (l0.length : Int) = (l1.length : Int)
  · rw [if_pos c3] at H
    have c3b0 : ((l0.length : Int) == (l1.length : Int)) = true := beq_iff_eq.mpr c3
    have c3b1 : ((l0.length : Int) != (l1.length : Int)) = false := bne_eq_false_iff_eq.mpr c3
    have c3b2 : (l0.length == l1.length) = true := by first | simpa using c3 | (simp at c3 ⊢; omega)
    clear c3
    have H' := Aside0.mk H
    clear H
    go_enter Tryz.func18, Tryz.ntmps18
    go_wp2
    repeat (go_quiet (fail); try go_wp2)
    go_loopg [5] k (fun kq v5 w' => ∃ (x5_1 : Int), v5 = .int .i64 x5_1 ∧ Aside0 (understoryref04_SameFreed.l0 kq l0 l1 x5_1 = some r) ∧ Aside0 (kq ≤ k) ∧ Drawn0 w w')
    case atStart => exact ⟨(0), (by first | rfl | (simp; done) | (simp [*]; done)), H', ⟨Nat.le_refl _⟩, by repeat (first | exact Drawn0.refl _ | apply Drawn0.step)⟩
    case round =>
      clear H'
      try clear c1
      try clear p2
      try clear c3
      try clear c3b0
      try clear c3b1
      try clear c3b2
      obtain ⟨x5_1, rfl, HA, HK1, ⟨m1, rfl⟩⟩ := hrel
      cases gk with
      | zero => exact absurd HA.out (by simp [understoryref04_SameFreed.l0])
      | succ k1 =>
        have H := HA.out
        clear HA
        simp only [understoryref04_SameFreed.l0] at H
        by_cases c4 : x5_1 < (l0.length : Int)
        · rw [if_pos c4] at H
          have c4b0 : decide (x5_1 < (l0.length : Int)) = true := decide_eq_true c4
          clear c4
          by_cases c5 : 0 ≤ x5_1
          · rw [if_pos c5] at H
            have c5b0 : decide (0 ≤ x5_1) = true := decide_eq_true c5
            clear c5
            by_cases c6 : x5_1 < (l1.length : Int)
            · rw [if_pos c6] at H
              have c6b0 : decide (x5_1 < (l1.length : Int)) = true := decide_eq_true c6
              clear c6
              by_cases c7 : ((rd_T64 l0 x5_1).f0) = ((rd_T64 l1 x5_1).f0)
              · rw [if_pos c7] at H
                have c7b0 : (((rd_T64 l0 x5_1).f0) == ((rd_T64 l1 x5_1).f0)) = true := beq_iff_eq.mpr c7
                have c7b1 : (((rd_T64 l0 x5_1).f0) != ((rd_T64 l1 x5_1).f0)) = false := bne_eq_false_iff_eq.mpr c7
                clear c7
                replace H := Option.bind_eq_some_iff.mp H
                obtain ⟨t268, A80, H⟩ := H
                replace H : (if t268 = true then (understoryref04_SameFreed.l0 k1 l0 l1 (wrap64 (x5_1 + 1))) else (some false)) = some r := H
                have A8 := Aside0.mk A80
                clear A80
                by_cases c9 : t268 = true
                · subst c9
                  have H1 : (understoryref04_SameFreed.l0 k1 l0 l1 (wrap64 (x5_1 + 1))) = some r := by rw [if_pos rfl] at H; exact H
                  clear H
                  have H := H1
                  clear H1
                  have H' := Aside0.mk H
                  clear H
                  have p264 : 0 ≤ (x5_1 : Int) := of_decide_eq_true (by first | (with_reducible assumption) | assumption)
                  have q264 : x5_1 < (l0.length : Int) := of_decide_eq_true (by first | (with_reducible assumption) | assumption)
                  obtain ⟨ad264, A264_1, c264_1, e264, hx264_0, hx264_1, hl264_1, hi264_1⟩ := at_T64 HR0.out x5_1 p264 q264
                  cases e264
                  have HR264_1 := Aside0.mk hi264_1
                  have HC264_1 := Aside0.mk hl264_1
                  clear hi264_1 hl264_1
                  replace p264 := eq_true p264
                  replace q264 := eq_true q264
                  have p265 : 0 ≤ (x5_1 : Int) := of_decide_eq_true (by first | (with_reducible assumption) | assumption)
                  have q265 : x5_1 < (l1.length : Int) := of_decide_eq_true (by first | (with_reducible assumption) | assumption)
                  obtain ⟨ad265, A265_1, c265_1, e265, hx265_0, hx265_1, hl265_1, hi265_1⟩ := at_T64 HR1.out x5_1 p265 q265
                  cases e265
                  have HR265_1 := Aside0.mk hi265_1
                  have HC265_1 := Aside0.mk hl265_1
                  clear hi265_1 hl265_1
                  replace p265 := eq_true p265
                  replace q265 := eq_true q265
                  have p266 : 0 ≤ (x5_1 : Int) := of_decide_eq_true (by first | (with_reducible assumption) | assumption)
                  have q266 : x5_1 < (l0.length : Int) := of_decide_eq_true (by first | (with_reducible assumption) | assumption)
                  obtain ⟨ad266, A266_1, c266_1, e266, hx266_0, hx266_1, hl266_1, hi266_1⟩ := at_T64 HR0.out x5_1 p266 q266
                  obtain rfl : ad264 = ad266 := (by injection e266)
                  have HR266_1 := Aside0.mk hi266_1
                  have HC266_1 := Aside0.mk hl266_1
                  clear hi266_1 hl266_1
                  replace p266 := eq_true p266
                  replace q266 := eq_true q266
                  have ea_ := Option.some.inj (hx264_1.symm.trans hx266_1)
                  injection ea_ with ea_ en_ ec_
                  subst ea_
                  subst ec_
                  clear en_
                  have p267 : 0 ≤ (x5_1 : Int) := of_decide_eq_true (by first | (with_reducible assumption) | assumption)
                  have q267 : x5_1 < (l1.length : Int) := of_decide_eq_true (by first | (with_reducible assumption) | assumption)
                  obtain ⟨ad267, A267_1, c267_1, e267, hx267_0, hx267_1, hl267_1, hi267_1⟩ := at_T64 HR1.out x5_1 p267 q267
                  obtain rfl : ad265 = ad267 := (by injection e267)
                  have HR267_1 := Aside0.mk hi267_1
                  have HC267_1 := Aside0.mk hl267_1
                  clear hi267_1 hl267_1
                  replace p267 := eq_true p267
                  replace q267 := eq_true q267
                  have ea_ := Option.some.inj (hx265_1.symm.trans hx267_1)
                  injection ea_ with ea_ en_ ec_
                  subst ea_
                  subst ec_
                  clear en_
                  go_wp2_with (first | (go_at_call 31; (with_reducible refine (understoryref04_SameInts.calls k1 _ _ ((rd_T64 l0 x5_1).f1) _ _ ((rd_T64 l1 x5_1).f1) true _ ?side1 ?side2 ?side3 ?side4 A8.out).mono ?_); (case side1 => repeat (first | exact HR266_1.out | (with_reducible refine Kd.C_alloc ?_ _) | (with_reducible refine Kd.C_drewN ?_ _) | (with_reducible refine Kd.C_drew ?_))); (case side2 => exact HC266_1.out); (case side3 => repeat (first | exact HR267_1.out | (with_reducible refine Kd.C_alloc ?_ _) | (with_reducible refine Kd.C_drewN ?_ _) | (with_reducible refine Kd.C_drew ?_))); (case side4 => exact HC267_1.out); rintro e w' ⟨rfl, ⟨nd, rfl⟩⟩; (try first | exact ⟨rfl, _, World.drewN_drewN _ _ _⟩ | exact ⟨rfl, _, Eq.trans (World.drewN_drewN _ _ _) (congrArg (World.drewN _) (Nat.add_assoc _ _ _))⟩)))
                  repeat (go_quiet (first | (go_at_call 31; (with_reducible refine (understoryref04_SameInts.calls k1 _ _ ((rd_T64 l0 x5_1).f1) _ _ ((rd_T64 l1 x5_1).f1) true _ ?side1 ?side2 ?side3 ?side4 A8.out).mono ?_); (case side1 => repeat (first | exact HR266_1.out | (with_reducible refine Kd.C_alloc ?_ _) | (with_reducible refine Kd.C_drewN ?_ _) | (with_reducible refine Kd.C_drew ?_))); (case side2 => exact HC266_1.out); (case side3 => repeat (first | exact HR267_1.out | (with_reducible refine Kd.C_alloc ?_ _) | (with_reducible refine Kd.C_drewN ?_ _) | (with_reducible refine Kd.C_drew ?_))); (case side4 => exact HC267_1.out); rintro e w' ⟨rfl, ⟨nd, rfl⟩⟩; (try first | exact ⟨rfl, _, World.drewN_drewN _ _ _⟩ | exact ⟨rfl, _, Eq.trans (World.drewN_drewN _ _ _) (congrArg (World.drewN _) (Nat.add_assoc _ _ _))⟩))); try go_wp2_with (first | (go_at_call 31; (with_reducible refine (understoryref04_SameInts.calls k1 _ _ ((rd_T64 l0 x5_1).f1) _ _ ((rd_T64 l1 x5_1).f1) true _ ?side1 ?side2 ?side3 ?side4 A8.out).mono ?_); (case side1 => repeat (first | exact HR266_1.out | (with_reducible refine Kd.C_alloc ?_ _) | (with_reducible refine Kd.C_drewN ?_ _) | (with_reducible refine Kd.C_drew ?_))); (case side2 => exact HC266_1.out); (case side3 => repeat (first | exact HR267_1.out | (with_reducible refine Kd.C_alloc ?_ _) | (with_reducible refine Kd.C_drewN ?_ _) | (with_reducible refine Kd.C_drew ?_))); (case side4 => exact HC267_1.out); rintro e w' ⟨rfl, ⟨nd, rfl⟩⟩; (try first | exact ⟨rfl, _, World.drewN_drewN _ _ _⟩ | exact ⟨rfl, _, Eq.trans (World.drewN_drewN _ _ _) (congrArg (World.drewN _) (Nat.add_assoc _ _ _))⟩))))
                  go_roundg k1
                  case measure => have := HK1.out; omega
                  case rel => exact ⟨(wrap64 (x5_1 + 1)), (by first | rfl | (simp; done) | (simp [*]; done)), H', ⟨by have := HK1.out; omega⟩, by repeat (first | exact Drawn0.refl _ | apply Drawn0.step)⟩
                · replace c9 := Bool.eq_false_iff.mpr c9
                  subst c9
                  have H1 : (some false) = some r := by rw [if_neg (show ¬ (false = true) by decide)] at H; exact H
                  clear H
                  have H := H1
                  clear H1
                  obtain rfl := Option.some.inj H
                  have p264 : 0 ≤ (x5_1 : Int) := of_decide_eq_true (by first | (with_reducible assumption) | assumption)
                  have q264 : x5_1 < (l0.length : Int) := of_decide_eq_true (by first | (with_reducible assumption) | assumption)
                  obtain ⟨ad264, A264_1, c264_1, e264, hx264_0, hx264_1, hl264_1, hi264_1⟩ := at_T64 HR0.out x5_1 p264 q264
                  cases e264
                  have HR264_1 := Aside0.mk hi264_1
                  have HC264_1 := Aside0.mk hl264_1
                  clear hi264_1 hl264_1
                  replace p264 := eq_true p264
                  replace q264 := eq_true q264
                  have p265 : 0 ≤ (x5_1 : Int) := of_decide_eq_true (by first | (with_reducible assumption) | assumption)
                  have q265 : x5_1 < (l1.length : Int) := of_decide_eq_true (by first | (with_reducible assumption) | assumption)
                  obtain ⟨ad265, A265_1, c265_1, e265, hx265_0, hx265_1, hl265_1, hi265_1⟩ := at_T64 HR1.out x5_1 p265 q265
                  cases e265
                  have HR265_1 := Aside0.mk hi265_1
                  have HC265_1 := Aside0.mk hl265_1
                  clear hi265_1 hl265_1
                  replace p265 := eq_true p265
                  replace q265 := eq_true q265
                  have p266 : 0 ≤ (x5_1 : Int) := of_decide_eq_true (by first | (with_reducible assumption) | assumption)
                  have q266 : x5_1 < (l0.length : Int) := of_decide_eq_true (by first | (with_reducible assumption) | assumption)
                  obtain ⟨ad266, A266_1, c266_1, e266, hx266_0, hx266_1, hl266_1, hi266_1⟩ := at_T64 HR0.out x5_1 p266 q266
                  obtain rfl : ad264 = ad266 := (by injection e266)
                  have HR266_1 := Aside0.mk hi266_1
                  have HC266_1 := Aside0.mk hl266_1
                  clear hi266_1 hl266_1
                  replace p266 := eq_true p266
                  replace q266 := eq_true q266
                  have ea_ := Option.some.inj (hx264_1.symm.trans hx266_1)
                  injection ea_ with ea_ en_ ec_
                  subst ea_
                  subst ec_
                  clear en_
                  have p267 : 0 ≤ (x5_1 : Int) := of_decide_eq_true (by first | (with_reducible assumption) | assumption)
                  have q267 : x5_1 < (l1.length : Int) := of_decide_eq_true (by first | (with_reducible assumption) | assumption)
                  obtain ⟨ad267, A267_1, c267_1, e267, hx267_0, hx267_1, hl267_1, hi267_1⟩ := at_T64 HR1.out x5_1 p267 q267
                  obtain rfl : ad265 = ad267 := (by injection e267)
                  have HR267_1 := Aside0.mk hi267_1
                  have HC267_1 := Aside0.mk hl267_1
                  clear hi267_1 hl267_1
                  replace p267 := eq_true p267
                  replace q267 := eq_true q267
                  have ea_ := Option.some.inj (hx265_1.symm.trans hx267_1)
                  injection ea_ with ea_ en_ ec_
                  subst ea_
                  subst ec_
                  clear en_
                  go_wp2_with (first | (go_at_call 31; (with_reducible refine (understoryref04_SameInts.calls k1 _ _ ((rd_T64 l0 x5_1).f1) _ _ ((rd_T64 l1 x5_1).f1) false _ ?side1 ?side2 ?side3 ?side4 A8.out).mono ?_); (case side1 => repeat (first | exact HR266_1.out | (with_reducible refine Kd.C_alloc ?_ _) | (with_reducible refine Kd.C_drewN ?_ _) | (with_reducible refine Kd.C_drew ?_))); (case side2 => exact HC266_1.out); (case side3 => repeat (first | exact HR267_1.out | (with_reducible refine Kd.C_alloc ?_ _) | (with_reducible refine Kd.C_drewN ?_ _) | (with_reducible refine Kd.C_drew ?_))); (case side4 => exact HC267_1.out); rintro e w' ⟨rfl, ⟨nd, rfl⟩⟩; (try first | exact ⟨rfl, _, World.drewN_drewN _ _ _⟩ | exact ⟨rfl, _, Eq.trans (World.drewN_drewN _ _ _) (congrArg (World.drewN _) (Nat.add_assoc _ _ _))⟩)))
                  repeat (go_quiet (first | (go_at_call 31; (with_reducible refine (understoryref04_SameInts.calls k1 _ _ ((rd_T64 l0 x5_1).f1) _ _ ((rd_T64 l1 x5_1).f1) false _ ?side1 ?side2 ?side3 ?side4 A8.out).mono ?_); (case side1 => repeat (first | exact HR266_1.out | (with_reducible refine Kd.C_alloc ?_ _) | (with_reducible refine Kd.C_drewN ?_ _) | (with_reducible refine Kd.C_drew ?_))); (case side2 => exact HC266_1.out); (case side3 => repeat (first | exact HR267_1.out | (with_reducible refine Kd.C_alloc ?_ _) | (with_reducible refine Kd.C_drewN ?_ _) | (with_reducible refine Kd.C_drew ?_))); (case side4 => exact HC267_1.out); rintro e w' ⟨rfl, ⟨nd, rfl⟩⟩; (try first | exact ⟨rfl, _, World.drewN_drewN _ _ _⟩ | exact ⟨rfl, _, Eq.trans (World.drewN_drewN _ _ _) (congrArg (World.drewN _) (Nat.add_assoc _ _ _))⟩))); try go_wp2_with (first | (go_at_call 31; (with_reducible refine (understoryref04_SameInts.calls k1 _ _ ((rd_T64 l0 x5_1).f1) _ _ ((rd_T64 l1 x5_1).f1) false _ ?side1 ?side2 ?side3 ?side4 A8.out).mono ?_); (case side1 => repeat (first | exact HR266_1.out | (with_reducible refine Kd.C_alloc ?_ _) | (with_reducible refine Kd.C_drewN ?_ _) | (with_reducible refine Kd.C_drew ?_))); (case side2 => exact HC266_1.out); (case side3 => repeat (first | exact HR267_1.out | (with_reducible refine Kd.C_alloc ?_ _) | (with_reducible refine Kd.C_drewN ?_ _) | (with_reducible refine Kd.C_drew ?_))); (case side4 => exact HC267_1.out); rintro e w' ⟨rfl, ⟨nd, rfl⟩⟩; (try first | exact ⟨rfl, _, World.drewN_drewN _ _ _⟩ | exact ⟨rfl, _, Eq.trans (World.drewN_drewN _ _ _) (congrArg (World.drewN _) (Nat.add_assoc _ _ _))⟩))))
                  go_ret
                  exact ⟨by first | rfl | (simp; done) | (simp [*]; done), by repeat (first | exact Drawn0.refl _ | apply Drawn0.step)⟩
              · rw [if_neg c7] at H
                have c7b0 : (((rd_T64 l0 x5_1).f0) == ((rd_T64 l1 x5_1).f0)) = false := beq_eq_false_iff_ne.mpr c7
                have c7b1 : (((rd_T64 l0 x5_1).f0) != ((rd_T64 l1 x5_1).f0)) = true := bne_iff_ne.mpr c7
                obtain rfl := Option.some.inj H
                have p264 : 0 ≤ (x5_1 : Int) := of_decide_eq_true (by first | (with_reducible assumption) | assumption)
                have q264 : x5_1 < (l0.length : Int) := of_decide_eq_true (by first | (with_reducible assumption) | assumption)
                obtain ⟨ad264, A264_1, c264_1, e264, hx264_0, hx264_1, hl264_1, hi264_1⟩ := at_T64 HR0.out x5_1 p264 q264
                cases e264
                have HR264_1 := Aside0.mk hi264_1
                have HC264_1 := Aside0.mk hl264_1
                clear hi264_1 hl264_1
                replace p264 := eq_true p264
                replace q264 := eq_true q264
                have p265 : 0 ≤ (x5_1 : Int) := of_decide_eq_true (by first | (with_reducible assumption) | assumption)
                have q265 : x5_1 < (l1.length : Int) := of_decide_eq_true (by first | (with_reducible assumption) | assumption)
                obtain ⟨ad265, A265_1, c265_1, e265, hx265_0, hx265_1, hl265_1, hi265_1⟩ := at_T64 HR1.out x5_1 p265 q265
                cases e265
                have HR265_1 := Aside0.mk hi265_1
                have HC265_1 := Aside0.mk hl265_1
                clear hi265_1 hl265_1
                replace p265 := eq_true p265
                replace q265 := eq_true q265
                go_wp2
                repeat (go_quiet (fail); try go_wp2)
                go_ret
                exact ⟨by first | rfl | (simp; done) | (simp [*]; done), by repeat (first | exact Drawn0.refl _ | apply Drawn0.step)⟩
            · rw [if_neg c6] at H
              exact absurd H (by simp)
          · rw [if_neg c5] at H
            exact absurd H (by simp)
        · rw [if_neg c4] at H
          have c4b0 : decide (x5_1 < (l0.length : Int)) = false := decide_eq_false c4
          clear c4
          obtain rfl := Option.some.inj H
          go_wp2
          repeat (go_quiet (fail); try go_wp2)
          go_ret
          exact ⟨by first | rfl | (simp; done) | (simp [*]; done), by repeat (first | exact Drawn0.refl _ | apply Drawn0.step)⟩
  · rw [if_neg c3] at H
    have c3b0 : ((l0.length : Int) == (l1.length : Int)) = false := beq_eq_false_iff_ne.mpr c3
    have c3b1 : ((l0.length : Int) != (l1.length : Int)) = true := bne_iff_ne.mpr c3
    have c3b2 : (l0.length == l1.length) = false := by first | simpa using c3 | (simp at c3 ⊢; omega)
    obtain rfl := Option.some.inj H
    go_enter Tryz.func18, Tryz.ntmps18
    go_wp2
    repeat (go_quiet (fail); try go_wp2)
    go_ret
    exact ⟨by first | rfl | (simp; done) | (simp [*]; done), by repeat (first | exact Drawn0.refl _ | apply Drawn0.step)⟩

-- NOT PRINTED: function 28 (space_Check)

-- NOT PRINTED: function 19 (space_Tail)

-- NOT PRINTED: function 22 (space_Account)

-- NOT PRINTED: function 69 (space_split)

-- NOT PRINTED: function 26 (space_Usable)

/-! ### space_CheckPins: function 137 -/
def space_CheckPins.l0 : Nat → List (S83) → List (S83) → Int → Int → Option (Int)
  | 0, _, _, _, _ => none
  | k + 1, x0, x5, x6, x7 => if x7 < x6 then (if 0 ≤ x7 then (if x7 < (x5.length : Int) then (if ((rd_T83 x5 x7).f0) < 1 then (some 2) else (if ((rd_T83 x5 x7).f1) < 1 then (some 2) else (if x7 > 0 then (if 0 ≤ (wrap64 (x7 - 1)) then (if (wrap64 (x7 - 1)) < (x0.length : Int) then (if ((rd_T83 x0 (wrap64 (x7 - 1))).f0) ≥ ((rd_T83 x5 x7).f0) then (some 2) else (space_CheckPins.l0 k x0 x5 x6 (wrap64 (x7 + 1)))) else (none)) else (none)) else (space_CheckPins.l0 k x0 x5 x6 (wrap64 (x7 + 1)))))) else (none)) else (none)) else (some 0)
def space_CheckPins.f (k : Nat) (l0 : List (S83)) : Option (Int) := space_CheckPins.l0 k l0 l0 (l0.length : Int) 0
theorem space_CheckPins.mono_l : ∀ k, (∀ y0 y1 y2 y3, LeO (space_CheckPins.l0 k y0 y1 y2 y3) (space_CheckPins.l0 (k + 1) y0 y1 y2 y3))
  | 0 => fun _ _ _ _ r h => by simp [space_CheckPins.l0] at h
  | k + 1 => by
    have ih0 := space_CheckPins.mono_l k
    · intro y0 y1 y2 y3
      unfold space_CheckPins.l0
      repeat' first
      | (with_reducible exact ih0 _ _ _ _)
      | (with_reducible exact LeO.refl _)
      | (with_reducible exact LeO.none _)
      | (with_reducible refine LeO.ite ?_ ?_)
      | (with_reducible refine LeO.bind ?_ (fun _ => ?_))
      | exact ih0 _ _ _ _
      | exact LeO.none _
      | refine LeO.ite ?_ ?_
      | refine LeO.bind ?_ (fun _ => ?_)
theorem space_CheckPins.mono : ∀ a0 k, LeO (space_CheckPins.f k a0) (space_CheckPins.f (k + 1) a0) := by
  intro a0 k
  have ih0 := space_CheckPins.mono_l k
  unfold space_CheckPins.f
  repeat' first
      | (with_reducible exact ih0 _ _ _ _)
      | (with_reducible exact LeO.refl _)
      | (with_reducible exact LeO.none _)
      | (with_reducible refine LeO.ite ?_ ?_)
      | (with_reducible refine LeO.bind ?_ (fun _ => ?_))
      | exact ih0 _ _ _ _
      | exact LeO.none _
      | refine LeO.ite ?_ ?_
      | refine LeO.bind ?_ (fun _ => ?_)
set_option maxHeartbeats 8000000 in
set_option maxRecDepth 100000 in
theorem space_CheckPins.calls (k : Nat) (A0 : Option Addr) (c0 : Nat) (l0 : List (S83)) (r : Int) (w : World) (hr0 : Kd.C k83 w A0 l0.length l0) (hc0 : l0.length ≤ c0) (h : space_CheckPins.f k l0 = some r) :
    Calls Tryz.prog 137 #[.slice A0 l0.length c0] w fun e w' => e = .returned (.int .i64 r) ∧ Below w.heap.size w w' := by
  have hu83 := Tryz.underlying83
  have HR0 := Aside0.mk hr0
  have HC0 := Aside0.mk hc0
  clear hr0 hc0
  have HB := Aside0.mk (Below.refl w.heap.size w)
  have H : (space_CheckPins.l0 k l0 l0 (l0.length : Int) 0) = some r := h
  clear h
  have H' := Aside0.mk H
  clear H
  go_enter Tryz.func137, Tryz.ntmps137
  go_wp2
  repeat (go_quiet (fail); try go_wp2)
  go_loopg [7] k (fun kq v7 w' => ∃ (x7_1 : Int), v7 = .int .i64 x7_1 ∧ Aside0 (space_CheckPins.l0 kq l0 l0 (l0.length : Int) x7_1 = some r) ∧ Aside0 (kq ≤ k) ∧ Aside0 (Below w.heap.size w w'))
  case atStart => exact ⟨(0), (by first | rfl | (simp; done) | (simp [*]; done)), H', ⟨Nat.le_refl _⟩, ⟨by repeat (first | (with_reducible first | exact HB.out | apply below_alloc | apply pw_below_drewN | apply below_drew1) | exact HB.out)⟩⟩
  case round =>
    clear H'
    try clear c1
    obtain ⟨x7_1, rfl, HA, HK1, HB⟩ := hrel
    cases gk with
    | zero => exact absurd HA.out (by simp [space_CheckPins.l0])
    | succ k1 =>
      have H := HA.out
      clear HA
      simp only [space_CheckPins.l0] at H
      by_cases c2 : x7_1 < (l0.length : Int)
      · rw [if_pos c2] at H
        have c2b0 : decide (x7_1 < (l0.length : Int)) = true := decide_eq_true c2
        clear c2
        by_cases c3 : 0 ≤ x7_1
        · rw [if_pos c3] at H
          have c3b0 : decide (0 ≤ x7_1) = true := decide_eq_true c3
          clear c3
          by_cases c4 : x7_1 < (l0.length : Int)
          · rw [if_pos c4] at H
            have c4b0 : decide (x7_1 < (l0.length : Int)) = true := decide_eq_true c4
            clear c4
            by_cases c5 : ((rd_T83 l0 x7_1).f0) < 1
            · rw [if_pos c5] at H
              have c5b0 : decide (((rd_T83 l0 x7_1).f0) < 1) = true := decide_eq_true c5
              clear c5
              obtain rfl := Option.some.inj H
              have p275 : 0 ≤ (x7_1 : Int) := of_decide_eq_true (by first | (with_reducible assumption) | assumption)
              have q275 : x7_1 < (l0.length : Int) := of_decide_eq_true (by first | (with_reducible assumption) | assumption)
              obtain ⟨ad275, e275, hx275_0, hx275_1⟩ := at_T83 HR0.out x7_1 p275 q275
              cases e275
              replace hx275_0 := (HB.out.cell (World.block_lt_of_cell? w _ hx275_0)).trans hx275_0
              replace hx275_1 := (HB.out.cell (World.block_lt_of_cell? w _ hx275_1)).trans hx275_1
              replace p275 := eq_true p275
              replace q275 := eq_true q275
              go_wp2_with (first | ((with_reducible refine gate_dst (N := 4) rfl ?_); refine box_event ?hg (N := 4) ?hd (cs := #[.int .i64 0, .int .i64 0]) (t := 83) ?hr ?_; (case hd => rfl); (case hg => rfl); (case hr => first | (go_simp; done) | (go_simp; rfl)); intro gb276 hg w6 hbox hb; have n0_ := Aside0.mk (below_step (by repeat (first | (with_reducible first | exact HB.out | apply below_alloc | apply pw_below_drewN | apply below_drew1) | exact HB.out)) hb); have n1_ := Aside0.mk (hbox); have n2_ := Aside0.mk ((by rw [hg]; exact (below_size (by repeat (first | (with_reducible first | exact HB.out | apply below_alloc | apply pw_below_drewN | apply below_drew1) | exact HB.out))) : w.heap.size ≤ gb276)); have n3_ := Aside0.mk ((by rw [hg]; exact (below_size (by repeat (first | (with_reducible first | exact HB.out | apply below_alloc | apply pw_below_drewN | apply below_drew1) | exact HB.out))) : w.heap.size ≤ gb276)); clear HB; have HB := n0_; have BK276 := n1_; have GW276 := n2_; have GE276 := n3_; clear n0_ n1_ n2_ n3_; clear hb hbox hg; have hcz7_0 : w6.cell? ⟨gb276, 0, none⟩ = some (.int .i64 0) := (blk_cell BK276.out 0).trans rfl; have hcz7_1 : w6.cell? ⟨gb276, 1, none⟩ = some (.int .i64 0) := (blk_cell BK276.out 1).trans rfl; have hfz7_0 := blk_frozen BK276.out 0; have hfz7_1 := blk_frozen BK276.out 1))
              repeat (go_quiet (first | ((with_reducible refine gate_dst (N := 4) rfl ?_); refine box_event ?hg (N := 4) ?hd (cs := #[.int .i64 0, .int .i64 0]) (t := 83) ?hr ?_; (case hd => rfl); (case hg => rfl); (case hr => first | (go_simp; done) | (go_simp; rfl)); intro gb276 hg w6 hbox hb; have n0_ := Aside0.mk (below_step (by repeat (first | (with_reducible first | exact HB.out | apply below_alloc | apply pw_below_drewN | apply below_drew1) | exact HB.out)) hb); have n1_ := Aside0.mk (hbox); have n2_ := Aside0.mk ((by rw [hg]; exact (below_size (by repeat (first | (with_reducible first | exact HB.out | apply below_alloc | apply pw_below_drewN | apply below_drew1) | exact HB.out))) : w.heap.size ≤ gb276)); have n3_ := Aside0.mk ((by rw [hg]; exact (below_size (by repeat (first | (with_reducible first | exact HB.out | apply below_alloc | apply pw_below_drewN | apply below_drew1) | exact HB.out))) : w.heap.size ≤ gb276)); clear HB; have HB := n0_; have BK276 := n1_; have GW276 := n2_; have GE276 := n3_; clear n0_ n1_ n2_ n3_; clear hb hbox hg; have hcz7_0 : w6.cell? ⟨gb276, 0, none⟩ = some (.int .i64 0) := (blk_cell BK276.out 0).trans rfl; have hcz7_1 : w6.cell? ⟨gb276, 1, none⟩ = some (.int .i64 0) := (blk_cell BK276.out 1).trans rfl; have hfz7_0 := blk_frozen BK276.out 0; have hfz7_1 := blk_frozen BK276.out 1)); try go_wp2_with (first | ((with_reducible refine gate_dst (N := 4) rfl ?_); refine box_event ?hg (N := 4) ?hd (cs := #[.int .i64 0, .int .i64 0]) (t := 83) ?hr ?_; (case hd => rfl); (case hg => rfl); (case hr => first | (go_simp; done) | (go_simp; rfl)); intro gb276 hg w6 hbox hb; have n0_ := Aside0.mk (below_step (by repeat (first | (with_reducible first | exact HB.out | apply below_alloc | apply pw_below_drewN | apply below_drew1) | exact HB.out)) hb); have n1_ := Aside0.mk (hbox); have n2_ := Aside0.mk ((by rw [hg]; exact (below_size (by repeat (first | (with_reducible first | exact HB.out | apply below_alloc | apply pw_below_drewN | apply below_drew1) | exact HB.out))) : w.heap.size ≤ gb276)); have n3_ := Aside0.mk ((by rw [hg]; exact (below_size (by repeat (first | (with_reducible first | exact HB.out | apply below_alloc | apply pw_below_drewN | apply below_drew1) | exact HB.out))) : w.heap.size ≤ gb276)); clear HB; have HB := n0_; have BK276 := n1_; have GW276 := n2_; have GE276 := n3_; clear n0_ n1_ n2_ n3_; clear hb hbox hg; have hcz7_0 : w6.cell? ⟨gb276, 0, none⟩ = some (.int .i64 0) := (blk_cell BK276.out 0).trans rfl; have hcz7_1 : w6.cell? ⟨gb276, 1, none⟩ = some (.int .i64 0) := (blk_cell BK276.out 1).trans rfl; have hfz7_0 := blk_frozen BK276.out 0; have hfz7_1 := blk_frozen BK276.out 1)))
              go_ret
              exact ⟨by first | rfl | (simp [errW_none, errW_some] <;> rfl) | (simp [*, errW_none, errW_some] <;> rfl), by repeat (first | (with_reducible first | exact HB.out | apply below_alloc | apply pw_below_drewN | apply below_drew1 | refine below_set ?_ GE276.out) | exact HB.out)⟩
            · rw [if_neg c5] at H
              have c5b0 : decide (((rd_T83 l0 x7_1).f0) < 1) = false := decide_eq_false c5
              clear c5
              by_cases c8 : ((rd_T83 l0 x7_1).f1) < 1
              · rw [if_pos c8] at H
                have c8b0 : decide (((rd_T83 l0 x7_1).f1) < 1) = true := decide_eq_true c8
                clear c8
                obtain rfl := Option.some.inj H
                have p275 : 0 ≤ (x7_1 : Int) := of_decide_eq_true (by first | (with_reducible assumption) | assumption)
                have q275 : x7_1 < (l0.length : Int) := of_decide_eq_true (by first | (with_reducible assumption) | assumption)
                obtain ⟨ad275, e275, hx275_0, hx275_1⟩ := at_T83 HR0.out x7_1 p275 q275
                cases e275
                replace hx275_0 := (HB.out.cell (World.block_lt_of_cell? w _ hx275_0)).trans hx275_0
                replace hx275_1 := (HB.out.cell (World.block_lt_of_cell? w _ hx275_1)).trans hx275_1
                replace p275 := eq_true p275
                replace q275 := eq_true q275
                go_wp2_with (first | ((with_reducible refine gate_dst (N := 4) rfl ?_); refine box_event ?hg (N := 4) ?hd (cs := #[.int .i64 0, .int .i64 0]) (t := 83) ?hr ?_; (case hd => rfl); (case hg => rfl); (case hr => first | (go_simp; done) | (go_simp; rfl)); intro gb276 hg w9 hbox hb; have n0_ := Aside0.mk (below_step (by repeat (first | (with_reducible first | exact HB.out | apply below_alloc | apply pw_below_drewN | apply below_drew1) | exact HB.out)) hb); have n1_ := Aside0.mk (hbox); have n2_ := Aside0.mk ((by rw [hg]; exact (below_size (by repeat (first | (with_reducible first | exact HB.out | apply below_alloc | apply pw_below_drewN | apply below_drew1) | exact HB.out))) : w.heap.size ≤ gb276)); have n3_ := Aside0.mk ((by rw [hg]; exact (below_size (by repeat (first | (with_reducible first | exact HB.out | apply below_alloc | apply pw_below_drewN | apply below_drew1) | exact HB.out))) : w.heap.size ≤ gb276)); clear HB; have HB := n0_; have BK276 := n1_; have GW276 := n2_; have GE276 := n3_; clear n0_ n1_ n2_ n3_; clear hb hbox hg; have hcz10_0 : w9.cell? ⟨gb276, 0, none⟩ = some (.int .i64 0) := (blk_cell BK276.out 0).trans rfl; have hcz10_1 : w9.cell? ⟨gb276, 1, none⟩ = some (.int .i64 0) := (blk_cell BK276.out 1).trans rfl; have hfz10_0 := blk_frozen BK276.out 0; have hfz10_1 := blk_frozen BK276.out 1))
                repeat (go_quiet (first | ((with_reducible refine gate_dst (N := 4) rfl ?_); refine box_event ?hg (N := 4) ?hd (cs := #[.int .i64 0, .int .i64 0]) (t := 83) ?hr ?_; (case hd => rfl); (case hg => rfl); (case hr => first | (go_simp; done) | (go_simp; rfl)); intro gb276 hg w9 hbox hb; have n0_ := Aside0.mk (below_step (by repeat (first | (with_reducible first | exact HB.out | apply below_alloc | apply pw_below_drewN | apply below_drew1) | exact HB.out)) hb); have n1_ := Aside0.mk (hbox); have n2_ := Aside0.mk ((by rw [hg]; exact (below_size (by repeat (first | (with_reducible first | exact HB.out | apply below_alloc | apply pw_below_drewN | apply below_drew1) | exact HB.out))) : w.heap.size ≤ gb276)); have n3_ := Aside0.mk ((by rw [hg]; exact (below_size (by repeat (first | (with_reducible first | exact HB.out | apply below_alloc | apply pw_below_drewN | apply below_drew1) | exact HB.out))) : w.heap.size ≤ gb276)); clear HB; have HB := n0_; have BK276 := n1_; have GW276 := n2_; have GE276 := n3_; clear n0_ n1_ n2_ n3_; clear hb hbox hg; have hcz10_0 : w9.cell? ⟨gb276, 0, none⟩ = some (.int .i64 0) := (blk_cell BK276.out 0).trans rfl; have hcz10_1 : w9.cell? ⟨gb276, 1, none⟩ = some (.int .i64 0) := (blk_cell BK276.out 1).trans rfl; have hfz10_0 := blk_frozen BK276.out 0; have hfz10_1 := blk_frozen BK276.out 1)); try go_wp2_with (first | ((with_reducible refine gate_dst (N := 4) rfl ?_); refine box_event ?hg (N := 4) ?hd (cs := #[.int .i64 0, .int .i64 0]) (t := 83) ?hr ?_; (case hd => rfl); (case hg => rfl); (case hr => first | (go_simp; done) | (go_simp; rfl)); intro gb276 hg w9 hbox hb; have n0_ := Aside0.mk (below_step (by repeat (first | (with_reducible first | exact HB.out | apply below_alloc | apply pw_below_drewN | apply below_drew1) | exact HB.out)) hb); have n1_ := Aside0.mk (hbox); have n2_ := Aside0.mk ((by rw [hg]; exact (below_size (by repeat (first | (with_reducible first | exact HB.out | apply below_alloc | apply pw_below_drewN | apply below_drew1) | exact HB.out))) : w.heap.size ≤ gb276)); have n3_ := Aside0.mk ((by rw [hg]; exact (below_size (by repeat (first | (with_reducible first | exact HB.out | apply below_alloc | apply pw_below_drewN | apply below_drew1) | exact HB.out))) : w.heap.size ≤ gb276)); clear HB; have HB := n0_; have BK276 := n1_; have GW276 := n2_; have GE276 := n3_; clear n0_ n1_ n2_ n3_; clear hb hbox hg; have hcz10_0 : w9.cell? ⟨gb276, 0, none⟩ = some (.int .i64 0) := (blk_cell BK276.out 0).trans rfl; have hcz10_1 : w9.cell? ⟨gb276, 1, none⟩ = some (.int .i64 0) := (blk_cell BK276.out 1).trans rfl; have hfz10_0 := blk_frozen BK276.out 0; have hfz10_1 := blk_frozen BK276.out 1)))
                go_ret
                exact ⟨by first | rfl | (simp [errW_none, errW_some] <;> rfl) | (simp [*, errW_none, errW_some] <;> rfl), by repeat (first | (with_reducible first | exact HB.out | apply below_alloc | apply pw_below_drewN | apply below_drew1 | refine below_set ?_ GE276.out) | exact HB.out)⟩
              · rw [if_neg c8] at H
                have c8b0 : decide (((rd_T83 l0 x7_1).f1) < 1) = false := decide_eq_false c8
                clear c8
                by_cases c11 : x7_1 > 0
                · rw [if_pos c11] at H
                  have c11b0 : decide (0 < x7_1) = true := decide_eq_true c11
                  clear c11
                  obtain ⟨ji12, hji12⟩ : ∃ j_ : Int, (wrap64 (x7_1 - 1)) = j_ := ⟨_, rfl⟩
                  replace H : (if 0 ≤ (ji12) then (if (ji12) < (l0.length : Int) then (if ((rd_T83 l0 (ji12)).f0) ≥ ((rd_T83 l0 x7_1).f0) then (some 2) else (space_CheckPins.l0 k1 l0 l0 (l0.length : Int) (wrap64 (x7_1 + 1)))) else (none)) else (none)) = some r := by first | (rw [hji12] at H; exact H) | (simp only [hji12] at H ⊢; exact H)
                  have hji12w : (IntKind.i64.wrap (x7_1 - 1)) = ji12 := (i64_w _).trans hji12
                  by_cases c13 : 0 ≤ (ji12)
                  · rw [if_pos c13] at H
                    have c13b0 : decide (0 ≤ (ji12)) = true := decide_eq_true c13
                    clear c13
                    by_cases c14 : (ji12) < (l0.length : Int)
                    · rw [if_pos c14] at H
                      have c14b0 : decide ((ji12) < (l0.length : Int)) = true := decide_eq_true c14
                      clear c14
                      by_cases c15 : ((rd_T83 l0 (ji12)).f0) ≥ ((rd_T83 l0 x7_1).f0)
                      · rw [if_pos c15] at H
                        have c15b0 : decide (((rd_T83 l0 x7_1).f0) ≤ ((rd_T83 l0 (ji12)).f0)) = true := decide_eq_true c15
                        clear c15
                        obtain rfl := Option.some.inj H
                        have p275 : 0 ≤ (x7_1 : Int) := of_decide_eq_true (by first | (with_reducible assumption) | assumption)
                        have q275 : x7_1 < (l0.length : Int) := of_decide_eq_true (by first | (with_reducible assumption) | assumption)
                        obtain ⟨ad275, e275, hx275_0, hx275_1⟩ := at_T83 HR0.out x7_1 p275 q275
                        cases e275
                        replace hx275_0 := (HB.out.cell (World.block_lt_of_cell? w _ hx275_0)).trans hx275_0
                        replace hx275_1 := (HB.out.cell (World.block_lt_of_cell? w _ hx275_1)).trans hx275_1
                        replace p275 := eq_true p275
                        replace q275 := eq_true q275
                        go_wp2_with (first | ((with_reducible refine gate_dst (N := 4) rfl ?_); refine box_event ?hg (N := 4) ?hd (cs := #[.int .i64 0, .int .i64 0]) (t := 83) ?hr ?_; (case hd => rfl); (case hg => rfl); (case hr => first | (go_simp; done) | (go_simp; rfl)); intro gb276 hg w16 hbox hb; have n0_ := Aside0.mk (below_step (by repeat (first | (with_reducible first | exact HB.out | apply below_alloc | apply pw_below_drewN | apply below_drew1) | exact HB.out)) hb); have n1_ := Aside0.mk (hbox); have n2_ := Aside0.mk ((by rw [hg]; exact (below_size (by repeat (first | (with_reducible first | exact HB.out | apply below_alloc | apply pw_below_drewN | apply below_drew1) | exact HB.out))) : w.heap.size ≤ gb276)); have n3_ := Aside0.mk ((by rw [hg]; exact (below_size (by repeat (first | (with_reducible first | exact HB.out | apply below_alloc | apply pw_below_drewN | apply below_drew1) | exact HB.out))) : w.heap.size ≤ gb276)); clear HB; have HB := n0_; have BK276 := n1_; have GW276 := n2_; have GE276 := n3_; clear n0_ n1_ n2_ n3_; clear hb hbox hg; have hcz17_0 : w16.cell? ⟨gb276, 0, none⟩ = some (.int .i64 0) := (blk_cell BK276.out 0).trans rfl; have hcz17_1 : w16.cell? ⟨gb276, 1, none⟩ = some (.int .i64 0) := (blk_cell BK276.out 1).trans rfl; have hfz17_0 := blk_frozen BK276.out 0; have hfz17_1 := blk_frozen BK276.out 1; have p277 : 0 ≤ ((ji12) : Int) := of_decide_eq_true (by first | (with_reducible assumption) | assumption); have q277 : (ji12) < (l0.length : Int) := of_decide_eq_true (by first | (with_reducible assumption) | assumption); obtain ⟨ad277, e277, hx277_0, hx277_1⟩ := at_T83 HR0.out (ji12) p277 q277; obtain rfl : ad275 = ad277 := (by injection e277); have hn277_0 : ad275.block ≠ gb276 := Nat.ne_of_lt (Nat.lt_of_lt_of_le (by have := World.block_lt_of_cell? _ _ hx277_0; first | rwa [add_block] at this | exact this) GW276.out); have hn277_1 : ad275.block ≠ gb276 := Nat.ne_of_lt (Nat.lt_of_lt_of_le (by have := World.block_lt_of_cell? _ _ hx277_0; first | rwa [add_block] at this | exact this) GW276.out); replace hx277_0 := (HB.out.cell (World.block_lt_of_cell? w _ hx277_0)).trans hx277_0; replace hx277_1 := (HB.out.cell (World.block_lt_of_cell? w _ hx277_1)).trans hx277_1; replace hx277_0 := (cell_far (p := ⟨gb276, 0, none⟩) (by first | (rw [add_block]; exact hn277_0) | (show (Addr.add _ _).block ≠ _; rw [add_block]; exact hn277_0) | exact hn277_0) (.int .i64 ((rd_T83 l0 x7_1).f0))).trans hx277_0; replace hx277_1 := (cell_far (p := ⟨gb276, 0, none⟩) (by first | (rw [add_block]; exact hn277_0) | (show (Addr.add _ _).block ≠ _; rw [add_block]; exact hn277_0) | exact hn277_0) (.int .i64 ((rd_T83 l0 x7_1).f0))).trans hx277_1; replace hx277_0 := (cell_far (p := ⟨gb276, 1, none⟩) (by first | (rw [add_block]; exact hn277_1) | (show (Addr.add _ _).block ≠ _; rw [add_block]; exact hn277_1) | exact hn277_1) (.int .i64 ((rd_T83 l0 x7_1).f1))).trans hx277_0; replace hx277_1 := (cell_far (p := ⟨gb276, 1, none⟩) (by first | (rw [add_block]; exact hn277_1) | (show (Addr.add _ _).block ≠ _; rw [add_block]; exact hn277_1) | exact hn277_1) (.int .i64 ((rd_T83 l0 x7_1).f1))).trans hx277_1; (try have hy277_0 := fun (n_ : Nat) => (show ((((w16.drewN n_).setCell ⟨gb276, 0, none⟩ (.int .i64 ((rd_T83 l0 x7_1).f0))).setCell ⟨gb276, 1, none⟩ (.int .i64 ((rd_T83 l0 x7_1).f1)))).cell? _ = some _ from hx277_0)); (try have hy277_1 := fun (n_ : Nat) => (show ((((w16.drewN n_).setCell ⟨gb276, 0, none⟩ (.int .i64 ((rd_T83 l0 x7_1).f0))).setCell ⟨gb276, 1, none⟩ (.int .i64 ((rd_T83 l0 x7_1).f1)))).cell? _ = some _ from hx277_1)); clear hn277_0; clear hn277_1; replace p277 := eq_true p277; replace q277 := eq_true q277))
                        repeat (go_quiet (first | ((with_reducible refine gate_dst (N := 4) rfl ?_); refine box_event ?hg (N := 4) ?hd (cs := #[.int .i64 0, .int .i64 0]) (t := 83) ?hr ?_; (case hd => rfl); (case hg => rfl); (case hr => first | (go_simp; done) | (go_simp; rfl)); intro gb276 hg w16 hbox hb; have n0_ := Aside0.mk (below_step (by repeat (first | (with_reducible first | exact HB.out | apply below_alloc | apply pw_below_drewN | apply below_drew1) | exact HB.out)) hb); have n1_ := Aside0.mk (hbox); have n2_ := Aside0.mk ((by rw [hg]; exact (below_size (by repeat (first | (with_reducible first | exact HB.out | apply below_alloc | apply pw_below_drewN | apply below_drew1) | exact HB.out))) : w.heap.size ≤ gb276)); have n3_ := Aside0.mk ((by rw [hg]; exact (below_size (by repeat (first | (with_reducible first | exact HB.out | apply below_alloc | apply pw_below_drewN | apply below_drew1) | exact HB.out))) : w.heap.size ≤ gb276)); clear HB; have HB := n0_; have BK276 := n1_; have GW276 := n2_; have GE276 := n3_; clear n0_ n1_ n2_ n3_; clear hb hbox hg; have hcz17_0 : w16.cell? ⟨gb276, 0, none⟩ = some (.int .i64 0) := (blk_cell BK276.out 0).trans rfl; have hcz17_1 : w16.cell? ⟨gb276, 1, none⟩ = some (.int .i64 0) := (blk_cell BK276.out 1).trans rfl; have hfz17_0 := blk_frozen BK276.out 0; have hfz17_1 := blk_frozen BK276.out 1; have p277 : 0 ≤ ((ji12) : Int) := of_decide_eq_true (by first | (with_reducible assumption) | assumption); have q277 : (ji12) < (l0.length : Int) := of_decide_eq_true (by first | (with_reducible assumption) | assumption); obtain ⟨ad277, e277, hx277_0, hx277_1⟩ := at_T83 HR0.out (ji12) p277 q277; obtain rfl : ad275 = ad277 := (by injection e277); have hn277_0 : ad275.block ≠ gb276 := Nat.ne_of_lt (Nat.lt_of_lt_of_le (by have := World.block_lt_of_cell? _ _ hx277_0; first | rwa [add_block] at this | exact this) GW276.out); have hn277_1 : ad275.block ≠ gb276 := Nat.ne_of_lt (Nat.lt_of_lt_of_le (by have := World.block_lt_of_cell? _ _ hx277_0; first | rwa [add_block] at this | exact this) GW276.out); replace hx277_0 := (HB.out.cell (World.block_lt_of_cell? w _ hx277_0)).trans hx277_0; replace hx277_1 := (HB.out.cell (World.block_lt_of_cell? w _ hx277_1)).trans hx277_1; replace hx277_0 := (cell_far (p := ⟨gb276, 0, none⟩) (by first | (rw [add_block]; exact hn277_0) | (show (Addr.add _ _).block ≠ _; rw [add_block]; exact hn277_0) | exact hn277_0) (.int .i64 ((rd_T83 l0 x7_1).f0))).trans hx277_0; replace hx277_1 := (cell_far (p := ⟨gb276, 0, none⟩) (by first | (rw [add_block]; exact hn277_0) | (show (Addr.add _ _).block ≠ _; rw [add_block]; exact hn277_0) | exact hn277_0) (.int .i64 ((rd_T83 l0 x7_1).f0))).trans hx277_1; replace hx277_0 := (cell_far (p := ⟨gb276, 1, none⟩) (by first | (rw [add_block]; exact hn277_1) | (show (Addr.add _ _).block ≠ _; rw [add_block]; exact hn277_1) | exact hn277_1) (.int .i64 ((rd_T83 l0 x7_1).f1))).trans hx277_0; replace hx277_1 := (cell_far (p := ⟨gb276, 1, none⟩) (by first | (rw [add_block]; exact hn277_1) | (show (Addr.add _ _).block ≠ _; rw [add_block]; exact hn277_1) | exact hn277_1) (.int .i64 ((rd_T83 l0 x7_1).f1))).trans hx277_1; (try have hy277_0 := fun (n_ : Nat) => (show ((((w16.drewN n_).setCell ⟨gb276, 0, none⟩ (.int .i64 ((rd_T83 l0 x7_1).f0))).setCell ⟨gb276, 1, none⟩ (.int .i64 ((rd_T83 l0 x7_1).f1)))).cell? _ = some _ from hx277_0)); (try have hy277_1 := fun (n_ : Nat) => (show ((((w16.drewN n_).setCell ⟨gb276, 0, none⟩ (.int .i64 ((rd_T83 l0 x7_1).f0))).setCell ⟨gb276, 1, none⟩ (.int .i64 ((rd_T83 l0 x7_1).f1)))).cell? _ = some _ from hx277_1)); clear hn277_0; clear hn277_1; replace p277 := eq_true p277; replace q277 := eq_true q277)); try go_wp2_with (first | ((with_reducible refine gate_dst (N := 4) rfl ?_); refine box_event ?hg (N := 4) ?hd (cs := #[.int .i64 0, .int .i64 0]) (t := 83) ?hr ?_; (case hd => rfl); (case hg => rfl); (case hr => first | (go_simp; done) | (go_simp; rfl)); intro gb276 hg w16 hbox hb; have n0_ := Aside0.mk (below_step (by repeat (first | (with_reducible first | exact HB.out | apply below_alloc | apply pw_below_drewN | apply below_drew1) | exact HB.out)) hb); have n1_ := Aside0.mk (hbox); have n2_ := Aside0.mk ((by rw [hg]; exact (below_size (by repeat (first | (with_reducible first | exact HB.out | apply below_alloc | apply pw_below_drewN | apply below_drew1) | exact HB.out))) : w.heap.size ≤ gb276)); have n3_ := Aside0.mk ((by rw [hg]; exact (below_size (by repeat (first | (with_reducible first | exact HB.out | apply below_alloc | apply pw_below_drewN | apply below_drew1) | exact HB.out))) : w.heap.size ≤ gb276)); clear HB; have HB := n0_; have BK276 := n1_; have GW276 := n2_; have GE276 := n3_; clear n0_ n1_ n2_ n3_; clear hb hbox hg; have hcz17_0 : w16.cell? ⟨gb276, 0, none⟩ = some (.int .i64 0) := (blk_cell BK276.out 0).trans rfl; have hcz17_1 : w16.cell? ⟨gb276, 1, none⟩ = some (.int .i64 0) := (blk_cell BK276.out 1).trans rfl; have hfz17_0 := blk_frozen BK276.out 0; have hfz17_1 := blk_frozen BK276.out 1; have p277 : 0 ≤ ((ji12) : Int) := of_decide_eq_true (by first | (with_reducible assumption) | assumption); have q277 : (ji12) < (l0.length : Int) := of_decide_eq_true (by first | (with_reducible assumption) | assumption); obtain ⟨ad277, e277, hx277_0, hx277_1⟩ := at_T83 HR0.out (ji12) p277 q277; obtain rfl : ad275 = ad277 := (by injection e277); have hn277_0 : ad275.block ≠ gb276 := Nat.ne_of_lt (Nat.lt_of_lt_of_le (by have := World.block_lt_of_cell? _ _ hx277_0; first | rwa [add_block] at this | exact this) GW276.out); have hn277_1 : ad275.block ≠ gb276 := Nat.ne_of_lt (Nat.lt_of_lt_of_le (by have := World.block_lt_of_cell? _ _ hx277_0; first | rwa [add_block] at this | exact this) GW276.out); replace hx277_0 := (HB.out.cell (World.block_lt_of_cell? w _ hx277_0)).trans hx277_0; replace hx277_1 := (HB.out.cell (World.block_lt_of_cell? w _ hx277_1)).trans hx277_1; replace hx277_0 := (cell_far (p := ⟨gb276, 0, none⟩) (by first | (rw [add_block]; exact hn277_0) | (show (Addr.add _ _).block ≠ _; rw [add_block]; exact hn277_0) | exact hn277_0) (.int .i64 ((rd_T83 l0 x7_1).f0))).trans hx277_0; replace hx277_1 := (cell_far (p := ⟨gb276, 0, none⟩) (by first | (rw [add_block]; exact hn277_0) | (show (Addr.add _ _).block ≠ _; rw [add_block]; exact hn277_0) | exact hn277_0) (.int .i64 ((rd_T83 l0 x7_1).f0))).trans hx277_1; replace hx277_0 := (cell_far (p := ⟨gb276, 1, none⟩) (by first | (rw [add_block]; exact hn277_1) | (show (Addr.add _ _).block ≠ _; rw [add_block]; exact hn277_1) | exact hn277_1) (.int .i64 ((rd_T83 l0 x7_1).f1))).trans hx277_0; replace hx277_1 := (cell_far (p := ⟨gb276, 1, none⟩) (by first | (rw [add_block]; exact hn277_1) | (show (Addr.add _ _).block ≠ _; rw [add_block]; exact hn277_1) | exact hn277_1) (.int .i64 ((rd_T83 l0 x7_1).f1))).trans hx277_1; (try have hy277_0 := fun (n_ : Nat) => (show ((((w16.drewN n_).setCell ⟨gb276, 0, none⟩ (.int .i64 ((rd_T83 l0 x7_1).f0))).setCell ⟨gb276, 1, none⟩ (.int .i64 ((rd_T83 l0 x7_1).f1)))).cell? _ = some _ from hx277_0)); (try have hy277_1 := fun (n_ : Nat) => (show ((((w16.drewN n_).setCell ⟨gb276, 0, none⟩ (.int .i64 ((rd_T83 l0 x7_1).f0))).setCell ⟨gb276, 1, none⟩ (.int .i64 ((rd_T83 l0 x7_1).f1)))).cell? _ = some _ from hx277_1)); clear hn277_0; clear hn277_1; replace p277 := eq_true p277; replace q277 := eq_true q277)))
                        go_ret
                        exact ⟨by first | rfl | (simp [errW_none, errW_some] <;> rfl) | (simp only [← hji12]; first | rfl | (simp [errW_none, errW_some] <;> rfl)) | (simp [*, errW_none, errW_some] <;> rfl), by repeat (first | (with_reducible first | exact HB.out | apply below_alloc | apply pw_below_drewN | apply below_drew1 | refine below_set ?_ GE276.out) | exact HB.out)⟩
                      · rw [if_neg c15] at H
                        have c15b0 : decide (((rd_T83 l0 x7_1).f0) ≤ ((rd_T83 l0 (ji12)).f0)) = false := decide_eq_false c15
                        clear c15
                        have H' := Aside0.mk H
                        clear H
                        have p275 : 0 ≤ (x7_1 : Int) := of_decide_eq_true (by first | (with_reducible assumption) | assumption)
                        have q275 : x7_1 < (l0.length : Int) := of_decide_eq_true (by first | (with_reducible assumption) | assumption)
                        obtain ⟨ad275, e275, hx275_0, hx275_1⟩ := at_T83 HR0.out x7_1 p275 q275
                        cases e275
                        replace hx275_0 := (HB.out.cell (World.block_lt_of_cell? w _ hx275_0)).trans hx275_0
                        replace hx275_1 := (HB.out.cell (World.block_lt_of_cell? w _ hx275_1)).trans hx275_1
                        replace p275 := eq_true p275
                        replace q275 := eq_true q275
                        go_wp2_with (first | ((with_reducible refine gate_dst (N := 4) rfl ?_); refine box_event ?hg (N := 4) ?hd (cs := #[.int .i64 0, .int .i64 0]) (t := 83) ?hr ?_; (case hd => rfl); (case hg => rfl); (case hr => first | (go_simp; done) | (go_simp; rfl)); intro gb276 hg w18 hbox hb; have n0_ := Aside0.mk (below_step (by repeat (first | (with_reducible first | exact HB.out | apply below_alloc | apply pw_below_drewN | apply below_drew1) | exact HB.out)) hb); have n1_ := Aside0.mk (hbox); have n2_ := Aside0.mk ((by rw [hg]; exact (below_size (by repeat (first | (with_reducible first | exact HB.out | apply below_alloc | apply pw_below_drewN | apply below_drew1) | exact HB.out))) : w.heap.size ≤ gb276)); have n3_ := Aside0.mk ((by rw [hg]; exact (below_size (by repeat (first | (with_reducible first | exact HB.out | apply below_alloc | apply pw_below_drewN | apply below_drew1) | exact HB.out))) : w.heap.size ≤ gb276)); clear HB; have HB := n0_; have BK276 := n1_; have GW276 := n2_; have GE276 := n3_; clear n0_ n1_ n2_ n3_; clear hb hbox hg; have hcz19_0 : w18.cell? ⟨gb276, 0, none⟩ = some (.int .i64 0) := (blk_cell BK276.out 0).trans rfl; have hcz19_1 : w18.cell? ⟨gb276, 1, none⟩ = some (.int .i64 0) := (blk_cell BK276.out 1).trans rfl; have hfz19_0 := blk_frozen BK276.out 0; have hfz19_1 := blk_frozen BK276.out 1; have p277 : 0 ≤ ((ji12) : Int) := of_decide_eq_true (by first | (with_reducible assumption) | assumption); have q277 : (ji12) < (l0.length : Int) := of_decide_eq_true (by first | (with_reducible assumption) | assumption); obtain ⟨ad277, e277, hx277_0, hx277_1⟩ := at_T83 HR0.out (ji12) p277 q277; obtain rfl : ad275 = ad277 := (by injection e277); have hn277_0 : ad275.block ≠ gb276 := Nat.ne_of_lt (Nat.lt_of_lt_of_le (by have := World.block_lt_of_cell? _ _ hx277_0; first | rwa [add_block] at this | exact this) GW276.out); have hn277_1 : ad275.block ≠ gb276 := Nat.ne_of_lt (Nat.lt_of_lt_of_le (by have := World.block_lt_of_cell? _ _ hx277_0; first | rwa [add_block] at this | exact this) GW276.out); replace hx277_0 := (HB.out.cell (World.block_lt_of_cell? w _ hx277_0)).trans hx277_0; replace hx277_1 := (HB.out.cell (World.block_lt_of_cell? w _ hx277_1)).trans hx277_1; replace hx277_0 := (cell_far (p := ⟨gb276, 0, none⟩) (by first | (rw [add_block]; exact hn277_0) | (show (Addr.add _ _).block ≠ _; rw [add_block]; exact hn277_0) | exact hn277_0) (.int .i64 ((rd_T83 l0 x7_1).f0))).trans hx277_0; replace hx277_1 := (cell_far (p := ⟨gb276, 0, none⟩) (by first | (rw [add_block]; exact hn277_0) | (show (Addr.add _ _).block ≠ _; rw [add_block]; exact hn277_0) | exact hn277_0) (.int .i64 ((rd_T83 l0 x7_1).f0))).trans hx277_1; replace hx277_0 := (cell_far (p := ⟨gb276, 1, none⟩) (by first | (rw [add_block]; exact hn277_1) | (show (Addr.add _ _).block ≠ _; rw [add_block]; exact hn277_1) | exact hn277_1) (.int .i64 ((rd_T83 l0 x7_1).f1))).trans hx277_0; replace hx277_1 := (cell_far (p := ⟨gb276, 1, none⟩) (by first | (rw [add_block]; exact hn277_1) | (show (Addr.add _ _).block ≠ _; rw [add_block]; exact hn277_1) | exact hn277_1) (.int .i64 ((rd_T83 l0 x7_1).f1))).trans hx277_1; (try have hy277_0 := fun (n_ : Nat) => (show ((((w18.drewN n_).setCell ⟨gb276, 0, none⟩ (.int .i64 ((rd_T83 l0 x7_1).f0))).setCell ⟨gb276, 1, none⟩ (.int .i64 ((rd_T83 l0 x7_1).f1)))).cell? _ = some _ from hx277_0)); (try have hy277_1 := fun (n_ : Nat) => (show ((((w18.drewN n_).setCell ⟨gb276, 0, none⟩ (.int .i64 ((rd_T83 l0 x7_1).f0))).setCell ⟨gb276, 1, none⟩ (.int .i64 ((rd_T83 l0 x7_1).f1)))).cell? _ = some _ from hx277_1)); clear hn277_0; clear hn277_1; replace p277 := eq_true p277; replace q277 := eq_true q277))
                        repeat (go_quiet (first | ((with_reducible refine gate_dst (N := 4) rfl ?_); refine box_event ?hg (N := 4) ?hd (cs := #[.int .i64 0, .int .i64 0]) (t := 83) ?hr ?_; (case hd => rfl); (case hg => rfl); (case hr => first | (go_simp; done) | (go_simp; rfl)); intro gb276 hg w18 hbox hb; have n0_ := Aside0.mk (below_step (by repeat (first | (with_reducible first | exact HB.out | apply below_alloc | apply pw_below_drewN | apply below_drew1) | exact HB.out)) hb); have n1_ := Aside0.mk (hbox); have n2_ := Aside0.mk ((by rw [hg]; exact (below_size (by repeat (first | (with_reducible first | exact HB.out | apply below_alloc | apply pw_below_drewN | apply below_drew1) | exact HB.out))) : w.heap.size ≤ gb276)); have n3_ := Aside0.mk ((by rw [hg]; exact (below_size (by repeat (first | (with_reducible first | exact HB.out | apply below_alloc | apply pw_below_drewN | apply below_drew1) | exact HB.out))) : w.heap.size ≤ gb276)); clear HB; have HB := n0_; have BK276 := n1_; have GW276 := n2_; have GE276 := n3_; clear n0_ n1_ n2_ n3_; clear hb hbox hg; have hcz19_0 : w18.cell? ⟨gb276, 0, none⟩ = some (.int .i64 0) := (blk_cell BK276.out 0).trans rfl; have hcz19_1 : w18.cell? ⟨gb276, 1, none⟩ = some (.int .i64 0) := (blk_cell BK276.out 1).trans rfl; have hfz19_0 := blk_frozen BK276.out 0; have hfz19_1 := blk_frozen BK276.out 1; have p277 : 0 ≤ ((ji12) : Int) := of_decide_eq_true (by first | (with_reducible assumption) | assumption); have q277 : (ji12) < (l0.length : Int) := of_decide_eq_true (by first | (with_reducible assumption) | assumption); obtain ⟨ad277, e277, hx277_0, hx277_1⟩ := at_T83 HR0.out (ji12) p277 q277; obtain rfl : ad275 = ad277 := (by injection e277); have hn277_0 : ad275.block ≠ gb276 := Nat.ne_of_lt (Nat.lt_of_lt_of_le (by have := World.block_lt_of_cell? _ _ hx277_0; first | rwa [add_block] at this | exact this) GW276.out); have hn277_1 : ad275.block ≠ gb276 := Nat.ne_of_lt (Nat.lt_of_lt_of_le (by have := World.block_lt_of_cell? _ _ hx277_0; first | rwa [add_block] at this | exact this) GW276.out); replace hx277_0 := (HB.out.cell (World.block_lt_of_cell? w _ hx277_0)).trans hx277_0; replace hx277_1 := (HB.out.cell (World.block_lt_of_cell? w _ hx277_1)).trans hx277_1; replace hx277_0 := (cell_far (p := ⟨gb276, 0, none⟩) (by first | (rw [add_block]; exact hn277_0) | (show (Addr.add _ _).block ≠ _; rw [add_block]; exact hn277_0) | exact hn277_0) (.int .i64 ((rd_T83 l0 x7_1).f0))).trans hx277_0; replace hx277_1 := (cell_far (p := ⟨gb276, 0, none⟩) (by first | (rw [add_block]; exact hn277_0) | (show (Addr.add _ _).block ≠ _; rw [add_block]; exact hn277_0) | exact hn277_0) (.int .i64 ((rd_T83 l0 x7_1).f0))).trans hx277_1; replace hx277_0 := (cell_far (p := ⟨gb276, 1, none⟩) (by first | (rw [add_block]; exact hn277_1) | (show (Addr.add _ _).block ≠ _; rw [add_block]; exact hn277_1) | exact hn277_1) (.int .i64 ((rd_T83 l0 x7_1).f1))).trans hx277_0; replace hx277_1 := (cell_far (p := ⟨gb276, 1, none⟩) (by first | (rw [add_block]; exact hn277_1) | (show (Addr.add _ _).block ≠ _; rw [add_block]; exact hn277_1) | exact hn277_1) (.int .i64 ((rd_T83 l0 x7_1).f1))).trans hx277_1; (try have hy277_0 := fun (n_ : Nat) => (show ((((w18.drewN n_).setCell ⟨gb276, 0, none⟩ (.int .i64 ((rd_T83 l0 x7_1).f0))).setCell ⟨gb276, 1, none⟩ (.int .i64 ((rd_T83 l0 x7_1).f1)))).cell? _ = some _ from hx277_0)); (try have hy277_1 := fun (n_ : Nat) => (show ((((w18.drewN n_).setCell ⟨gb276, 0, none⟩ (.int .i64 ((rd_T83 l0 x7_1).f0))).setCell ⟨gb276, 1, none⟩ (.int .i64 ((rd_T83 l0 x7_1).f1)))).cell? _ = some _ from hx277_1)); clear hn277_0; clear hn277_1; replace p277 := eq_true p277; replace q277 := eq_true q277)); try go_wp2_with (first | ((with_reducible refine gate_dst (N := 4) rfl ?_); refine box_event ?hg (N := 4) ?hd (cs := #[.int .i64 0, .int .i64 0]) (t := 83) ?hr ?_; (case hd => rfl); (case hg => rfl); (case hr => first | (go_simp; done) | (go_simp; rfl)); intro gb276 hg w18 hbox hb; have n0_ := Aside0.mk (below_step (by repeat (first | (with_reducible first | exact HB.out | apply below_alloc | apply pw_below_drewN | apply below_drew1) | exact HB.out)) hb); have n1_ := Aside0.mk (hbox); have n2_ := Aside0.mk ((by rw [hg]; exact (below_size (by repeat (first | (with_reducible first | exact HB.out | apply below_alloc | apply pw_below_drewN | apply below_drew1) | exact HB.out))) : w.heap.size ≤ gb276)); have n3_ := Aside0.mk ((by rw [hg]; exact (below_size (by repeat (first | (with_reducible first | exact HB.out | apply below_alloc | apply pw_below_drewN | apply below_drew1) | exact HB.out))) : w.heap.size ≤ gb276)); clear HB; have HB := n0_; have BK276 := n1_; have GW276 := n2_; have GE276 := n3_; clear n0_ n1_ n2_ n3_; clear hb hbox hg; have hcz19_0 : w18.cell? ⟨gb276, 0, none⟩ = some (.int .i64 0) := (blk_cell BK276.out 0).trans rfl; have hcz19_1 : w18.cell? ⟨gb276, 1, none⟩ = some (.int .i64 0) := (blk_cell BK276.out 1).trans rfl; have hfz19_0 := blk_frozen BK276.out 0; have hfz19_1 := blk_frozen BK276.out 1; have p277 : 0 ≤ ((ji12) : Int) := of_decide_eq_true (by first | (with_reducible assumption) | assumption); have q277 : (ji12) < (l0.length : Int) := of_decide_eq_true (by first | (with_reducible assumption) | assumption); obtain ⟨ad277, e277, hx277_0, hx277_1⟩ := at_T83 HR0.out (ji12) p277 q277; obtain rfl : ad275 = ad277 := (by injection e277); have hn277_0 : ad275.block ≠ gb276 := Nat.ne_of_lt (Nat.lt_of_lt_of_le (by have := World.block_lt_of_cell? _ _ hx277_0; first | rwa [add_block] at this | exact this) GW276.out); have hn277_1 : ad275.block ≠ gb276 := Nat.ne_of_lt (Nat.lt_of_lt_of_le (by have := World.block_lt_of_cell? _ _ hx277_0; first | rwa [add_block] at this | exact this) GW276.out); replace hx277_0 := (HB.out.cell (World.block_lt_of_cell? w _ hx277_0)).trans hx277_0; replace hx277_1 := (HB.out.cell (World.block_lt_of_cell? w _ hx277_1)).trans hx277_1; replace hx277_0 := (cell_far (p := ⟨gb276, 0, none⟩) (by first | (rw [add_block]; exact hn277_0) | (show (Addr.add _ _).block ≠ _; rw [add_block]; exact hn277_0) | exact hn277_0) (.int .i64 ((rd_T83 l0 x7_1).f0))).trans hx277_0; replace hx277_1 := (cell_far (p := ⟨gb276, 0, none⟩) (by first | (rw [add_block]; exact hn277_0) | (show (Addr.add _ _).block ≠ _; rw [add_block]; exact hn277_0) | exact hn277_0) (.int .i64 ((rd_T83 l0 x7_1).f0))).trans hx277_1; replace hx277_0 := (cell_far (p := ⟨gb276, 1, none⟩) (by first | (rw [add_block]; exact hn277_1) | (show (Addr.add _ _).block ≠ _; rw [add_block]; exact hn277_1) | exact hn277_1) (.int .i64 ((rd_T83 l0 x7_1).f1))).trans hx277_0; replace hx277_1 := (cell_far (p := ⟨gb276, 1, none⟩) (by first | (rw [add_block]; exact hn277_1) | (show (Addr.add _ _).block ≠ _; rw [add_block]; exact hn277_1) | exact hn277_1) (.int .i64 ((rd_T83 l0 x7_1).f1))).trans hx277_1; (try have hy277_0 := fun (n_ : Nat) => (show ((((w18.drewN n_).setCell ⟨gb276, 0, none⟩ (.int .i64 ((rd_T83 l0 x7_1).f0))).setCell ⟨gb276, 1, none⟩ (.int .i64 ((rd_T83 l0 x7_1).f1)))).cell? _ = some _ from hx277_0)); (try have hy277_1 := fun (n_ : Nat) => (show ((((w18.drewN n_).setCell ⟨gb276, 0, none⟩ (.int .i64 ((rd_T83 l0 x7_1).f0))).setCell ⟨gb276, 1, none⟩ (.int .i64 ((rd_T83 l0 x7_1).f1)))).cell? _ = some _ from hx277_1)); clear hn277_0; clear hn277_1; replace p277 := eq_true p277; replace q277 := eq_true q277)))
                        go_roundg k1
                        case measure => have := HK1.out; omega
                        case rel => exact ⟨(wrap64 (x7_1 + 1)), (by first | rfl | (simp; done) | (simp [*]; done)), H', ⟨by have := HK1.out; omega⟩, ⟨by repeat (first | (with_reducible first | exact HB.out | apply below_alloc | apply pw_below_drewN | apply below_drew1 | refine below_set ?_ GE276.out) | exact HB.out)⟩⟩
                    · rw [if_neg c14] at H
                      exact absurd H (by simp)
                  · rw [if_neg c13] at H
                    exact absurd H (by simp)
                · rw [if_neg c11] at H
                  have c11b0 : decide (0 < x7_1) = false := decide_eq_false c11
                  clear c11
                  have H' := Aside0.mk H
                  clear H
                  have p275 : 0 ≤ (x7_1 : Int) := of_decide_eq_true (by first | (with_reducible assumption) | assumption)
                  have q275 : x7_1 < (l0.length : Int) := of_decide_eq_true (by first | (with_reducible assumption) | assumption)
                  obtain ⟨ad275, e275, hx275_0, hx275_1⟩ := at_T83 HR0.out x7_1 p275 q275
                  cases e275
                  replace hx275_0 := (HB.out.cell (World.block_lt_of_cell? w _ hx275_0)).trans hx275_0
                  replace hx275_1 := (HB.out.cell (World.block_lt_of_cell? w _ hx275_1)).trans hx275_1
                  replace p275 := eq_true p275
                  replace q275 := eq_true q275
                  go_wp2_with (first | ((with_reducible refine gate_dst (N := 4) rfl ?_); refine box_event ?hg (N := 4) ?hd (cs := #[.int .i64 0, .int .i64 0]) (t := 83) ?hr ?_; (case hd => rfl); (case hg => rfl); (case hr => first | (go_simp; done) | (go_simp; rfl)); intro gb276 hg w20 hbox hb; have n0_ := Aside0.mk (below_step (by repeat (first | (with_reducible first | exact HB.out | apply below_alloc | apply pw_below_drewN | apply below_drew1) | exact HB.out)) hb); have n1_ := Aside0.mk (hbox); have n2_ := Aside0.mk ((by rw [hg]; exact (below_size (by repeat (first | (with_reducible first | exact HB.out | apply below_alloc | apply pw_below_drewN | apply below_drew1) | exact HB.out))) : w.heap.size ≤ gb276)); have n3_ := Aside0.mk ((by rw [hg]; exact (below_size (by repeat (first | (with_reducible first | exact HB.out | apply below_alloc | apply pw_below_drewN | apply below_drew1) | exact HB.out))) : w.heap.size ≤ gb276)); clear HB; have HB := n0_; have BK276 := n1_; have GW276 := n2_; have GE276 := n3_; clear n0_ n1_ n2_ n3_; clear hb hbox hg; have hcz21_0 : w20.cell? ⟨gb276, 0, none⟩ = some (.int .i64 0) := (blk_cell BK276.out 0).trans rfl; have hcz21_1 : w20.cell? ⟨gb276, 1, none⟩ = some (.int .i64 0) := (blk_cell BK276.out 1).trans rfl; have hfz21_0 := blk_frozen BK276.out 0; have hfz21_1 := blk_frozen BK276.out 1))
                  repeat (go_quiet (first | ((with_reducible refine gate_dst (N := 4) rfl ?_); refine box_event ?hg (N := 4) ?hd (cs := #[.int .i64 0, .int .i64 0]) (t := 83) ?hr ?_; (case hd => rfl); (case hg => rfl); (case hr => first | (go_simp; done) | (go_simp; rfl)); intro gb276 hg w20 hbox hb; have n0_ := Aside0.mk (below_step (by repeat (first | (with_reducible first | exact HB.out | apply below_alloc | apply pw_below_drewN | apply below_drew1) | exact HB.out)) hb); have n1_ := Aside0.mk (hbox); have n2_ := Aside0.mk ((by rw [hg]; exact (below_size (by repeat (first | (with_reducible first | exact HB.out | apply below_alloc | apply pw_below_drewN | apply below_drew1) | exact HB.out))) : w.heap.size ≤ gb276)); have n3_ := Aside0.mk ((by rw [hg]; exact (below_size (by repeat (first | (with_reducible first | exact HB.out | apply below_alloc | apply pw_below_drewN | apply below_drew1) | exact HB.out))) : w.heap.size ≤ gb276)); clear HB; have HB := n0_; have BK276 := n1_; have GW276 := n2_; have GE276 := n3_; clear n0_ n1_ n2_ n3_; clear hb hbox hg; have hcz21_0 : w20.cell? ⟨gb276, 0, none⟩ = some (.int .i64 0) := (blk_cell BK276.out 0).trans rfl; have hcz21_1 : w20.cell? ⟨gb276, 1, none⟩ = some (.int .i64 0) := (blk_cell BK276.out 1).trans rfl; have hfz21_0 := blk_frozen BK276.out 0; have hfz21_1 := blk_frozen BK276.out 1)); try go_wp2_with (first | ((with_reducible refine gate_dst (N := 4) rfl ?_); refine box_event ?hg (N := 4) ?hd (cs := #[.int .i64 0, .int .i64 0]) (t := 83) ?hr ?_; (case hd => rfl); (case hg => rfl); (case hr => first | (go_simp; done) | (go_simp; rfl)); intro gb276 hg w20 hbox hb; have n0_ := Aside0.mk (below_step (by repeat (first | (with_reducible first | exact HB.out | apply below_alloc | apply pw_below_drewN | apply below_drew1) | exact HB.out)) hb); have n1_ := Aside0.mk (hbox); have n2_ := Aside0.mk ((by rw [hg]; exact (below_size (by repeat (first | (with_reducible first | exact HB.out | apply below_alloc | apply pw_below_drewN | apply below_drew1) | exact HB.out))) : w.heap.size ≤ gb276)); have n3_ := Aside0.mk ((by rw [hg]; exact (below_size (by repeat (first | (with_reducible first | exact HB.out | apply below_alloc | apply pw_below_drewN | apply below_drew1) | exact HB.out))) : w.heap.size ≤ gb276)); clear HB; have HB := n0_; have BK276 := n1_; have GW276 := n2_; have GE276 := n3_; clear n0_ n1_ n2_ n3_; clear hb hbox hg; have hcz21_0 : w20.cell? ⟨gb276, 0, none⟩ = some (.int .i64 0) := (blk_cell BK276.out 0).trans rfl; have hcz21_1 : w20.cell? ⟨gb276, 1, none⟩ = some (.int .i64 0) := (blk_cell BK276.out 1).trans rfl; have hfz21_0 := blk_frozen BK276.out 0; have hfz21_1 := blk_frozen BK276.out 1)))
                  go_roundg k1
                  case measure => have := HK1.out; omega
                  case rel => exact ⟨(wrap64 (x7_1 + 1)), (by first | rfl | (simp; done) | (simp [*]; done)), H', ⟨by have := HK1.out; omega⟩, ⟨by repeat (first | (with_reducible first | exact HB.out | apply below_alloc | apply pw_below_drewN | apply below_drew1 | refine below_set ?_ GE276.out) | exact HB.out)⟩⟩
          · rw [if_neg c4] at H
            exact absurd H (by simp)
        · rw [if_neg c3] at H
          exact absurd H (by simp)
      · rw [if_neg c2] at H
        have c2b0 : decide (x7_1 < (l0.length : Int)) = false := decide_eq_false c2
        clear c2
        obtain rfl := Option.some.inj H
        go_wp2
        repeat (go_quiet (fail); try go_wp2)
        go_ret
        exact ⟨by first | rfl | (simp [errW_none, errW_some] <;> rfl) | (simp [*, errW_none, errW_some] <;> rfl), by repeat (first | (with_reducible first | exact HB.out | apply below_alloc | apply pw_below_drewN | apply below_drew1) | exact HB.out)⟩

-- NOT PRINTED: function 92 (space_pinned)

-- NOT PRINTED: function 41 (space_Oldest)

-- NOT PRINTED: function 185 (api_Pin_185)

-- NOT PRINTED: function 199 (api_Pin_199)

-- NOT PRINTED: function 186 (api_Pin_186)

-- NOT PRINTED: function 187 (api_Pin_187)

-- NOT PRINTED: function 206 (api_Pin_206)

-- NOT PRINTED: function 201 (api_Pin_201)

-- NOT PRINTED: function 200 (api_Pin_200)

-- NOT PRINTED: function 188 (api_Pin_188)

-- NOT PRINTED: function 189 (api_Pin_189)

-- NOT PRINTED: function 190 (api_Pin_190)

-- NOT PRINTED: function 191 (api_Pin_191)

-- NOT PRINTED: function 192 (api_Pin_192)

-- NOT PRINTED: function 170 (api_Pin_170)

-- NOT PRINTED: function 138 (api_Pin_138)

-- NOT PRINTED: function 94 (space_pins)

-- NOT PRINTED: function 42 (space_Unpin)

-- NOT PRINTED: function 12 (understorylaw12_sane)

end Go.Proofs.YtpnhelcemodnmaaGreat.PA

/- The reference's SameInts: equality. -/
namespace Go.Proofs.YtpnhelcemodnmaaGreat
open Go.RowKit Go.Shelf Go.Proofs.YtpnhelcemodnmaaGreatW.PrintWords Go.Proofs.YtpnhelcemodnmaaGreatW.PrintLast Go.Proofs.YtpnhelcemodnmaaGreatW.PrintMore PA
set_option linter.unusedVariables false
set_option linter.unusedSimpArgs false
theorem same_l0 (a b : List Int) (hl : a.length = b.length) (hm : a.length ≤ 1000000) (d : Nat) : ∀ i : Nat, i ≤ a.length → a.length - i = d → a.take i = b.take i → understoryref04_SameInts.l0 (d + 1) a b (i : Int) = some (decide (a = b)) := by
  induction d with
  | zero =>
    intro i h1 h2 h3
    obtain rfl : i = a.length := by omega
    rw [List.take_length, hl, List.take_length] at h3
    simp only [understoryref04_SameInts.l0]
    rw [if_neg (by omega)]
    simp [h3]
  | succ d ih =>
    intro i h1 h2 h3
    have ha : i < a.length := by omega
    have hb : i < b.length := by omega
    simp only [understoryref04_SameInts.l0]
    rw [if_pos (by omega), if_pos (by omega), if_pos (by omega), rd_at a i ha, rd_at b i hb]
    by_cases c : a[i] = b[i]
    · first | rw [if_neg (by simpa using c)] | rw [if_pos c]
      rw [wrapp i (by omega)]
      refine ih (i + 1) (by omega) (by omega) ?_
      rw [List.take_succ_eq_append_getElem ha, List.take_succ_eq_append_getElem hb, h3, c]
    · first | rw [if_pos c] | rw [if_neg c]
      have : ¬ a = b := fun e => c (by subst e; rfl)
      simp [this]
theorem sameInts_any (a b : List Int) (A B : Option Addr) (c d : Nat) (w : World) (hA : (Kd.int .i64).C w A a.length a) (hc : a.length ≤ c) (hB : (Kd.int .i64).C w B b.length b) (hd : b.length ≤ d) (hm : a.length ≤ 1000000) :
    Calls Tryz.prog 31 #[.slice A a.length c, .slice B b.length d] w fun e w' => e = .returned (.bool (decide (a = b))) ∧ Drawn0 w w' := by
  refine understoryref04_SameInts.calls (a.length - 0 + 1) A c a B d b _ w hA hc hB hd ?_
  unfold understoryref04_SameInts.f
  by_cases h : a.length = b.length
  · rw [if_pos (by omega)]
    exact same_l0 a b h hm _ 0 (Nat.zero_le _) rfl rfl
  · rw [if_neg (by omega)]
    have : ¬ a = b := fun e => h (by rw [e])
    simp [this]
theorem same_more (a b : List Int) (r : Bool) (k e : Nat) (h : understoryref04_SameInts.f k a b = some r) : understoryref04_SameInts.f (k + e) a b = some r := by
  induction e with
  | zero => exact h
  | succ e ih => exact understoryref04_SameInts.mono a b (k + e) r ih
theorem sameInts_some (a b : List Int) (hm : a.length ≤ 1000000) (K : Nat) (hK : a.length + 1 ≤ K) : understoryref04_SameInts.f K a b = some (decide (a = b)) := by
  obtain ⟨e, rfl⟩ : ∃ e, K = a.length + 1 + e := ⟨K - (a.length + 1), by omega⟩
  refine same_more a b _ _ e ?_
  unfold understoryref04_SameInts.f
  by_cases h : a.length = b.length
  · rw [if_pos (by omega)]
    exact same_l0 a b h hm _ 0 (Nat.zero_le _) rfl rfl
  · rw [if_neg (by omega)]
    have : ¬ a = b := fun e => h (by rw [e])
    simp [this]
end Go.Proofs.YtpnhelcemodnmaaGreat

/- The reference's SameFreed: equality. -/
namespace Go.Proofs.YtpnhelcemodnmaaGreat
open Go.RowKit Go.Shelf Go.Proofs.YtpnhelcemodnmaaGreatW.PrintWords Go.Proofs.YtpnhelcemodnmaaGreatW.PrintLast Go.Proofs.YtpnhelcemodnmaaGreatW.PrintMore PA
set_option linter.unusedVariables false
set_option linter.unusedSimpArgs false
theorem s64_ext {x y : S64} (h0 : x.f0 = y.f0) (h1 : x.f1 = y.f1) : x = y := by cases x; cases y; simp at h0 h1; rw [h0, h1]
instance : DecidableEq S64 := fun x y => if h : x.f0 = y.f0 ∧ x.f1 = y.f1 then .isTrue (s64_ext h.1 h.2) else .isFalse fun e => h (by rw [e]; exact ⟨rfl, rfl⟩)
theorem sameF_l0 (M : Nat) (hM : 1000001 ≤ M) (a b : List S64) (hl : a.length = b.length) (hm : a.length ≤ 1000000) (hs : ∀ f ∈ a, f.f1.length ≤ 1000000) (d : Nat) : ∀ i : Nat, i ≤ a.length → a.length - i = d → a.take i = b.take i → understoryref04_SameFreed.l0 (M + d + 1) a b (i : Int) = some (decide (a = b)) := by
  induction d with
  | zero =>
    intro i h1 h2 h3
    obtain rfl : i = a.length := by omega
    rw [List.take_length, hl, List.take_length] at h3
    simp only [understoryref04_SameFreed.l0]
    rw [if_neg (by omega)]
    simp [h3]
  | succ d ih =>
    intro i h1 h2 h3
    have ha : i < a.length := by omega
    have hb : i < b.length := by omega
    have hsi := hs _ (List.getElem_mem ha)
    simp only [understoryref04_SameFreed.l0]
    rw [if_pos (by omega), if_pos (by omega), if_pos (by omega), rd_nat a i ha, rd_nat b i hb]
    by_cases c : a[i].f0 = b[i].f0
    · rw [if_pos c, sameInts_some a[i].f1 b[i].f1 hsi _ (by omega)]
      simp only [Option.bind_some]
      by_cases c2 : a[i].f1 = b[i].f1
      · rw [if_pos (by simpa using c2), wrapp i (by omega)]
        refine ih (i + 1) (by omega) (by omega) ?_
        rw [List.take_succ_eq_append_getElem ha, List.take_succ_eq_append_getElem hb, h3, s64_ext c c2]
      · rw [if_neg (by simpa using c2)]
        have : ¬ a = b := fun e => c2 (by subst e; rfl)
        simp [this]
    · rw [if_neg c]
      have : ¬ a = b := fun e => c (by subst e; rfl)
      simp [this]
theorem sameFreed_any (a b : List S64) (A B : Option Addr) (c d : Nat) (w : World) (hA : k64.C w A a.length a) (hc : a.length ≤ c) (hB : k64.C w B b.length b) (hd : b.length ≤ d) (hs : smallL a) :
    Calls Tryz.prog 18 #[.slice A a.length c, .slice B b.length d] w fun e w' => e = .returned (.bool (decide (a = b))) ∧ Drawn0 w w' := by
  refine understoryref04_SameFreed.calls (1000001 + (a.length - 0) + 1) A c a B d b _ w hA hc hB hd ?_
  unfold understoryref04_SameFreed.f
  by_cases h : a.length = b.length
  · rw [if_pos (by omega)]
    exact sameF_l0 1000001 (Nat.le_refl _) a b h hs.1 (small_each hs) _ 0 (Nat.zero_le _) rfl rfl
  · rw [if_neg (by omega)]
    have : ¬ a = b := fun e => h (by rw [e])
    simp [this]
end Go.Proofs.YtpnhelcemodnmaaGreat

/- Grow and Concat of the library, at numbers and at freed pages. -/
namespace Go.Proofs.YtpnhelcemodnmaaGreat
open Go.RowKit Go.Shelf Go.Proofs.YtpnhelcemodnmaaGreatW.PrintWords Go.Proofs.YtpnhelcemodnmaaGreatW.PrintLast Go.Proofs.YtpnhelcemodnmaaGreatW.PrintMore PA
set_option linter.unusedVariables false
set_option linter.unusedSimpArgs false
attribute [local go_sem] Oper.semAt_some

set_option maxRecDepth 100000 in
set_option maxHeartbeats 1000000 in
theorem growInt (n : Nat) (hn : n ≤ 10000000) (w : World) : Calls Tryz.prog 146 #[.slice none 0 0, .int .i64 (n : Int)] w fun e w' => ∃ p c, e = .returned (.slice p 0 c) ∧ (Kd.int .i64).R 3 w' w.heap.size (fun _ => True) (.slice p 0 c) [] ∧ Below w.heap.size w w' := by
  by_cases h0 : n = 0
  · subst h0
    go_enter Tryz.func146, Tryz.ntmps146
    go_wp2
    go_ret
    exact ⟨none, 0, rfl, Kd.R_nil _ _ _ _ _, Below.refl _ _⟩
  · have hp : 0 < n := by omega
    have hp1 : (0 : Int) < (n : Int) := by omega
    have hz := Kd.R_nil (Kd.int .i64) 3 w w.heap.size (fun _ => True)
    have hn2 : (([] : List Int).length + (n : Int).toNat) * 8 ≤ 140737488355328 := by simp; omega
    have h00 : (0 : Int) ≤ (n : Int) := by omega
    go_enter Tryz.func146, Tryz.ntmps146
    go_wp2_with (at_builtin; refine Kd.R_append_zeros (Kd.int .i64) (w0 := w) w.heap.size rfl (.tmp 20) (.tmp 21) 23 3 3 (.int .i64 0) 8 rfl Tryz.underlying23 (k := .i64) Tryz.underlying3 info3 rfl (by decide) (by decide) _ ([] : List Int) (0 : Int) (kx := .i64) (n : Int) (fun _ => True) rfl rfl rfl (fun _ _ => trivial) hz h00 (Below.refl _ _) (Nat.le_refl _) hn2 ?_; intro v1 w1 hv hb hg hat; obtain ⟨vA, vc, rfl⟩ := Kd.R_slice hv)
    go_ret
    exact ⟨_, _, rfl, by simpa using Kd.R_take hv (Nat.zero_le _), hb⟩

theorem zero64F {w : World} {ok : Nat → Prop} : Kd.FK k64 w ok z64 (Value.agg #[.int .i64 0, .slice none 0 0]).cells.toList := k64_mkF w ok z64 (A1 := none) (c1 := 0) (Nat.le_refl _) (Kd.F_nil _ _ _)
set_option maxRecDepth 100000 in
set_option maxHeartbeats 1000000 in
theorem growFreed (n : Nat) (hn : n ≤ 10000000) (w : World) : Calls Tryz.prog 171 #[.slice none 0 0, .int .i64 (n : Int)] w fun e w' => ∃ p c, e = .returned (.slice p 0 c) ∧ Kd.N k64 64 w' w.heap.size (fun _ => True) (.slice p 0 c) [] ∧ Below w.heap.size w w' := by
  by_cases h0 : n = 0
  · subst h0
    go_enter Tryz.func171, Tryz.ntmps171
    go_wp2
    go_ret
    exact ⟨none, 0, rfl, Kd.N_nil _ _ _ _ _, Below.refl _ _⟩
  · have hp : 0 < n := by omega
    have hp1 : (0 : Int) < (n : Int) := by omega
    have hz := Kd.N_nil k64 64 w w.heap.size (fun _ => True)
    have hn2 : (([] : List S64).length + (n : Int).toNat) * 32 ≤ 140737488355328 := by simp; omega
    have h00 : (0 : Int) ≤ (n : Int) := by omega
    go_enter Tryz.func171, Tryz.ntmps171
    go_wp2_with (at_builtin; refine Kd.N_append_zeros k64 (w0 := w) w.heap.size rfl (.tmp 20) (.tmp 21) 26 3 64 (.agg #[.int .i64 0, .slice none 0 0]) 32 rfl Tryz.underlying26 (k := .i64) Tryz.underlying3 info64 rfl (by decide) (by decide) _ ([] : List S64) z64 (kx := .i64) (n : Int) (fun _ => True) rfl rfl zero64F (fun _ _ => trivial) hz h00 (Below.refl _ _) (Nat.le_refl _) hn2 ?_; intro v1 w1 hv hb hg hat; obtain ⟨vA, vc, rfl⟩ := Kd.N_slice hv)
    go_ret
    exact ⟨_, _, rfl, by simpa using Kd.N_take hv (Nat.zero_le _), hb⟩

/-- The first k lists, one behind the other. -/
def cat {α : Type} (ls : List (List α)) (k : Nat) : List α := (ls.take k).flatten
theorem cat_succ {α : Type} (ls : List (List α)) (k : Nat) (h : k < ls.length) : cat ls (k + 1) = cat ls k ++ ls.getD k [] := by
  unfold cat
  rw [List.take_succ_eq_append_getElem h, List.flatten_append, List.getD_eq_getElem?_getD, List.getElem?_eq_getElem h]
  simp
theorem cat_le {α : Type} (ls : List (List α)) (k : Nat) : (cat ls k).length ≤ ls.flatten.length := by
  unfold cat
  conv => rhs; rw [← List.take_append_drop k ls, List.flatten_append, List.length_append]
  omega

set_option maxRecDepth 100000 in
set_option maxHeartbeats 1000000 in
theorem concatInt (ls : List (List Int)) (A : Option Addr) (c : Nat) (w : World) (hC : (Kd.slice 3 (Kd.int .i64)).C w A ls.length ls) (hc : ls.length ≤ c) (hn : ls.flatten.length ≤ 10000000) :
    Calls Tryz.prog 106 #[.slice A ls.length c] w fun e w' => ∃ v, e = .returned v ∧ (Kd.int .i64).R 3 w' w.heap.size (fun _ => True) v ls.flatten ∧ Below w.heap.size w w' := by
  have hlm := Kd.C_max hC
  go_enter Tryz.func106, Tryz.ntmps106
  go_wp2
  go_loop [3, 11] (fun z i => ∃ k : Nat, k ≤ ls.length ∧ i = .int .i64 k ∧ z = .int .i64 ((cat ls k).length : Int)) (fun _ i => ls.length - (intOf i).toNat)
  case atStart => exact ⟨0, Nat.zero_le _, rfl, rfl⟩
  case round =>
    obtain ⟨k, hk, rfl, rfl⟩ := hrel
    have HL := Lib.hid (cat_le ls k)
    by_cases hlt : k < ls.length
    · obtain ⟨ad, A1, c1, rfl, hx0, hl1, hC1⟩ := at_L1 hC (k : Int) (by omega) (by omega)
      rw [Int.toNat_natCast] at hx0
      have HT := Lib.hid (cat_succ ls k hlt)
      have hb1 : (cat ls k).length + (ls.getD k []).length ≤ 10000000 := by
        have := cat_le ls (k + 1)
        rw [HT.out, List.length_append] at this
        omega
      rw [show rd_L1 ls (k : Int) = ls.getD k [] from rfl] at hx0 hl1 hC1
      obtain ⟨g, hg⟩ : ∃ g, ls.getD k [] = g := ⟨_, rfl⟩
      rw [hg] at hx0 hl1 hC1 hb1 HT
      obtain ⟨z, hz⟩ : ∃ z, cat ls k = z := ⟨_, rfl⟩
      rw [hz] at hb1 HT ⊢
      have h0 : (0 : Int) ≤ (z.length : Int) + (g.length : Int) := by omega
      clear hg hz
      go_wp2
      go_round
      case rel => exact ⟨k + 1, by omega, by go_num, by rw [HT.out, List.length_append]; go_num⟩
      case measure => simp [intOf]; omega
    · obtain rfl : k = ls.length := by omega
      have hcl : cat ls ls.length = ls.flatten := by unfold cat; rw [List.take_length]
      obtain ⟨m, hm⟩ : ∃ m, ls.flatten.length = m := ⟨_, rfl⟩
      rw [hcl, hm]
      have hm1 : m ≤ 10000000 := hm ▸ hn
      have hm0 : (0 : Int) ≤ (m : Int) := by omega
      have HG := Lib.hid (growInt m hm1 w)
      have HM := Lib.hid hm
      clear hcl hm hn HL
      go_wp2_with (go_at_call 146; (with_reducible refine HG.out.mono ?_); rintro e w1 ⟨p0, c0, rfl, hv0, hb0⟩)
      have HV0 := Aside0.mk hv0
      have HB0 := Aside0.mk hb0
      clear hv0 hb0
      go_loopw [6, 27] (fun v i wr => ∃ k : Nat, k ≤ ls.length ∧ i = .int .i64 k ∧ Aside0 ((Kd.int .i64).R 3 wr w.heap.size (fun _ => True) v (cat ls k)) ∧ Aside0 (Below w.heap.size w wr))
        (fun _ i _ => ls.length - (intOf i).toNat)
      case atStart => exact ⟨0, Nat.zero_le _, rfl, HV0, HB0⟩
      case round =>
        obtain ⟨k, hk, rfl, HV, HB⟩ := hrel
        clear HV0 HB0
        by_cases hlt : k < ls.length
        · obtain ⟨ad, A1, c1, rfl, hx0, hl1, hC1⟩ := at_L1 hC (k : Int) (by omega) (by omega)
          rw [Int.toNat_natCast] at hx0
          rw [show rd_L1 ls (k : Int) = ls.getD k [] from rfl] at hx0 hl1 hC1
          replace hx0 := cellB HB.out (Nat.le_refl _) hx0
          obtain ⟨g, hg⟩ : ∃ g, ls.getD k [] = g := ⟨_, rfl⟩
          have HT := Lib.hid (cat_succ ls k hlt)
          have hbd : ((cat ls k).length + (ls.getD k []).length) * 8 ≤ 140737488355328 := by
            have := cat_le ls (k + 1)
            rw [HT.out, List.length_append, HM.out] at this
            omega
          rw [hg] at hx0 hl1 hC1 hbd HT
          have HBD := Aside0.mk hbd
          clear hbd hg
          have HE := Aside0.mk (Kd.C_below hC1 HB.out)
          go_wp2_with (at_builtin; refine Kd.R_append_rows (Kd.int .i64) (w0 := w) w.heap.size rfl (.tmp 31) (.tmp 32) 23 3 (.int .i64 0) 8 rfl Tryz.underlying23 info3 rfl (by decide) (by decide) _ _ g _ _ _ (fun _ => True) (fun _ => False) rfl rfl HV.out HE.out (fun _ _ h => h) (fun _ h => h.elim) (fun _ _ => trivial) HB.out HB.out.size HBD.out ?_; intro v1 w2 hv hb hg hat)
          go_roundw
          case rel => exact ⟨k + 1, by omega, by go_num, ⟨by rw [HT.out]; exact hv⟩, ⟨hb⟩⟩
          case measure => simp [intOf]; omega
        · obtain rfl : k = ls.length := by omega
          have HCL := Lib.hid (show cat ls ls.length = ls.flatten by unfold cat; rw [List.take_length])
          go_wp2
          go_ret
          exact ⟨_, rfl, by rw [← HCL.out]; exact HV.out, HB.out⟩

set_option maxRecDepth 100000 in
set_option maxHeartbeats 1000000 in
theorem concatFreed (ls : List (List S64)) (A : Option Addr) (c : Nat) (w : World) (hC : (Kd.slice 64 k64).C w A ls.length ls) (hc : ls.length ≤ c) (hn : ls.flatten.length ≤ 10000000) :
    Calls Tryz.prog 144 #[.slice A ls.length c] w fun e w' => ∃ v, e = .returned v ∧ Kd.N k64 64 w' w.heap.size (fun _ => True) v ls.flatten ∧ Below w.heap.size w w' := by
  have hlm := Kd.C_max hC
  go_enter Tryz.func144, Tryz.ntmps144
  go_wp2
  go_loop [3, 11] (fun z i => ∃ k : Nat, k ≤ ls.length ∧ i = .int .i64 k ∧ z = .int .i64 ((cat ls k).length : Int)) (fun _ i => ls.length - (intOf i).toNat)
  case atStart => exact ⟨0, Nat.zero_le _, rfl, rfl⟩
  case round =>
    obtain ⟨k, hk, rfl, rfl⟩ := hrel
    have HL := Lib.hid (cat_le ls k)
    by_cases hlt : k < ls.length
    · obtain ⟨ad, A1, c1, rfl, hx0, hl1, hC1⟩ := at_L3 hC (k : Int) (by omega) (by omega)
      rw [Int.toNat_natCast] at hx0
      have HT := Lib.hid (cat_succ ls k hlt)
      have hb1 : (cat ls k).length + (ls.getD k []).length ≤ 10000000 := by
        have := cat_le ls (k + 1)
        rw [HT.out, List.length_append] at this
        omega
      rw [show rd_L3 ls (k : Int) = ls.getD k [] from rfl] at hx0 hl1 hC1
      obtain ⟨g, hg⟩ : ∃ g, ls.getD k [] = g := ⟨_, rfl⟩
      rw [hg] at hx0 hl1 hC1 hb1 HT
      obtain ⟨z, hz⟩ : ∃ z, cat ls k = z := ⟨_, rfl⟩
      rw [hz] at hb1 HT ⊢
      have h0 : (0 : Int) ≤ (z.length : Int) + (g.length : Int) := by omega
      clear hg hz
      go_wp2
      go_round
      case rel => exact ⟨k + 1, by omega, by go_num, by rw [HT.out, List.length_append]; go_num⟩
      case measure => simp [intOf]; omega
    · obtain rfl : k = ls.length := by omega
      have hcl : cat ls ls.length = ls.flatten := by unfold cat; rw [List.take_length]
      obtain ⟨m, hm⟩ : ∃ m, ls.flatten.length = m := ⟨_, rfl⟩
      rw [hcl, hm]
      have hm1 : m ≤ 10000000 := hm ▸ hn
      have hm0 : (0 : Int) ≤ (m : Int) := by omega
      have HG := Lib.hid (growFreed m hm1 w)
      have HM := Lib.hid hm
      clear hcl hm hn HL
      go_wp2_with (go_at_call 171; (with_reducible refine HG.out.mono ?_); rintro e w1 ⟨p0, c0, rfl, hv0, hb0⟩)
      have HV0 := Aside0.mk hv0
      have HB0 := Aside0.mk hb0
      clear hv0 hb0
      go_loopw [6, 27] (fun v i wr => ∃ k : Nat, k ≤ ls.length ∧ i = .int .i64 k ∧ Aside0 (Kd.N k64 64 wr w.heap.size (fun _ => True) v (cat ls k)) ∧ Aside0 (Below w.heap.size w wr))
        (fun _ i _ => ls.length - (intOf i).toNat)
      case atStart => exact ⟨0, Nat.zero_le _, rfl, HV0, HB0⟩
      case round =>
        obtain ⟨k, hk, rfl, HV, HB⟩ := hrel
        clear HV0 HB0
        by_cases hlt : k < ls.length
        · obtain ⟨ad, A1, c1, rfl, hx0, hl1, hC1⟩ := at_L3 hC (k : Int) (by omega) (by omega)
          rw [Int.toNat_natCast] at hx0
          rw [show rd_L3 ls (k : Int) = ls.getD k [] from rfl] at hx0 hl1 hC1
          replace hx0 := cellB HB.out (Nat.le_refl _) hx0
          obtain ⟨g, hg⟩ : ∃ g, ls.getD k [] = g := ⟨_, rfl⟩
          have HT := Lib.hid (cat_succ ls k hlt)
          have hbd : ((cat ls k).length + (ls.getD k []).length) * 32 ≤ 140737488355328 := by
            have := cat_le ls (k + 1)
            rw [HT.out, List.length_append, HM.out] at this
            omega
          rw [hg] at hx0 hl1 hC1 hbd HT
          have HBD := Aside0.mk hbd
          clear hbd hg
          have HE := Aside0.mk (Kd.F_below (Kd.C_F k64_heap hC1) HB.out)
          have hkk := fun (q : Nat) (hq : q < w.heap.size) => And.intro trivial (fun e => by have := Kd.N_base HV.out q (Eq.symm e); omega : some q ≠ Value.ownBlock _)
          have HK := Aside0.mk hkk
          clear hkk
          go_wp2_with (at_builtin; refine Kd.N_append_rows k64 (w0 := w) w.heap.size rfl (.tmp 31) (.tmp 32) 26 64 (.agg #[.int .i64 0, .slice none 0 0]) 32 rfl Tryz.underlying26 info64 rfl (by decide) (by decide) _ _ g _ _ _ (fun _ => True) (fun q => q < w.heap.size) rfl rfl HV.out HE.out HK.out (fun _ _ => trivial) HB.out HB.out.size HBD.out ?_; intro v1 w2 hv hb hg hat)
          go_roundw
          case rel => exact ⟨k + 1, by omega, by go_num, ⟨by rw [HT.out]; exact hv⟩, ⟨hb⟩⟩
          case measure => simp [intOf]; omega
        · obtain rfl : k = ls.length := by omega
          have HCL := Lib.hid (show cat ls ls.length = ls.flatten by unfold cat; rw [List.take_length])
          go_wp2
          go_ret
          exact ⟨_, rfl, by rw [← HCL.out]; exact HV.out, HB.out⟩
end Go.Proofs.YtpnhelcemodnmaaGreat

/- The closures of together. -/
namespace Go.Proofs.YtpnhelcemodnmaaGreat
open Go.RowKit Go.Shelf Go.Proofs.YtpnhelcemodnmaaGreatW.PrintWords Go.Proofs.YtpnhelcemodnmaaGreatW.PrintLast Go.Proofs.YtpnhelcemodnmaaGreatW.PrintMore PA
set_option linter.unusedVariables false
set_option linter.unusedSimpArgs false
attribute [local go_sem] Oper.semAt_some
set_option maxHeartbeats 1000000 in
theorem cmp_any (x y : Int) (A B : Option Addr) (n c m d : Nat) (w : World) : Calls Tryz.prog 103 #[.agg #[.int .i64 x, .slice A n c], .agg #[.int .i64 y, .slice B m d]] w fun e w' => e = .returned (.int .i64 (Lib.compareInt x y)) ∧ Below w.heap.size w w' := by
  have HC := Lib.hid (fun w1 => Tryz.cmp_Compare_int x y w1)
  go_enter Tryz.func103, Tryz.ntmps103
  go_wp2_with (go_at_call 104; (with_reducible refine (HC.out _).mono ?_); rintro e w' ⟨rfl, rfl⟩)
  go_ret
  exact ⟨rfl, (below_alloc1 w _).alloc (by simp) _⟩
/-- A block reads as a row. -/
theorem block_row {α : Type} {R : α → List Value → Prop} {sz : Nat} {w : World} {n : Nat} {t : TypeId} {C : Array Value} {ps : List α} (hb : w.heap[n]? = some (.cells C t (0, 0))) (hr : Reps R sz ps C.toList) (hm : ps.length ≤ 9223372036854775807) : ReadsRow R sz w (some ⟨n, 0, none⟩) ps.length ps := by
  refine ⟨rfl, hm, fun _ => ⟨_, rfl, fun j q hj => ⟨_, ?_, hr.2 j q hj, fun i u hu => ?_⟩⟩⟩
  · have hjl := (List.getElem?_eq_some_iff.1 hj).1
    have h1 := hr.1
    have : j * sz + sz ≤ ps.length * sz := by rw [← Nat.succ_mul]; exact Nat.mul_le_mul_right _ hjl
    rw [List.length_take, List.length_drop]
    omega
  · rw [List.getElem?_take] at hu
    by_cases hi : i < sz
    · rw [if_pos hi, List.getElem?_drop, Array.getElem?_toList] at hu
      rw [Addr.add_lit, Nat.zero_add]
      exact (blk_cell hb _).trans hu
    · rw [if_neg hi] at hu; cases hu
set_option maxHeartbeats 1000000 in
theorem both_any (x y : Int) (A B : Option Addr) (xs ys : List Int) (c d : Nat) (w : World) (hA : (Kd.int .i64).C w A xs.length xs) (hB : (Kd.int .i64).C w B ys.length ys) (hc : xs.length ≤ c) (hd : ys.length ≤ d) (hn : xs.length + ys.length ≤ 10000000) :
    Calls Tryz.prog 105 #[.agg #[.int .i64 x, .slice A xs.length c], .agg #[.int .i64 y, .slice B ys.length d]] w fun e w' => ∃ v, e = .returned (.agg #[.int .i64 x, v]) ∧ (Kd.int .i64).R 3 w' w.heap.size (fun _ => True) v (sortI (xs ++ ys)) ∧ Below w.heap.size w w' := by
  go_enter Tryz.func105, Tryz.ntmps105
  go_wp2_with fail
  obtain ⟨W0, hW0⟩ : ∃ W0, ((((w.alloc (.cells #[.int .i64 x, .slice A xs.length c] 64)).alloc (.cells #[.int .i64 y, .slice B ys.length d] 64)).alloc (.cells #[.int .i64 0, .slice none 0 0] 64)).alloc (.cells #[.slice A xs.length c, .slice B ys.length d] 23)) = W0 := ⟨_, rfl⟩
  have hs0 : W0.heap.size = w.heap.size + 4 := by rw [← hW0]; simp
  have hb0 : Below w.heap.size w W0 := by rw [← hW0]; exact (((below_alloc1 w _).alloc (by simp) _).alloc (by simp; omega) _).alloc (by simp; omega) _
  have hk0 : W0.heap[w.heap.size]? = some (.cells #[.int .i64 x, .slice A xs.length c] 64 (0, 0)) := by rw [← hW0]; exact blk_alloc (blk_alloc (blk_alloc (blk_new w _) _) _) _
  have hk2 : W0.heap[w.heap.size + 1 + 1]? = some (.cells #[.int .i64 0, .slice none 0 0] 64 (0, 0)) := by
    rw [← hW0]
    have := blk_new ((w.alloc (.cells #[.int .i64 x, .slice A xs.length c] 64)).alloc (.cells #[.int .i64 y, .slice B ys.length d] 64)) (.cells #[.int .i64 0, .slice none 0 0] 64)
    rw [World.size_alloc, World.size_alloc] at this
    exact blk_alloc this _
  have hk3 : W0.heap[w.heap.size + 1 + 1 + 1]? = some (.cells #[.slice A xs.length c, .slice B ys.length d] 23 (0, 0)) := by
    rw [← hW0]
    have := blk_new (((w.alloc (.cells #[.int .i64 x, .slice A xs.length c] 64)).alloc (.cells #[.int .i64 y, .slice B ys.length d] 64)).alloc (.cells #[.int .i64 0, .slice none 0 0] 64)) (.cells #[.slice A xs.length c, .slice B ys.length d] 23)
    rw [World.size_alloc, World.size_alloc, World.size_alloc] at this
    exact this
  rw [hW0]
  clear hW0
  have hrow : (Kd.slice 3 (Kd.int .i64)).C W0 (some ⟨w.heap.size + 1 + 1 + 1, 0, none⟩) [xs, ys].length [xs, ys] := by
    refine block_row hk3 ⟨rfl, fun j q hj => ?_⟩ (by simp)
    match j with
    | 0 => obtain rfl : xs = q := by simpa using hj
           exact ⟨A, c, rfl, hc, Kd.C_below hA hb0⟩
    | 1 => obtain rfl : ys = q := by simpa using hj
           exact ⟨B, d, rfl, hd, Kd.C_below hB hb0⟩
    | j + 2 => simp at hj
  have HCC := Aside0.mk (concatInt [xs, ys] _ 2 W0 hrow (by simp) (by simpa using hn))
  refine HCC.out.mono ?_
  rintro e w2 ⟨v, rfl, hv, hb2⟩
  have hv' : (Kd.int .i64).R 3 w2 W0.heap.size (fun _ => True) v (xs ++ ys) := by simpa using hv
  have hbig : (xs ++ ys).length < 4611686018427387904 := by rw [List.length_append]; omega
  have HS := Aside0.mk (sort_R hv' hbig)
  obtain ⟨B2, hB2⟩ : ∃ B2, w.heap.size + 1 + 1 = B2 := ⟨_, rfl⟩
  have hne : some w.heap.size ≠ v.ownBlock := fun e => by have := Kd.R_base hv' _ e.symm; omega
  have hne2 : some B2 ≠ v.ownBlock := fun e => by have := Kd.R_base hv' _ e.symm; omega
  rw [hB2] at hk2 ⊢
  have HB20 := Aside0.mk hB2
  have HK0 := Aside0.mk (blk_below hk0 hb2)
  have HK2 := Aside0.mk (blk_below hk2 hb2)
  have HB := Aside0.mk (hb0.trans (hb2.mono (by omega)))
  clear hk0 hk2 hk3 hrow HCC hB2 hv hv' hA hB
  go_wp2_with (go_at_call 73; (with_reducible refine HS.out.mono ?_); rintro e w3 ⟨rfl, hv3, hkk3, hb3⟩; have hq0 := blk_kept HK0.out hkk3 hne; have hq2 := blk_kept HK2.out hkk3 hne2; have hx0 : w3.cell? ⟨w.heap.size, 0, none⟩ = some (.int .i64 x) := (blk_cell hq0 0).trans rfl; have hf0 := blk_frozen hq2 0; have hf1 := blk_frozen hq2 1; have hy0 : w3.cell? ⟨B2, 0, none⟩ = some (.int .i64 0) := (blk_cell hq2 0).trans rfl; have hy1 : w3.cell? ⟨B2, 1, none⟩ = some (.slice none 0 0) := (blk_cell hq2 1).trans rfl; obtain ⟨vA, vc, rfl⟩ := Kd.R_slice hv3)
  have hq5 : ((w3.setCell ⟨B2, 0, none⟩ (.int .i64 x)).setCell ⟨B2, 1, none⟩ (.slice vA (sortI (xs ++ ys)).length vc)).heap[B2]? = some (.cells #[.int .i64 x, .slice vA (sortI (xs ++ ys)).length vc] 64 (0, 0)) := blk_set (blk_set hq2 0 _) 1 _
  have hR5 := Kd.R_far (p := ⟨B2, 1, none⟩) (Kd.R_far (p := ⟨B2, 0, none⟩) (Kd.R_far1 hv3 rfl hne2) (fun k hk => hk.2) (.int .i64 x)) (fun k hk => hk.2) (.slice vA (sortI (xs ++ ys)).length vc)
  have hsz := HB.out.size
  have hB2 := HB20.out
  refine bodyPost_ret (v := .agg #[.int .i64 x, .slice vA (sortI (xs ++ ys)).length vc]) (results_single rfl (.cell B2 64 _ (0, 0) _ rfl hq5 Tryz.underlying64 rfl (by kernel_rfl) .nil)) rfl ⟨_, rfl, Kd.R_mono (Kd.R_lower hR5 (by omega)) (fun _ _ => trivial), ?_⟩
  exact ((HB.out.trans (hb3.mono (by omega))).setCell (p := ⟨B2, 0, none⟩) (by show w.heap.size ≤ B2; omega) _).setCell (p := ⟨B2, 1, none⟩) (by show w.heap.size ≤ B2; omega) _
end Go.Proofs.YtpnhelcemodnmaaGreat


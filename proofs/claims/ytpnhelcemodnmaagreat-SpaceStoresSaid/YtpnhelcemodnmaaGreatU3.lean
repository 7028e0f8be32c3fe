/- Texts put together for one claim: part 3. -/
import Derived.Deep.LoopGhost
import Derived.BigQuiet
import Derived.Test.YtpnhelcemodnmaaGreatU2
namespace Go.Proofs.YtpnhelcemodnmaaGreat
open Go.RowKit Go.Shelf Go.Proofs.YtpnhelcemodnmaaGreatW.PrintWords Go.Proofs.YtpnhelcemodnmaaGreatW.PrintLast Go.Proofs.YtpnhelcemodnmaaGreatW.PrintMore PA
set_option linter.unusedVariables false
set_option linter.unusedSimpArgs false
attribute [local go_sem] Oper.semAt_some
def mergeL : List S64 → List S64 → List S64
  | [], b => b
  | x :: a, [] => x :: a
  | x :: a, y :: b => if x.f0 < y.f0 then x :: mergeL a (y :: b) else if y.f0 < x.f0 then y :: mergeL (x :: a) b else ⟨x.f0, sortI (x.f1 ++ y.f1)⟩ :: mergeL a b
termination_by a b => a.length + b.length
theorem merge_nil (b : List S64) : mergeL [] b = b := by rw [mergeL]
theorem merge_nil2 (a : List S64) : mergeL a [] = a := by cases a <;> rw [mergeL]
theorem merge_lt {x y : S64} (a b : List S64) (h : x.f0 < y.f0) : mergeL (x :: a) (y :: b) = x :: mergeL a (y :: b) := by rw [mergeL, if_pos h]
theorem merge_gt {x y : S64} (a b : List S64) (h : y.f0 < x.f0) : mergeL (x :: a) (y :: b) = y :: mergeL (x :: a) b := by rw [mergeL, if_neg (by omega), if_pos h]
theorem merge_eq {x y : S64} (a b : List S64) (h : x.f0 = y.f0) : mergeL (x :: a) (y :: b) = ⟨x.f0, sortI (x.f1 ++ y.f1)⟩ :: mergeL a b := by rw [mergeL, if_neg (by omega), if_neg (by omega)]
theorem merge_length (a b : List S64) : (mergeL a b).length ≤ a.length + b.length := by
  induction a generalizing b with
  | nil => rw [merge_nil]; simp
  | cons x a ih =>
    induction b with
    | nil => rw [merge_nil2]; simp
    | cons y b ihb =>
      rcases Int.lt_trichotomy x.f0 y.f0 with h | h | h
      · rw [merge_lt a b h]; have := ih (y :: b); simp at this ⊢; omega
      · rw [merge_eq a b h]; have := ih b; simp at this ⊢; omega
      · rw [merge_gt a b h]; simp at ihb ⊢; omega
def lenV : Value → Nat
  | .slice _ n _ => n
  | _ => 0
def MI (la lb : List S64) (w wr : World) (va vb vo : Value) : Prop :=
  ∃ (A : Option Addr) (ca : Nat) (B : Option Addr) (cb : Nat) (l m done : List S64), va = .slice A l.length ca ∧ l.length ≤ ca ∧ k64.C w A l.length l ∧ vb = .slice B m.length cb ∧ m.length ≤ cb ∧ k64.C w B m.length m ∧
    Kd.N k64 64 wr w.heap.size (fun _ => True) vo done ∧ Below w.heap.size w wr ∧ mergeL la lb = done ++ mergeL l m ∧ done.length + l.length + m.length ≤ la.length + lb.length ∧ l.length ≤ la.length ∧ m.length ≤ lb.length ∧
    (pagesOf l).length ≤ (pagesOf la).length ∧ (pagesOf m).length ≤ (pagesOf lb).length
theorem size64 : (Tryz.prog.info? 64).map (·.size) = some 2 := by kernel_rfl
theorem cell_grown {W W1 : World} {row : Option Nat} (hg : W.grownBy W1 row) {a : Addr} {v : Value} (h : W.cell? a = some v) (hne : some a.block ≠ row) : W1.cell? a = some v := by
  have := hg.block a.block (World.block_lt_of_cell? W a h) hne
  simpa [World.cell?, this] using h
theorem head_cells {w : World} {A : Option Addr} {x : S64} {l : List S64} (h : k64.C w A (x :: l).length (x :: l)) : ∃ b o A1 c1, A = some ⟨b, o, none⟩ ∧ w.cell? ⟨b, o, none⟩ = some (.int .i64 x.f0) ∧ w.cell? ⟨b, o + 1, none⟩ = some (.slice A1 x.f1.length c1) ∧ x.f1.length ≤ c1 ∧
    Kd.FK k64 w (fun k => k < w.heap.size) x [.int .i64 x.f0, .slice A1 x.f1.length c1] ∧ (Kd.int .i64).C w A1 x.f1.length x.f1 ∧ b < w.heap.size := by
  obtain ⟨⟨b, o, t⟩, A1, c1, rfl, h0, h1, h2, h3⟩ := at_T64 h 0 (by simp) (by simp)
  have e : rd_T64 (x :: l) 0 = x := rfl
  rw [e] at h0 h1 h2 h3
  rw [show (Addr.add ⟨b, o, t⟩ ((0 : Int).toNat * 2)) = ⟨b, o, t⟩ from rfl] at h0 h1
  have ht : t = none := by
    cases t with
    | none => rfl
    | some q =>
      have : w.cell? ⟨b, o, some q⟩ = none := by unfold World.cell?; split <;> simp
      rw [this] at h0
      cases h0
  subst ht
  exact ⟨b, o, A1, c1, rfl, h0, h1, h2, k64_mkF _ _ x h2 (Kd.C_F (Kd.heap_int .i64) h3), h3, World.block_lt_of_cell? w _ h0⟩
set_option maxRecDepth 100000 in
set_option maxHeartbeats 4000000 in
theorem merged_any (la lb : List S64) (A : Option Addr) (ca : Nat) (B : Option Addr) (cb : Nat) (w : World) (hA : k64.C w A la.length la) (hca : la.length ≤ ca) (hB : k64.C w B lb.length lb) (hcb : lb.length ≤ cb) (ha : smallL la) (hb : smallL lb) :
    Calls Tryz.prog 102 #[.slice A la.length ca, .slice B lb.length cb, .func (.func 103) #[] #[], .func (.func 105) #[] #[]] w fun e w' => ∃ v, e = .returned v ∧ Kd.N k64 64 w' w.heap.size (fun _ => True) v (mergeL la lb) ∧ Below w.heap.size w w' := by
  go_enter Tryz.func102, Tryz.ntmps102
  go_wp2
  go_loopw [0, 1, 9] (fun va vb vo wr => MI la lb w wr va vb vo) (fun va vb _ _ => lenV va + lenV vb)
  case atStart => exact ⟨A, ca, B, cb, la, lb, [], rfl, hca, hA, rfl, hcb, hB, Kd.N_nil _ _ _ _ _, Below.refl _ _, rfl, by simp, Nat.le_refl _, Nat.le_refl _, Nat.le_refl _, Nat.le_refl _⟩
  case round =>
    obtain ⟨A, ca, B, cb, l, m, done, rfl, hca, hA, rfl, hcb, hB, hN, hW, hM, hL, hl, hm, hpl, hpm⟩ := hrel
    obtain ⟨O, co, rfl⟩ := Kd.N_slice hN
    have HN := Aside0.mk hN
    have HW := Aside0.mk hW
    have HM := Lib.hid hM
    clear hN hW hM
    have hsl := ha.1
    have hsm := hb.1
    cases l with
    | nil =>
      go_wp2_with fail
      have hk := blk_new wr (.cells #[.slice O done.length co, .slice A (([] : List S64)).length ca, .slice B (m).length cb] 26)
      have hbw := below_alloc1 wr (.cells #[.slice O done.length co, .slice A (([] : List S64)).length ca, .slice B (m).length cb] 26)
      have hrow : (Kd.slice 64 k64).C (wr.alloc (.cells #[.slice O done.length co, .slice A (([] : List S64)).length ca, .slice B (m).length cb] 26)) (some ⟨wr.heap.size, 0, none⟩) [done, ([] : List S64), m].length [done, ([] : List S64), m] := by
        refine block_row hk ⟨rfl, fun j q hj => ?_⟩ (by simp)
        obtain ⟨_, hco, hCO⟩ := Kd.N_reads' HN.out
        match j with
        | 0 => obtain rfl : done = q := by simpa using hj
               exact ⟨O, co, rfl, hco, Kd.C_below hCO hbw⟩
        | 1 => obtain rfl : (([] : List S64)) = q := by simpa using hj
               exact ⟨A, ca, rfl, hca, Kd.C_below hA (HW.out.trans (hbw.mono HW.out.size))⟩
        | 2 => obtain rfl : (m) = q := by simpa using hj
               exact ⟨B, cb, rfl, hcb, Kd.C_below hB (HW.out.trans (hbw.mono HW.out.size))⟩
        | j + 3 => simp at hj
      have hfl : [done, ([] : List S64), m].flatten = done ++ ((([] : List S64)) ++ (m)) := by simp
      refine (concatFreed [done, ([] : List S64), m] _ 3 _ hrow (by simp) (by rw [hfl]; simp only [List.length_append]; simp at hL ⊢; omega)).mono ?_
      rintro e w2 ⟨v, rfl, hv, hb2⟩
      rw [hfl] at hv
      go_wp2
      go_ret
      refine ⟨_, rfl, ?_, HW.out.trans ((hbw.trans (hb2.mono (by simp))).mono HW.out.size)⟩
      have := Kd.N_lower hv (show w.heap.size ≤ _ by have := HW.out.size; simp; omega)
      rw [HM.out, merge_nil]
      exact this
    | cons x l =>
      cases m with
      | nil =>
        go_wp2_with fail
        have hk := blk_new wr (.cells #[.slice O done.length co, .slice A (x :: l).length ca, .slice B (([] : List S64)).length cb] 26)
        have hbw := below_alloc1 wr (.cells #[.slice O done.length co, .slice A (x :: l).length ca, .slice B (([] : List S64)).length cb] 26)
        have hrow : (Kd.slice 64 k64).C (wr.alloc (.cells #[.slice O done.length co, .slice A (x :: l).length ca, .slice B (([] : List S64)).length cb] 26)) (some ⟨wr.heap.size, 0, none⟩) [done, x :: l, ([] : List S64)].length [done, x :: l, ([] : List S64)] := by
          refine block_row hk ⟨rfl, fun j q hj => ?_⟩ (by simp)
          obtain ⟨_, hco, hCO⟩ := Kd.N_reads' HN.out
          match j with
          | 0 => obtain rfl : done = q := by simpa using hj
                 exact ⟨O, co, rfl, hco, Kd.C_below hCO hbw⟩
          | 1 => obtain rfl : (x :: l) = q := by simpa using hj
                 exact ⟨A, ca, rfl, hca, Kd.C_below hA (HW.out.trans (hbw.mono HW.out.size))⟩
          | 2 => obtain rfl : (([] : List S64)) = q := by simpa using hj
                 exact ⟨B, cb, rfl, hcb, Kd.C_below hB (HW.out.trans (hbw.mono HW.out.size))⟩
          | j + 3 => simp at hj
        have hfl : [done, x :: l, ([] : List S64)].flatten = done ++ ((x :: l) ++ (([] : List S64))) := by simp
        refine (concatFreed [done, x :: l, ([] : List S64)] _ 3 _ hrow (by simp) (by rw [hfl]; simp only [List.length_append]; simp at hL ⊢; omega)).mono ?_
        rintro e w2 ⟨v, rfl, hv, hb2⟩
        rw [hfl] at hv
        go_wp2
        go_ret
        refine ⟨_, rfl, ?_, HW.out.trans ((hbw.trans (hb2.mono (by simp))).mono HW.out.size)⟩
        have := Kd.N_lower hv (show w.heap.size ≤ _ by have := HW.out.size; simp; omega)
        rw [HM.out, merge_nil2]
        rw [List.append_nil] at this
        exact this
      | cons y m =>
        obtain ⟨ba, oa, A1, c1, rfl, hx0, hx1, hl1, hFx, hCx, hba⟩ := head_cells hA
        obtain ⟨bb, ob, B1, d1, rfl, hy0, hy1, hd1, hFy, hCy, hbb⟩ := head_cells hB
        replace hx0 := cellB HW.out (Nat.le_refl _) hx0
        replace hx1 := cellB HW.out (Nat.le_refl _) hx1
        replace hy0 := cellB HW.out (Nat.le_refl _) hy0
        replace hy1 := cellB HW.out (Nat.le_refl _) hy1
        obtain ⟨A2, hA2⟩ : ∃ A2, (if ca = 1 then some ⟨ba, oa, none⟩ else (some (⟨ba, oa, none⟩ : Addr)).map (·.add (1 * 2))) = A2 := ⟨_, rfl⟩
        obtain ⟨B2, hB2⟩ : ∃ B2, (if cb = 1 then some ⟨bb, ob, none⟩ else (some (⟨bb, ob, none⟩ : Addr)).map (·.add (1 * 2))) = B2 := ⟨_, rfl⟩
        have hA' : k64.C w A2 l.length l := by rw [← hA2]; exact Kd.C_drop (m := 1) hA (by simp) hca
        have hB' : k64.C w B2 m.length m := by rw [← hB2]; exact Kd.C_drop (m := 1) hB (by simp) hcb
        have HA2 := Lib.hid hA2
        have HB2 := Lib.hid hB2
        clear hA2 hB2
        have hnb : ∀ k, k < w.heap.size → True ∧ some k ≠ (Value.slice O done.length co).ownBlock := fun k hk => ⟨trivial, fun e => by have := Kd.N_base HN.out k e.symm; omega⟩
        have HNE := Aside0.mk hnb
        have HNa := Aside0.mk (hnb ba hba).2
        have HNb := Aside0.mk (hnb bb hbb).2
        have hbd : (done.length + 1) * 32 ≤ 140737488355328 := by simp at hL; omega
        have HBD := Aside0.mk hbd
        have HFx := Aside0.mk hFx
        have HFy := Aside0.mk hFy
        have HCX := Aside0.mk hCx
        have HCY := Aside0.mk hCy
        have HL := Aside0.mk hL
        have HPL := Aside0.mk hpl
        have HPM := Aside0.mk hpm
        clear hnb hbd hFx hFy hCx hCy hL hpl hpm
        by_cases hlt : x.f0 < y.f0
        · have HCMP := Lib.hid (show Lib.compareInt x.f0 y.f0 = -1 by unfold Lib.compareInt; rw [if_pos hlt])
          go_upto_region 3 with (fail)
          refine wp_region_held_drew (S := fun W => W.cell? ⟨ba, oa, none⟩ = some (.int .i64 x.f0) ∧ W.cell? ⟨ba, oa + 1, none⟩ = some (.slice A1 x.f1.length c1) ∧ W.cell? ⟨bb, ob, none⟩ = some (.int .i64 y.f0) ∧ W.cell? ⟨bb, ob + 1, none⟩ = some (.slice B1 y.f1.length d1)) (by kernel_rfl) (⟨hx0, hx1, hy0, hy1⟩) (fun hS => ?_)
          simp only [List.size_toArray, List.length_cons, List.length_nil, Nat.reduceAdd, Array.replicate_succ, Array.replicate_zero, List.push_toArray, List.nil_append, List.cons_append]
          refine take_at (i := 0) 19 (.func (.func 103) #[] #[]) rfl rfl (by kernel_rfl) (by kernel_rfl) (by kernel_rfl) (fun _ _ _ h => h) (Or.inl ⟨by rfl, fun W hW => by go_simp⟩) hS ?_
          try simp only [List.setIfInBounds_toArray, List.set_cons_zero, List.set_cons_succ]
          refine take_at (i := 1) 20 (.slice (some ⟨ba, oa, none⟩) (x :: l).length ca) rfl rfl (by kernel_rfl) (by kernel_rfl) (by kernel_rfl) (fun _ _ _ h => h) (Or.inl ⟨by rfl, fun W hW => by go_simp⟩) hS ?_
          try simp only [List.setIfInBounds_toArray, List.set_cons_zero, List.set_cons_succ]
          refine take_at (i := 2) 21 (.pointer (some ⟨ba, oa, none⟩)) rfl rfl (by kernel_rfl) (by kernel_rfl) (by kernel_rfl) (fun _ _ _ h => h) (Or.inl ⟨by rfl, fun W hW => by go_simp⟩) hS ?_
          try simp only [List.setIfInBounds_toArray, List.set_cons_zero, List.set_cons_succ]
          refine take_at (i := 3) 22 (.agg #[.int .i64 x.f0, .slice A1 x.f1.length c1]) rfl rfl (by kernel_rfl) (by kernel_rfl) (by kernel_rfl) (fun _ _ _ h => h) (Or.inl ⟨by rfl, fun W hW => by obtain ⟨h1, h2, h3, h4⟩ := hW; go_simp⟩) hS ?_
          try simp only [List.setIfInBounds_toArray, List.set_cons_zero, List.set_cons_succ]
          refine take_at (i := 4) 23 (.slice (some ⟨bb, ob, none⟩) (y :: m).length cb) rfl rfl (by kernel_rfl) (by kernel_rfl) (by kernel_rfl) (fun _ _ _ h => h) (Or.inl ⟨by rfl, fun W hW => by go_simp⟩) hS ?_
          try simp only [List.setIfInBounds_toArray, List.set_cons_zero, List.set_cons_succ]
          refine take_at (i := 5) 24 (.pointer (some ⟨bb, ob, none⟩)) rfl rfl (by kernel_rfl) (by kernel_rfl) (by kernel_rfl) (fun _ _ _ h => h) (Or.inl ⟨by rfl, fun W hW => by go_simp⟩) hS ?_
          try simp only [List.setIfInBounds_toArray, List.set_cons_zero, List.set_cons_succ]
          refine take_at (i := 6) 25 (.agg #[.int .i64 y.f0, .slice B1 y.f1.length d1]) rfl rfl (by kernel_rfl) (by kernel_rfl) (by kernel_rfl) (fun _ _ _ h => h) (Or.inl ⟨by rfl, fun W hW => by obtain ⟨h1, h2, h3, h4⟩ := hW; go_simp⟩) hS ?_
          try simp only [List.setIfInBounds_toArray, List.set_cons_zero, List.set_cons_succ]
          refine wpAnyH_ready (rs := [7]) (by kernel_rfl) (by simp) ?_
          refine AllReadyH.cons rfl (fun K hK => ?_) AllReadyH.nil
          go_simp
          refine (cmp_any x.f0 y.f0 A1 B1 x.f1.length c1 y.f1.length d1 _).mono ?_
          rintro e w1 ⟨rfl, hcb1⟩
          rw [HCMP.out]
          refine hK.out _ _ (⟨cellB hcb1 (Nat.le_refl _) hS.1, cellB hcb1 (Nat.le_refl _) hS.2.1, cellB hcb1 (Nat.le_refl _) hS.2.2.1, cellB hcb1 (Nat.le_refl _) hS.2.2.2⟩) (fun hS => ?_)
          clear hK K
          try simp only [Act.put, List.getElem_toArray, List.getElem_cons_succ, List.getElem_cons_zero, List.setIfInBounds_toArray, List.set_cons_zero, List.set_cons_succ]
          refine take_at (i := 8) 10 (.int .i64 (-1)) rfl rfl (by kernel_rfl) (by kernel_rfl) (by kernel_rfl) (fun _ _ _ h => h) (Or.inl ⟨by rfl, fun W hW => by go_simp⟩) hS ?_
          try simp only [List.setIfInBounds_toArray, List.set_cons_zero, List.set_cons_succ]
          refine wpAnyH_done (by kernel_rfl) ?_ _
          have HN1 := Aside0.mk (Kd.N_below (Kd.N_drew HN.out) hcb1)
          have HW1 := Aside0.mk (HW.out.drew.trans (hcb1.mono HW.out.size))
          have HCx := Aside0.mk (Kd.FK_below HFx.out HW1.out)
          have HCy := Aside0.mk (Kd.FK_below HFy.out HW1.out)
          have hS0 := hS
          clear hS hx0 hx1 hy0 hy1 hcb1
          go_upto_region 6 with (fail)
          refine wp_region_held_drew (S := fun W => W.cell? ⟨ba, oa, none⟩ = some (.int .i64 x.f0) ∧ W.cell? ⟨ba, oa + 1, none⟩ = some (.slice A1 x.f1.length c1) ∧ W.cell? ⟨bb, ob, none⟩ = some (.int .i64 y.f0) ∧ W.cell? ⟨bb, ob + 1, none⟩ = some (.slice B1 y.f1.length d1)) (by kernel_rfl) (hS0) (fun hS => ?_)
          simp only [List.size_toArray, List.length_cons, List.length_nil, Nat.reduceAdd, Array.replicate_succ, Array.replicate_zero, List.push_toArray, List.nil_append, List.cons_append]
          refine take_at (i := 0) 45 (.slice O done.length co) rfl rfl (by kernel_rfl) (by kernel_rfl) (by kernel_rfl) (fun _ _ _ h => h) (Or.inl ⟨by rfl, fun W hW => by go_simp⟩) hS ?_
          try simp only [List.setIfInBounds_toArray, List.set_cons_zero, List.set_cons_succ]
          refine take_at (i := 1) 46 (.slice (some ⟨ba, oa, none⟩) (x :: l).length ca) rfl rfl (by kernel_rfl) (by kernel_rfl) (by kernel_rfl) (fun _ _ _ h => h) (Or.inl ⟨by rfl, fun W hW => by go_simp⟩) hS ?_
          try simp only [List.setIfInBounds_toArray, List.set_cons_zero, List.set_cons_succ]
          refine take_at (i := 2) 47 (.pointer (some ⟨ba, oa, none⟩)) rfl rfl (by kernel_rfl) (by kernel_rfl) (by kernel_rfl) (fun _ _ _ h => h) (Or.inl ⟨by rfl, fun W hW => by go_simp⟩) hS ?_
          try simp only [List.setIfInBounds_toArray, List.set_cons_zero, List.set_cons_succ]
          refine take_at (i := 3) 48 (.agg #[.int .i64 x.f0, .slice A1 x.f1.length c1]) rfl rfl (by kernel_rfl) (by kernel_rfl) (by kernel_rfl) (fun _ _ _ h => h) (Or.inl ⟨by rfl, fun W hW => by obtain ⟨h1, h2, h3, h4⟩ := hW; go_simp⟩) hS ?_
          try simp only [List.setIfInBounds_toArray, List.set_cons_zero, List.set_cons_succ]
          refine take_at (i := 6) 51 (.slice (some ⟨ba, oa, none⟩) (x :: l).length ca) rfl rfl (by kernel_rfl) (by kernel_rfl) (by kernel_rfl) (fun _ _ _ h => h) (Or.inl ⟨by rfl, fun W hW => by go_simp⟩) hS ?_
          try simp only [List.setIfInBounds_toArray, List.set_cons_zero, List.set_cons_succ]
          refine take_at (i := 7) 52 (.slice A2 l.length (ca - 1)) rfl rfl (by kernel_rfl) (by kernel_rfl) (by kernel_rfl) (fun _ _ _ h => h) (Or.inl ⟨by rfl, fun W hW => (exec_sliceFrom _ 26 64 2 (.tmp 51) _ rfl _ (x :: l).length ca 1 rfl rfl Tryz.underlying26 size64 (by simp)).trans (by rw [HA2.out]; rfl)⟩) hS ?_
          try simp only [List.setIfInBounds_toArray, List.set_cons_zero, List.set_cons_succ]
          refine wpAnyH_ready (rs := [4]) (by kernel_rfl) (by simp) ?_
          refine AllReadyH.cons rfl (fun K hK => ?_) AllReadyH.nil
          rw [if_pos (by rfl)]
          refine oper_build1 (.tmp 48) rfl rfl (build26 _ _ _ _ _) ?_
          refine hK.out _ _ (⟨cellB (below_alloc1 _ _) (Nat.le_refl _) hS.1, cellB (below_alloc1 _ _) (Nat.le_refl _) hS.2.1, cellB (below_alloc1 _ _) (Nat.le_refl _) hS.2.2.1, cellB (below_alloc1 _ _) (Nat.le_refl _) hS.2.2.2⟩) (fun hS => ?_)
          clear hK K
          try simp only [Act.put, List.getElem_toArray, List.getElem_cons_succ, List.getElem_cons_zero, List.setIfInBounds_toArray, List.set_cons_zero, List.set_cons_succ]
          refine wpAnyH_ready (rs := [5]) (by kernel_rfl) (by simp) ?_
          refine AllReadyH.cons rfl (fun K hK => ?_) AllReadyH.nil
          refine Kd.N_append_step k64 (w0 := w) w.heap.size (by rfl) (.tmp 45) (.tmp 49) 26 64 (.agg #[.int .i64 0, .slice none 0 0]) 32 rfl Tryz.underlying26 info64 rfl (by decide) (by decide) (.slice O done.length co) done x [.int .i64 x.f0, .slice A1 x.f1.length c1] (fun _ => True) (fun k => k < w.heap.size) rfl rfl (Kd.FK_below HCx.out (Below.refl _ _).drew) HNE.out (fun _ _ => trivial) (Kd.N_drew HN1.out) HW1.out.drew HW1.out.drew.size HBD.out ?_
          intro v1 w9 hv1 hb1 hg1 hat1
          refine hK.out _ _ (⟨cell_grown (W := w1.drew) hg1 hS0.1 HNa.out, cell_grown (W := w1.drew) hg1 hS0.2.1 HNa.out, cell_grown (W := w1.drew) hg1 hS0.2.2.1 HNb.out, cell_grown (W := w1.drew) hg1 hS0.2.2.2 HNb.out⟩) (fun hS => ?_)
          clear hK K
          try simp only [Act.put, List.getElem_toArray, List.getElem_cons_succ, List.getElem_cons_zero, List.setIfInBounds_toArray, List.set_cons_zero, List.set_cons_succ]
          refine take_at (i := 8) 9 (v1) rfl rfl (by kernel_rfl) (by kernel_rfl) (by kernel_rfl) (fun _ _ _ h => h) (Or.inl ⟨by rfl, fun W hW => by go_simp⟩) hS ?_
          try simp only [List.setIfInBounds_toArray, List.set_cons_zero, List.set_cons_succ]
          refine take_at (i := 9) 0 (.slice A2 l.length (ca - 1)) rfl rfl (by kernel_rfl) (by kernel_rfl) (by kernel_rfl) (fun _ _ _ h => h) (Or.inl ⟨by rfl, fun W hW => by go_simp⟩) hS ?_
          try simp only [List.setIfInBounds_toArray, List.set_cons_zero, List.set_cons_succ]
          refine wpAnyH_done (by kernel_rfl) ?_ _
          clear hS
          go_wp2
          go_roundw
          case rel => exact ⟨A2, ca - 1, _, cb, l, y :: m, _, rfl, (by simp at hca; omega), hA', rfl, hcb, hB, hv1, hb1, by rw [HM.out, merge_lt l m hlt, List.append_assoc]; rfl, (by have := HL.out; simp at this ⊢; omega), (by simp at hl ⊢; omega), (by simp at hm ⊢; omega), (by have := HPL.out; rw [show x :: l = [x] ++ l from rfl, pages_append, List.length_append] at this; omega), (by have := HPM.out; exact this)⟩
          case measure => (simp [lenV] <;> omega)
        · by_cases hgt : y.f0 < x.f0
          · have HCMP := Lib.hid (show Lib.compareInt x.f0 y.f0 = 1 by unfold Lib.compareInt; rw [if_neg hlt, if_pos hgt])
            go_upto_region 3 with (fail)
            refine wp_region_held_drew (S := fun W => W.cell? ⟨ba, oa, none⟩ = some (.int .i64 x.f0) ∧ W.cell? ⟨ba, oa + 1, none⟩ = some (.slice A1 x.f1.length c1) ∧ W.cell? ⟨bb, ob, none⟩ = some (.int .i64 y.f0) ∧ W.cell? ⟨bb, ob + 1, none⟩ = some (.slice B1 y.f1.length d1)) (by kernel_rfl) (⟨hx0, hx1, hy0, hy1⟩) (fun hS => ?_)
            simp only [List.size_toArray, List.length_cons, List.length_nil, Nat.reduceAdd, Array.replicate_succ, Array.replicate_zero, List.push_toArray, List.nil_append, List.cons_append]
            refine take_at (i := 0) 19 (.func (.func 103) #[] #[]) rfl rfl (by kernel_rfl) (by kernel_rfl) (by kernel_rfl) (fun _ _ _ h => h) (Or.inl ⟨by rfl, fun W hW => by go_simp⟩) hS ?_
            try simp only [List.setIfInBounds_toArray, List.set_cons_zero, List.set_cons_succ]
            refine take_at (i := 1) 20 (.slice (some ⟨ba, oa, none⟩) (x :: l).length ca) rfl rfl (by kernel_rfl) (by kernel_rfl) (by kernel_rfl) (fun _ _ _ h => h) (Or.inl ⟨by rfl, fun W hW => by go_simp⟩) hS ?_
            try simp only [List.setIfInBounds_toArray, List.set_cons_zero, List.set_cons_succ]
            refine take_at (i := 2) 21 (.pointer (some ⟨ba, oa, none⟩)) rfl rfl (by kernel_rfl) (by kernel_rfl) (by kernel_rfl) (fun _ _ _ h => h) (Or.inl ⟨by rfl, fun W hW => by go_simp⟩) hS ?_
            try simp only [List.setIfInBounds_toArray, List.set_cons_zero, List.set_cons_succ]
            refine take_at (i := 3) 22 (.agg #[.int .i64 x.f0, .slice A1 x.f1.length c1]) rfl rfl (by kernel_rfl) (by kernel_rfl) (by kernel_rfl) (fun _ _ _ h => h) (Or.inl ⟨by rfl, fun W hW => by obtain ⟨h1, h2, h3, h4⟩ := hW; go_simp⟩) hS ?_
            try simp only [List.setIfInBounds_toArray, List.set_cons_zero, List.set_cons_succ]
            refine take_at (i := 4) 23 (.slice (some ⟨bb, ob, none⟩) (y :: m).length cb) rfl rfl (by kernel_rfl) (by kernel_rfl) (by kernel_rfl) (fun _ _ _ h => h) (Or.inl ⟨by rfl, fun W hW => by go_simp⟩) hS ?_
            try simp only [List.setIfInBounds_toArray, List.set_cons_zero, List.set_cons_succ]
            refine take_at (i := 5) 24 (.pointer (some ⟨bb, ob, none⟩)) rfl rfl (by kernel_rfl) (by kernel_rfl) (by kernel_rfl) (fun _ _ _ h => h) (Or.inl ⟨by rfl, fun W hW => by go_simp⟩) hS ?_
            try simp only [List.setIfInBounds_toArray, List.set_cons_zero, List.set_cons_succ]
            refine take_at (i := 6) 25 (.agg #[.int .i64 y.f0, .slice B1 y.f1.length d1]) rfl rfl (by kernel_rfl) (by kernel_rfl) (by kernel_rfl) (fun _ _ _ h => h) (Or.inl ⟨by rfl, fun W hW => by obtain ⟨h1, h2, h3, h4⟩ := hW; go_simp⟩) hS ?_
            try simp only [List.setIfInBounds_toArray, List.set_cons_zero, List.set_cons_succ]
            refine wpAnyH_ready (rs := [7]) (by kernel_rfl) (by simp) ?_
            refine AllReadyH.cons rfl (fun K hK => ?_) AllReadyH.nil
            go_simp
            refine (cmp_any x.f0 y.f0 A1 B1 x.f1.length c1 y.f1.length d1 _).mono ?_
            rintro e w1 ⟨rfl, hcb1⟩
            rw [HCMP.out]
            refine hK.out _ _ (⟨cellB hcb1 (Nat.le_refl _) hS.1, cellB hcb1 (Nat.le_refl _) hS.2.1, cellB hcb1 (Nat.le_refl _) hS.2.2.1, cellB hcb1 (Nat.le_refl _) hS.2.2.2⟩) (fun hS => ?_)
            clear hK K
            try simp only [Act.put, List.getElem_toArray, List.getElem_cons_succ, List.getElem_cons_zero, List.setIfInBounds_toArray, List.set_cons_zero, List.set_cons_succ]
            refine take_at (i := 8) 10 (.int .i64 (1)) rfl rfl (by kernel_rfl) (by kernel_rfl) (by kernel_rfl) (fun _ _ _ h => h) (Or.inl ⟨by rfl, fun W hW => by go_simp⟩) hS ?_
            try simp only [List.setIfInBounds_toArray, List.set_cons_zero, List.set_cons_succ]
            refine wpAnyH_done (by kernel_rfl) ?_ _
            have HN1 := Aside0.mk (Kd.N_below (Kd.N_drew HN.out) hcb1)
            have HW1 := Aside0.mk (HW.out.drew.trans (hcb1.mono HW.out.size))
            have HCx := Aside0.mk (Kd.FK_below HFx.out HW1.out)
            have HCy := Aside0.mk (Kd.FK_below HFy.out HW1.out)
            have hS0 := hS
            clear hS hx0 hx1 hy0 hy1 hcb1
            go_upto_region 8 with (fail)
            refine wp_region_held_drew (S := fun W => W.cell? ⟨ba, oa, none⟩ = some (.int .i64 x.f0) ∧ W.cell? ⟨ba, oa + 1, none⟩ = some (.slice A1 x.f1.length c1) ∧ W.cell? ⟨bb, ob, none⟩ = some (.int .i64 y.f0) ∧ W.cell? ⟨bb, ob + 1, none⟩ = some (.slice B1 y.f1.length d1)) (by kernel_rfl) (hS0) (fun hS => ?_)
            simp only [List.size_toArray, List.length_cons, List.length_nil, Nat.reduceAdd, Array.replicate_succ, Array.replicate_zero, List.push_toArray, List.nil_append, List.cons_append]
            refine take_at (i := 0) 56 (.slice O done.length co) rfl rfl (by kernel_rfl) (by kernel_rfl) (by kernel_rfl) (fun _ _ _ h => h) (Or.inl ⟨by rfl, fun W hW => by go_simp⟩) hS ?_
            try simp only [List.setIfInBounds_toArray, List.set_cons_zero, List.set_cons_succ]
            refine take_at (i := 1) 57 (.slice (some ⟨bb, ob, none⟩) (y :: m).length cb) rfl rfl (by kernel_rfl) (by kernel_rfl) (by kernel_rfl) (fun _ _ _ h => h) (Or.inl ⟨by rfl, fun W hW => by go_simp⟩) hS ?_
            try simp only [List.setIfInBounds_toArray, List.set_cons_zero, List.set_cons_succ]
            refine take_at (i := 2) 58 (.pointer (some ⟨bb, ob, none⟩)) rfl rfl (by kernel_rfl) (by kernel_rfl) (by kernel_rfl) (fun _ _ _ h => h) (Or.inl ⟨by rfl, fun W hW => by go_simp⟩) hS ?_
            try simp only [List.setIfInBounds_toArray, List.set_cons_zero, List.set_cons_succ]
            refine take_at (i := 3) 59 (.agg #[.int .i64 y.f0, .slice B1 y.f1.length d1]) rfl rfl (by kernel_rfl) (by kernel_rfl) (by kernel_rfl) (fun _ _ _ h => h) (Or.inl ⟨by rfl, fun W hW => by obtain ⟨h1, h2, h3, h4⟩ := hW; go_simp⟩) hS ?_
            try simp only [List.setIfInBounds_toArray, List.set_cons_zero, List.set_cons_succ]
            refine take_at (i := 6) 62 (.slice (some ⟨bb, ob, none⟩) (y :: m).length cb) rfl rfl (by kernel_rfl) (by kernel_rfl) (by kernel_rfl) (fun _ _ _ h => h) (Or.inl ⟨by rfl, fun W hW => by go_simp⟩) hS ?_
            try simp only [List.setIfInBounds_toArray, List.set_cons_zero, List.set_cons_succ]
            refine take_at (i := 7) 63 (.slice B2 m.length (cb - 1)) rfl rfl (by kernel_rfl) (by kernel_rfl) (by kernel_rfl) (fun _ _ _ h => h) (Or.inl ⟨by rfl, fun W hW => (exec_sliceFrom _ 26 64 2 (.tmp 62) _ rfl _ (y :: m).length cb 1 rfl rfl Tryz.underlying26 size64 (by simp)).trans (by rw [HB2.out]; rfl)⟩) hS ?_
            try simp only [List.setIfInBounds_toArray, List.set_cons_zero, List.set_cons_succ]
            refine wpAnyH_ready (rs := [4]) (by kernel_rfl) (by simp) ?_
            refine AllReadyH.cons rfl (fun K hK => ?_) AllReadyH.nil
            rw [if_pos (by rfl)]
            refine oper_build1 (.tmp 59) rfl rfl (build26 _ _ _ _ _) ?_
            refine hK.out _ _ (⟨cellB (below_alloc1 _ _) (Nat.le_refl _) hS.1, cellB (below_alloc1 _ _) (Nat.le_refl _) hS.2.1, cellB (below_alloc1 _ _) (Nat.le_refl _) hS.2.2.1, cellB (below_alloc1 _ _) (Nat.le_refl _) hS.2.2.2⟩) (fun hS => ?_)
            clear hK K
            try simp only [Act.put, List.getElem_toArray, List.getElem_cons_succ, List.getElem_cons_zero, List.setIfInBounds_toArray, List.set_cons_zero, List.set_cons_succ]
            refine wpAnyH_ready (rs := [5]) (by kernel_rfl) (by simp) ?_
            refine AllReadyH.cons rfl (fun K hK => ?_) AllReadyH.nil
            refine Kd.N_append_step k64 (w0 := w) w.heap.size (by rfl) (.tmp 56) (.tmp 60) 26 64 (.agg #[.int .i64 0, .slice none 0 0]) 32 rfl Tryz.underlying26 info64 rfl (by decide) (by decide) (.slice O done.length co) done y [.int .i64 y.f0, .slice B1 y.f1.length d1] (fun _ => True) (fun k => k < w.heap.size) rfl rfl (Kd.FK_below HCy.out (Below.refl _ _).drew) HNE.out (fun _ _ => trivial) (Kd.N_drew HN1.out) HW1.out.drew HW1.out.drew.size HBD.out ?_
            intro v1 w9 hv1 hb1 hg1 hat1
            refine hK.out _ _ (⟨cell_grown (W := w1.drew) hg1 hS0.1 HNa.out, cell_grown (W := w1.drew) hg1 hS0.2.1 HNa.out, cell_grown (W := w1.drew) hg1 hS0.2.2.1 HNb.out, cell_grown (W := w1.drew) hg1 hS0.2.2.2 HNb.out⟩) (fun hS => ?_)
            clear hK K
            try simp only [Act.put, List.getElem_toArray, List.getElem_cons_succ, List.getElem_cons_zero, List.setIfInBounds_toArray, List.set_cons_zero, List.set_cons_succ]
            refine take_at (i := 8) 9 (v1) rfl rfl (by kernel_rfl) (by kernel_rfl) (by kernel_rfl) (fun _ _ _ h => h) (Or.inl ⟨by rfl, fun W hW => by go_simp⟩) hS ?_
            try simp only [List.setIfInBounds_toArray, List.set_cons_zero, List.set_cons_succ]
            refine take_at (i := 9) 1 (.slice B2 m.length (cb - 1)) rfl rfl (by kernel_rfl) (by kernel_rfl) (by kernel_rfl) (fun _ _ _ h => h) (Or.inl ⟨by rfl, fun W hW => by go_simp⟩) hS ?_
            try simp only [List.setIfInBounds_toArray, List.set_cons_zero, List.set_cons_succ]
            refine wpAnyH_done (by kernel_rfl) ?_ _
            clear hS
            go_wp2
            go_roundw
            case rel => exact ⟨_, ca, B2, cb - 1, x :: l, m, _, rfl, hca, hA, rfl, (by simp at hcb; omega), hB', hv1, hb1, by rw [HM.out, merge_gt l m hgt, List.append_assoc]; rfl, (by have := HL.out; simp at this ⊢; omega), (by simp at hl ⊢; omega), (by simp at hm ⊢; omega), (by have := HPL.out; exact this), (by have := HPM.out; rw [show y :: m = [y] ++ m from rfl, pages_append, List.length_append] at this; omega)⟩
            case measure => (simp [lenV] <;> omega)
          · have heq : x.f0 = y.f0 := by omega
            have HCMP := Lib.hid (show Lib.compareInt x.f0 y.f0 = 0 by unfold Lib.compareInt; rw [if_neg hlt, if_neg hgt])
            have hsum : x.f1.length + y.f1.length ≤ 10000000 := by
              have h1 := HPL.out
              have h2 := HPM.out
              rw [show x :: l = [x] ++ l from rfl, pages_append, List.length_append, pages_one] at h1
              rw [show y :: m = [y] ++ m from rfl, pages_append, List.length_append, pages_one] at h2
              have h3 := ha.2
              have h4 := hb.2
              omega
            have HSUM := Aside0.mk hsum
            have HEQ := Lib.hid heq
            clear hsum heq
            go_upto_region 3 with (fail)
            refine wp_region_held_drew (S := fun W => W.cell? ⟨ba, oa, none⟩ = some (.int .i64 x.f0) ∧ W.cell? ⟨ba, oa + 1, none⟩ = some (.slice A1 x.f1.length c1) ∧ W.cell? ⟨bb, ob, none⟩ = some (.int .i64 y.f0) ∧ W.cell? ⟨bb, ob + 1, none⟩ = some (.slice B1 y.f1.length d1)) (by kernel_rfl) (⟨hx0, hx1, hy0, hy1⟩) (fun hS => ?_)
            simp only [List.size_toArray, List.length_cons, List.length_nil, Nat.reduceAdd, Array.replicate_succ, Array.replicate_zero, List.push_toArray, List.nil_append, List.cons_append]
            refine take_at (i := 0) 19 (.func (.func 103) #[] #[]) rfl rfl (by kernel_rfl) (by kernel_rfl) (by kernel_rfl) (fun _ _ _ h => h) (Or.inl ⟨by rfl, fun W hW => by go_simp⟩) hS ?_
            try simp only [List.setIfInBounds_toArray, List.set_cons_zero, List.set_cons_succ]
            refine take_at (i := 1) 20 (.slice (some ⟨ba, oa, none⟩) (x :: l).length ca) rfl rfl (by kernel_rfl) (by kernel_rfl) (by kernel_rfl) (fun _ _ _ h => h) (Or.inl ⟨by rfl, fun W hW => by go_simp⟩) hS ?_
            try simp only [List.setIfInBounds_toArray, List.set_cons_zero, List.set_cons_succ]
            refine take_at (i := 2) 21 (.pointer (some ⟨ba, oa, none⟩)) rfl rfl (by kernel_rfl) (by kernel_rfl) (by kernel_rfl) (fun _ _ _ h => h) (Or.inl ⟨by rfl, fun W hW => by go_simp⟩) hS ?_
            try simp only [List.setIfInBounds_toArray, List.set_cons_zero, List.set_cons_succ]
            refine take_at (i := 3) 22 (.agg #[.int .i64 x.f0, .slice A1 x.f1.length c1]) rfl rfl (by kernel_rfl) (by kernel_rfl) (by kernel_rfl) (fun _ _ _ h => h) (Or.inl ⟨by rfl, fun W hW => by obtain ⟨h1, h2, h3, h4⟩ := hW; go_simp⟩) hS ?_
            try simp only [List.setIfInBounds_toArray, List.set_cons_zero, List.set_cons_succ]
            refine take_at (i := 4) 23 (.slice (some ⟨bb, ob, none⟩) (y :: m).length cb) rfl rfl (by kernel_rfl) (by kernel_rfl) (by kernel_rfl) (fun _ _ _ h => h) (Or.inl ⟨by rfl, fun W hW => by go_simp⟩) hS ?_
            try simp only [List.setIfInBounds_toArray, List.set_cons_zero, List.set_cons_succ]
            refine take_at (i := 5) 24 (.pointer (some ⟨bb, ob, none⟩)) rfl rfl (by kernel_rfl) (by kernel_rfl) (by kernel_rfl) (fun _ _ _ h => h) (Or.inl ⟨by rfl, fun W hW => by go_simp⟩) hS ?_
            try simp only [List.setIfInBounds_toArray, List.set_cons_zero, List.set_cons_succ]
            refine take_at (i := 6) 25 (.agg #[.int .i64 y.f0, .slice B1 y.f1.length d1]) rfl rfl (by kernel_rfl) (by kernel_rfl) (by kernel_rfl) (fun _ _ _ h => h) (Or.inl ⟨by rfl, fun W hW => by obtain ⟨h1, h2, h3, h4⟩ := hW; go_simp⟩) hS ?_
            try simp only [List.setIfInBounds_toArray, List.set_cons_zero, List.set_cons_succ]
            refine wpAnyH_ready (rs := [7]) (by kernel_rfl) (by simp) ?_
            refine AllReadyH.cons rfl (fun K hK => ?_) AllReadyH.nil
            go_simp
            refine (cmp_any x.f0 y.f0 A1 B1 x.f1.length c1 y.f1.length d1 _).mono ?_
            rintro e w1 ⟨rfl, hcb1⟩
            rw [HCMP.out]
            refine hK.out _ _ (⟨cellB hcb1 (Nat.le_refl _) hS.1, cellB hcb1 (Nat.le_refl _) hS.2.1, cellB hcb1 (Nat.le_refl _) hS.2.2.1, cellB hcb1 (Nat.le_refl _) hS.2.2.2⟩) (fun hS => ?_)
            clear hK K
            try simp only [Act.put, List.getElem_toArray, List.getElem_cons_succ, List.getElem_cons_zero, List.setIfInBounds_toArray, List.set_cons_zero, List.set_cons_succ]
            refine take_at (i := 8) 10 (.int .i64 (0)) rfl rfl (by kernel_rfl) (by kernel_rfl) (by kernel_rfl) (fun _ _ _ h => h) (Or.inl ⟨by rfl, fun W hW => by go_simp⟩) hS ?_
            try simp only [List.setIfInBounds_toArray, List.set_cons_zero, List.set_cons_succ]
            refine wpAnyH_done (by kernel_rfl) ?_ _
            have HN1 := Aside0.mk (Kd.N_below (Kd.N_drew HN.out) hcb1)
            have HW1 := Aside0.mk (HW.out.drew.trans (hcb1.mono HW.out.size))
            have HCx := Aside0.mk (Kd.FK_below HFx.out HW1.out)
            have HCy := Aside0.mk (Kd.FK_below HFy.out HW1.out)
            have hS0 := hS
            clear hS hx0 hx1 hy0 hy1 hcb1
            go_upto_region 4 with (fail)
            refine wp_region_held_drew (S := fun W => W.cell? ⟨ba, oa, none⟩ = some (.int .i64 x.f0) ∧ W.cell? ⟨ba, oa + 1, none⟩ = some (.slice A1 x.f1.length c1) ∧ W.cell? ⟨bb, ob, none⟩ = some (.int .i64 y.f0) ∧ W.cell? ⟨bb, ob + 1, none⟩ = some (.slice B1 y.f1.length d1)) (by kernel_rfl) (hS0) (fun hS => ?_)
            simp only [List.size_toArray, List.length_cons, List.length_nil, Nat.reduceAdd, Array.replicate_succ, Array.replicate_zero, List.push_toArray, List.nil_append, List.cons_append]
            refine take_at (i := 0) 27 (.slice O done.length co) rfl rfl (by kernel_rfl) (by kernel_rfl) (by kernel_rfl) (fun _ _ _ h => h) (Or.inl ⟨by rfl, fun W hW => by go_simp⟩) hS ?_
            try simp only [List.setIfInBounds_toArray, List.set_cons_zero, List.set_cons_succ]
            refine take_at (i := 1) 28 (.func (.func 105) #[] #[]) rfl rfl (by kernel_rfl) (by kernel_rfl) (by kernel_rfl) (fun _ _ _ h => h) (Or.inl ⟨by rfl, fun W hW => by go_simp⟩) hS ?_
            try simp only [List.setIfInBounds_toArray, List.set_cons_zero, List.set_cons_succ]
            refine take_at (i := 2) 29 (.slice (some ⟨ba, oa, none⟩) (x :: l).length ca) rfl rfl (by kernel_rfl) (by kernel_rfl) (by kernel_rfl) (fun _ _ _ h => h) (Or.inl ⟨by rfl, fun W hW => by go_simp⟩) hS ?_
            try simp only [List.setIfInBounds_toArray, List.set_cons_zero, List.set_cons_succ]
            refine take_at (i := 3) 30 (.pointer (some ⟨ba, oa, none⟩)) rfl rfl (by kernel_rfl) (by kernel_rfl) (by kernel_rfl) (fun _ _ _ h => h) (Or.inl ⟨by rfl, fun W hW => by go_simp⟩) hS ?_
            try simp only [List.setIfInBounds_toArray, List.set_cons_zero, List.set_cons_succ]
            refine take_at (i := 4) 31 (.agg #[.int .i64 x.f0, .slice A1 x.f1.length c1]) rfl rfl (by kernel_rfl) (by kernel_rfl) (by kernel_rfl) (fun _ _ _ h => h) (Or.inl ⟨by rfl, fun W hW => by obtain ⟨h1, h2, h3, h4⟩ := hW; go_simp⟩) hS ?_
            try simp only [List.setIfInBounds_toArray, List.set_cons_zero, List.set_cons_succ]
            refine take_at (i := 5) 32 (.slice (some ⟨bb, ob, none⟩) (y :: m).length cb) rfl rfl (by kernel_rfl) (by kernel_rfl) (by kernel_rfl) (fun _ _ _ h => h) (Or.inl ⟨by rfl, fun W hW => by go_simp⟩) hS ?_
            try simp only [List.setIfInBounds_toArray, List.set_cons_zero, List.set_cons_succ]
            refine take_at (i := 6) 33 (.pointer (some ⟨bb, ob, none⟩)) rfl rfl (by kernel_rfl) (by kernel_rfl) (by kernel_rfl) (fun _ _ _ h => h) (Or.inl ⟨by rfl, fun W hW => by go_simp⟩) hS ?_
            try simp only [List.setIfInBounds_toArray, List.set_cons_zero, List.set_cons_succ]
            refine take_at (i := 7) 34 (.agg #[.int .i64 y.f0, .slice B1 y.f1.length d1]) rfl rfl (by kernel_rfl) (by kernel_rfl) (by kernel_rfl) (fun _ _ _ h => h) (Or.inl ⟨by rfl, fun W hW => by obtain ⟨h1, h2, h3, h4⟩ := hW; go_simp⟩) hS ?_
            try simp only [List.setIfInBounds_toArray, List.set_cons_zero, List.set_cons_succ]
            refine take_at (i := 11) 38 (.slice (some ⟨ba, oa, none⟩) (x :: l).length ca) rfl rfl (by kernel_rfl) (by kernel_rfl) (by kernel_rfl) (fun _ _ _ h => h) (Or.inl ⟨by rfl, fun W hW => by go_simp⟩) hS ?_
            try simp only [List.setIfInBounds_toArray, List.set_cons_zero, List.set_cons_succ]
            refine take_at (i := 12) 39 (.slice A2 l.length (ca - 1)) rfl rfl (by kernel_rfl) (by kernel_rfl) (by kernel_rfl) (fun _ _ _ h => h) (Or.inl ⟨by rfl, fun W hW => (exec_sliceFrom _ 26 64 2 (.tmp 38) _ rfl _ (x :: l).length ca 1 rfl rfl Tryz.underlying26 size64 (by simp)).trans (by rw [HA2.out]; rfl)⟩) hS ?_
            try simp only [List.setIfInBounds_toArray, List.set_cons_zero, List.set_cons_succ]
            refine take_at (i := 13) 40 (.slice (some ⟨bb, ob, none⟩) (y :: m).length cb) rfl rfl (by kernel_rfl) (by kernel_rfl) (by kernel_rfl) (fun _ _ _ h => h) (Or.inl ⟨by rfl, fun W hW => by go_simp⟩) hS ?_
            try simp only [List.setIfInBounds_toArray, List.set_cons_zero, List.set_cons_succ]
            refine take_at (i := 14) 41 (.slice B2 m.length (cb - 1)) rfl rfl (by kernel_rfl) (by kernel_rfl) (by kernel_rfl) (fun _ _ _ h => h) (Or.inl ⟨by rfl, fun W hW => (exec_sliceFrom _ 26 64 2 (.tmp 40) _ rfl _ (y :: m).length cb 1 rfl rfl Tryz.underlying26 size64 (by simp)).trans (by rw [HB2.out]; rfl)⟩) hS ?_
            try simp only [List.setIfInBounds_toArray, List.set_cons_zero, List.set_cons_succ]
            refine wpAnyH_ready (rs := [8]) (by kernel_rfl) (by simp) ?_
            refine AllReadyH.cons rfl (fun K hK => ?_) AllReadyH.nil
            go_simp
            refine (both_any x.f0 y.f0 A1 B1 x.f1 y.f1 c1 d1 _ (Kd.C_below HCX.out HW1.out.drew) (Kd.C_below HCY.out HW1.out.drew) hl1 hd1 HSUM.out).mono ?_
            rintro e w2 ⟨sv, rfl, hsv, hcb2⟩
            obtain ⟨sA, sc, rfl⟩ := Kd.R_slice hsv
            refine hK.out _ _ (⟨cellB hcb2 (Nat.le_refl _) hS.1, cellB hcb2 (Nat.le_refl _) hS.2.1, cellB hcb2 (Nat.le_refl _) hS.2.2.1, cellB hcb2 (Nat.le_refl _) hS.2.2.2⟩) (fun hS => ?_)
            clear hK K
            try simp only [Act.put, List.getElem_toArray, List.getElem_cons_succ, List.getElem_cons_zero, List.setIfInBounds_toArray, List.set_cons_zero, List.set_cons_succ]
            refine wpAnyH_ready (rs := [9]) (by kernel_rfl) (by simp) ?_
            refine AllReadyH.cons rfl (fun K hK => ?_) AllReadyH.nil
            rw [if_pos (by rfl)]
            refine oper_build1 (.tmp 35) rfl rfl (build26 _ _ _ _ _) ?_
            refine hK.out _ _ (⟨cellB (below_alloc1 _ _) (Nat.le_refl _) hS.1, cellB (below_alloc1 _ _) (Nat.le_refl _) hS.2.1, cellB (below_alloc1 _ _) (Nat.le_refl _) hS.2.2.1, cellB (below_alloc1 _ _) (Nat.le_refl _) hS.2.2.2⟩) (fun hS => ?_)
            clear hK K
            try simp only [Act.put, List.getElem_toArray, List.getElem_cons_succ, List.getElem_cons_zero, List.setIfInBounds_toArray, List.set_cons_zero, List.set_cons_succ]
            refine wpAnyH_ready (rs := [10]) (by kernel_rfl) (by simp) ?_
            refine AllReadyH.cons rfl (fun K hK => ?_) AllReadyH.nil
            have hN2 := Kd.N_below (Kd.N_drew HN1.out) hcb2
            have hW2 := HW1.out.drew.trans (hcb2.mono HW1.out.drew.size)
            have hok2 : ∀ k, w1.heap.size ≤ k → True ∧ some k ≠ (Value.slice O done.length co).ownBlock := fun k hk => ⟨trivial, fun e => by have := Kd.N_lt HN1.out k e.symm; omega⟩
            refine Kd.N_append_step k64 (w0 := w) w.heap.size (by rfl) (.tmp 27) (.tmp 36) 26 64 (.agg #[.int .i64 0, .slice none 0 0]) 32 rfl Tryz.underlying26 info64 rfl (by decide) (by decide) (.slice O done.length co) done (⟨x.f0, (sortI (x.f1 ++ y.f1))⟩ : S64) [.int .i64 x.f0, .slice sA (sortI (x.f1 ++ y.f1)).length sc] (fun _ => True) (fun k => w1.heap.size ≤ k) rfl rfl (k64_mkF _ _ (⟨x.f0, (sortI (x.f1 ++ y.f1))⟩ : S64) (Kd.R_reads' hsv).2.1 (Kd.R_F (Kd.R_mono (Kd.R_bound hsv) (fun k hk => hk.2.1)))) hok2 (fun _ _ => trivial) hN2 hW2 hW2.size HBD.out ?_
            intro v1 w9 hv1 hb1 hg1 hat1
            have hS2 := And.intro (cellB hcb2 (Nat.le_refl _) hS0.1) (And.intro (cellB hcb2 (Nat.le_refl _) hS0.2.1) (And.intro (cellB hcb2 (Nat.le_refl _) hS0.2.2.1) (cellB hcb2 (Nat.le_refl _) hS0.2.2.2)))
            refine hK.out _ _ (⟨cell_grown hg1 hS2.1 HNa.out, cell_grown hg1 hS2.2.1 HNa.out, cell_grown hg1 hS2.2.2.1 HNb.out, cell_grown hg1 hS2.2.2.2 HNb.out⟩) (fun hS => ?_)
            clear hK K
            try simp only [Act.put, List.getElem_toArray, List.getElem_cons_succ, List.getElem_cons_zero, List.setIfInBounds_toArray, List.set_cons_zero, List.set_cons_succ]
            refine take_at (i := 15) 9 (v1) rfl rfl (by kernel_rfl) (by kernel_rfl) (by kernel_rfl) (fun _ _ _ h => h) (Or.inl ⟨by rfl, fun W hW => by go_simp⟩) hS ?_
            try simp only [List.setIfInBounds_toArray, List.set_cons_zero, List.set_cons_succ]
            refine take_at (i := 16) 0 (.slice A2 l.length (ca - 1)) rfl rfl (by kernel_rfl) (by kernel_rfl) (by kernel_rfl) (fun _ _ _ h => h) (Or.inl ⟨by rfl, fun W hW => by go_simp⟩) hS ?_
            try simp only [List.setIfInBounds_toArray, List.set_cons_zero, List.set_cons_succ]
            refine take_at (i := 17) 1 (.slice B2 m.length (cb - 1)) rfl rfl (by kernel_rfl) (by kernel_rfl) (by kernel_rfl) (fun _ _ _ h => h) (Or.inl ⟨by rfl, fun W hW => by go_simp⟩) hS ?_
            try simp only [List.setIfInBounds_toArray, List.set_cons_zero, List.set_cons_succ]
            refine wpAnyH_done (by kernel_rfl) ?_ _
            clear hS
            go_wp2
            go_roundw
            case rel => exact ⟨A2, ca - 1, B2, cb - 1, l, m, _, rfl, (by simp at hca; omega), hA', rfl, (by simp at hcb; omega), hB', hv1, hb1, by rw [HM.out, merge_eq l m HEQ.out, List.append_assoc]; rfl, (by have := HL.out; simp at this ⊢; omega), (by simp at hl ⊢; omega), (by simp at hm ⊢; omega), (by have := HPL.out; rw [show x :: l = [x] ++ l from rfl, pages_append, List.length_append] at this; omega), (by have := HPM.out; rw [show y :: m = [y] ++ m from rfl, pages_append, List.length_append] at this; omega)⟩
            case measure => (simp [lenV] <;> omega)
theorem set_self {α : Type} (l : List α) (k : Nat) (x : α) (h : l[k]? = some x) : l.set k x = l := by
  apply List.ext_getElem?
  intro i
  by_cases e : i = k
  · subst e
    rw [List.getElem?_set_self (List.getElem?_eq_some_iff.1 h).1, h]
  · rw [List.getElem?_set_ne (Ne.symm e)]
theorem merge_pages (a b : List S64) : (pagesOf (mergeL a b)).length = (pagesOf a).length + (pagesOf b).length := by
  have one : ∀ (x : S64) (l : List S64), (pagesOf (x :: l)).length = x.f1.length + (pagesOf l).length := fun x l => by
    rw [show x :: l = [x] ++ l from rfl, pages_append, List.length_append, pages_one]
  induction a generalizing b with
  | nil => rw [merge_nil]; simp [pagesOf, flat]
  | cons x a ih =>
    induction b with
    | nil => rw [merge_nil2]; simp [pagesOf, flat]
    | cons y b ihb =>
      rcases Int.lt_trichotomy x.f0 y.f0 with h | h | h
      · rw [merge_lt a b h, one, ih, one, one]; omega
      · rw [merge_eq a b h, one, ih, one, one]; simp [sortI_length]; omega
      · rw [merge_gt a b h, one, ihb, one, one]; omega
set_option maxRecDepth 100000 in
set_option maxHeartbeats 4000000 in
theorem together_any (la lb : List S64) (A : Option Addr) (ca : Nat) (B : Option Addr) (cb : Nat) (w : World) (hA : k64.C w A la.length la) (hca : la.length ≤ ca) (hB : k64.C w B lb.length lb) (hcb : lb.length ≤ cb) (ha : smallL la) (hb : smallL lb) :
    Calls Tryz.prog 56 #[.slice A la.length ca, .slice B lb.length cb] w fun e w' => ∃ v, e = .returned v ∧ Kd.N k64 64 w' w.heap.size (fun _ => True) v (mergeL la lb) ∧ Below w.heap.size w w' := by
  have HMM := Aside0.mk (merged_any la lb A ca B cb w hA hca hB hcb ha hb)
  have hpg : (pagesOf (mergeL la lb)).length ≤ 2000000 := by rw [merge_pages]; have := ha.2; have := hb.2; omega
  have hln := merge_length la lb
  obtain ⟨ms, hms⟩ : ∃ ms, mergeL la lb = ms := ⟨_, rfl⟩
  rw [hms] at HMM hpg hln ⊢
  clear hms hA hB
  have hml : ms.length ≤ 2000000 := by have := ha.1; have := hb.1; omega
  clear hln
  go_enter Tryz.func56, Tryz.ntmps56
  go_wp2_with (go_at_call 102; (with_reducible refine HMM.out.mono ?_); rintro e w1 ⟨v, rfl, hv, hb1⟩; obtain ⟨O, co, rfl⟩ := Kd.N_slice hv)
  have HV := Aside0.mk hv
  have HW := Aside0.mk hb1
  clear hv hb1
  go_loopw [12] (fun i wr => ∃ k : Nat, k ≤ ms.length ∧ i = .int .i64 k ∧ Aside0 (Kd.N k64 64 wr w.heap.size (fun _ => True) (.slice O ms.length co) ms) ∧ Aside0 (Below w.heap.size w wr))
    (fun i _ => ms.length - (intOf i).toNat)
  case atStart => exact ⟨0, Nat.zero_le _, rfl, HV, HW⟩
  case round =>
    obtain ⟨k, hk, rfl, HN, HB⟩ := hrel
    clear HV HW
    by_cases hlt : k < ms.length
    · obtain ⟨g, cap, e, hg1, hg2, -⟩ := Kd.N_form HN.out (by omega)
      injection e with e1 e2 e3
      subst e1 e3
      obtain ⟨cs, hcl, hFK, hcc, hff⟩ := Kd.N_elem HN.out z64 (k : Int) (by omega) (by omega)
      rw [show ms.getD (k : Int).toNat z64 = rd_T64 ms (k : Int) from rfl] at hFK
      obtain ⟨A1, c1, rfl, hl1, hF1⟩ := k64_openF hFK
      have hx1 : wr.cell? ⟨g, k * 2 + 1, none⟩ = some (.slice A1 (rd_T64 ms (k : Int)).f1.length c1) := hcc 1 _ rfl
      have hel : ms[k]? = some (rd_T64 ms (k : Int)) := by rw [rd_nat ms k hlt]; exact List.getElem?_eq_getElem hlt
      have hgl : (rd_T64 ms (k : Int)).f1.length ≤ 2000000 := by
        have h1 := pages_take_le ms (k + 1)
        rw [take_rd ms k hlt, pages_append, List.length_append, pages_one] at h1
        omega
      obtain ⟨x, hx⟩ : ∃ x, rd_T64 ms (k : Int) = x := ⟨_, rfl⟩
      rw [hx] at hFK hx1 hel hgl hF1 hcc hl1
      have HEL := Lib.hid hel
      have HCC := Aside0.mk hcc
      have HFF := Aside0.mk hff
      have HX := Aside0.mk (cloneInt x.f1 A1 c1 wr (Kd.F_now hF1) (by omega))
      clear hx hel hFK hF1 hcc hff
      have h23 : (Tryz.prog.info? 23).map (·.size) = some 1 := by kernel_rfl
      have hk0 : (0 : Int) ≤ (k : Int) := by omega
      have hk1 : (k : Int) < (ms.length : Int) := by omega
      go_wp2_with (first
        | (go_at_call 96; (with_reducible refine HX.out.mono ?_); rintro e w2 ⟨cv, rfl, hcv, hcb2⟩; obtain ⟨cA, cc, rfl⟩ := Kd.R_slice hcv; have HCV := Aside0.mk hcv; have HN2 := Aside0.mk (Kd.N_below HN.out hcb2); have HB2 := Aside0.mk (HB.out.trans (hcb2.mono HB.out.size)); have HC2 := Aside0.mk (fun j u h => cellB hcb2 (Nat.le_refl _) (HCC.out j u h)); clear hcv hcb2)
        | (refine Kd.N_store k64 (w0 := w) w.heap.size rfl rfl 23 (.tmp 24) (.tmp 22) rfl 64 (k : Int) 1 ms x (.slice cA x.f1.length cc) [.slice cA x.f1.length cc] [.int .i64 x.f0, .slice A1 x.f1.length c1] (fun _ => True) (fun q => wr.heap.size ≤ q) rfl rfl rfl rfl h23 (by simp [Value.oneCell']) HN2.out hk0 hk1 rfl HC2.out (Nat.le_refl 2) (k64_mkF _ _ x (Kd.R_reads' HCV.out).2.1 (Kd.R_F (Kd.R_mono (Kd.R_bound HCV.out) (fun q hq => hq.2.1)))) (fun q hq => ⟨trivial, fun e => by have : wr.heap.size ≤ q := hq; omega⟩) HB2.out ?_; intro w3 hn3 hb3 hg3; rw [Int.toNat_natCast, set_self ms k x HEL.out] at hn3))
      go_roundw
      case rel => exact ⟨k + 1, by omega, by go_num, ⟨hn3⟩, ⟨hb3⟩⟩
      case measure => simp [intOf]; omega
    · obtain rfl : k = ms.length := by omega
      go_wp2
      go_ret
      exact ⟨_, rfl, HN.out, HB.out⟩
def mergeOk (la lb : List S64) : Bool := validB 4096 la && validB 4096 lb && validB 4096 (mergeL la lb)
set_option maxRecDepth 100000 in
set_option maxHeartbeats 4000000 in
theorem Merge_any (la lb : List S64) (A : Option Addr) (ca : Nat) (B : Option Addr) (cb : Nat) (w : World) (hA : k64.C w A la.length la) (hca : la.length ≤ ca) (hB : k64.C w B lb.length lb) (hcb : lb.length ≤ cb) (ha : smallL la) (hb : smallL lb) :
    Calls Tryz.prog 24 #[.slice A la.length ca, .slice B lb.length cb] w fun e w' => (mergeOk la lb = false ∧ e = .returned (.tuple #[.slice none 0 0, .int .i64 2]) ∨ mergeOk la lb = true ∧ ∃ v, e = .returned (.tuple #[v, .int .i64 0]) ∧ Kd.N k64 64 w' w.heap.size (fun _ => True) v (mergeL la lb)) ∧ Below w.heap.size w w' := by
  have HVA := Lib.hid (valid_any la 4096 A ca w hA hca)
  have HVB := Lib.hid (fun (w1 : World) (h : Below w.heap.size w w1) => valid_any lb 4096 B cb w1 (Kd.C_below hB h) hcb)
  have HT := Lib.hid (fun (w1 : World) (h : Below w.heap.size w w1) => together_any la lb A ca B cb w1 (Kd.C_below hA h) hca (Kd.C_below hB h) hcb ha hb)
  have HVM := Lib.hid (fun (w1 : World) (O : Option Addr) (co base : Nat) (ok : Nat → Prop) (h : Kd.N k64 64 w1 base ok (.slice O (mergeL la lb).length co) (mergeL la lb)) => valid_any (mergeL la lb) 4096 O co w1 (Kd.N_reads' h).2.2 (Kd.N_reads' h).2.1)
  have HO := Lib.hid (show mergeOk la lb = (validB 4096 la && validB 4096 lb && validB 4096 (mergeL la lb)) from rfl)
  obtain ⟨b1, h1⟩ : ∃ b, validB 4096 la = b := ⟨_, rfl⟩
  obtain ⟨b2, h2⟩ : ∃ b, validB 4096 lb = b := ⟨_, rfl⟩
  obtain ⟨b3, h3⟩ : ∃ b, validB 4096 (mergeL la lb) = b := ⟨_, rfl⟩
  obtain ⟨M, hM⟩ : ∃ M, mergeL la lb = M := ⟨_, rfl⟩
  obtain ⟨K, hK⟩ : ∃ K, mergeOk la lb = K := ⟨_, rfl⟩
  rw [h1, h2, h3, hK] at HO
  rw [h1] at HVA
  rw [h2] at HVB
  rw [h3] at HVM
  rw [hM] at HT HVM
  rw [hK, hM]
  clear h1 h2 h3 hM hK hA hB
  cases b1 with
  | false =>
    have HO2 := Lib.hid (show K = false by rw [HO.out]; rfl)
    go_enter Tryz.func24, Tryz.ntmps24
    go_wp2_with (first | (go_at_call 47; (refine HVA.out.mono ?_); rintro e w2 ⟨rfl, hb2⟩))
    go_ret2
    exact ⟨.inl ⟨HO2.out, rfl⟩, hb2⟩
  | true =>
    cases b2 with
    | false =>
      have HO2 := Lib.hid (show K = false by rw [HO.out]; rfl)
      go_enter Tryz.func24, Tryz.ntmps24
      go_wp2_with (first | (go_at_call 47; (refine HVA.out.mono ?_); rintro e w2 ⟨rfl, hb2⟩; clear HVA) | (go_at_call 47; (refine (HVB.out _ hb2).mono ?_); rintro e w3 ⟨rfl, hb3⟩))
      go_ret2
      exact ⟨.inl ⟨HO2.out, rfl⟩, hb2.trans (hb3.mono hb2.size)⟩
    | true =>
      cases b3 with
      | false =>
        have HO2 := Lib.hid (show K = false by rw [HO.out]; rfl)
        go_enter Tryz.func24, Tryz.ntmps24
        go_wp2_with (first | (go_at_call 47; (refine HVA.out.mono ?_); rintro e w2 ⟨rfl, hb2⟩; clear HVA) | (go_at_call 47; (refine (HVB.out _ hb2).mono ?_); rintro e w3 ⟨rfl, hb3⟩; have hb23 := hb2.trans (hb3.mono hb2.size); clear HVB hb2 hb3) | (go_at_call 56; (refine (HT.out _ hb23).mono ?_); rintro e w4 ⟨v, rfl, hv, hb4⟩; obtain ⟨O, co, rfl⟩ := Kd.N_slice hv; have HX := Lib.hid (HVM.out w4 O co _ _ hv)) | (go_at_call 47; (refine HX.out.mono ?_); rintro e w5 ⟨rfl, hb5⟩; clear HX))
        go_ret2
        exact ⟨.inl ⟨HO2.out, rfl⟩, (hb23.trans (hb4.mono hb23.size)).trans (hb5.mono (Nat.le_trans hb23.size hb4.size))⟩
      | true =>
        have HO2 := Lib.hid (show K = true by rw [HO.out]; rfl)
        go_enter Tryz.func24, Tryz.ntmps24
        go_wp2_with (first | (go_at_call 47; (refine HVA.out.mono ?_); rintro e w2 ⟨rfl, hb2⟩; clear HVA) | (go_at_call 47; (refine (HVB.out _ hb2).mono ?_); rintro e w3 ⟨rfl, hb3⟩; have hb23 := hb2.trans (hb3.mono hb2.size); clear HVB hb2 hb3) | (go_at_call 56; (refine (HT.out _ hb23).mono ?_); rintro e w4 ⟨v, rfl, hv, hb4⟩; obtain ⟨O, co, rfl⟩ := Kd.N_slice hv; have HX := Lib.hid (HVM.out w4 O co _ _ hv)) | (go_at_call 47; (refine HX.out.mono ?_); rintro e w5 ⟨rfl, hb5⟩; clear HX))
        go_ret2
        exact ⟨.inr ⟨HO2.out, _, rfl, Kd.N_lower (Kd.N_below hv hb5) hb23.size⟩, (hb23.trans (hb4.mono hb23.size)).trans (hb5.mono (Nat.le_trans hb23.size hb4.size))⟩
end Go.Proofs.YtpnhelcemodnmaaGreat
namespace Go.Proofs.YtpnhelcemodnmaaGreat
open Go.RowKit Go.Shelf Go.Proofs.YtpnhelcemodnmaaGreatW.PrintWords Go.Proofs.YtpnhelcemodnmaaGreatW.PrintLast Go.Proofs.YtpnhelcemodnmaaGreatW.PrintMore PA
set_option linter.unusedVariables false
set_option linter.unusedSimpArgs false
attribute [local go_sem] Oper.semAt_some
attribute [local go_sem] max2_int min2_int max_two min_two max_three min_three max_four min_four
def cutL : Nat → List S64 → List S64 × List S64
  | _, [] => ([], [])
  | r, f :: t => if r < 12 then ([], f :: t) else if (r - 8) / 4 < f.f1.length then ([⟨f.f0, f.f1.take ((r - 8) / 4)⟩], ⟨f.f0, f.f1.drop ((r - 8) / 4)⟩ :: t)
    else (f :: (cutL (r - (8 + 4 * f.f1.length)) t).1, (cutL (r - (8 + 4 * f.f1.length)) t).2)
theorem cut_full {r : Nat} {f : S64} {t : List S64} (h : r < 12) : cutL r (f :: t) = ([], f :: t) := by rw [cutL, if_pos h]
theorem cut_part {r : Nat} {f : S64} {t : List S64} (h : ¬ r < 12) (h2 : (r - 8) / 4 < f.f1.length) : cutL r (f :: t) = ([⟨f.f0, f.f1.take ((r - 8) / 4)⟩], ⟨f.f0, f.f1.drop ((r - 8) / 4)⟩ :: t) := by rw [cutL, if_neg h, if_pos h2]
theorem cut_more {r : Nat} {f : S64} {t : List S64} (h : ¬ r < 12) (h2 : ¬ (r - 8) / 4 < f.f1.length) : cutL r (f :: t) = (f :: (cutL (r - (8 + 4 * f.f1.length)) t).1, (cutL (r - (8 + 4 * f.f1.length)) t).2) := by rw [cutL, if_neg h, if_neg h2]
theorem size3 : (Tryz.prog.info? 3).map (·.size) = some 1 := by kernel_rfl
theorem F_drop {W : World} {ok : Nat → Prop} {ad : Addr} {l : List S64} {c m : Nat} (h : Kd.F k64 W ok (some ad) l.length l) (hm : m ≤ l.length) (hc : l.length ≤ c) (hmc : m < c) : Kd.F k64 W ok (some (ad.add (m * 2))) (l.length - m) (l.drop m) := by
  refine Kd.F_imp h fun W' hC => ?_
  have := Kd.C_drop (m := m) hC hm hc
  rw [if_neg (by omega), List.length_drop] at this
  exact this
theorem F_rest {W : World} {ok : Nat → Prop} {A : Option Addr} {xs : List Int} {c m : Nat} (h : Kd.F (Kd.int .i64) W ok A xs.length xs) (hm : m ≤ xs.length) (hc : xs.length ≤ c) : Kd.F (Kd.int .i64) W ok (if c = m then A else A.map (·.add (m * 1))) (xs.drop m).length (xs.drop m) :=
  Kd.F_imp h fun W' hC => Kd.C_drop (m := m) hC hm hc
theorem elem_F {W : World} {ok : Nat → Prop} {A : Option Addr} {l : List S64} (h : Kd.F k64 W ok A l.length l) (k : Nat) (hk : k < l.length) : ∃ ad A1 c1, A = some ad ∧ W.cell? (ad.add (k * 2)) = some (.int .i64 (rd_T64 l (k : Int)).f0) ∧ W.cell? ⟨(ad.add (k * 2)).block, (ad.add (k * 2)).off + 1, none⟩ = some (.slice A1 (rd_T64 l (k : Int)).f1.length c1) ∧ (rd_T64 l (k : Int)).f1.length ≤ c1 ∧
    Kd.F (Kd.int .i64) W ok A1 (rd_T64 l (k : Int)).f1.length (rd_T64 l (k : Int)).f1 := by
  obtain ⟨ad, c, rfl, hcl, hFK, hcc⟩ := ReadsRow.get_ (Kd.F_rows h) z64 (k : Int) (by omega) (by omega)
  obtain ⟨A1, c1, rfl, hl1, hF1⟩ := k64_openF hFK
  rw [Int.toNat_natCast] at hcc
  exact ⟨ad, A1, c1, rfl, hcc 0 _ rfl, by rw [← add_field _ _ 1 (by omega)]; exact hcc 1 _ rfl, hl1, hF1⟩
theorem N_one {W : World} {base n : Nat} {ok okp : Nat → Prop} {C : Array Value} {x : S64} (hb : W.heap[n]? = some (.cells C 64 (0, 0))) (hC : C.size = 2) (hF : Kd.FK k64 W okp x C.toList) (hn : base ≤ n) (hok : ok n) (hokp : ∀ k, okp k → ok k ∧ k ≠ n) : Kd.N k64 64 W base ok (.slice (some ⟨n, 0, none⟩) 1 1) [x] := by
  have hrow : W.ownsRow base 64 2 (.slice (some ⟨n, 0, none⟩) 1 1) 1 C.toList := ⟨by simp [hC], .inr ⟨n, 1, C, rfl, hn, hb, Nat.le_refl _, by unfold maxLen; omega, by rw [hC], by rw [Nat.one_mul, List.take_of_length_le (by simp [hC])]⟩⟩
  have hreps : Reps ((Kd.raw 2).M W base (fun k => (some k = (Value.slice (some ⟨n, 0, none⟩) 1 1).ownBlock) ∧ some k ≠ (Value.slice (some ⟨n, 0, none⟩) 1 1).ownBlock)) 2 [C.toList] C.toList := by
    refine ⟨by simp [hC], fun j p hj => ?_⟩
    cases j with
    | zero =>
      obtain rfl : C.toList = p := by simpa using hj
      rw [Nat.zero_mul, List.drop_zero, List.take_of_length_le (by simp [hC])]
      exact ⟨rfl, by simp [hC], k64.K_one (Kd.FK_now hF)⟩
    | succ j => simp at hj
  refine ⟨fun k hk => ?_, [C.toList], rfl, ⟨fun k hk => hk.symm, C.toList, hrow, hreps⟩, fun j y c hy hc => ?_⟩
  · have : n = k := by simpa [Value.ownBlock] using hk
    exact this ▸ hok
  · cases j with
    | zero =>
      obtain rfl : x = y := by simpa using hy
      obtain rfl : C.toList = c := by simpa using hc
      exact Kd.FK_mono hF fun k hk => ⟨(hokp k hk).1, fun e => (hokp k hk).2 (by simpa [Value.ownBlock] using e)⟩
    | succ j => simp at hy
set_option maxRecDepth 100000 in
set_option maxHeartbeats 4000000 in
theorem cutPage_any (l : List S64) (A : Option Addr) (c : Nat) (w : World) (okp : Nat → Prop) (hF : Kd.F k64 w okp A l.length l) (hc : l.length ≤ c) (hn : ∀ f ∈ l, f.f1 ≠ []) (hs : l.length ≤ 3000000) :
    Calls Tryz.prog 122 #[.slice A l.length c] w fun e w' => ∃ p q, e = .returned (.tuple #[p, q]) ∧ k64.R 64 w' w.heap.size (fun _ => True) p (cutL 490 l).1 ∧ Kd.N k64 64 w' w.heap.size (fun k => okp k ∨ w.heap.size ≤ k) q (cutL 490 l).2 ∧ Below w.heap.size w w' := by
  have hC := Kd.F_now hF
  have HF := Aside0.mk hF
  clear hF
  go_enter Tryz.func122, Tryz.ntmps122
  go_wp2
  go_loopw [2, 3, 4, 10] (fun p q r i wr => ∃ (k r' : Nat), k ≤ l.length ∧ q = .slice none 0 0 ∧ i = .int .i64 k ∧ r = .int .i64 r' ∧ r' ≤ 490 ∧ Hid (cutL 490 l = (l.take k ++ (cutL r' (l.drop k)).1, (cutL r' (l.drop k)).2)) ∧ Aside0 (k64.R 64 wr w.heap.size (fun _ => True) p (l.take k)) ∧ Aside0 (Below w.heap.size w wr))
    (fun _ _ _ i _ => l.length - (intOf i).toNat)
  case atStart => exact ⟨0, 490, Nat.zero_le _, rfl, rfl, rfl, Nat.le_refl _, Lib.hid rfl, ⟨Kd.R_nil _ _ _ _ _⟩, ⟨Below.refl _ _⟩⟩
  case round =>
    obtain ⟨k, r, hk, rfl, rfl, rfl, hr, HL, HR, HB⟩ := hrel
    by_cases hlt : k < l.length
    · obtain ⟨ad, A1, c1, rfl, hx0, hx1, hl1, hFI⟩ := elem_F HF.out k hlt
      have hC1 := Kd.F_now (Kd.F_below hFI HB.out)
      replace hx0 := cellB HB.out (Nat.le_refl _) hx0
      replace hx1 := cellB HB.out (Nat.le_refl _) hx1
      have hel : rd_T64 l (k : Int) ∈ l := by rw [rd_nat l k hlt]; exact List.getElem_mem hlt
      have hdr : l.drop k = rd_T64 l (k : Int) :: l.drop (k + 1) := by rw [rd_nat l k hlt]; exact List.drop_eq_getElem_cons hlt
      have hpos := hn _ hel
      have HT := Lib.hid (take_rd l k hlt)
      have hk1 : k < l.length := hlt
      obtain ⟨x, hx⟩ : ∃ x, rd_T64 l (k : Int) = x := ⟨_, rfl⟩
      rw [hx] at hx0 hx1 hl1 hC1 hpos HT hdr hFI
      have HFI := Aside0.mk (Kd.F_bound hFI)
      have HX := Lib.hid hx
      have HD := Lib.hid hdr
      have hp1 : 0 < x.f1.length := List.length_pos_iff.2 hpos
      clear hx hdr hel hpos hFI
      have hfb := blk_new wr (.cells #[.int .i64 x.f0, .slice A1 x.f1.length c1] 64)
      have HCX := Aside0.mk (Kd.C_alloc hC1 (.cells #[.int .i64 x.f0, .slice A1 x.f1.length c1] 64))
      have HRX := Aside0.mk (Kd.R_below HR.out (below_alloc1 wr (.cells #[.int .i64 x.f0, .slice A1 x.f1.length c1] 64)))
      have HBA := Aside0.mk (HB.out.alloc HB.out.size (.cells #[.int .i64 x.f0, .slice A1 x.f1.length c1] 64))
      have hno : ∀ k : Nat, okp k → (okp k ∨ w.heap.size ≤ k) ∧ some k ≠ (Value.slice none 0 0).ownBlock := fun k hk => ⟨.inl hk, by simp [Value.ownBlock]⟩
      have HNO := Aside0.mk hno
      clear hno
      by_cases hr12 : r < 12
      · by_cases hmn : (x.f1.length : Int) < ((r : Int) - 8).tdiv 4
        all_goals
          have HFD := Aside0.mk (F_drop (Kd.F_below HF.out HBA.out) hk hc (by omega))
          have HND := Aside0.mk (Kd.N_nil k64 64 (wr.alloc (.cells #[.int .i64 x.f0, .slice A1 x.f1.length c1] 64)) w.heap.size (fun k => okp k ∨ w.heap.size ≤ k))
          have HBD := Aside0.mk (show (([] : List S64).length + (l.length - k)) * 32 ≤ 140737488355328 by simp; omega)
          clear hC hfb
          go_wp2_with (at_builtin; refine Kd.N_append_rows k64 (w0 := w) w.heap.size rfl (.tmp 29) (.tmp 32) 26 64 (.agg #[.int .i64 0, .slice none 0 0]) 32 rfl Tryz.underlying26 info64 rfl (by decide) (by decide) (.slice none 0 0) [] (l.drop k) _ _ _ (fun q => okp q ∨ w.heap.size ≤ q) okp rfl rfl HND.out HFD.out HNO.out (fun q hq => .inr (Nat.le_trans HBA.out.size hq)) HBA.out HBA.out.size HBD.out ?_; intro q1 w9 hq1 hb1 hg1 hat1)
          go_ret2
          refine ⟨_, _, rfl, ?_, ?_, hb1⟩
          · rw [HL.out, HD.out, cut_full hr12, List.append_nil]
            exact Kd.R_grown HRX.out hg1 (fun _ _ => by simp [Value.ownBlock])
          · rw [HL.out, HD.out, cut_full hr12, ← HD.out]
            simpa using hq1
      · have hr3 : decide ((r : Int) < 12) = false := decide_eq_false (by omega)
        by_cases hn1 : (r - 8) / 4 < x.f1.length
        · obtain ⟨g, hg⟩ : ∃ g, x.f1.take ((r - 8) / 4) = g := ⟨_, rfl⟩
          have hgl0 : g.length = (r - 8) / 4 := by rw [← hg, List.length_take]; omega
          have GC : (Kd.int .i64).C wr A1 g.length g := by rw [← hg]; exact Kd.C_take hC1 (by omega)
          have HGE := Lib.hid hg
          have HCUT := Lib.hid (cut_part (t := l.drop (k + 1)) hr12 hn1)
          have hmn : ((r : Int) - 8) / 4 < (x.f1.length : Int) := by omega
          have hnn : ((r : Int) - 8) / 4 = (g.length : Int) := by omega
          have hd1 : decide ((g.length : Int) < 1) = false := decide_eq_false (by omega)
          have hg1 : g.length < x.f1.length := by omega
          have hcle : g.length ≤ c1 := by omega
          have hr8 : 8 + 4 * g.length ≤ r := by omega
          have HGL := Lib.hid hgl0
          clear hgl0 hg
          go_upto_region 8 with (fail)
          clear hnn
          have hC1g : (Kd.int .i64).C wr A1 g.length g := GC
          have hgc : g.length ≤ c1 := hcle
          obtain ⟨W0, hW0⟩ : ∃ W0, wr.alloc (.cells #[.int .i64 x.f0, .slice A1 x.f1.length c1] 64) = W0 := ⟨_, rfl⟩
          have hsz0 : W0.heap.size = wr.heap.size + 1 := by rw [← hW0]; simp
          have HCA := Aside0.mk (Kd.C_below hC1g (below_alloc1 wr (.cells #[.int .i64 x.f0, .slice A1 x.f1.length c1] 64)))
          rw [hW0] at HCX HRX HBA hfb HCA ⊢
          obtain ⟨Bf, hBf⟩ : ∃ Bf, wr.heap.size = Bf := ⟨_, rfl⟩
          have hne : some Bf ≠ Value.ownBlock u2 := fun e => by have := Kd.R_lt HR.out _ e.symm; omega
          have HNE := Aside0.mk hne
          rw [hBf] at hsz0 hfb ⊢
          have HRA := Aside0.mk (Kd.R_mono (ok' := fun k => True ∧ some k ≠ (Value.slice none 0 0).ownBlock) HRX.out (fun q _ => ⟨trivial, by simp [Value.ownBlock]⟩))
          have HG8 := Aside0.mk (show g.length * 8 ≤ 140737488355328 by omega)
          have HRL := Aside0.mk (show ((l.take k).length + 1) * 32 ≤ 140737488355328 by rw [List.length_take]; omega)
          have HBF := Aside0.mk hBf
          clear hne hW0 hx0 hx1 hC1 hC1g hBf hC
          refine wp_region_held_drew (S := fun W => W.heap[Bf]? = some (.cells #[.int .i64 x.f0, .slice A1 x.f1.length c1] 64 (0, 0))) (by kernel_rfl) (hfb) (fun hS => ?_)
          simp only [List.size_toArray, List.length_cons, List.length_nil, Nat.reduceAdd, Array.replicate_succ, Array.replicate_zero, List.push_toArray, List.nil_append, List.cons_append]
          refine take_at (i := 0) 34 (u2) rfl rfl (by kernel_rfl) (by kernel_rfl) (by kernel_rfl) (fun _ _ _ h => h) (Or.inl ⟨by rfl, fun W hW => by go_simp⟩) hS ?_
          try simp only [List.setIfInBounds_toArray, List.set_cons_zero, List.set_cons_succ]
          refine take_at (i := 1) 35 (.pointer (some ⟨Bf, 0, none⟩)) rfl rfl (by kernel_rfl) (by kernel_rfl) (by kernel_rfl) (fun _ _ _ h => h) (Or.inl ⟨by rfl, fun W hW => by go_simp⟩) hS ?_
          try simp only [List.setIfInBounds_toArray, List.set_cons_zero, List.set_cons_succ]
          refine take_at (i := 2) 36 (.int .i64 x.f0) rfl rfl (by kernel_rfl) (by kernel_rfl) (by kernel_rfl) (fun _ _ _ h => h) (Or.inl ⟨by rfl, fun W hW => by have h0 : W.cell? ⟨Bf, 0, none⟩ = some (.int .i64 x.f0) := (blk_cell hW 0).trans rfl; go_simp⟩) hS ?_
          try simp only [List.setIfInBounds_toArray, List.set_cons_zero, List.set_cons_succ]
          refine take_at (i := 3) 37 (.pointer (some ⟨Bf, 1, none⟩)) rfl rfl (by kernel_rfl) (by kernel_rfl) (by kernel_rfl) (fun _ _ _ h => h) (Or.inl ⟨by rfl, fun W hW => by go_simp⟩) hS ?_
          try simp only [List.setIfInBounds_toArray, List.set_cons_zero, List.set_cons_succ]
          refine take_at (i := 4) 38 (.slice A1 x.f1.length c1) rfl rfl (by kernel_rfl) (by kernel_rfl) (by kernel_rfl) (fun _ _ _ h => h) (Or.inl ⟨by rfl, fun W hW => by have h0 : W.cell? ⟨Bf, 1, none⟩ = some (.slice A1 x.f1.length c1) := (blk_cell hW 1).trans rfl; go_simp⟩) hS ?_
          try simp only [List.setIfInBounds_toArray, List.set_cons_zero, List.set_cons_succ]
          refine take_at (i := 5) 39 (.int .i64 (g.length : Int)) rfl rfl (by kernel_rfl) (by kernel_rfl) (by kernel_rfl) (fun _ _ _ h => h) (Or.inl ⟨by rfl, fun W hW => by go_simp⟩) hS ?_
          try simp only [List.setIfInBounds_toArray, List.set_cons_zero, List.set_cons_succ]
          refine take_at (i := 6) 40 (.slice A1 g.length c1) rfl rfl (by kernel_rfl) (by kernel_rfl) (by kernel_rfl) (fun _ _ _ h => h) (Or.inl ⟨by rfl, fun W hW => exec_sliceTo _ 23 3 1 (.tmp 38) (.tmp 39) rfl A1 x.f1.length c1 g.length rfl rfl Tryz.underlying23 size3 hgc⟩) hS ?_
          try simp only [List.setIfInBounds_toArray, List.set_cons_zero, List.set_cons_succ]
          refine wpAnyH_ready (rs := [7]) (by kernel_rfl) (by simp) ?_
          refine AllReadyH.cons rfl (fun K hK => ?_) AllReadyH.nil
          go_simp
          refine (cloneInt g A1 c1 _ (Kd.C_drew HCA.out) HG8.out).mono ?_
          rintro e w1 ⟨cv, rfl, hcv, hcb⟩
          obtain ⟨cA, cc, rfl⟩ := Kd.R_slice hcv
          refine hK.out _ _ (blk_below hS hcb) (fun hS => ?_)
          clear hK K
          try simp only [Act.put, List.getElem_toArray, List.getElem_cons_succ, List.getElem_cons_zero, List.setIfInBounds_toArray, List.set_cons_zero, List.set_cons_succ]
          refine take_at (i := 8) 42 (.agg #[.int .i64 x.f0, .slice cA g.length cc]) rfl rfl (by kernel_rfl) (by kernel_rfl) (by kernel_rfl) (fun _ _ _ h => h) (Or.inl ⟨by rfl, fun W hW => by have h0 := build64 x.f0 cA g.length cc W; go_simp⟩) hS ?_
          try simp only [List.setIfInBounds_toArray, List.set_cons_zero, List.set_cons_succ]
          refine wpAnyH_ready (rs := [9]) (by kernel_rfl) (by simp) ?_
          refine AllReadyH.cons rfl (fun K hK => ?_) AllReadyH.nil
          rw [if_pos (by rfl)]
          refine oper_build1 (.tmp 42) rfl rfl (build26 x.f0 cA g.length cc _) ?_
          refine hK.out _ _ (blk_alloc hS _) (fun hS => ?_)
          clear hK K
          try simp only [Act.put, List.getElem_toArray, List.getElem_cons_succ, List.getElem_cons_zero, List.setIfInBounds_toArray, List.set_cons_zero, List.set_cons_succ]
          refine wpAnyH_ready (rs := [10]) (by kernel_rfl) (by simp) ?_
          refine AllReadyH.cons rfl (fun K hK => ?_) AllReadyH.nil
          obtain ⟨q1, q2, q3, q4, q5, q6⟩ := push_ready (w := w) (W0 := W0.drew) (v := x.f0) (Kd.R_nil (Kd.int .i64) 3 W0.drew w.heap.size (fun _ => True)) (Kd.R_drew HRA.out) HBA.out.drew hcv hcb
          refine Kd.R_append_rows_step k64 (w0 := w) w.heap.size (by rfl) (.tmp 34) (.tmp 43) 26 64 (.agg #[.int .i64 0, .slice none 0 0]) 32 rfl Tryz.underlying26 info64 rfl (by decide) (by decide) u2 (l.take k) [⟨x.f0, g⟩] _ 1 1 (fun k => True ∧ some k ≠ (Value.slice none 0 0).ownBlock) (fun k => W0.drew.heap.size ≤ k) rfl rfl q1 q2 (fun _ _ h => h) q3 q4 q5 q5.size HRL.out ?_
          intro p1 w9 hp1 hb1 hg1 hat1
          refine hK.out _ _ (blk_grown hS hg1 HNE.out) (fun hS => ?_)
          clear hK K
          try simp only [Act.put, List.getElem_toArray, List.getElem_cons_succ, List.getElem_cons_zero, List.setIfInBounds_toArray, List.set_cons_zero, List.set_cons_succ]
          refine take_at (i := 11) 2 (p1) rfl rfl (by kernel_rfl) (by kernel_rfl) (by kernel_rfl) (fun _ _ _ h => h) (Or.inl ⟨by rfl, fun W hW => by go_simp⟩) hS ?_
          try simp only [List.setIfInBounds_toArray, List.set_cons_zero, List.set_cons_succ]
          refine wpAnyH_done (by kernel_rfl) ?_ _
          have hfb9 := hS
          clear hS
          have hcc1 : w9.cell? ⟨Bf, 1, none⟩ = some (.slice A1 x.f1.length c1) := (blk_cell hfb9 1).trans rfl
          have hcc0 : w9.cell? ⟨Bf, 0, none⟩ = some (.int .i64 x.f0) := (blk_cell hfb9 0).trans rfl
          have hq0 : (0 : Int) ≤ (r : Int) - (8 + 4 * (g.length : Int)) := by omega
          obtain ⟨A3, hA3⟩ : ∃ A3, (if c1 = g.length then A1 else A1.map (·.add (g.length * 1))) = A3 := ⟨_, rfl⟩
          have hF3 := F_rest (m := g.length) HFI.out (by omega) hl1
          rw [hA3] at hF3
          have HF3 := Aside0.mk hF3
          have HA3 := Lib.hid hA3
          have hgl : g.length ≤ x.f1.length := by omega
          clear hA3 hF3
          go_upto_region 11 with (fail)
          refine wp_region_held_drew (S := fun W => W.heap[Bf]? = some (.cells #[.int .i64 x.f0, .slice A1 x.f1.length c1] 64 (0, 0))) (by kernel_rfl) (hfb9) (fun hS => ?_)
          simp only [List.size_toArray, List.length_cons, List.length_nil, Nat.reduceAdd, Array.replicate_succ, Array.replicate_zero, List.push_toArray, List.nil_append, List.cons_append]
          refine take_at (i := 0) 55 (.pointer (some ⟨Bf, 0, none⟩)) rfl rfl (by kernel_rfl) (by kernel_rfl) (by kernel_rfl) (fun _ _ _ h => h) (Or.inl ⟨by rfl, fun W hW => by go_simp⟩) hS ?_
          try simp only [List.setIfInBounds_toArray, List.set_cons_zero, List.set_cons_succ]
          refine take_at (i := 1) 56 (.int .i64 x.f0) rfl rfl (by kernel_rfl) (by kernel_rfl) (by kernel_rfl) (fun _ _ _ h => h) (Or.inl ⟨by rfl, fun W hW => by have h0 : W.cell? ⟨Bf, 0, none⟩ = some (.int .i64 x.f0) := (blk_cell hW 0).trans rfl; go_simp⟩) hS ?_
          try simp only [List.setIfInBounds_toArray, List.set_cons_zero, List.set_cons_succ]
          refine take_at (i := 2) 57 (.pointer (some ⟨Bf, 1, none⟩)) rfl rfl (by kernel_rfl) (by kernel_rfl) (by kernel_rfl) (fun _ _ _ h => h) (Or.inl ⟨by rfl, fun W hW => by go_simp⟩) hS ?_
          try simp only [List.setIfInBounds_toArray, List.set_cons_zero, List.set_cons_succ]
          refine take_at (i := 3) 58 (.slice A1 x.f1.length c1) rfl rfl (by kernel_rfl) (by kernel_rfl) (by kernel_rfl) (fun _ _ _ h => h) (Or.inl ⟨by rfl, fun W hW => by have h0 : W.cell? ⟨Bf, 1, none⟩ = some (.slice A1 x.f1.length c1) := (blk_cell hW 1).trans rfl; go_simp⟩) hS ?_
          try simp only [List.setIfInBounds_toArray, List.set_cons_zero, List.set_cons_succ]
          refine take_at (i := 4) 59 (.int .i64 (g.length : Int)) rfl rfl (by kernel_rfl) (by kernel_rfl) (by kernel_rfl) (fun _ _ _ h => h) (Or.inl ⟨by rfl, fun W hW => by go_simp⟩) hS ?_
          try simp only [List.setIfInBounds_toArray, List.set_cons_zero, List.set_cons_succ]
          refine take_at (i := 5) 60 (.slice A3 (x.f1.length - g.length) (c1 - g.length)) rfl rfl (by kernel_rfl) (by kernel_rfl) (by kernel_rfl) (fun _ _ _ h => h) (Or.inl ⟨by rfl, fun W hW => (exec_sliceFrom _ 23 3 1 (.tmp 58) (.tmp 59) rfl A1 x.f1.length c1 g.length rfl rfl Tryz.underlying23 size3 hgl).trans (by rw [HA3.out])⟩) hS ?_
          try simp only [List.setIfInBounds_toArray, List.set_cons_zero, List.set_cons_succ]
          refine take_at (i := 6) 61 (.agg #[.int .i64 x.f0, .slice A3 (x.f1.length - g.length) (c1 - g.length)]) rfl rfl (by kernel_rfl) (by kernel_rfl) (by kernel_rfl) (fun _ _ _ h => h) (Or.inl ⟨by rfl, fun W hW => by have h0 := build64 x.f0 A3 (x.f1.length - g.length) (c1 - g.length) W; go_simp⟩) hS ?_
          try simp only [List.setIfInBounds_toArray, List.set_cons_zero, List.set_cons_succ]
          refine wpAnyH_ready (rs := [7]) (by kernel_rfl) (by simp) ?_
          refine AllReadyH.cons rfl (fun K hK => ?_) AllReadyH.nil
          rw [if_pos (by rfl)]
          refine oper_build1 (.tmp 61) rfl rfl (build26 x.f0 A3 (x.f1.length - g.length) (c1 - g.length) _) ?_
          refine hK.out _ _ (blk_alloc hS _) (fun hS => ?_)
          clear hK K
          try simp only [Act.put, List.getElem_toArray, List.getElem_cons_succ, List.getElem_cons_zero, List.setIfInBounds_toArray, List.set_cons_zero, List.set_cons_succ]
          refine take_at (i := 8) 3 (.slice (some ⟨w9.drew.heap.size, 0, none⟩) 1 1) rfl rfl (by kernel_rfl) (by kernel_rfl) (by kernel_rfl) (fun _ _ _ h => h) (Or.inl ⟨by rfl, fun W hW => by go_simp⟩) hS ?_
          try simp only [List.setIfInBounds_toArray, List.set_cons_zero, List.set_cons_succ]
          refine wpAnyH_done (by kernel_rfl) ?_ _
          obtain ⟨W5, hW5⟩ : ∃ W5, w9.drew.alloc (.cells #[.int .i64 x.f0, .slice A3 (x.f1.length - g.length) (c1 - g.length)] 64) = W5 := ⟨_, rfl⟩
          have hnb : W5.heap[w9.heap.size]? = some (.cells #[.int .i64 x.f0, .slice A3 (x.f1.length - g.length) (c1 - g.length)] 64 (0, 0)) := by rw [← hW5]; exact blk_new w9.drew _
          have hsW := hb1.size
          have hB5 : Below w.heap.size w W5 := by rw [← hW5]; exact hb1.drew.alloc (by exact hb1.size) _
          have hp5 : k64.R 64 W5 w.heap.size (fun k => k < w9.heap.size) p1 (l.take k ++ [⟨x.f0, g⟩]) := by rw [← hW5]; exact Kd.R_below (Kd.R_drew (Kd.R_mono (Kd.R_bound hp1) (fun q hq => hq.2.2.1))) (below_alloc1 w9.drew _)
          have hplt := Kd.R_lt hp1
          have hfk : Kd.FK k64 W5 (fun q => okp q ∧ q < w.heap.size) (⟨x.f0, x.f1.drop g.length⟩ : S64) [.int .i64 x.f0, .slice A3 (x.f1.length - g.length) (c1 - g.length)] := by
            have := k64_mkF W5 _ (⟨x.f0, x.f1.drop g.length⟩ : S64) (A1 := A3) (c1 := c1 - g.length) (by rw [List.length_drop]; omega) (Kd.F_below HF3.out hB5)
            rw [List.length_drop] at this
            exact this
          have HN5 := Aside0.mk (N_one (base := w.heap.size) (ok := fun q => okp q ∨ w.heap.size ≤ q) hnb rfl hfk hsW (.inr hsW) (fun q hq => ⟨.inl hq.1, by have := hq.2; omega⟩))
          have HB5 := Aside0.mk hB5
          have HP5 := Aside0.mk hp5
          have HNB := Aside0.mk hnb
          have hpne : ∀ q, Value.ownBlock p1 = some q → some q ≠ (Value.slice (some ⟨w9.heap.size, 0, none⟩) 1 1).ownBlock := fun q hq e => by have := hplt q hq; simp [Value.ownBlock] at e; omega
          have HPN := Aside0.mk hpne
          rw [show w9.drew.heap.size = w9.heap.size from rfl, hW5]
          obtain ⟨n5, hn5⟩ : ∃ n, w9.heap.size = n := ⟨_, rfl⟩
          rw [hn5] at HN5 HPN HP5 ⊢
          have HN5S := Lib.hid hn5
          have hnw : w.heap.size ≤ n5 := hn5 ▸ hsW
          have HNO5 := Aside0.mk (show ∀ q, (okp q ∧ q < w.heap.size) → (okp q ∨ w.heap.size ≤ q) ∧ some q ≠ (Value.slice (some ⟨n5, 0, none⟩) 1 1).ownBlock from fun q hq => ⟨.inl hq.1, fun e => by have := hq.2; simp [Value.ownBlock] at e; omega⟩)
          clear hW5 hnb hB5 hp5 hfk hpne hn5 hp1 hb1 hfb9 hcc0 hcc1 hplt hsW hS
          have hbd5 : (([⟨x.f0, x.f1.drop g.length⟩] : List S64).length + (l.length - (k + 1))) * 32 ≤ 140737488355328 := by simp; omega
          have HBD5 := Aside0.mk hbd5
          clear hbd5
          by_cases hck : c = k + 1
          · have HRD : Aside0 (Kd.F k64 W5 (fun q => okp q ∧ q < w.heap.size) (some ad) 0 (l.drop (k + 1))) := ⟨fun W2 hW2 => ⟨by rw [List.length_drop]; omega, by omega, fun h => absurd h (Nat.lt_irrefl 0)⟩⟩
            have hbd0 : (([⟨x.f0, x.f1.drop g.length⟩] : List S64).length + 0) * 32 ≤ 140737488355328 := by simp
            have HBD0 := Aside0.mk hbd0
            subst hck
            go_wp2_with (at_builtin; refine Kd.N_append_rows k64 (w0 := w) w.heap.size rfl (.tmp 64) (.tmp 68) 26 64 (.agg #[.int .i64 0, .slice none 0 0]) 32 rfl Tryz.underlying26 info64 rfl (by decide) (by decide) _ _ (l.drop (k + 1)) _ _ _ (fun q => okp q ∨ w.heap.size ≤ q) (fun q => okp q ∧ q < w.heap.size) rfl rfl HN5.out HRD.out HNO5.out (fun q hq => .inr (Nat.le_trans HB5.out.size hq)) HB5.out HB5.out.size HBD0.out ?_; intro q1 w6 hq1 hb6 hg6 hat6)
            go_ret2
            exact ⟨_, _, rfl, by rw [HL.out, HD.out, HCUT.out, HGE.out]; exact Kd.R_mono (Kd.R_grown HP5.out hg6 (fun q hq e => by have h2 : q < n5 := hq; have e2 : some q = some n5 := e; injection e2 with e2; omega)) (fun _ _ => trivial), by rw [HL.out, HD.out, HCUT.out, ← HGL.out]; exact hq1, hb6⟩
          · have HRD : Aside0 (Kd.F k64 W5 (fun q => okp q ∧ q < w.heap.size) (some (ad.add ((k + 1) * 2))) (l.length - (k + 1)) (l.drop (k + 1))) := ⟨F_drop (Kd.F_below (Kd.F_bound HF.out) HB5.out) hk1 hc (by omega)⟩
            go_wp2_with (at_builtin; refine Kd.N_append_rows k64 (w0 := w) w.heap.size rfl (.tmp 64) (.tmp 68) 26 64 (.agg #[.int .i64 0, .slice none 0 0]) 32 rfl Tryz.underlying26 info64 rfl (by decide) (by decide) _ _ (l.drop (k + 1)) _ _ _ (fun q => okp q ∨ w.heap.size ≤ q) (fun q => okp q ∧ q < w.heap.size) rfl rfl HN5.out HRD.out HNO5.out (fun q hq => .inr (Nat.le_trans HB5.out.size hq)) HB5.out HB5.out.size HBD5.out ?_; intro q1 w6 hq1 hb6 hg6 hat6)
            go_ret2
            exact ⟨_, _, rfl, by rw [HL.out, HD.out, HCUT.out, HGE.out]; exact Kd.R_mono (Kd.R_grown HP5.out hg6 (fun q hq e => by have h2 : q < n5 := hq; have e2 : some q = some n5 := e; injection e2 with e2; omega)) (fun _ _ => trivial), by rw [HL.out, HD.out, HCUT.out, ← HGL.out]; exact hq1, hb6⟩
        · obtain ⟨g, hg⟩ : ∃ g, x.f1 = g := ⟨_, rfl⟩
          have GC : (Kd.int .i64).C wr A1 g.length g := hg ▸ hC1
          have HCUT := Lib.hid (cut_more (t := l.drop (k + 1)) hr12 hn1)
          have hmin : (if (x.f1.length : Int) < ((r : Int) - 8) / 4 then (x.f1.length : Int) else ((r : Int) - 8) / 4) = (g.length : Int) := by rw [← hg]; split <;> omega
          have hd1 : decide ((g.length : Int) < 1) = false := decide_eq_false (by rw [← hg]; omega)
          have HGE := Lib.hid hg
          have hg1 : x.f1.length ≤ g.length := by rw [hg]; exact Nat.le_refl _
          have hcle : g.length ≤ c1 := by rw [← hg]; exact hl1
          have hr8 : 8 + 4 * g.length ≤ r := by rw [← hg]; omega
          clear hg
          go_upto_region 8 with (fail)
          clear hmin
          have hC1g : (Kd.int .i64).C wr A1 g.length g := GC
          have hgc : g.length ≤ c1 := hcle
          obtain ⟨W0, hW0⟩ : ∃ W0, wr.alloc (.cells #[.int .i64 x.f0, .slice A1 x.f1.length c1] 64) = W0 := ⟨_, rfl⟩
          have hsz0 : W0.heap.size = wr.heap.size + 1 := by rw [← hW0]; simp
          have HCA := Aside0.mk (Kd.C_below hC1g (below_alloc1 wr (.cells #[.int .i64 x.f0, .slice A1 x.f1.length c1] 64)))
          rw [hW0] at HCX HRX HBA hfb HCA ⊢
          obtain ⟨Bf, hBf⟩ : ∃ Bf, wr.heap.size = Bf := ⟨_, rfl⟩
          have hne : some Bf ≠ Value.ownBlock u2 := fun e => by have := Kd.R_lt HR.out _ e.symm; omega
          have HNE := Aside0.mk hne
          rw [hBf] at hsz0 hfb ⊢
          have HRA := Aside0.mk (Kd.R_mono (ok' := fun k => True ∧ some k ≠ (Value.slice none 0 0).ownBlock) HRX.out (fun q _ => ⟨trivial, by simp [Value.ownBlock]⟩))
          have HG8 := Aside0.mk (show g.length * 8 ≤ 140737488355328 by omega)
          have HRL := Aside0.mk (show ((l.take k).length + 1) * 32 ≤ 140737488355328 by rw [List.length_take]; omega)
          have HBF := Aside0.mk hBf
          clear hne hW0 hx0 hx1 hC1 hC1g hBf hC
          refine wp_region_held_drew (S := fun W => W.heap[Bf]? = some (.cells #[.int .i64 x.f0, .slice A1 x.f1.length c1] 64 (0, 0))) (by kernel_rfl) (hfb) (fun hS => ?_)
          simp only [List.size_toArray, List.length_cons, List.length_nil, Nat.reduceAdd, Array.replicate_succ, Array.replicate_zero, List.push_toArray, List.nil_append, List.cons_append]
          refine take_at (i := 0) 34 (u2) rfl rfl (by kernel_rfl) (by kernel_rfl) (by kernel_rfl) (fun _ _ _ h => h) (Or.inl ⟨by rfl, fun W hW => by go_simp⟩) hS ?_
          try simp only [List.setIfInBounds_toArray, List.set_cons_zero, List.set_cons_succ]
          refine take_at (i := 1) 35 (.pointer (some ⟨Bf, 0, none⟩)) rfl rfl (by kernel_rfl) (by kernel_rfl) (by kernel_rfl) (fun _ _ _ h => h) (Or.inl ⟨by rfl, fun W hW => by go_simp⟩) hS ?_
          try simp only [List.setIfInBounds_toArray, List.set_cons_zero, List.set_cons_succ]
          refine take_at (i := 2) 36 (.int .i64 x.f0) rfl rfl (by kernel_rfl) (by kernel_rfl) (by kernel_rfl) (fun _ _ _ h => h) (Or.inl ⟨by rfl, fun W hW => by have h0 : W.cell? ⟨Bf, 0, none⟩ = some (.int .i64 x.f0) := (blk_cell hW 0).trans rfl; go_simp⟩) hS ?_
          try simp only [List.setIfInBounds_toArray, List.set_cons_zero, List.set_cons_succ]
          refine take_at (i := 3) 37 (.pointer (some ⟨Bf, 1, none⟩)) rfl rfl (by kernel_rfl) (by kernel_rfl) (by kernel_rfl) (fun _ _ _ h => h) (Or.inl ⟨by rfl, fun W hW => by go_simp⟩) hS ?_
          try simp only [List.setIfInBounds_toArray, List.set_cons_zero, List.set_cons_succ]
          refine take_at (i := 4) 38 (.slice A1 x.f1.length c1) rfl rfl (by kernel_rfl) (by kernel_rfl) (by kernel_rfl) (fun _ _ _ h => h) (Or.inl ⟨by rfl, fun W hW => by have h0 : W.cell? ⟨Bf, 1, none⟩ = some (.slice A1 x.f1.length c1) := (blk_cell hW 1).trans rfl; go_simp⟩) hS ?_
          try simp only [List.setIfInBounds_toArray, List.set_cons_zero, List.set_cons_succ]
          refine take_at (i := 5) 39 (.int .i64 (g.length : Int)) rfl rfl (by kernel_rfl) (by kernel_rfl) (by kernel_rfl) (fun _ _ _ h => h) (Or.inl ⟨by rfl, fun W hW => by go_simp⟩) hS ?_
          try simp only [List.setIfInBounds_toArray, List.set_cons_zero, List.set_cons_succ]
          refine take_at (i := 6) 40 (.slice A1 g.length c1) rfl rfl (by kernel_rfl) (by kernel_rfl) (by kernel_rfl) (fun _ _ _ h => h) (Or.inl ⟨by rfl, fun W hW => exec_sliceTo _ 23 3 1 (.tmp 38) (.tmp 39) rfl A1 x.f1.length c1 g.length rfl rfl Tryz.underlying23 size3 hgc⟩) hS ?_
          try simp only [List.setIfInBounds_toArray, List.set_cons_zero, List.set_cons_succ]
          refine wpAnyH_ready (rs := [7]) (by kernel_rfl) (by simp) ?_
          refine AllReadyH.cons rfl (fun K hK => ?_) AllReadyH.nil
          go_simp
          refine (cloneInt g A1 c1 _ (Kd.C_drew HCA.out) HG8.out).mono ?_
          rintro e w1 ⟨cv, rfl, hcv, hcb⟩
          obtain ⟨cA, cc, rfl⟩ := Kd.R_slice hcv
          refine hK.out _ _ (blk_below hS hcb) (fun hS => ?_)
          clear hK K
          try simp only [Act.put, List.getElem_toArray, List.getElem_cons_succ, List.getElem_cons_zero, List.setIfInBounds_toArray, List.set_cons_zero, List.set_cons_succ]
          refine take_at (i := 8) 42 (.agg #[.int .i64 x.f0, .slice cA g.length cc]) rfl rfl (by kernel_rfl) (by kernel_rfl) (by kernel_rfl) (fun _ _ _ h => h) (Or.inl ⟨by rfl, fun W hW => by have h0 := build64 x.f0 cA g.length cc W; go_simp⟩) hS ?_
          try simp only [List.setIfInBounds_toArray, List.set_cons_zero, List.set_cons_succ]
          refine wpAnyH_ready (rs := [9]) (by kernel_rfl) (by simp) ?_
          refine AllReadyH.cons rfl (fun K hK => ?_) AllReadyH.nil
          rw [if_pos (by rfl)]
          refine oper_build1 (.tmp 42) rfl rfl (build26 x.f0 cA g.length cc _) ?_
          refine hK.out _ _ (blk_alloc hS _) (fun hS => ?_)
          clear hK K
          try simp only [Act.put, List.getElem_toArray, List.getElem_cons_succ, List.getElem_cons_zero, List.setIfInBounds_toArray, List.set_cons_zero, List.set_cons_succ]
          refine wpAnyH_ready (rs := [10]) (by kernel_rfl) (by simp) ?_
          refine AllReadyH.cons rfl (fun K hK => ?_) AllReadyH.nil
          obtain ⟨q1, q2, q3, q4, q5, q6⟩ := push_ready (w := w) (W0 := W0.drew) (v := x.f0) (Kd.R_nil (Kd.int .i64) 3 W0.drew w.heap.size (fun _ => True)) (Kd.R_drew HRA.out) HBA.out.drew hcv hcb
          refine Kd.R_append_rows_step k64 (w0 := w) w.heap.size (by rfl) (.tmp 34) (.tmp 43) 26 64 (.agg #[.int .i64 0, .slice none 0 0]) 32 rfl Tryz.underlying26 info64 rfl (by decide) (by decide) u2 (l.take k) [⟨x.f0, g⟩] _ 1 1 (fun k => True ∧ some k ≠ (Value.slice none 0 0).ownBlock) (fun k => W0.drew.heap.size ≤ k) rfl rfl q1 q2 (fun _ _ h => h) q3 q4 q5 q5.size HRL.out ?_
          intro p1 w9 hp1 hb1 hg1 hat1
          refine hK.out _ _ (blk_grown hS hg1 HNE.out) (fun hS => ?_)
          clear hK K
          try simp only [Act.put, List.getElem_toArray, List.getElem_cons_succ, List.getElem_cons_zero, List.setIfInBounds_toArray, List.set_cons_zero, List.set_cons_succ]
          refine take_at (i := 11) 2 (p1) rfl rfl (by kernel_rfl) (by kernel_rfl) (by kernel_rfl) (fun _ _ _ h => h) (Or.inl ⟨by rfl, fun W hW => by go_simp⟩) hS ?_
          try simp only [List.setIfInBounds_toArray, List.set_cons_zero, List.set_cons_succ]
          refine wpAnyH_done (by kernel_rfl) ?_ _
          have hfb9 := hS
          clear hS
          have hcc1 : w9.cell? ⟨Bf, 1, none⟩ = some (.slice A1 x.f1.length c1) := (blk_cell hfb9 1).trans rfl
          have hq0 : (0 : Int) ≤ (r : Int) - (8 + 4 * (g.length : Int)) := by omega
          go_wp2
          go_roundw
          case rel => exact ⟨k + 1, r - (8 + 4 * g.length), by omega, rfl, by go_num, by go_num, by omega, Lib.hid (by rw [HL.out, HD.out, HCUT.out, HT.out, HGE.out, List.append_assoc]; rfl), ⟨by rw [HT.out, show x = ⟨x.f0, g⟩ by rw [← HGE.out]]; exact Kd.R_mono hp1 (fun _ _ => trivial)⟩, ⟨hb1⟩⟩
          case measure => simp [intOf]; omega
    · obtain rfl : k = l.length := by omega
      have hE : cutL 490 l = (l, []) := by
        have := HL.out
        rw [List.take_length, List.drop_length, cutL, List.append_nil] at this
        exact this
      have HE := Lib.hid hE
      have HR2 := HR
      rw [List.take_length] at HR2
      clear hE HL HR
      go_wp2_with fail
      go_ret2
      exact ⟨_, _, rfl, by rw [HE.out]; exact HR2.out, by rw [HE.out]; exact Kd.N_nil _ _ _ _ _, HB.out⟩
end Go.Proofs.YtpnhelcemodnmaaGreat
namespace Go.Proofs.YtpnhelcemodnmaaGreat
open Go.RowKit Go.Shelf Go.Proofs.YtpnhelcemodnmaaGreatW.PrintWords Go.Proofs.YtpnhelcemodnmaaGreatW.PrintLast Go.Proofs.YtpnhelcemodnmaaGreatW.PrintMore PA
set_option linter.unusedVariables false
set_option linter.unusedSimpArgs false
attribute [local go_sem] Oper.semAt_some
def partsL : Nat → List S64 → List (List S64)
  | 0, _ => []
  | _ + 1, [] => []
  | n + 1, f :: t => (cutL 490 (f :: t)).1 :: partsL n (cutL 490 (f :: t)).2
def partsOf (l : List S64) : List (List S64) := partsL ((pagesOf l).length + 1) l
def fullL (l : List S64) : Prop := ∀ f ∈ l, f.f1 ≠ []
theorem pages_cons (x : S64) (l : List S64) : (pagesOf (x :: l)).length = x.f1.length + (pagesOf l).length := by
  rw [show x :: l = [x] ++ l from rfl, pages_append, List.length_append, pages_one]
theorem cut_left (r : Nat) (l : List S64) (h : fullL l) : fullL (cutL r l).2 ∧ (pagesOf (cutL r l).2).length ≤ (pagesOf l).length ∧ (cutL r l).2.length ≤ l.length := by
  induction l generalizing r with
  | nil => rw [cutL]; exact ⟨h, Nat.le_refl _, Nat.le_refl _⟩
  | cons f t ih =>
    have ht : fullL t := fun x hx => h x (List.mem_cons_of_mem _ hx)
    by_cases h1 : r < 12
    · rw [cut_full h1]; exact ⟨h, Nat.le_refl _, Nat.le_refl _⟩
    · by_cases h2 : (r - 8) / 4 < f.f1.length
      · rw [cut_part h1 h2]
        refine ⟨fun x hx => ?_, ?_, Nat.le_refl _⟩
        · rcases List.mem_cons.1 hx with rfl | hx
          · show f.f1.drop _ ≠ []
            rw [← List.length_pos_iff, List.length_drop]; omega
          · exact ht x hx
        · show (pagesOf (_ :: t)).length ≤ _
          rw [pages_cons, pages_cons]
          show (f.f1.drop _).length + _ ≤ _
          rw [List.length_drop]; omega
      · rw [cut_more h1 h2]
        obtain ⟨i1, i2, i3⟩ := ih (r - (8 + 4 * f.f1.length)) ht
        exact ⟨i1, by rw [pages_cons]; show (pagesOf (cutL _ t).2).length ≤ _; omega, by show (cutL _ t).2.length ≤ _; simp; omega⟩
theorem cut_less (f : S64) (t : List S64) (h : fullL (f :: t)) : (pagesOf (cutL 490 (f :: t)).2).length < (pagesOf (f :: t)).length := by
  have ht : fullL t := fun x hx => h x (List.mem_cons_of_mem _ hx)
  have hf := List.length_pos_iff.2 (h f List.mem_cons_self)
  by_cases h2 : (490 - 8) / 4 < f.f1.length
  · rw [cut_part (by omega) h2, pages_cons, pages_cons]
    show (f.f1.drop _).length + _ < _
    rw [List.length_drop]; omega
  · rw [cut_more (by omega) h2, pages_cons]
    have := (cut_left (490 - (8 + 4 * f.f1.length)) t ht).2.1
    show (pagesOf (cutL _ t).2).length < _
    omega
theorem parts_more (n : Nat) : ∀ (m : Nat) (l : List S64), fullL l → (pagesOf l).length < n → (pagesOf l).length < m → partsL n l = partsL m l := by
  induction n with
  | zero => intro m l _ h; omega
  | succ n ih =>
    intro m l hl h1 h2
    cases m with
    | zero => omega
    | succ m =>
      cases l with
      | nil => rfl
      | cons f t =>
        rw [partsL, partsL]
        have hc := cut_less f t hl
        rw [ih m _ (cut_left 490 _ hl).1 (by omega) (by omega)]
set_option maxHeartbeats 1000000 in
theorem more_any (A : Option Addr) (n c : Nat) (w : World) : Calls Tryz.prog 121 #[.slice A n c] w fun e w' => e = .returned (.bool (decide (0 < n))) ∧ w = w' := by
  go_enter Tryz.func121, Tryz.ntmps121
  go_wp2
  go_ret
  exact ⟨by simp, rfl⟩
theorem FK_slice {W : World} {ok : Nat → Prop} {A : Option Addr} {l : List S64} {c : Nat} (h : Kd.F k64 W ok A l.length l) (hc : l.length ≤ c) : Kd.FK (Kd.slice 64 k64) W ok l [.slice A l.length c] := fun W' hW => ⟨A, c, rfl, hc, h W' hW⟩
set_option maxRecDepth 100000 in
set_option maxHeartbeats 4000000 in
theorem divided_any (l : List S64) (A : Option Addr) (c : Nat) (w : World) (okp : Nat → Prop) (hF : Kd.F k64 w okp A l.length l) (hc : l.length ≤ c) (hn : fullL l) (hs : smallL l) :
    Calls Tryz.prog 120 #[.slice A l.length c, .func (.func 121) #[] #[], .func (.func 122) #[] #[]] w fun e w' => ∃ v, e = .returned v ∧ Kd.N (Kd.slice 64 k64) 26 w' w.heap.size (fun q => w.heap.size ≤ q) v (partsOf l) ∧ Below w.heap.size w w' := by
  obtain ⟨K, hK⟩ : ∃ K, (pagesOf l).length + 1 = K := ⟨_, rfl⟩
  have HK := Lib.hid hK
  have hpl : (pagesOf l).length < K := by omega
  have hKb : K ≤ 1000001 := by have := hs.2; omega
  unfold partsOf
  rw [hK]
  have hll := hs.1
  clear hK hs
  go_enter Tryz.func120, Tryz.ntmps120
  go_wp2
  go_loopg [0, 7] K (fun kq r o wr => ∃ (A : Option Addr) (c : Nat) (l' : List S64) (done : List (List S64)), r = .slice A l'.length c ∧ l'.length ≤ c ∧ fullL l' ∧ l'.length ≤ 1000000 ∧ (pagesOf l').length < kq ∧ Hid (partsL K l = done ++ partsL kq l') ∧ done.length + kq = K ∧
    Aside0 (Kd.N (Kd.slice 64 k64) 26 wr w.heap.size (fun q => w.heap.size ≤ q) o done) ∧ Aside0 (Kd.F k64 wr (fun q => some q ≠ o.ownBlock) A l'.length l') ∧ Aside0 (Below w.heap.size w wr))
  case atStart => exact ⟨A, c, l, [], rfl, hc, hn, hll, hpl, Lib.hid rfl, by simp, ⟨Kd.N_nil _ _ _ _ _⟩, ⟨Kd.F_mono hF (fun q _ => by simp [Value.ownBlock])⟩, ⟨Below.refl _ _⟩⟩
  case round =>
    obtain ⟨A, c, l', done, rfl, hc, hn, hll, hpk, HP, hdk, HN, HF, HB⟩ := hrel
    cases gk with
    | zero => omega
    | succ kq =>
      cases l' with
      | nil =>
        have HE := Lib.hid (show partsL K l = done by rw [HP.out]; cases kq <;> simp [partsL])
        go_wp2_with (go_at_call 121; (with_reducible refine (more_any _ _ _ _).mono ?_); rintro e w' ⟨rfl, rfl⟩)
        go_ret
        exact ⟨_, rfl, by rw [HE.out]; exact HN.out, HB.out⟩
      | cons f t =>
        have HC := Lib.hid (cutPage_any (f :: t) A c wr _ HF.out hc hn (by simp at hll ⊢; omega))
        have HX := Lib.hid (cut_left 490 (f :: t) hn)
        have HY := Lib.hid (cut_less f t hn)
        have HPP := Lib.hid (show partsL (kq + 1) (f :: t) = (cutL 490 (f :: t)).1 :: partsL kq (cutL 490 (f :: t)).2 from rfl)
        obtain ⟨P, hP⟩ : ∃ P, cutL 490 (f :: t) = P := ⟨_, rfl⟩
        rw [hP] at HC HX HY HPP
        obtain ⟨PA, PB⟩ := P
        clear hP
        have hlt0 := Kd.N_lt HN.out
        have HLT := Aside0.mk hlt0
        have HOK := Aside0.mk (show ∀ q, wr.heap.size ≤ q → w.heap.size ≤ q ∧ some q ≠ Value.ownBlock u7 from fun q hq => ⟨Nat.le_trans HB.out.size hq, fun e => by have := hlt0 q e.symm; omega⟩)
        have HBD := Aside0.mk (show (done.length + 1) * 24 ≤ 140737488355328 by omega)
        clear hlt0
        go_wp2_with (first
          | (go_at_call 121; (with_reducible refine (more_any _ _ _ _).mono ?_); rintro e w' ⟨rfl, rfl⟩)
          | (go_at_call 122; (refine HC.out.mono ?_); rintro e w1 ⟨pv, qv, rfl, hp, hq, hb1⟩; obtain ⟨pA, pc, rfl⟩ := Kd.R_slice hp; obtain ⟨qA, qc, rfl⟩ := Kd.N_slice hq; have HPV := Aside0.mk hp; have HQV := Aside0.mk hq; have HB1 := Aside0.mk hb1; clear hp hq hb1; have HN1 := Aside0.mk (Kd.N_below HN.out HB1.out); have HBW := Aside0.mk (HB.out.trans (HB1.out.mono HB.out.size)); have HFP := Aside0.mk (FK_slice (Kd.R_F (Kd.R_mono (Kd.R_bound HPV.out) (fun q hq => hq.2.1))) (Kd.R_reads' HPV.out).2.1); have HFQ := Aside0.mk (Kd.F_mono (ok' := fun q => True ∧ some q ≠ Value.ownBlock u7) (Kd.N_F HQV.out) (fun q hq => ⟨trivial, fun e => hq.elim (fun h => h e) (fun h => by have := HLT.out q e.symm; omega)⟩)); have HQC := Aside0.mk (Kd.N_reads' HQV.out).2.1)
          | (at_builtin; refine Kd.N_append (Kd.slice 64 k64) (w0 := w) w.heap.size rfl (.tmp 19) (.tmp 21) 90 26 (.slice none 0 0) 24 rfl Tryz.underlying90 info26 rfl (by decide) (by decide) _ done PA [.slice pA PA.length pc] (fun q => w.heap.size ≤ q) (fun q => wr.heap.size ≤ q) rfl rfl HFP.out HOK.out (fun q hq => Nat.le_trans HBW.out.size hq) HN1.out HBW.out HBW.out.size HBD.out ?_; intro v1 w2 hv1 hb2 hg2 hat2))
        go_roundg kq
        case measure => omega
        case rel => exact ⟨qA, qc, PB, done ++ [PA], rfl, HQC.out, HX.out.1, by have h7 : PB.length ≤ (f :: t).length := HX.out.2.2; omega, by have h7 : (pagesOf PB).length < (pagesOf (f :: t)).length := HY.out; omega, Lib.hid (by rw [HP.out, HPP.out, List.append_assoc]; rfl), by rw [List.length_append]; simp; omega, ⟨hv1⟩, ⟨Kd.F_mono (Kd.F_after HFQ.out hg2 hat2) (fun q hq => hq.2)⟩, ⟨hb2⟩⟩
set_option maxHeartbeats 1000000 in
theorem listParts_any (l : List S64) (A : Option Addr) (c : Nat) (w : World) (hC : k64.C w A l.length l) (hc : l.length ≤ c) (hn : fullL l) (hs : smallL l) :
    Calls Tryz.prog 76 #[.slice A l.length c] w fun e w' => ∃ v, e = .returned v ∧ Kd.N (Kd.slice 64 k64) 26 w' w.heap.size (fun q => w.heap.size ≤ q) v (partsOf l) ∧ Below w.heap.size w w' := by
  have HD := Lib.hid (divided_any l A c w _ (Kd.C_F k64_heap hC) hc hn hs)
  clear hC hn hs
  go_enter Tryz.func76, Tryz.ntmps76
  go_wp2_with (go_at_call 120; (refine HD.out.mono ?_); rintro e w1 ⟨v, rfl, hv, hb⟩)
  go_ret
  exact ⟨_, rfl, hv, hb⟩
theorem pwithin_some (a b c : Int) : page_within.f a b c = some (decide (b ≤ a ∧ a ≤ c)) := by
  unfold page_within.f
  by_cases h : b ≤ a <;> simp [h]
theorem pnum_some (a : Int) : page_numbered.f a = some (decide (2 ≤ a ∧ a ≤ 4095)) := by
  unfold page_numbered.f
  rw [pwithin_some]; rfl
theorem freed_l1 (l : List S64) (i : Nat) (v : Int) (xs : List Int) (hlm : xs.length ≤ 9223372036854775806) (d : Nat) : ∀ (k q : Nat), q ≤ xs.length → xs.length - q = d → incP 4096 (xs.take q) →
    page_freed.l1 (d + 1 + k) l l (l.length : Int) (i : Int) xs (xs.length : Int) (q : Int) v xs = if incP 4096 xs then page_freed.l0 k l l (l.length : Int) (wrap64 ((i : Int) + 1)) else some false := by
  induction d with
  | zero =>
    intro k q h1 h2 h3
    obtain rfl : q = xs.length := by omega
    rw [List.take_length] at h3
    rw [if_pos h3, show 0 + 1 + k = k + 1 by omega]
    simp only [page_freed.l1]
    rw [if_neg (by omega)]
  | succ d ih =>
    intro k q h1 h2 h3
    have hlt : q < xs.length := by omega
    have hT := inc_take 4096 xs q hlt
    rw [show d + 1 + 1 + k = (d + 1 + k) + 1 by omega]
    simp only [page_freed.l1]
    rw [if_pos (by omega), if_pos (by omega), if_pos (by omega), rd_at xs q hlt, pnum_some]
    simp only [Option.bind_some]
    by_cases c1 : 2 ≤ xs[q] ∧ xs[q] ≤ 4095
    · rw [if_pos (by simpa using c1)]
      cases q with
      | zero =>
        rw [if_neg (by simp), wrapp 0 (by omega)]
        exact ih k 1 (by omega) (by omega) (hT.2 ⟨h3, by omega, fun j hj => by omega⟩)
      | succ j =>
        have hj : j < xs.length := by omega
        rw [if_pos (by omega), wrapn _ (by omega), show ((j + 1 : Nat) : Int) - 1 = (j : Int) by omega, if_pos (by omega), if_pos (by omega), rd_at xs j hj]
        by_cases c2 : xs[j] ≥ xs[j + 1]
        · rw [if_pos c2, if_neg]
          intro h
          have := (hT.1 (inc_of_take 4096 xs _ h)).2.2 j rfl hj
          omega
        · rw [if_neg c2, wrapp _ (by omega)]
          refine ih k (j + 1 + 1) (by omega) (by omega) (hT.2 ⟨h3, by omega, fun j' hj' hl' => ?_⟩)
          obtain rfl : j = j' := by omega
          omega
    · rw [if_neg (by simpa using c1), if_neg]
      intro h
      have := (hT.1 (inc_of_take 4096 xs _ h)).2.1
      omega
theorem form_false {p : Int} {l : List S64} {i : Nat} (h : i < l.length) (hn : ¬ okAt p l i) : decide (formP p l) = false := decide_eq_false fun hf => hn ((form_take p l i h).1 (form_of_take p l (i + 1) hf)).2
theorem freed_l0 (l : List S64) (hlm : l.length ≤ 9223372036854775806) (hm : ∀ f ∈ l, f.f1.length ≤ 9223372036854775806) (d : Nat) : ∀ (i : Nat), i ≤ l.length → l.length - i = d → formP 4096 (l.take i) → ∃ K, page_freed.l0 K l l (l.length : Int) (i : Int) = some (decide (formP 4096 l)) := by
  induction d with
  | zero =>
    intro i h1 h2 h3
    obtain rfl : i = l.length := by omega
    rw [List.take_length] at h3
    refine ⟨1, ?_⟩
    simp only [page_freed.l0]
    rw [if_neg (by omega)]
    simp [h3]
  | succ d ih =>
    intro i h1 h2 h3
    have hlt : i < l.length := by omega
    have hT := form_take 4096 l i hlt
    have hml : (rd_T64 l (i : Int)).f1.length ≤ 9223372036854775806 := by rw [rd_nat l i hlt]; exact hm _ (List.getElem_mem hlt)
    by_cases c1 : 0 ≤ (rd_T64 l (i : Int)).f0 ∧ (rd_T64 l (i : Int)).f0 ≤ 1099511627776
    · by_cases c2 : (rd_T64 l (i : Int)).f1 = []
      · refine ⟨2, ?_⟩
        simp only [page_freed.l0]
        rw [if_pos (by omega), if_pos (by omega), if_pos (by omega), pwithin_some]
        simp only [Option.bind_some]
        rw [if_pos (by simpa using c1), if_pos (by rw [c2]; rfl)]
        simp only [page_freed.j1]
        rw [if_pos trivial, form_false hlt fun h => h.2.2.1 c2]
      · have hp1 : 0 < (rd_T64 l (i : Int)).f1.length := List.length_pos_iff.2 c2
        by_cases c3 : ∀ j, i = j + 1 → (rd_T64 l (j : Int)).f0 < (rd_T64 l (i : Int)).f0
        · have hstep : ∀ K, page_freed.l0 ((rd_T64 l (i : Int)).f1.length + 1 + K + 1 + 1) l l (l.length : Int) (i : Int) = if incP 4096 (rd_T64 l (i : Int)).f1 then page_freed.l0 K l l (l.length : Int) (wrap64 ((i : Int) + 1)) else some false := by
            intro K
            simp only [page_freed.l0]
            rw [if_pos (by omega), if_pos (by omega), if_pos (by omega), pwithin_some]
            simp only [Option.bind_some]
            rw [if_pos (by simpa using c1), if_neg (by omega)]
            have hj1 : page_freed.j1 ((rd_T64 l (i : Int)).f1.length + 1 + K + 1) l l (l.length : Int) (i : Int) false (rd_T64 l (i : Int)).f0 (rd_T64 l (i : Int)).f1 = if incP 4096 (rd_T64 l (i : Int)).f1 then page_freed.l0 K l l (l.length : Int) (wrap64 ((i : Int) + 1)) else some false := by
              simp only [page_freed.j1]
              rw [if_neg (by simp)]
              exact freed_l1 l i _ _ hml _ K 0 (by omega) (by omega) ⟨by simp, by simp⟩
            cases i with
            | zero => rw [if_neg (by simp)]; exact hj1
            | succ j =>
              have := c3 j rfl
              rw [if_pos (by omega), wrapn _ (by omega), show ((j + 1 : Nat) : Int) - 1 = (j : Int) by omega, if_pos (by omega), if_pos (by omega)]
              rw [show decide ((rd_T64 l (j : Int)).f0 ≥ (rd_T64 l ((j + 1 : Nat) : Int)).f0) = false from decide_eq_false (by omega)]
              exact hj1
          by_cases c4 : incP 4096 (rd_T64 l (i : Int)).f1
          · obtain ⟨K, hK⟩ := ih (i + 1) (by omega) (by omega) (hT.2 ⟨h3, c1, c3, c2, c4⟩)
            refine ⟨_, (hstep K).trans ?_⟩
            rw [if_pos c4, wrapp i (by omega)]
            exact hK
          · refine ⟨_, (hstep 0).trans ?_⟩
            rw [if_neg c4, form_false hlt fun h => c4 h.2.2.2]
        · refine ⟨2, ?_⟩
          simp only [page_freed.l0]
          rw [if_pos (by omega), if_pos (by omega), if_pos (by omega), pwithin_some]
          simp only [Option.bind_some]
          rw [if_pos (by simpa using c1), if_neg (by omega)]
          cases i with
          | zero => exact absurd (fun j hj => by omega) c3
          | succ j =>
            have c5 : (rd_T64 l (j : Int)).f0 ≥ (rd_T64 l ((j + 1 : Nat) : Int)).f0 := by
              by_cases h : (rd_T64 l (j : Int)).f0 < (rd_T64 l ((j + 1 : Nat) : Int)).f0
              · exact absurd (by intro j' hj'; obtain rfl : j = j' := (by omega); exact h) c3
              · omega
            rw [if_pos (by omega), wrapn _ (by omega), show ((j + 1 : Nat) : Int) - 1 = (j : Int) by omega, if_pos (by omega), if_pos (by omega)]
            rw [show decide ((rd_T64 l (j : Int)).f0 ≥ (rd_T64 l ((j + 1 : Nat) : Int)).f0) = true from decide_eq_true c5]
            simp only [page_freed.j1]
            rw [if_pos trivial, form_false hlt fun h => absurd (h.2.1 j rfl) (by omega)]
    · refine ⟨2, ?_⟩
      simp only [page_freed.l0]
      rw [if_pos (by omega), if_pos (by omega), if_pos (by omega), pwithin_some]
      simp only [Option.bind_some]
      rw [if_neg (by simpa using c1)]
      simp only [page_freed.j1]
      rw [if_pos trivial, form_false hlt fun h => c1 h.1]
theorem freed_any (l : List S64) (A : Option Addr) (c : Nat) (w : World) (hC : k64.C w A l.length l) (hc : l.length ≤ c) (hs : smallL l) :
    Calls Tryz.prog 75 #[.slice A l.length c] w fun e w' => e = .returned (.bool (decide (formP 4096 l))) ∧ Below w.heap.size w w' := by
  obtain ⟨K, hK⟩ := freed_l0 l (by have := hs.1; omega) (fun f hf => by have := small_each hs f hf; omega) _ 0 (Nat.zero_le _) rfl ⟨by simp, by simp⟩
  exact page_freed.calls K A c l _ w hC hc hK
theorem form_fullL {p : Int} {l : List S64} (h : formP p l) : fullL l := fun f hf => (h.1 f hf).2.2.1
set_option maxHeartbeats 1000000 in
theorem needs_yes (l : List S64) (A : Option Addr) (c : Nat) (w : World) (hC : k64.C w A l.length l) (hc : l.length ≤ c) (hs : smallL l) (hf : formP 4096 l) :
    Calls Tryz.prog 33 #[.slice A l.length c] w fun e w' => e = .returned (.tuple #[.int .i64 (partsOf l).length, .int .i64 0]) ∧ Below w.heap.size w w' := by
  have HF := Lib.hid (freed_any l A c w hC hc hs)
  rw [decide_eq_true hf] at HF
  have HP := Lib.hid (fun (w1 : World) (hb : Below w.heap.size w w1) => listParts_any l A c w1 (Kd.C_below hC hb) hc (form_fullL hf) hs)
  clear hC hs hf
  go_enter Tryz.func33, Tryz.ntmps33
  go_wp2_with (first | (go_at_call 75; (refine HF.out.mono ?_); rintro e w2 ⟨rfl, hb2⟩) | (go_at_call 76; (refine (HP.out _ hb2).mono ?_); rintro e w3 ⟨v, rfl, hv, hb3⟩; obtain ⟨pA, pc, rfl⟩ := Kd.N_slice hv))
  go_ret2
  exact ⟨rfl, hb2.trans (hb3.mono hb2.size)⟩
theorem compactUp_le (d : Array Int) (m : Nat) : (Lib.compactUpTo d m).length ≤ m := by
  induction m with
  | zero => simp [Lib.compactUpTo]
  | succ m ih => rw [Lib.compactUpTo_succ, List.length_append]; split <;> simp <;> omega
theorem compactUp_lt (d : Array Int) (m j : Nat) (hj : j < m) (hk : Lib.keeps d j = false) : (Lib.compactUpTo d m).length < m := by
  induction m with
  | zero => omega
  | succ m ih =>
    rw [Lib.compactUpTo_succ, List.length_append]
    have := compactUp_le d m
    by_cases h : j = m
    · subst h; rw [hk]; simp; omega
    · have := ih (by omega)
      split <;> simp <;> omega
theorem compact_count {zs : List Int} (hs : zs.Pairwise (· ≤ ·)) : (Lib.compact zs).length = zs.length ↔ zs.Nodup := by
  constructor
  · intro h
    have hk : ∀ j, j < zs.length → Lib.keeps zs.toArray j = true := by
      intro j hj
      by_cases hn : Lib.keeps zs.toArray j = true
      · exact hn
      · have := compactUp_lt zs.toArray zs.length j hj (by simpa using hn)
        unfold Lib.compact at h
        omega
    rw [List.Nodup, List.pairwise_iff_getElem]
    have hadj : ∀ j, (hj : j + 1 < zs.length) → zs[j] < zs[j + 1] := by
      intro j hj
      have h1 := hk (j + 1) hj
      have h2 := List.pairwise_iff_getElem.1 hs j (j + 1) (by omega) hj (by omega)
      simp [Lib.keeps, hj, show j < zs.length by omega] at h1
      omega
    have hlt : ∀ n i, (hi : i + n + 1 < zs.length) → zs[i]'(by omega) < zs[i + n + 1] := by
      intro n
      induction n with
      | zero => intro i hi; exact hadj i hi
      | succ n ih => intro i hi; exact Int.lt_trans (ih i (by omega)) (hadj (i + n + 1) hi)
    intro i j hi hj hij
    obtain ⟨n, rfl⟩ : ∃ n, j = i + n + 1 := ⟨j - i - 1, by omega⟩
    have := hlt n i hj
    omega
  · intro h
    rw [Lib.compact_all]
    intro j hj
    cases j with
    | zero => simp [Lib.keeps]
    | succ j =>
      have := (List.pairwise_iff_getElem.1 h) j (j + 1) (by omega) hj (by omega)
      simp [Lib.keeps, hj, show j < zs.length by omega]
      omega
theorem sortI_perm (l : List Int) : (sortI l).Perm l := List.mergeSort_perm l _
theorem sortI_pair (l : List Int) : (sortI l).Pairwise (· ≤ ·) := by
  have := List.pairwise_mergeSort (le := fun x y : Int => decide (x ≤ y)) (by intro a b c h1 h2; simp at *; omega) (by intro a b; simp; omega) l
  exact this.imp (by simp)
theorem compact_sort (l : List Int) : (Lib.compact (sortI l)).length = l.length ↔ l.Nodup := by
  have := compact_count (sortI_pair l)
  rw [sortI_length] at this
  rw [this]
  exact (sortI_perm l).nodup_iff
theorem compact_R {w : World} {base : Nat} {ok : Nat → Prop} {v : Value} {l : List Int} (h : (Kd.int .i64).R 3 w base ok v l) (hl : l.length < 4611686018427387904) :
    Calls Tryz.prog 141 #[v] w fun e w' => (∃ A c, e = .returned (.slice A (Lib.compact l).length c)) ∧ Below base w w' := by
  have ho := Kd.own_of_R h
  by_cases hv : v = .slice none 0 0
  · subst hv
    have hl0 : l = [] := by
      rcases ho.2 with ⟨_, e⟩ | ⟨g, cap, cur, e, _⟩
      · cases l with
        | nil => rfl
        | cons a t => simp [encs] at e
      · cases e
    subst hl0
    refine (Tryz.slices_Compact_int_empty none 0 w).mono ?_
    rintro e w' ⟨rfl, rfl⟩
    exact ⟨⟨none, 0, rfl⟩, Below.refl _ _⟩
  · obtain ⟨g, cap, rfl, hbg, hlt, hn, hm, hzl, hH⟩ := Lib.holds_of_ownsRow ho hv
    refine (Tryz.slices_Compact_int g 0 cap l w hH (by omega) hn).mono ?_
    rintro e w' ⟨rfl, n, rfl⟩
    exact ⟨⟨_, _, rfl⟩, Lib.below_putRow (Below.refl base w) hbg⟩
def idxI (P : Int → Bool) : List Int → Int
  | [] => -1
  | x :: t => if P x = true then 0 else if idxI P t = -1 then -1 else idxI P t + 1
theorem idxI_none (P : Int → Bool) (l : List Int) (h : ∀ x ∈ l, P x = false) : idxI P l = -1 := by
  induction l with
  | nil => rfl
  | cons x t ih => rw [idxI, if_neg (by rw [h x List.mem_cons_self]; simp), if_pos (ih fun y hy => h y (List.mem_cons_of_mem _ hy))]
theorem idxI_at (P : Int → Bool) (l : List Int) (k : Nat) (hk : k < l.length) (h : ∀ x ∈ l.take k, P x = false) (hp : P l[k] = true) : idxI P l = k := by
  induction l generalizing k with
  | nil => simp at hk
  | cons x t ih =>
    cases k with
    | zero => rw [idxI, if_pos (by simpa using hp)]; rfl
    | succ k =>
      have := ih k (by simpa using hk) (fun y hy => h y (by simp [hy])) (by simpa using hp)
      rw [idxI, if_neg (by rw [h x (by simp)]; simp), this, if_neg (by omega)]
      omega
def noNum (n : Int) : Bool := !decide (2 ≤ n ∧ n ≤ 4095)
set_option maxHeartbeats 1000000 in
theorem nonum_any (n : Int) (w : World) : Calls Tryz.prog 143 #[.int .i64 n] w fun e w' => e = .returned (.bool (noNum n)) ∧ Drawn0 w w' := by
  have HN := Lib.hid (page_numbered.calls n _ w (pnum_some n))
  unfold noNum
  obtain ⟨b, hb⟩ : ∃ b, decide (2 ≤ n ∧ n ≤ 4095) = b := ⟨_, rfl⟩
  rw [hb] at HN ⊢
  clear hb
  have hnot : ∀ (x : Bool) (w : World), (Op.unary .not (.bool x)).run Tryz.prog w = .ok (.bool (!x)) w := fun _ _ => rfl
  go_enter Tryz.func143, Tryz.ntmps143
  go_wp2_with (go_at_call 119; (refine HN.out.mono ?_); rintro e w' ⟨rfl, ⟨nd, rfl⟩⟩)
  go_ret
  exact ⟨rfl, ⟨nd, rfl⟩⟩
set_option maxRecDepth 100000 in
set_option maxHeartbeats 1000000 in
theorem index_nonum (l : List Int) (A : Option Addr) (c : Nat) (w : World) (hC : (Kd.int .i64).C w A l.length l) (hc : l.length ≤ c) (hl : l.length ≤ 1000000) :
    Calls Tryz.prog 140 #[.slice A l.length c, .func (.func 143) #[] #[]] w fun e w' => e = .returned (.int .i64 (idxI noNum l)) ∧ Below w.heap.size w w' := by
  go_enter Tryz.func140, Tryz.ntmps140
  go_wp2
  go_loopw [8] (fun i wr => ∃ k : Nat, k ≤ l.length ∧ i = .int .i64 k ∧ (∀ x ∈ l.take k, noNum x = false) ∧ Aside0 (Below w.heap.size w wr))
    (fun i _ => l.length - (intOf i).toNat)
  case atStart => exact ⟨0, Nat.zero_le _, rfl, by simp, ⟨Below.refl _ _⟩⟩
  case round =>
    obtain ⟨k, hk, rfl, hno, HB⟩ := hrel
    have HNO := Lib.hid hno
    clear hno
    by_cases hlt : k < l.length
    · obtain ⟨ad, rfl, hx⟩ := Kd.at_int (Kd.C_below hC HB.out) (k : Int) (by omega) (by omega)
      rw [Int.toNat_natCast, rd_at l k hlt] at hx
      obtain ⟨x, hxx⟩ : ∃ x, l[k] = x := ⟨_, rfl⟩
      rw [hxx] at hx
      have HC := Lib.hid (nonum_any x wr)
      have HT := Lib.hid (show l.take (k + 1) = l.take k ++ [x] by rw [List.take_succ_eq_append_getElem hlt, hxx])
      by_cases hb : noNum x = true
      · have HE := Lib.hid (idxI_at noNum l k hlt HNO.out (by rw [hxx]; exact hb))
        rw [hb] at HC
        clear hxx hC hb
        go_wp2_with (go_at_call 143; (refine HC.out.mono ?_); rintro e w' ⟨rfl, ⟨nd, rfl⟩⟩)
        go_ret
        exact ⟨by rw [HE.out]; rfl, pw_below_drewN HB.out nd⟩
      · have hb2 : noNum x = false := by simpa using hb
        rw [hb2] at HC
        have HB2 := Lib.hid hb2
        clear hxx hC hb hb2
        go_wp2_with (go_at_call 143; (refine HC.out.mono ?_); rintro e w' ⟨rfl, ⟨nd, rfl⟩⟩)
        go_roundw
        case rel => exact ⟨k + 1, by omega, by go_num, by rw [HT.out]; intro y hy; rcases List.mem_append.1 hy with h | h; exact HNO.out y h; rw [List.mem_singleton.1 h]; exact HB2.out, ⟨pw_below_drewN HB.out nd⟩⟩
        case measure => simp [intOf]; omega
    · obtain rfl : k = l.length := by omega
      have HE := Lib.hid (idxI_none noNum l (by have := HNO.out; rwa [List.take_length] at this))
      go_wp2
      go_ret
      exact ⟨by rw [HE.out]; rfl, HB.out⟩
theorem idx_ge (l : List Int) : decide (idxI noNum l ≥ 0) = !decide (∀ x ∈ l, 2 ≤ x ∧ x ≤ 4095) := by
  by_cases h : ∀ x ∈ l, 2 ≤ x ∧ x ≤ 4095
  · rw [idxI_none noNum l (fun x hx => by simp [noNum, h x hx]), decide_eq_true h]; rfl
  · rw [decide_eq_false h]
    have h2 : 0 ≤ idxI noNum l := by
      induction l with
      | nil => exact absurd (by simp) h
      | cons x t ih =>
        rw [idxI]
        by_cases hx : noNum x = true
        · rw [if_pos hx]; omega
        · rw [if_neg hx]
          have hx2 : 2 ≤ x ∧ x ≤ 4095 := by simpa [noNum] using hx
          have := ih fun h3 => h fun y hy => by rcases List.mem_cons.1 hy with rfl | hy; exact hx2; exact h3 y hy
          rw [if_neg (by omega)]; omega
    simpa using h2
set_option maxHeartbeats 1000000 in
theorem contains_nonum (l : List Int) (A : Option Addr) (c : Nat) (w : World) (hC : (Kd.int .i64).C w A l.length l) (hc : l.length ≤ c) (hl : l.length ≤ 1000000) :
    Calls Tryz.prog 142 #[.slice A l.length c, .func (.func 143) #[] #[]] w fun e w' => e = .returned (.bool (!decide (∀ x ∈ l, 2 ≤ x ∧ x ≤ 4095))) ∧ Below w.heap.size w w' := by
  have HI := Lib.hid (index_nonum l A c w hC hc hl)
  have HE := Lib.hid (idx_ge l)
  clear hC
  go_enter Tryz.func142, Tryz.ntmps142
  go_wp2_with (go_at_call 140; (refine HI.out.mono ?_); rintro e w' ⟨rfl, hb⟩)
  go_ret
  exact ⟨by rw [HE.out]; rfl, hb⟩
def numB (l : List Int) (v : Int) : Bool := decide (l.Nodup ∧ (∀ x ∈ l, 2 ≤ x ∧ x ≤ 4095) ∧ 0 ≤ v ∧ v ≤ 1099511627776)
theorem len_eq (l : List Int) : (((Lib.compact (sortI l)).length : Int) == (l.length : Int)) = decide l.Nodup := by
  have := compact_sort l
  by_cases h : l.Nodup
  · rw [decide_eq_true h, this.2 h]; simp
  · rw [decide_eq_false h]
    have h2 : ¬ (Lib.compact (sortI l)).length = l.length := fun e => h (this.1 e)
    simp; omega
set_option maxRecDepth 100000 in
set_option maxHeartbeats 1000000 in
theorem numbers_any (l : List Int) (v : Int) (A : Option Addr) (c : Nat) (w : World) (hC : (Kd.int .i64).C w A l.length l) (hc : l.length ≤ c) (hl : l.length ≤ 1000000) :
    Calls Tryz.prog 100 #[.slice A l.length c, .int .i64 v] w fun e w' => e = .returned (.bool (numB l v)) ∧ Below w.heap.size w w' := by
  have HL := Lib.hid (cloneInt l A c w hC (by omega))
  have HK := Lib.hid (fun (w1 : World) (hb : Below w.heap.size w w1) => contains_nonum l A c w1 (Kd.C_below hC hb) hc hl)
  have HE := Lib.hid (len_eq l)
  obtain ⟨b1, hb1⟩ : ∃ b, decide l.Nodup = b := ⟨_, rfl⟩
  obtain ⟨b2, hb2⟩ : ∃ b, decide (∀ x ∈ l, 2 ≤ x ∧ x ≤ 4095) = b := ⟨_, rfl⟩
  obtain ⟨b3, hb3⟩ : ∃ b, decide (0 ≤ v ∧ v ≤ 1099511627776) = b := ⟨_, rfl⟩
  have hN : numB l v = (b1 && (b2 && b3)) := by rw [← hb1, ← hb2, ← hb3, numB]; simp
  rw [hN]
  have HW := Lib.hid (fun (w1 : World) => page_within.calls v 0 1099511627776 _ w1 (pwithin_some v 0 1099511627776))
  rw [hb2] at HK
  rw [hb1] at HE
  rw [hb3] at HW
  have HS := Lib.hid (show (sortI l).length = l.length from sortI_length l)
  clear hb1 hb2 hb3 hN hC
  have hnot : ∀ (x : Bool) (w : World), (Op.unary .not (.bool x)).run Tryz.prog w = .ok (.bool (!x)) w := fun _ _ => rfl
  have hll : l.length < 4611686018427387904 := by omega
  have HLL := Aside0.mk hll
  clear hll
  obtain ⟨m, hm⟩ : ∃ m, (Lib.compact (sortI l)).length = m := ⟨_, rfl⟩
  rw [hm] at HE
  have HM := Lib.hid hm
  clear hm
  go_enter Tryz.func100, Tryz.ntmps100
  cases b1 <;> cases b2
  all_goals
    have hE := HE.out
    go_wp2_with (first
      | (go_at_call 96; (refine HL.out.mono ?_); rintro e w1 ⟨u, rfl, hu, hb1⟩; obtain ⟨uA, uc, rfl⟩ := Kd.R_slice hu)
      | (go_at_call 73; (refine (sort_R hu HLL.out).mono ?_); rintro e w2 ⟨rfl, hs, hkp, hb2⟩)
      | (go_at_call 141; (refine (compact_R hs (by rw [HS.out]; exact HLL.out)).mono ?_); rintro e w3 ⟨⟨dA, dc, rfl⟩, hb3⟩; rw [HM.out])
      | (go_at_call 142; (refine (HK.out _ (hb1.trans (hb2.trans hb3))).mono ?_); rintro e w4 ⟨rfl, hb4⟩)
      | (go_at_call 118; (refine (HW.out _).mono ?_); rintro e w5 ⟨rfl, ⟨nd, rfl⟩⟩))
    go_ret
    refine ⟨rfl, ?_⟩
    first | exact pw_below_drewN ((hb1.trans (hb2.trans hb3)).trans (hb4.mono (hb1.trans (hb2.trans hb3)).size)) nd | exact (hb1.trans (hb2.trans hb3)).trans (hb4.mono (hb1.trans (hb2.trans hb3)).size) | exact hb1.trans (hb2.trans hb3)
structure S89 where
  kind : Int
  no : Int
  ver : Int
  tree : Int
  level : Int
  top : Bool
  ent : Option Addr × Nat × Nat
  next : Int
  data : ByteArray
  freed : List S64
def z89 : S89 := ⟨0, 0, 0, 0, 0, false, (none, 0, 0), 0, ⟨#[]⟩, []⟩
def kHead : Kd (Option Addr × Nat × Nat) := Kd.scalar (fun x => Value.slice x.1 x.2.1 x.2.2) (fun _ => rfl)
def k89 : Kd S89 := Kd.iso (Kd.pair (Kd.int .i64) (Kd.pair (Kd.int .i64) (Kd.pair (Kd.int .i64) (Kd.pair (Kd.int .i64) (Kd.pair (Kd.int .i64) (Kd.pair Kd.bool (Kd.pair kHead (Kd.pair (Kd.int .i64) (Kd.pair Kd.string (Kd.slice 64 k64))))))))))
  (fun x : S89 => (x.kind, x.no, x.ver, x.tree, x.level, x.top, x.ent, x.next, x.data, x.freed))
theorem k89_heap : Kd.Heap k89 := Kd.heap_iso _ (Kd.heap_pair (Kd.heap_int _) (Kd.heap_pair (Kd.heap_int _) (Kd.heap_pair (Kd.heap_int _) (Kd.heap_pair (Kd.heap_int _) (Kd.heap_pair (Kd.heap_int _) (Kd.heap_pair Kd.heap_bool (Kd.heap_pair Kd.heap_scalar (Kd.heap_pair (Kd.heap_int _) (Kd.heap_pair Kd.heap_string (Kd.heap_slice 64 k64_heap))))))))))
theorem k89_sz : k89.sz = 10 := rfl
def cells89 (x : S89) (A : Option Addr) (c : Nat) : List Value := [.int .i64 x.kind, .int .i64 x.no, .int .i64 x.ver, .int .i64 x.tree, .int .i64 x.level, .bool x.top, .slice x.ent.1 x.ent.2.1 x.ent.2.2, .int .i64 x.next, .string x.data, .slice A x.freed.length c]
theorem k89_open {w : World} {x : S89} {cs : List Value} (h : k89.K w x cs) : ∃ A c, cs = cells89 x A c ∧ x.freed.length ≤ c ∧ k64.C w A x.freed.length x.freed := by
  obtain ⟨_, _, rfl, rfl, _, _, rfl, rfl, _, _, rfl, rfl, _, _, rfl, rfl, _, _, rfl, rfl, _, _, rfl, rfl, _, _, rfl, rfl, _, _, rfl, rfl, _, _, rfl, rfl, ⟨A, c, rfl, l1, g1⟩⟩ := h
  exact ⟨A, c, rfl, l1, g1⟩
theorem k89_mk (w : World) (x : S89) {A : Option Addr} {c : Nat} (l1 : x.freed.length ≤ c) (g1 : k64.C w A x.freed.length x.freed) : k89.K w x (cells89 x A c) :=
  ⟨[_], _, rfl, rfl, [_], _, rfl, rfl, [_], _, rfl, rfl, [_], _, rfl, rfl, [_], _, rfl, rfl, [_], _, rfl, rfl, [_], _, rfl, rfl, [_], _, rfl, rfl, [_], _, rfl, rfl, ⟨A, c, rfl, l1, g1⟩⟩
theorem k89_openF {W : World} {ok : Nat → Prop} {x : S89} {cs : List Value} (h : Kd.FK k89 W ok x cs) : ∃ A c, cs = cells89 x A c ∧ x.freed.length ≤ c ∧ Kd.F k64 W ok A x.freed.length x.freed := by
  obtain ⟨A, c, rfl, l1, _⟩ := k89_open (Kd.FK_now h)
  refine ⟨A, c, rfl, l1, fun W' hW => ?_⟩
  obtain ⟨A', c', he, l', g'⟩ := k89_open (h W' hW)
  injection (Option.some.inj (show some (Value.slice A x.freed.length c) = some (Value.slice A' x.freed.length c') from congrArg (fun l => l[9]?) he)) with ha _ _
  rw [ha]
  exact g'
theorem k89_mkF (W : World) (ok : Nat → Prop) (x : S89) {A : Option Addr} {c : Nat} (l1 : x.freed.length ≤ c) (g1 : Kd.F k64 W ok A x.freed.length x.freed) : Kd.FK k89 W ok x (cells89 x A c) := fun W2 hW => k89_mk W2 x l1 (g1 W2 hW)
theorem info89 : (Tryz.prog.info? 89).map (fun i => (i.zero, i.size, i.bytes)) = some (some (.agg (cells89 z89 none 0).toArray), 10, 120) := by kernel_rfl
theorem zero89F {W : World} {ok : Nat → Prop} : Kd.FK k89 W ok z89 (cells89 z89 none 0) := k89_mkF W ok z89 (Nat.le_refl _) (Kd.F_nil _ _ _)
def pg (l : List S89) (i : Nat) : S89 := l.getD i z89
def chP (n : Nat) (no : List Int) (kind v : Int) (i : Nat) (p : S89) : S89 := { p with kind := kind, no := rd no (i : Int), ver := v, next := if i + 1 < n then rd no ((i + 1 : Nat) : Int) else p.next }
def chTo (k : Nat) (l : List S89) (no : List Int) (kind v : Int) : List S89 := l.mapIdx fun i p => if i < k then chP l.length no kind v i p else p
theorem chTo_length (k : Nat) (l : List S89) (no : List Int) (kind v : Int) : (chTo k l no kind v).length = l.length := by simp [chTo]
theorem chTo_zero (l : List S89) (no : List Int) (kind v : Int) : chTo 0 l no kind v = l := by
  refine List.ext_getElem (by simp [chTo]) fun i h1 h2 => ?_
  simp [chTo]
theorem chTo_at (k : Nat) (l : List S89) (no : List Int) (kind v : Int) (h : k < l.length) : (chTo k l no kind v).getD k z89 = pg l k := by
  simp [chTo, pg, h]
theorem chTo_step (k : Nat) (l : List S89) (no : List Int) (kind v : Int) (h : k < l.length) : (chTo k l no kind v).set k (chP l.length no kind v k (pg l k)) = chTo (k + 1) l no kind v := by
  refine List.ext_getElem (by simp [chTo]) fun i h1 h2 => ?_
  simp only [List.getElem_set, chTo, List.getElem_mapIdx]
  by_cases e : k = i
  · subst e
    rw [if_pos rfl, if_pos (by omega)]
    simp [pg, h]
  · rw [if_neg e]
    by_cases e2 : i < k
    · rw [if_pos e2, if_pos (by omega)]
    · rw [if_neg e2, if_neg (by omega)]
theorem set_at (l : List S89) (k : Nat) (x : S89) (h : k < l.length) : (l.set k x).getD k z89 = x := by simp [h]
set_option maxRecDepth 100000 in
set_option maxHeartbeats 600000 in
theorem chained_any (l : List S89) (no : List Int) (kind v : Int) (V : Value) (B : Option Addr) (cb : Nat) (base : Nat) (ok : Nat → Prop) (w : World) (hN : Kd.N k89 89 w base ok V l) (hF : Kd.F (Kd.int .i64) w (fun q => some q ≠ V.ownBlock) B no.length no) (hcb : no.length ≤ cb) (hl : l.length = no.length) (hm : l.length ≤ 1000000) :
    Calls Tryz.prog 101 #[V, .slice B no.length cb, .int .i64 kind, .int .i64 v] w fun e w' => e = .returned V ∧ Kd.N k89 89 w' base ok V (chTo l.length l no kind v) ∧ Kept w w' (fun q => some q = V.ownBlock) ∧ Below base w w' := by
  obtain ⟨VA, vc, rfl⟩ := Kd.N_slice hN
  have hbase := Kd.N_base hN
  have HBASE := Aside0.mk hbase
  have hcv := (Kd.N_reads' hN).2.1
  have HL := Lib.hid hl
  clear hbase hl
  go_enter Tryz.func101, Tryz.ntmps101
  go_wp2
  go_loopw [9, 12] (fun i0 i wr => ∃ k : Nat, k ≤ l.length ∧ i = .int .i64 k ∧ Aside0 (Kd.N k89 89 wr base ok (.slice VA l.length vc) (chTo k l no kind v)) ∧ Aside0 (Kept w wr (fun q => some q = (Value.slice VA l.length vc).ownBlock)) ∧ Aside0 (Below base w wr))
    (fun _ i _ => l.length - (intOf i).toNat)
  case atStart => exact ⟨0, Nat.zero_le _, rfl, ⟨by rw [chTo_zero]; exact hN⟩, ⟨Kept.refl _ _⟩, ⟨Below.refl _ _⟩⟩
  case round =>
    obtain ⟨k, hk, rfl, HN, HK, HB⟩ := hrel
    by_cases hlt : k < l.length
    · have hkno : k < no.length := by have := HL.out; omega
      obtain ⟨g, vc', hVe, hbg, hgs, _⟩ := Kd.N_form HN.out (by rw [chTo_length]; omega)
      rw [chTo_length] at hVe
      injection hVe with h1 _ h2
      subst h1 h2
      obtain ⟨cs, hcl, hFK, hcc, hfr⟩ := Kd.N_elem HN.out z89 (k : Int) (by omega) (by omega)
      rw [Int.toNat_natCast, chTo_at k l no kind v hlt] at hFK
      obtain ⟨A9, c9, rfl, hl9, hF9⟩ := k89_openF hFK
      have hF2 := Kd.F_kept hF HK.out (fun q hq h => hq h)
      obtain ⟨bd, rfl, hx⟩ := Kd.at_int (Kd.F_now hF2) (k : Int) (by omega) (by omega)
      rw [Int.toNat_natCast] at hx
      obtain ⟨p, hp⟩ : ∃ p, pg l k = p := ⟨_, rfl⟩
      rw [hp] at hcc
      obtain ⟨a, ha⟩ : ∃ a, rd no (k : Int) = a := ⟨_, rfl⟩
      rw [ha] at hx
      have hc0 := hcc 0 _ rfl
      have hc1 := hcc 1 _ rfl
      have hc2 := hcc 2 _ rfl
      have hc7 := hcc 7 _ rfl
      have hz0 := hfr 0
      have hz1 := hfr 1
      have hz2 := hfr 2
      have hz7 := hfr 7
      simp only [Int.toNat_natCast, k89_sz, Nat.add_zero] at hc0 hc1 hc2 hc7 hz0 hz1 hz2 hz7
      clear hfr
      go_upto_region 5 with (fail)
      obtain ⟨hN1, hG1⟩ := Kd.N_seg HN.out (k : Int) (by omega) (by omega) (c := cells89 p A9 c9) (seg := [.int .i64 kind, .int .i64 a, .int .i64 v]) (j := 0) hcl hcc (by show 0 + 3 ≤ 10; omega) (x' := { p with kind := kind, no := a, ver := v }) (k89_mkF wr _ { p with kind := kind, no := a, ver := v } (by rw [← hp]; exact hl9) (by rw [← hp]; exact hF9)) (fun q hq => hq)
      rw [Int.toNat_natCast, k89_sz, Nat.add_zero] at hN1 hG1
      have hB1 : Below base w (wr.setCells g (k * 10) [.int .i64 kind, .int .i64 a, .int .i64 v]) := ((HB.out.setCell (p := ⟨g, k * 10, none⟩) hbg _).setCell (p := ⟨g, k * 10 + 1, none⟩) hbg _).setCell (p := ⟨g, k * 10 + 1 + 1, none⟩) hbg _
      rw [show ((wr.setCell ⟨g, k * 10, none⟩ (.int .i64 kind)).setCell ⟨g, k * 10 + 1, none⟩ (.int .i64 a)).setCell ⟨g, k * 10 + 2, none⟩ (.int .i64 v) = wr.setCells g (k * 10) [.int .i64 kind, .int .i64 a, .int .i64 v] from rfl]
      obtain ⟨W1, hW1⟩ : ∃ W1, wr.setCells g (k * 10) [.int .i64 kind, .int .i64 a, .int .i64 v] = W1 := ⟨_, rfl⟩
      rw [hW1] at hN1 hG1 hB1 ⊢
      clear hW1 hc0 hc1 hc2 hc7 hz0 hz1 hz2 hz7 hx
      have hK1 : Kept w W1 (fun q => some q = (Value.slice (some ⟨g, 0, none⟩) l.length vc).ownBlock) := ⟨Nat.le_trans HK.out.1 hG1.size, fun q hq hn => by rw [hG1.block q (by have := HK.out.1; omega) (fun e => hn (by simpa [Value.ownBlock] using e)), HK.out.2 q hq hn]⟩
      have HN1 := Aside0.mk hN1
      have HK1 := Aside0.mk hK1
      have HB1 := Aside0.mk hB1
      have HP := Lib.hid hp
      have HA := Lib.hid ha
      have hgn : (chTo k l no kind v).set k { p with kind := kind, no := a, ver := v } = (chTo k l no kind v).set k { p with kind := kind, no := a, ver := v } := rfl
      by_cases hk1 : k + 1 < l.length
      · have hkno1 : k + 1 < no.length := by have := HL.out; omega
        obtain ⟨bd', hbe, hx1⟩ := Kd.at_int (Kd.F_now (Kd.F_kept hF hK1 (fun q hq h => hq h))) ((k : Int) + 1) (by omega) (by omega)
        injection hbe with hbe
        subst hbe
        rw [show ((k : Int) + 1).toNat = k + 1 by omega] at hx1
        obtain ⟨b, hb⟩ : ∃ b, rd no ((k : Int) + 1) = b := ⟨_, rfl⟩
        rw [hb, Addr.add, if_neg (Nat.succ_ne_zero k)] at hx1
        obtain ⟨cs, hcl2, hFK2, hcc2, hfr2⟩ := Kd.N_elem hN1 z89 (k : Int) (by omega) (by omega)
        rw [Int.toNat_natCast, set_at _ k _ (by rw [chTo_length]; exact hlt)] at hFK2
        obtain ⟨A8, c8, rfl, hl8, hF8⟩ := k89_openF hFK2
        have hc7 := hcc2 7 _ rfl
        have hz7 := hfr2 7
        simp only [Int.toNat_natCast, k89_sz] at hc7 hz7
        have HC2 := Aside0.mk hcc2
        have HL8 := Aside0.mk hl8
        have HF8 := Aside0.mk hF8
        have HBV := Lib.hid hb
        have hkn : (k : Int) + 1 < (l.length : Int) := by omega
        clear hp ha hb hN1 hG1 hB1 hK1 hcc hcc2 hN hF hF2 hF8 hF9 hFK hFK2 hgn
        go_upto_region 7 with (fail)
        obtain ⟨hN3, hG3⟩ := Kd.N_seg HN1.out (k : Int) (by omega) (by omega) (c := cells89 { p with kind := kind, no := a, ver := v } A8 c8) (seg := [.int .i64 b]) (j := 7) hcl2 HC2.out (by show 7 + 1 ≤ 10; omega) (x' := { p with kind := kind, no := a, ver := v, next := b }) (k89_mkF W1 _ { p with kind := kind, no := a, ver := v, next := b } HL8.out HF8.out) (fun q hq => hq)
        rw [Int.toNat_natCast, k89_sz, List.set_set] at hN3
        rw [Int.toNat_natCast, k89_sz] at hG3
        have HN3 := Aside0.mk hN3
        have HB3 := Aside0.mk (HB1.out.setCell (p := ⟨g, k * 10 + 7, none⟩) hbg (.int .i64 b))
        have HK3 := Aside0.mk (show Kept w (W1.setCell ⟨g, k * 10 + 7, none⟩ (.int .i64 b)) (fun q => some q = (Value.slice (some ⟨g, 0, none⟩) l.length vc).ownBlock) from ⟨Nat.le_trans HK1.out.1 hG3.size, fun q hq hn => by rw [show W1.setCell ⟨g, k * 10 + 7, none⟩ (.int .i64 b) = W1.setCells g (k * 10 + 7) [.int .i64 b] from rfl, hG3.block q (by have := HK1.out.1; omega) (fun e => hn (by simpa [Value.ownBlock] using e)), HK1.out.2 q hq hn]⟩)
        clear hN3 hG3 hc7 hz7 hx1
        go_wp2
        go_roundw
        case rel => exact ⟨k + 1, by omega, by go_num, ⟨by rw [← chTo_step k l no kind v hlt, chP, if_pos hk1, HP.out, HA.out, show ((k + 1 : Nat) : Int) = (k : Int) + 1 by omega, HBV.out]; exact HN3.out⟩, ⟨HK3.out⟩, ⟨HB3.out⟩⟩
        case measure => simp [intOf]; omega
      · have hkn : ¬ (k : Int) + 1 < (l.length : Int) := by omega
        clear hp ha hN1 hG1 hB1 hK1 hcc hN hF hF2 hF9 hFK hgn
        go_wp2
        go_roundw
        case rel => exact ⟨k + 1, by omega, by go_num, ⟨by rw [← chTo_step k l no kind v hlt, chP, if_neg hk1, HP.out, HA.out]; exact HN1.out⟩, ⟨HK1.out⟩, ⟨HB1.out⟩⟩
        case measure => simp [intOf]; omega
    · obtain rfl : k = l.length := by omega
      go_wp2
      go_ret
      exact ⟨rfl, HN.out, HK.out, HB.out⟩
def fillTo (k n : Nat) (parts : List (List S64)) : List S89 := (List.range n).map fun i => if i < k then { z89 with freed := rd_L3 parts (i : Int) } else z89
theorem fillTo_length (k n : Nat) (parts : List (List S64)) : (fillTo k n parts).length = n := by simp [fillTo]
theorem fillTo_zero (n : Nat) (parts : List (List S64)) : fillTo 0 n parts = List.replicate n z89 := by
  refine List.ext_getElem (by simp [fillTo]) fun i h1 h2 => ?_
  simp [fillTo]
theorem fillTo_at (k n : Nat) (parts : List (List S64)) (h : k < n) : (fillTo k n parts).getD k z89 = z89 := by
  simp [fillTo, h]
theorem fillTo_step (k n : Nat) (parts : List (List S64)) (h : k < n) : (fillTo k n parts).set k { z89 with freed := rd_L3 parts (k : Int) } = fillTo (k + 1) n parts := by
  refine List.ext_getElem (by simp [fillTo]) fun i h1 h2 => ?_
  simp only [List.getElem_set, fillTo, List.getElem_map, List.getElem_range]
  by_cases e : k = i
  · subst e
    rw [if_pos rfl, if_pos (by omega)]
  · rw [if_neg e]
    by_cases e2 : i < k
    · rw [if_pos e2, if_pos (by omega)]
    · rw [if_neg e2, if_neg (by omega)]
def listPg (l : List S64) (no : List Int) (v : Int) : List S89 := chTo no.length (fillTo (partsOf l).length no.length (partsOf l)) no 4 v
set_option maxRecDepth 100000 in
set_option maxHeartbeats 1000000 in
theorem pages_yes (l : List S64) (no : List Int) (v : Int) (A B : Option Addr) (c cb : Nat) (w : World) (hC : k64.C w A l.length l) (hc : l.length ≤ c) (hs : smallL l) (hf : formP 4096 l) (hB : (Kd.int .i64).C w B no.length no) (hcb : no.length ≤ cb) (hno : no.length ≤ 1000000)
    (hlen : (partsOf l).length ≤ no.length) (hn : numB no v = true) :
    Calls Tryz.prog 55 #[.slice A l.length c, .slice B no.length cb, .int .i64 v] w fun e w' => ∃ u, e = .returned (.tuple #[u, .int .i64 0]) ∧ Kd.N k89 89 w' w.heap.size (fun q => w.heap.size ≤ q) u (listPg l no v) ∧ Below w.heap.size w w' := by
  have HF := Lib.hid (freed_any l A c w hC hc hs)
  rw [decide_eq_true hf] at HF
  have HP := Lib.hid (fun (w1 : World) (hb : Below w.heap.size w w1) => listParts_any l A c w1 (Kd.C_below hC hb) hc (form_fullL hf) hs)
  have HU := Lib.hid (fun (w1 : World) (hb : Below w.heap.size w w1) => numbers_any no v B cb w1 (Kd.C_below hB hb) hcb hno)
  rw [hn] at HU
  have HBF := Aside0.mk (Kd.C_F (Kd.heap_int .i64) hB)
  unfold listPg
  obtain ⟨parts, hp⟩ : ∃ p, partsOf l = p := ⟨_, rfl⟩
  rw [hp] at hlen ⊢
  obtain ⟨m, hm⟩ : ∃ m, parts.length = m := ⟨_, rfl⟩
  have HM := Lib.hid hm
  have HPA := Lib.hid hp
  rw [hm] at hlen ⊢
  clear hC hs hf hB hm hp hn
  have hlt2 : ¬ (no.length : Int) < (m : Int) := by omega
  have hnot : ∀ (x : Bool) (w : World), (Op.unary .not (.bool x)).run Tryz.prog w = .ok (.bool (!x)) w := fun _ _ => rfl
  go_enter Tryz.func55, Tryz.ntmps55
  go_upto_region 6 with (first | (go_at_call 75; (refine HF.out.mono ?_); rintro e w2 ⟨rfl, hb2⟩) | (go_at_call 76; (refine (HP.out _ hb2).mono ?_); rintro e w3 ⟨u, rfl, hu, hb3⟩; rw [HPA.out] at hu; obtain ⟨pA, pc, rfl⟩ := Kd.N_slice hu; rw [HM.out]) | (go_at_call 100; (refine (HU.out _ (hb2.trans (hb3.mono hb2.size))).mono ?_); rintro e w4 ⟨rfl, hb4⟩))
  have hB4 : Below w.heap.size w w4 := (hb2.trans (hb3.mono hb2.size)).trans (hb4.mono (hb2.trans (hb3.mono hb2.size)).size)
  have HU4 := Aside0.mk (Kd.N_mono (Kd.N_bound (Kd.N_lower (Kd.N_below hu hb4) hb2.size)) (fun q hq => (⟨Nat.le_trans hb2.size hq.1, hq.2⟩ : w.heap.size ≤ q ∧ q < w4.heap.size)))
  have HB4 := Aside0.mk hB4
  clear hu hb2 hb3 hb4 hB4 hlt2
  have hn120 : (no.length : Int).toNat * 120 ≤ 281474976710656 := by omega
  have HN120 := Aside0.mk hn120
  clear hn120
  go_upto_region 7 with (at_make; refine Kd.N_make k89 (w0 := w) w.heap.size 89 rfl (N' := 30) rfl 22 _ _ rfl (no.length : Int) rfl rfl Tryz.underlying22 (.agg (cells89 z89 none 0).toArray) 120 info89 rfl (by decide) (by decide) z89 (ok := fun q => w.heap.size ≤ q) (okp := fun _ => False) zero89F (fun _ h => h.elim) HB4.out.size (by omega) HN120.out HB4.out HB4.out.size ?_; intro ov w5 ho hb5 hg5 hat5)
  obtain ⟨S, hS⟩ : ∃ S, w4.heap.size = S := ⟨_, rfl⟩
  obtain ⟨gb, hgb, hgs⟩ := hat5
  rw [hS] at hgs
  have hu5 := Kd.N_grown HU4.out hg5 (fun _ _ => by simp)
  rw [hS, HM.out] at hu5
  have hnn : (no.length : Int).toNat = no.length := by omega
  rw [hnn, ← fillTo_zero _ parts] at ho
  have hSw : w.heap.size ≤ S := hS ▸ HB4.out.size
  clear hnn hS hg5
  go_upto_region 8 with (fail)
  go_loopw [10, 11, 33] (fun i0 i1 i wr => ∃ k : Nat, k ≤ m ∧ i = .int .i64 k ∧ Aside0 (Kd.N k89 89 wr w.heap.size (fun q => w.heap.size ≤ q) ov (fillTo k no.length parts)) ∧ Aside0 (Kd.N (Kd.slice 64 k64) 26 wr w.heap.size (fun q => w.heap.size ≤ q ∧ q < S) (.slice pA m pc) parts) ∧ Aside0 (Below w.heap.size w wr))
    (fun _ _ i _ => m - (intOf i).toNat)
  case atStart => exact ⟨0, Nat.zero_le _, rfl, ⟨ho⟩, ⟨hu5⟩, ⟨hb5⟩⟩
  case round =>
    clear ho hu5 hb5
    obtain ⟨k, hk, rfl, HO, HV, HB⟩ := hrel
    by_cases hlt : k < m
    · have hkn : k < no.length := by omega
      have hml := HM.out
      obtain ⟨g, vc, hov, hbg, hgz, _⟩ := Kd.N_form HO.out (by rw [fillTo_length]; omega)
      rw [fillTo_length] at hov
      subst hov
      obtain rfl : g = gb := by simpa [Value.ownBlock] using hgb
      obtain ⟨g', vc', hVe, _, _, _⟩ := Kd.N_form HV.out (by omega)
      injection hVe with h1 h2 h3
      subst h1 h3
      obtain ⟨c1, hcl1, hFK1, hcc1, _⟩ := Kd.N_elem HV.out ([] : List S64) (k : Int) (by omega) (by omega)
      obtain ⟨A1, c2, rfl, hl2, hF2⟩ := Kd.FK_slice_open hFK1
      have hx := hcc1 0 _ rfl
      obtain ⟨c9, hcl, hFK, hcc, hfr⟩ := Kd.N_elem HO.out z89 (k : Int) (by omega) (by omega)
      rw [Int.toNat_natCast, fillTo_at k _ parts hkn] at hFK
      obtain ⟨A9, c9', rfl, hl9, hF9⟩ := k89_openF hFK
      have hc9 := hcc 9 _ rfl
      have hz9 := hfr 9
      have hsz1 : (Kd.slice 64 k64).sz = 1 := rfl
      simp only [Int.toNat_natCast, k89_sz, hsz1, Nat.mul_one, Nat.add_zero] at hx hc9 hz9
      rw [Int.toNat_natCast] at hl2 hF2
      obtain ⟨q, hq⟩ : ∃ q, parts.getD k [] = q := ⟨_, rfl⟩
      rw [hq] at hl2 hF2 hx
      have HQ := Lib.hid (show rd_L3 parts (k : Int) = q by rw [← hq]; rfl)
      have HL2 := Aside0.mk hl2
      have HF2 := Aside0.mk hF2
      have HCL := Aside0.mk hcl
      have HCC := Aside0.mk hcc
      clear hml h2 hcl1 hFK1 hcc1 hFK hl9 hF9 hfr hcc hcl hgb hq hl2 hF2
      go_upto_region 11 with (fail)
      obtain ⟨hN1, hG1⟩ := Kd.N_seg HO.out (k : Int) (by omega) (by omega) (c := cells89 z89 A9 c9') (seg := [.slice A1 q.length c2]) (j := 9) HCL.out HCC.out (by show 9 + 1 ≤ 10; omega) (x' := { z89 with freed := q }) (k89_mkF wr _ { z89 with freed := q } HL2.out HF2.out) (fun y hy => ⟨hy.1.1, by have := hy.1.2; omega⟩)
      rw [Int.toNat_natCast, k89_sz] at hN1 hG1
      have HO1 := Aside0.mk hN1
      have HV1 := Aside0.mk (Kd.N_grown HV.out hG1 (fun y hy => by have := hy.2; intro e; injection e with e; omega))
      have HB1 := Aside0.mk (HB.out.setCell (p := ⟨g, k * 10 + 9, none⟩) hbg (.slice A1 q.length c2))
      clear hN1 hG1 hx hc9 hz9
      go_wp2
      go_roundw
      case rel => exact ⟨k + 1, by omega, by go_num, ⟨by rw [← fillTo_step k _ parts hkn, HQ.out]; exact HO1.out⟩, ⟨HV1.out⟩, ⟨HB1.out⟩⟩
      case measure => simp [intOf]; omega
    · obtain rfl : k = m := by omega
      have HFN := Aside0.mk (Kd.F_mono (ok' := fun q => some q ≠ ov.ownBlock) (Kd.F_below HBF.out HB.out) (fun q hq => by rw [hgb]; intro e; injection e with e; omega))
      have HCH := Lib.hid (chained_any (fillTo k no.length parts) no 4 v ov B cb w.heap.size (fun q => w.heap.size ≤ q) wr HO.out HFN.out hcb (fillTo_length _ _ _) (by rw [fillTo_length]; exact hno))
      clear hgb
      go_wp2_with (go_at_call 101; (refine HCH.out.mono ?_); rintro e w9 ⟨rfl, hn9, hk9, hb9⟩)
      go_ret2
      rw [fillTo_length] at hn9
      exact ⟨_, rfl, hn9, HB.out.trans hb9⟩
end Go.Proofs.YtpnhelcemodnmaaGreat
namespace Go.Proofs.YtpnhelcemodnmaaGreat.PA
open Go.RowKit Go.Proofs.YtpnhelcemodnmaaGreatW.PrintWords Go.Proofs.YtpnhelcemodnmaaGreatW.PrintLast Go.Proofs.YtpnhelcemodnmaaGreatW.PrintMore
attribute [local go_sem] max2_int min2_int max_two min_two max_three min_three max_four min_four
set_option linter.unusedVariables false
set_option linter.unusedSimpArgs false
mutual
def understorylaw12_short.l0 : Nat → List (List (S64)) → Int → Option (Bool)
  | 0, _, _ => none
  | k + 1, x0, x3 => if x3 < (x0.length : Int) then (understorylaw12_short.l1 k x0 x3 0 0) else (some true)
def understorylaw12_short.l1 : Nat → List (List (S64)) → Int → Int → Int → Option (Bool)
  | 0, _, _, _, _ => none
  | k + 1, x0, x3, x4, x5 => if 0 ≤ x3 then (if x3 < (x0.length : Int) then (if x5 < ((rd_L3 x0 x3).length : Int) then (if x5 ≤ 200 then (if 0 ≤ x5 then (understorylaw12_short.l1 k x0 x3 (wrap64 (x4 + (((rd_T64 (rd_L3 x0 x3) x5).f1).length : Int))) (wrap64 (x5 + 1))) else (none)) else (if x4 > 900 then (some false) else (if ((rd_L3 x0 x3).length : Int) > 200 then (some false) else (understorylaw12_short.l0 k x0 (wrap64 (x3 + 1)))))) else (if x4 > 900 then (some false) else (if ((rd_L3 x0 x3).length : Int) > 200 then (some false) else (understorylaw12_short.l0 k x0 (wrap64 (x3 + 1)))))) else (none)) else (none)
end
def understorylaw12_short.f (k : Nat) (l0 : List (List (S64))) : Option (Bool) := understorylaw12_short.l0 k l0 0
theorem understorylaw12_short.mono_l : ∀ k, (∀ y0 y1, LeO (understorylaw12_short.l0 k y0 y1) (understorylaw12_short.l0 (k + 1) y0 y1)) ∧ (∀ y0 y1 y2 y3, LeO (understorylaw12_short.l1 k y0 y1 y2 y3) (understorylaw12_short.l1 (k + 1) y0 y1 y2 y3))
  | 0 => ⟨fun _ _ r h => by simp [understorylaw12_short.l0] at h, fun _ _ _ _ r h => by simp [understorylaw12_short.l1] at h⟩
  | k + 1 => by
    obtain ⟨ih0, ih1⟩ := understorylaw12_short.mono_l k
    refine ⟨?_, ?_⟩
    · intro y0 y1
      unfold understorylaw12_short.l0
      repeat' first
      | (with_reducible exact ih0 _ _)
      | (with_reducible exact ih1 _ _ _ _)
      | (with_reducible exact LeO.refl _)
      | (with_reducible exact LeO.none _)
      | (with_reducible refine LeO.ite ?_ ?_)
      | (with_reducible refine LeO.bind ?_ (fun _ => ?_))
      | exact ih0 _ _
      | exact ih1 _ _ _ _
      | exact LeO.none _
      | refine LeO.ite ?_ ?_
      | refine LeO.bind ?_ (fun _ => ?_)
    · intro y0 y1 y2 y3
      unfold understorylaw12_short.l1
      repeat' first
      | (with_reducible exact ih0 _ _)
      | (with_reducible exact ih1 _ _ _ _)
      | (with_reducible exact LeO.refl _)
      | (with_reducible exact LeO.none _)
      | (with_reducible refine LeO.ite ?_ ?_)
      | (with_reducible refine LeO.bind ?_ (fun _ => ?_))
      | exact ih0 _ _
      | exact ih1 _ _ _ _
      | exact LeO.none _
      | refine LeO.ite ?_ ?_
      | refine LeO.bind ?_ (fun _ => ?_)
theorem understorylaw12_short.mono : ∀ a0 k, LeO (understorylaw12_short.f k a0) (understorylaw12_short.f (k + 1) a0) := by
  intro a0 k
  obtain ⟨ih0, ih1⟩ := understorylaw12_short.mono_l k
  unfold understorylaw12_short.f
  repeat' first
      | (with_reducible exact ih0 _ _)
      | (with_reducible exact ih1 _ _ _ _)
      | (with_reducible exact LeO.refl _)
      | (with_reducible exact LeO.none _)
      | (with_reducible refine LeO.ite ?_ ?_)
      | (with_reducible refine LeO.bind ?_ (fun _ => ?_))
      | exact ih0 _ _
      | exact ih1 _ _ _ _
      | exact LeO.none _
      | refine LeO.ite ?_ ?_
      | refine LeO.bind ?_ (fun _ => ?_)
set_option maxHeartbeats 8000000 in
set_option maxRecDepth 100000 in
theorem understorylaw12_short.calls (k : Nat) (A0 : Option Addr) (c0 : Nat) (l0 : List (List (S64))) (r : Bool) (w : World) (hr0 : Kd.C (Kd.slice 64 k64) w A0 l0.length l0) (hc0 : l0.length ≤ c0) (h : understorylaw12_short.f k l0 = some r) :
    Calls Tryz.prog 14 #[.slice A0 l0.length c0] w fun e w' => e = .returned (.bool r) ∧ Drawn0 w w' := by
  have HR0 := Aside0.mk hr0
  have HC0 := Aside0.mk hc0
  clear hr0 hc0
  have H : (understorylaw12_short.l0 k l0 0) = some r := h
  clear h
  have H' := Aside0.mk H
  clear H
  go_enter Tryz.func14, Tryz.ntmps14
  go_wp2
  go_loopg [3] k (fun kq v3 w' => ∃ (x3_1 : Int), v3 = .int .i64 x3_1 ∧ Aside0 (understorylaw12_short.l0 kq l0 x3_1 = some r) ∧ Aside0 (kq ≤ k) ∧ Drawn0 w w')
  case atStart => exact ⟨(0), (by first | rfl | (simp; done) | (simp [*]; done)), H', ⟨Nat.le_refl _⟩, by repeat (first | exact Drawn0.refl _ | apply Drawn0.step)⟩
  case round =>
    clear H'
    try clear c1
    obtain ⟨x3_1, rfl, HA, HK1, ⟨m1, rfl⟩⟩ := hrel
    cases gk with
    | zero => exact absurd HA.out (by simp [understorylaw12_short.l0])
    | succ k1 =>
      have H := HA.out
      clear HA
      simp only [understorylaw12_short.l0] at H
      by_cases c2 : x3_1 < (l0.length : Int)
      · rw [if_pos c2] at H
        have c2b0 : decide (x3_1 < (l0.length : Int)) = true := decide_eq_true c2
        clear c2
        have H' := Aside0.mk H
        clear H
        go_wp2
        go_loopg [4, 5] k1 (fun kq v4 v5 w' => ∃ (x4_2 : Int) (x5_2 : Int), v4 = .int .i64 x4_2 ∧ v5 = .int .i64 x5_2 ∧ Aside0 (understorylaw12_short.l1 kq l0 x3_1 x4_2 x5_2 = some r) ∧ Aside0 (kq ≤ k1) ∧ Drawn0 w w')
        case atStart => exact ⟨(0), (0), (by first | rfl | (simp; done) | (simp [*]; done)), (by first | rfl | (simp; done) | (simp [*]; done)), H', ⟨Nat.le_refl _⟩, by repeat (first | exact Drawn0.refl _ | apply Drawn0.step)⟩
        case round =>
          clear H'
          try clear c1
          try clear c2
          try clear c2b0
          try clear p2
          obtain ⟨x4_2, x5_2, rfl, rfl, HA, HK2, ⟨m2, rfl⟩⟩ := hrel
          cases gk with
          | zero => exact absurd HA.out (by simp [understorylaw12_short.l1])
          | succ k2 =>
            have H := HA.out
            clear HA
            simp only [understorylaw12_short.l1] at H
            by_cases c3 : 0 ≤ x3_1
            · rw [if_pos c3] at H
              have c3b0 : decide (0 ≤ x3_1) = true := decide_eq_true c3
              clear c3
              by_cases c4 : x3_1 < (l0.length : Int)
              · rw [if_pos c4] at H
                have c4b0 : decide (x3_1 < (l0.length : Int)) = true := decide_eq_true c4
                clear c4
                by_cases c5 : x5_2 < ((rd_L3 l0 x3_1).length : Int)
                · rw [if_pos c5] at H
                  have c5b0 : decide (x5_2 < ((rd_L3 l0 x3_1).length : Int)) = true := decide_eq_true c5
                  clear c5
                  by_cases c6 : x5_2 ≤ 200
                  · rw [if_pos c6] at H
                    have c6b0 : decide (x5_2 ≤ 200) = true := decide_eq_true c6
                    clear c6
                    by_cases c7 : 0 ≤ x5_2
                    · rw [if_pos c7] at H
                      have c7b0 : decide (0 ≤ x5_2) = true := decide_eq_true c7
                      clear c7
                      have H' := Aside0.mk H
                      clear H
                      have p290 : 0 ≤ (x3_1 : Int) := of_decide_eq_true (by first | (with_reducible assumption) | assumption)
                      have q290 : x3_1 < (l0.length : Int) := of_decide_eq_true (by first | (with_reducible assumption) | assumption)
                      obtain ⟨ad290, A290_0, c290_0, e290, hx290_0, hl290_0, hi290_0⟩ := at_L3 HR0.out x3_1 p290 q290
                      cases e290
                      have HR290_0 := Aside0.mk hi290_0
                      have HC290_0 := Aside0.mk hl290_0
                      clear hi290_0 hl290_0
                      replace p290 := eq_true p290
                      replace q290 := eq_true q290
                      have p291 : 0 ≤ (x3_1 : Int) := of_decide_eq_true (by first | (with_reducible assumption) | assumption)
                      have q291 : x3_1 < (l0.length : Int) := of_decide_eq_true (by first | (with_reducible assumption) | assumption)
                      obtain ⟨ad291, A291_0, c291_0, e291, hx291_0, hl291_0, hi291_0⟩ := at_L3 HR0.out x3_1 p291 q291
                      obtain rfl : ad290 = ad291 := (by injection e291)
                      have HR291_0 := Aside0.mk hi291_0
                      have HC291_0 := Aside0.mk hl291_0
                      clear hi291_0 hl291_0
                      replace p291 := eq_true p291
                      replace q291 := eq_true q291
                      have ea_ := Option.some.inj (hx290_0.symm.trans hx291_0)
                      injection ea_ with ea_ en_ ec_
                      subst ea_
                      subst ec_
                      clear en_
                      have p292 : 0 ≤ (x5_2 : Int) := of_decide_eq_true (by first | (with_reducible assumption) | assumption)
                      have q292 : x5_2 < ((rd_L3 l0 x3_1).length : Int) := of_decide_eq_true (by first | (with_reducible assumption) | assumption)
                      obtain ⟨ad292, A292_1, c292_1, e292, hx292_0, hx292_1, hl292_1, hi292_1⟩ := at_T64 HR291_0.out x5_2 p292 q292
                      cases e292
                      have HR292_1 := Aside0.mk hi292_1
                      have HC292_1 := Aside0.mk hl292_1
                      clear hi292_1 hl292_1
                      replace p292 := eq_true p292
                      replace q292 := eq_true q292
                      go_wp2
                      go_roundg k2
                      case measure => have := HK1.out; have := HK2.out; omega
                      case rel => exact ⟨(wrap64 (x4_2 + (((rd_T64 (rd_L3 l0 x3_1) x5_2).f1).length : Int))), (wrap64 (x5_2 + 1)), (by first | rfl | (simp; done) | (simp [*]; done)), (by first | rfl | (simp; done) | (simp [*]; done)), H', ⟨by have := HK1.out; have := HK2.out; omega⟩, by repeat (first | exact Drawn0.refl _ | apply Drawn0.step)⟩
                    · rw [if_neg c7] at H
                      exact absurd H (by simp)
                  · rw [if_neg c6] at H
                    have c6b0 : decide (x5_2 ≤ 200) = false := decide_eq_false c6
                    clear c6
                    by_cases c8 : x4_2 > 900
                    · rw [if_pos c8] at H
                      have c8b0 : decide (900 < x4_2) = true := decide_eq_true c8
                      clear c8
                      obtain rfl := Option.some.inj H
                      have p290 : 0 ≤ (x3_1 : Int) := of_decide_eq_true (by first | (with_reducible assumption) | assumption)
                      have q290 : x3_1 < (l0.length : Int) := of_decide_eq_true (by first | (with_reducible assumption) | assumption)
                      obtain ⟨ad290, A290_0, c290_0, e290, hx290_0, hl290_0, hi290_0⟩ := at_L3 HR0.out x3_1 p290 q290
                      cases e290
                      have HR290_0 := Aside0.mk hi290_0
                      have HC290_0 := Aside0.mk hl290_0
                      clear hi290_0 hl290_0
                      replace p290 := eq_true p290
                      replace q290 := eq_true q290
                      go_wp2
                      go_ret
                      exact ⟨by first | rfl | (simp; done) | (simp [*]; done), by repeat (first | exact Drawn0.refl _ | apply Drawn0.step)⟩
                    · rw [if_neg c8] at H
                      have c8b0 : decide (900 < x4_2) = false := decide_eq_false c8
                      clear c8
                      by_cases c9 : ((rd_L3 l0 x3_1).length : Int) > 200
                      · rw [if_pos c9] at H
                        have c9b0 : decide (200 < ((rd_L3 l0 x3_1).length : Int)) = true := decide_eq_true c9
                        have c9b1 : decide (200 < (rd_L3 l0 x3_1).length) = true := decide_eq_true (by omega)
                        clear c9
                        obtain rfl := Option.some.inj H
                        have p290 : 0 ≤ (x3_1 : Int) := of_decide_eq_true (by first | (with_reducible assumption) | assumption)
                        have q290 : x3_1 < (l0.length : Int) := of_decide_eq_true (by first | (with_reducible assumption) | assumption)
                        obtain ⟨ad290, A290_0, c290_0, e290, hx290_0, hl290_0, hi290_0⟩ := at_L3 HR0.out x3_1 p290 q290
                        cases e290
                        have HR290_0 := Aside0.mk hi290_0
                        have HC290_0 := Aside0.mk hl290_0
                        clear hi290_0 hl290_0
                        replace p290 := eq_true p290
                        replace q290 := eq_true q290
                        have p293 : 0 ≤ (x3_1 : Int) := of_decide_eq_true (by first | (with_reducible assumption) | assumption)
                        have q293 : x3_1 < (l0.length : Int) := of_decide_eq_true (by first | (with_reducible assumption) | assumption)
                        obtain ⟨ad293, A293_0, c293_0, e293, hx293_0, hl293_0, hi293_0⟩ := at_L3 HR0.out x3_1 p293 q293
                        obtain rfl : ad290 = ad293 := (by injection e293)
                        have HR293_0 := Aside0.mk hi293_0
                        have HC293_0 := Aside0.mk hl293_0
                        clear hi293_0 hl293_0
                        replace p293 := eq_true p293
                        replace q293 := eq_true q293
                        have ea_ := Option.some.inj (hx290_0.symm.trans hx293_0)
                        injection ea_ with ea_ en_ ec_
                        subst ea_
                        subst ec_
                        clear en_
                        go_wp2
                        go_ret
                        exact ⟨by first | rfl | (simp; done) | (simp [*]; done), by repeat (first | exact Drawn0.refl _ | apply Drawn0.step)⟩
                      · rw [if_neg c9] at H
                        have c9b0 : decide (200 < ((rd_L3 l0 x3_1).length : Int)) = false := decide_eq_false c9
                        have c9b1 : decide (200 < (rd_L3 l0 x3_1).length) = false := decide_eq_false (by omega)
                        clear c9
                        have H' := Aside0.mk H
                        clear H
                        have p290 : 0 ≤ (x3_1 : Int) := of_decide_eq_true (by first | (with_reducible assumption) | assumption)
                        have q290 : x3_1 < (l0.length : Int) := of_decide_eq_true (by first | (with_reducible assumption) | assumption)
                        obtain ⟨ad290, A290_0, c290_0, e290, hx290_0, hl290_0, hi290_0⟩ := at_L3 HR0.out x3_1 p290 q290
                        cases e290
                        have HR290_0 := Aside0.mk hi290_0
                        have HC290_0 := Aside0.mk hl290_0
                        clear hi290_0 hl290_0
                        replace p290 := eq_true p290
                        replace q290 := eq_true q290
                        have p293 : 0 ≤ (x3_1 : Int) := of_decide_eq_true (by first | (with_reducible assumption) | assumption)
                        have q293 : x3_1 < (l0.length : Int) := of_decide_eq_true (by first | (with_reducible assumption) | assumption)
                        obtain ⟨ad293, A293_0, c293_0, e293, hx293_0, hl293_0, hi293_0⟩ := at_L3 HR0.out x3_1 p293 q293
                        obtain rfl : ad290 = ad293 := (by injection e293)
                        have HR293_0 := Aside0.mk hi293_0
                        have HC293_0 := Aside0.mk hl293_0
                        clear hi293_0 hl293_0
                        replace p293 := eq_true p293
                        replace q293 := eq_true q293
                        have ea_ := Option.some.inj (hx290_0.symm.trans hx293_0)
                        injection ea_ with ea_ en_ ec_
                        subst ea_
                        subst ec_
                        clear en_
                        go_wp2
                        go_roundg k2
                        case measure => have := HK1.out; have := HK2.out; omega
                        case rel => exact ⟨(wrap64 (x3_1 + 1)), (by first | rfl | (simp; done) | (simp [*]; done)), H', ⟨by have := HK1.out; have := HK2.out; omega⟩, by repeat (first | exact Drawn0.refl _ | apply Drawn0.step)⟩
                · rw [if_neg c5] at H
                  have c5b0 : decide (x5_2 < ((rd_L3 l0 x3_1).length : Int)) = false := decide_eq_false c5
                  clear c5
                  by_cases c10 : x4_2 > 900
                  · rw [if_pos c10] at H
                    have c10b0 : decide (900 < x4_2) = true := decide_eq_true c10
                    clear c10
                    obtain rfl := Option.some.inj H
                    have p290 : 0 ≤ (x3_1 : Int) := of_decide_eq_true (by first | (with_reducible assumption) | assumption)
                    have q290 : x3_1 < (l0.length : Int) := of_decide_eq_true (by first | (with_reducible assumption) | assumption)
                    obtain ⟨ad290, A290_0, c290_0, e290, hx290_0, hl290_0, hi290_0⟩ := at_L3 HR0.out x3_1 p290 q290
                    cases e290
                    have HR290_0 := Aside0.mk hi290_0
                    have HC290_0 := Aside0.mk hl290_0
                    clear hi290_0 hl290_0
                    replace p290 := eq_true p290
                    replace q290 := eq_true q290
                    go_wp2
                    go_ret
                    exact ⟨by first | rfl | (simp; done) | (simp [*]; done), by repeat (first | exact Drawn0.refl _ | apply Drawn0.step)⟩
                  · rw [if_neg c10] at H
                    have c10b0 : decide (900 < x4_2) = false := decide_eq_false c10
                    clear c10
                    by_cases c11 : ((rd_L3 l0 x3_1).length : Int) > 200
                    · rw [if_pos c11] at H
                      have c11b0 : decide (200 < ((rd_L3 l0 x3_1).length : Int)) = true := decide_eq_true c11
                      have c11b1 : decide (200 < (rd_L3 l0 x3_1).length) = true := decide_eq_true (by omega)
                      clear c11
                      obtain rfl := Option.some.inj H
                      have p290 : 0 ≤ (x3_1 : Int) := of_decide_eq_true (by first | (with_reducible assumption) | assumption)
                      have q290 : x3_1 < (l0.length : Int) := of_decide_eq_true (by first | (with_reducible assumption) | assumption)
                      obtain ⟨ad290, A290_0, c290_0, e290, hx290_0, hl290_0, hi290_0⟩ := at_L3 HR0.out x3_1 p290 q290
                      cases e290
                      have HR290_0 := Aside0.mk hi290_0
                      have HC290_0 := Aside0.mk hl290_0
                      clear hi290_0 hl290_0
                      replace p290 := eq_true p290
                      replace q290 := eq_true q290
                      have p294 : 0 ≤ (x3_1 : Int) := of_decide_eq_true (by first | (with_reducible assumption) | assumption)
                      have q294 : x3_1 < (l0.length : Int) := of_decide_eq_true (by first | (with_reducible assumption) | assumption)
                      obtain ⟨ad294, A294_0, c294_0, e294, hx294_0, hl294_0, hi294_0⟩ := at_L3 HR0.out x3_1 p294 q294
                      obtain rfl : ad290 = ad294 := (by injection e294)
                      have HR294_0 := Aside0.mk hi294_0
                      have HC294_0 := Aside0.mk hl294_0
                      clear hi294_0 hl294_0
                      replace p294 := eq_true p294
                      replace q294 := eq_true q294
                      have ea_ := Option.some.inj (hx290_0.symm.trans hx294_0)
                      injection ea_ with ea_ en_ ec_
                      subst ea_
                      subst ec_
                      clear en_
                      go_wp2
                      go_ret
                      exact ⟨by first | rfl | (simp; done) | (simp [*]; done), by repeat (first | exact Drawn0.refl _ | apply Drawn0.step)⟩
                    · rw [if_neg c11] at H
                      have c11b0 : decide (200 < ((rd_L3 l0 x3_1).length : Int)) = false := decide_eq_false c11
                      have c11b1 : decide (200 < (rd_L3 l0 x3_1).length) = false := decide_eq_false (by omega)
                      clear c11
                      have H' := Aside0.mk H
                      clear H
                      have p290 : 0 ≤ (x3_1 : Int) := of_decide_eq_true (by first | (with_reducible assumption) | assumption)
                      have q290 : x3_1 < (l0.length : Int) := of_decide_eq_true (by first | (with_reducible assumption) | assumption)
                      obtain ⟨ad290, A290_0, c290_0, e290, hx290_0, hl290_0, hi290_0⟩ := at_L3 HR0.out x3_1 p290 q290
                      cases e290
                      have HR290_0 := Aside0.mk hi290_0
                      have HC290_0 := Aside0.mk hl290_0
                      clear hi290_0 hl290_0
                      replace p290 := eq_true p290
                      replace q290 := eq_true q290
                      have p294 : 0 ≤ (x3_1 : Int) := of_decide_eq_true (by first | (with_reducible assumption) | assumption)
                      have q294 : x3_1 < (l0.length : Int) := of_decide_eq_true (by first | (with_reducible assumption) | assumption)
                      obtain ⟨ad294, A294_0, c294_0, e294, hx294_0, hl294_0, hi294_0⟩ := at_L3 HR0.out x3_1 p294 q294
                      obtain rfl : ad290 = ad294 := (by injection e294)
                      have HR294_0 := Aside0.mk hi294_0
                      have HC294_0 := Aside0.mk hl294_0
                      clear hi294_0 hl294_0
                      replace p294 := eq_true p294
                      replace q294 := eq_true q294
                      have ea_ := Option.some.inj (hx290_0.symm.trans hx294_0)
                      injection ea_ with ea_ en_ ec_
                      subst ea_
                      subst ec_
                      clear en_
                      go_wp2
                      go_roundg k2
                      case measure => have := HK1.out; have := HK2.out; omega
                      case rel => exact ⟨(wrap64 (x3_1 + 1)), (by first | rfl | (simp; done) | (simp [*]; done)), H', ⟨by have := HK1.out; have := HK2.out; omega⟩, by repeat (first | exact Drawn0.refl _ | apply Drawn0.step)⟩
              · rw [if_neg c4] at H
                exact absurd H (by simp)
            · rw [if_neg c3] at H
              exact absurd H (by simp)
      · rw [if_neg c2] at H
        have c2b0 : decide (x3_1 < (l0.length : Int)) = false := decide_eq_false c2
        clear c2
        obtain rfl := Option.some.inj H
        go_wp2
        go_ret
        exact ⟨by first | rfl | (simp; done) | (simp [*]; done), by repeat (first | exact Drawn0.refl _ | apply Drawn0.step)⟩
def understoryref12_in.l0 : Nat → List Int → Int → Int → Option (Bool)
  | 0, _, _, _ => none
  | k + 1, x0, x1, x5 => if x5 < (x0.length : Int) then (if 0 ≤ x5 then (if (rd x0 x5) = x1 then (some true) else (understoryref12_in.l0 k x0 x1 (wrap64 (x5 + 1)))) else (none)) else (some false)
def understoryref12_in.f (k : Nat) (l0 : List Int) (a1 : Int) : Option (Bool) := understoryref12_in.l0 k l0 a1 0
theorem understoryref12_in.mono_l : ∀ k, (∀ y0 y1 y2, LeO (understoryref12_in.l0 k y0 y1 y2) (understoryref12_in.l0 (k + 1) y0 y1 y2))
  | 0 => fun _ _ _ r h => by simp [understoryref12_in.l0] at h
  | k + 1 => by
    have ih0 := understoryref12_in.mono_l k
    · intro y0 y1 y2
      unfold understoryref12_in.l0
      repeat' first
      | (with_reducible exact ih0 _ _ _)
      | (with_reducible exact LeO.refl _)
      | (with_reducible exact LeO.none _)
      | (with_reducible refine LeO.ite ?_ ?_)
      | (with_reducible refine LeO.bind ?_ (fun _ => ?_))
      | exact ih0 _ _ _
      | exact LeO.none _
      | refine LeO.ite ?_ ?_
      | refine LeO.bind ?_ (fun _ => ?_)
theorem understoryref12_in.mono : ∀ a0 a1 k, LeO (understoryref12_in.f k a0 a1) (understoryref12_in.f (k + 1) a0 a1) := by
  intro a0 a1 k
  have ih0 := understoryref12_in.mono_l k
  unfold understoryref12_in.f
  repeat' first
      | (with_reducible exact ih0 _ _ _)
      | (with_reducible exact LeO.refl _)
      | (with_reducible exact LeO.none _)
      | (with_reducible refine LeO.ite ?_ ?_)
      | (with_reducible refine LeO.bind ?_ (fun _ => ?_))
      | exact ih0 _ _ _
      | exact LeO.none _
      | refine LeO.ite ?_ ?_
      | refine LeO.bind ?_ (fun _ => ?_)
mutual
def understoryref12_Tail.j0 : Nat → List (S64) → Int → Bool → Option (Int)
  | 0, _, _, _ => none
  | k + 1, x0, x1, x14 => if x14 = true then (some x1) else (understoryref12_Tail.l0 k x0 x1)
def understoryref12_Tail.l0 : Nat → List (S64) → Int → Option (Int)
  | 0, _, _ => none
  | k + 1, x0, x1 => if x1 > 2 then (if 0 < (x0.length : Int) then ((understoryref12_in.f k ((rd_T64 x0 0).f1) (wrap64 (x1 - 1))).bind fun t298 => (if t298 = true then (understoryref12_Tail.l0 k x0 (wrap64 (x1 - 1))) else (some x1))) else (none)) else (some x1)
end
def understoryref12_Tail.f (k : Nat) (l0 : List (S64)) (a1 : Int) : Option (Int) := if (l0.length : Int) = 0 then (understoryref12_Tail.j0 k l0 a1 true) else (if 0 < (l0.length : Int) then (understoryref12_Tail.j0 k l0 a1 (((rd_T64 l0 0).f0) != 0)) else (none))
theorem understoryref12_Tail.mono_l : ∀ k, (∀ y0 y1 y2, LeO (understoryref12_Tail.j0 k y0 y1 y2) (understoryref12_Tail.j0 (k + 1) y0 y1 y2)) ∧ (∀ y0 y1, LeO (understoryref12_Tail.l0 k y0 y1) (understoryref12_Tail.l0 (k + 1) y0 y1))
  | 0 => ⟨fun _ _ _ r h => by simp [understoryref12_Tail.j0] at h, fun _ _ r h => by simp [understoryref12_Tail.l0] at h⟩
  | k + 1 => by
    obtain ⟨ih0, ih1⟩ := understoryref12_Tail.mono_l k
    refine ⟨?_, ?_⟩
    · intro y0 y1 y2
      unfold understoryref12_Tail.j0
      repeat' first
      | (with_reducible exact ih0 _ _ _)
      | (with_reducible exact ih1 _ _)
      | (with_reducible exact understoryref12_in.mono _ _ _)
      | (with_reducible exact LeO.refl _)
      | (with_reducible exact LeO.none _)
      | (with_reducible refine LeO.ite ?_ ?_)
      | (with_reducible refine LeO.bind ?_ (fun _ => ?_))
      | exact ih0 _ _ _
      | exact ih1 _ _
      | exact understoryref12_in.mono _ _ _
      | exact LeO.none _
      | refine LeO.ite ?_ ?_
      | refine LeO.bind ?_ (fun _ => ?_)
    · intro y0 y1
      unfold understoryref12_Tail.l0
      repeat' first
      | (with_reducible exact ih0 _ _ _)
      | (with_reducible exact ih1 _ _)
      | (with_reducible exact understoryref12_in.mono _ _ _)
      | (with_reducible exact LeO.refl _)
      | (with_reducible exact LeO.none _)
      | (with_reducible refine LeO.ite ?_ ?_)
      | (with_reducible refine LeO.bind ?_ (fun _ => ?_))
      | exact ih0 _ _ _
      | exact ih1 _ _
      | exact understoryref12_in.mono _ _ _
      | exact LeO.none _
      | refine LeO.ite ?_ ?_
      | refine LeO.bind ?_ (fun _ => ?_)
theorem understoryref12_Tail.mono : ∀ a0 a1 k, LeO (understoryref12_Tail.f k a0 a1) (understoryref12_Tail.f (k + 1) a0 a1) := by
  intro a0 a1 k
  obtain ⟨ih0, ih1⟩ := understoryref12_Tail.mono_l k
  unfold understoryref12_Tail.f
  repeat' first
      | (with_reducible exact ih0 _ _ _)
      | (with_reducible exact ih1 _ _)
      | (with_reducible exact understoryref12_in.mono _ _ _)
      | (with_reducible exact LeO.refl _)
      | (with_reducible exact LeO.none _)
      | (with_reducible refine LeO.ite ?_ ?_)
      | (with_reducible refine LeO.bind ?_ (fun _ => ?_))
      | exact ih0 _ _ _
      | exact ih1 _ _
      | exact understoryref12_in.mono _ _ _
      | exact LeO.none _
      | refine LeO.ite ?_ ?_
      | refine LeO.bind ?_ (fun _ => ?_)
def understoryref12_size.f (a0 : Int) : Option (Bool) := if a0 ≥ 2 then (some (decide (a0 ≤ 4096))) else (some false)
end Go.Proofs.YtpnhelcemodnmaaGreat.PA
namespace Go.Proofs.YtpnhelcemodnmaaGreat
open Go.RowKit Go.Shelf Go.Proofs.YtpnhelcemodnmaaGreatW.PrintWords Go.Proofs.YtpnhelcemodnmaaGreatW.PrintLast Go.Proofs.YtpnhelcemodnmaaGreatW.PrintMore PA
set_option linter.unusedVariables false
set_option linter.unusedSimpArgs false
attribute [local go_sem] Oper.semAt_some
def Met (w : World) (g p : Nat) (S : List Int) : Prop := ∃ cs, w.heap[g]? = some (.cells cs 4 (0, 0)) ∧ ∀ j, j < p → cs[j]? = some (.bool (setOf S j))
theorem Met.cell {w : World} {g p : Nat} {S : List Int} (h : Met w g p S) (n : Nat) (hn : n < p) : w.cell? ⟨g, n, none⟩ = some (.bool (setOf S n)) := by
  obtain ⟨cs, h1, h3⟩ := h
  exact (blk_cell h1 n).trans (h3 n hn)
theorem Met.free {w : World} {g p : Nat} {S : List Int} (h : Met w g p S) (n : Nat) : w.frozen? ⟨g, n, none⟩ = false := by
  obtain ⟨cs, h1, h3⟩ := h
  exact blk_frozen h1 n
theorem Met.lt {w : World} {g p : Nat} {S : List Int} (h : Met w g p S) : g < w.heap.size := by
  obtain ⟨cs, h1, h3⟩ := h
  exact blk_lt h1
theorem Met.kept {w w1 : World} {g p : Nat} {S : List Int} (h : Met w g p S) (e : w1.heap[g]? = w.heap[g]?) : Met w1 g p S := by
  obtain ⟨cs, h1, h2⟩ := h
  exact ⟨cs, e.trans h1, h2⟩
theorem Met.add {w : World} {g p : Nat} {S : List Int} (h : Met w g p S) (n : Nat) (hn : n < p) : Met (w.setCell ⟨g, n, none⟩ (.bool true)) g p (S ++ [(n : Int)]) := by
  obtain ⟨cs, h1, h3⟩ := h
  refine ⟨cs.setIfInBounds n (.bool true), blk_set h1 n _, fun j hj => ?_⟩
  have hs : n < cs.size := (Array.getElem?_eq_some_iff.1 (h3 n hn)).1
  rw [setOf_snoc]
  unfold addB
  by_cases e : j = n
  · subst e; rw [if_pos rfl]; simp [hs]
  · rw [if_neg e, Array.getElem?_setIfInBounds_ne (Ne.symm e)]; exact h3 j hj
end Go.Proofs.YtpnhelcemodnmaaGreat

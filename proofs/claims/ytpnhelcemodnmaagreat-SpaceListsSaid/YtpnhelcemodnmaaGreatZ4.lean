/- Texts put together for one claim: part 4. -/
import Derived.Deep.LoopGhost
import Derived.Defers
import Derived.Recover
import Derived.WalkLawsBesides
import Derived.Test.YtpnhelcemodnmaaGreatZ3
/- Two lists of freed pages are merged. -/
namespace Go.Proofs.YtpnhelcemodnmaaGreat
open Go.RowKit Go.Shelf Go.Proofs.YtpnhelcemodnmaaGreatW.PrintWords Go.Proofs.YtpnhelcemodnmaaGreatW.PrintLast Go.Proofs.YtpnhelcemodnmaaGreatW.PrintMore PA
set_option linter.unusedVariables false
set_option linter.unusedSimpArgs false
attribute [local go_sem] Oper.semAt_some
/-- Two sorted lists, merged; elements of one version are put together. -/
def mergeL : List S64 → List S64 → List S64
  | [], b => b
  | x :: a, [] => x :: a
  | x :: a, y :: b => if x.f0 < y.f0 then x :: mergeL a (y :: b) else if y.f0 < x.f0 then y :: mergeL (x :: a) b else ⟨x.f0, sortI (x.f1 ++ y.f1)⟩ :: mergeL a b
termination_by a b => a.length + b.length
theorem merge_nil (b : List S64) : mergeL [] b = b := by rw [mergeL]
theorem merge_nil2 (a : List S64) : mergeL a [] = a := by cases a <;> rw [mergeL]
theorem merge_lt {x y : S64} (a b : List S64) (h : x.f0 < y.f0) : mergeL (x :: a) (y :: b) = x :: mergeL a (y :: b) := by rw [mergeL, if_pos h]
theorem merge_gt {x y : S64} (a b : List S64) (h : y.f0 < x.f0) : mergeL (x :: a) (y :: b) = y :: mergeL (x :: a) b := by rw [mergeL, if_neg (by omega), if_pos h]
theorem merge_eq {x y : S64} (a b : List S64) (h : x.f0 = y.f0) : mergeL (x :: a) (y :: b) = ⟨x.f0, sortI (x.f1 ++ y.f1)⟩ :: mergeL a b := by rw [mergeL, if_neg (by omega), if_neg (by omega)]
theorem merge_length (a b : List S64) : (mergeL a b).length ≤ a.length + b.length := by
  induction a generalizing b with
  | nil => rw [merge_nil]; simp
  | cons x a ih =>
    induction b with
    | nil => rw [merge_nil2]; simp
    | cons y b ihb =>
      rcases Int.lt_trichotomy x.f0 y.f0 with h | h | h
      · rw [merge_lt a b h]; have := ih (y :: b); simp at this ⊢; omega
      · rw [merge_eq a b h]; have := ih b; simp at this ⊢; omega
      · rw [merge_gt a b h]; simp at ihb ⊢; omega
/-- The length of a slice. -/
def lenV : Value → Nat
  | .slice _ n _ => n
  | _ => 0
/-- What lies at the head of merged's rounds. -/
def MI (la lb : List S64) (w wr : World) (va vb vo : Value) : Prop :=
  ∃ (A : Option Addr) (ca : Nat) (B : Option Addr) (cb : Nat) (l m done : List S64), va = .slice A l.length ca ∧ l.length ≤ ca ∧ k64.C w A l.length l ∧ vb = .slice B m.length cb ∧ m.length ≤ cb ∧ k64.C w B m.length m ∧
    Kd.N k64 64 wr w.heap.size (fun _ => True) vo done ∧ Below w.heap.size w wr ∧ mergeL la lb = done ++ mergeL l m ∧ done.length + l.length + m.length ≤ la.length + lb.length ∧ l.length ≤ la.length ∧ m.length ≤ lb.length ∧
    (pagesOf l).length ≤ (pagesOf la).length ∧ (pagesOf m).length ≤ (pagesOf lb).length
theorem size64 : (Tryz.prog.info? 64).map (·.size) = some 2 := by kernel_rfl
theorem cell_grown {W W1 : World} {row : Option Nat} (hg : W.grownBy W1 row) {a : Addr} {v : Value} (h : W.cell? a = some v) (hne : some a.block ≠ row) : W1.cell? a = some v := by
  have := hg.block a.block (World.block_lt_of_cell? W a h) hne
  simpa [World.cell?, this] using h
/-- The first element of a list, in memory. -/
theorem head_cells {w : World} {A : Option Addr} {x : S64} {l : List S64} (h : k64.C w A (x :: l).length (x :: l)) : ∃ b o A1 c1, A = some ⟨b, o, none⟩ ∧ w.cell? ⟨b, o, none⟩ = some (.int .i64 x.f0) ∧ w.cell? ⟨b, o + 1, none⟩ = some (.slice A1 x.f1.length c1) ∧ x.f1.length ≤ c1 ∧
    Kd.FK k64 w (fun k => k < w.heap.size) x [.int .i64 x.f0, .slice A1 x.f1.length c1] ∧ (Kd.int .i64).C w A1 x.f1.length x.f1 ∧ b < w.heap.size := by
  obtain ⟨⟨b, o, t⟩, A1, c1, rfl, h0, h1, h2, h3⟩ := at_T64 h 0 (by simp) (by simp)
  have e : rd_T64 (x :: l) 0 = x := rfl
  rw [e] at h0 h1 h2 h3
  rw [show (Addr.add ⟨b, o, t⟩ ((0 : Int).toNat * 2)) = ⟨b, o, t⟩ from rfl] at h0 h1
  have ht : t = none := by
    cases t with
    | none => rfl
    | some q =>
      have : w.cell? ⟨b, o, some q⟩ = none := by unfold World.cell?; split <;> simp
      rw [this] at h0
      cases h0
  subst ht
  exact ⟨b, o, A1, c1, rfl, h0, h1, h2, k64_mkF _ _ x h2 (Kd.C_F (Kd.heap_int .i64) h3), h3, World.block_lt_of_cell? w _ h0⟩
set_option maxRecDepth 100000 in
set_option maxHeartbeats 4000000 in
theorem merged_any (la lb : List S64) (A : Option Addr) (ca : Nat) (B : Option Addr) (cb : Nat) (w : World) (hA : k64.C w A la.length la) (hca : la.length ≤ ca) (hB : k64.C w B lb.length lb) (hcb : lb.length ≤ cb) (ha : smallL la) (hb : smallL lb) :
    Calls Tryz.prog 102 #[.slice A la.length ca, .slice B lb.length cb, .func (.func 103) #[] #[], .func (.func 105) #[] #[]] w fun e w' => ∃ v, e = .returned v ∧ Kd.N k64 64 w' w.heap.size (fun _ => True) v (mergeL la lb) ∧ Below w.heap.size w w' := by
  go_enter Tryz.func102, Tryz.ntmps102
  go_wp2
  go_loopw [0, 1, 9] (fun va vb vo wr => MI la lb w wr va vb vo) (fun va vb _ _ => lenV va + lenV vb)
  case atStart => exact ⟨A, ca, B, cb, la, lb, [], rfl, hca, hA, rfl, hcb, hB, Kd.N_nil _ _ _ _ _, Below.refl _ _, rfl, by simp, Nat.le_refl _, Nat.le_refl _, Nat.le_refl _, Nat.le_refl _⟩
  case round =>
    obtain ⟨A, ca, B, cb, l, m, done, rfl, hca, hA, rfl, hcb, hB, hN, hW, hM, hL, hl, hm, hpl, hpm⟩ := hrel
    obtain ⟨O, co, rfl⟩ := Kd.N_slice hN
    have HN := Aside0.mk hN
    have HW := Aside0.mk hW
    have HM := Lib.hid hM
    clear hN hW hM
    have hsl := ha.1
    have hsm := hb.1
    cases l with
    | nil =>
      go_wp2_with fail
      have hk := blk_new wr (.cells #[.slice O done.length co, .slice A (([] : List S64)).length ca, .slice B (m).length cb] 26)
      have hbw := below_alloc1 wr (.cells #[.slice O done.length co, .slice A (([] : List S64)).length ca, .slice B (m).length cb] 26)
      have hrow : (Kd.slice 64 k64).C (wr.alloc (.cells #[.slice O done.length co, .slice A (([] : List S64)).length ca, .slice B (m).length cb] 26)) (some ⟨wr.heap.size, 0, none⟩) [done, ([] : List S64), m].length [done, ([] : List S64), m] := by
        refine block_row hk ⟨rfl, fun j q hj => ?_⟩ (by simp)
        obtain ⟨_, hco, hCO⟩ := Kd.N_reads' HN.out
        match j with
        | 0 => obtain rfl : done = q := by simpa using hj
               exact ⟨O, co, rfl, hco, Kd.C_below hCO hbw⟩
        | 1 => obtain rfl : (([] : List S64)) = q := by simpa using hj
               exact ⟨A, ca, rfl, hca, Kd.C_below hA (HW.out.trans (hbw.mono HW.out.size))⟩
        | 2 => obtain rfl : (m) = q := by simpa using hj
               exact ⟨B, cb, rfl, hcb, Kd.C_below hB (HW.out.trans (hbw.mono HW.out.size))⟩
        | j + 3 => simp at hj
      have hfl : [done, ([] : List S64), m].flatten = done ++ ((([] : List S64)) ++ (m)) := by simp
      refine (concatFreed [done, ([] : List S64), m] _ 3 _ hrow (by simp) (by rw [hfl]; simp only [List.length_append]; simp at hL ⊢; omega)).mono ?_
      rintro e w2 ⟨v, rfl, hv, hb2⟩
      rw [hfl] at hv
      go_wp2
      go_ret
      refine ⟨_, rfl, ?_, HW.out.trans ((hbw.trans (hb2.mono (by simp))).mono HW.out.size)⟩
      have := Kd.N_lower hv (show w.heap.size ≤ _ by have := HW.out.size; simp; omega)
      rw [HM.out, merge_nil]
      exact this

    | cons x l =>
      cases m with
      | nil =>
        go_wp2_with fail
        have hk := blk_new wr (.cells #[.slice O done.length co, .slice A (x :: l).length ca, .slice B (([] : List S64)).length cb] 26)
        have hbw := below_alloc1 wr (.cells #[.slice O done.length co, .slice A (x :: l).length ca, .slice B (([] : List S64)).length cb] 26)
        have hrow : (Kd.slice 64 k64).C (wr.alloc (.cells #[.slice O done.length co, .slice A (x :: l).length ca, .slice B (([] : List S64)).length cb] 26)) (some ⟨wr.heap.size, 0, none⟩) [done, x :: l, ([] : List S64)].length [done, x :: l, ([] : List S64)] := by
          refine block_row hk ⟨rfl, fun j q hj => ?_⟩ (by simp)
          obtain ⟨_, hco, hCO⟩ := Kd.N_reads' HN.out
          match j with
          | 0 => obtain rfl : done = q := by simpa using hj
                 exact ⟨O, co, rfl, hco, Kd.C_below hCO hbw⟩
          | 1 => obtain rfl : (x :: l) = q := by simpa using hj
                 exact ⟨A, ca, rfl, hca, Kd.C_below hA (HW.out.trans (hbw.mono HW.out.size))⟩
          | 2 => obtain rfl : (([] : List S64)) = q := by simpa using hj
                 exact ⟨B, cb, rfl, hcb, Kd.C_below hB (HW.out.trans (hbw.mono HW.out.size))⟩
          | j + 3 => simp at hj
        have hfl : [done, x :: l, ([] : List S64)].flatten = done ++ ((x :: l) ++ (([] : List S64))) := by simp
        refine (concatFreed [done, x :: l, ([] : List S64)] _ 3 _ hrow (by simp) (by rw [hfl]; simp only [List.length_append]; simp at hL ⊢; omega)).mono ?_
        rintro e w2 ⟨v, rfl, hv, hb2⟩
        rw [hfl] at hv
        go_wp2
        go_ret
        refine ⟨_, rfl, ?_, HW.out.trans ((hbw.trans (hb2.mono (by simp))).mono HW.out.size)⟩
        have := Kd.N_lower hv (show w.heap.size ≤ _ by have := HW.out.size; simp; omega)
        rw [HM.out, merge_nil2]
        rw [List.append_nil] at this
        exact this

      | cons y m =>
        obtain ⟨ba, oa, A1, c1, rfl, hx0, hx1, hl1, hFx, hCx, hba⟩ := head_cells hA
        obtain ⟨bb, ob, B1, d1, rfl, hy0, hy1, hd1, hFy, hCy, hbb⟩ := head_cells hB
        replace hx0 := cellB HW.out (Nat.le_refl _) hx0
        replace hx1 := cellB HW.out (Nat.le_refl _) hx1
        replace hy0 := cellB HW.out (Nat.le_refl _) hy0
        replace hy1 := cellB HW.out (Nat.le_refl _) hy1
        obtain ⟨A2, hA2⟩ : ∃ A2, (if ca = 1 then some ⟨ba, oa, none⟩ else (some (⟨ba, oa, none⟩ : Addr)).map (·.add (1 * 2))) = A2 := ⟨_, rfl⟩
        obtain ⟨B2, hB2⟩ : ∃ B2, (if cb = 1 then some ⟨bb, ob, none⟩ else (some (⟨bb, ob, none⟩ : Addr)).map (·.add (1 * 2))) = B2 := ⟨_, rfl⟩
        have hA' : k64.C w A2 l.length l := by rw [← hA2]; exact Kd.C_drop (m := 1) hA (by simp) hca
        have hB' : k64.C w B2 m.length m := by rw [← hB2]; exact Kd.C_drop (m := 1) hB (by simp) hcb
        have HA2 := Lib.hid hA2
        have HB2 := Lib.hid hB2
        clear hA2 hB2
        have hnb : ∀ k, k < w.heap.size → True ∧ some k ≠ (Value.slice O done.length co).ownBlock := fun k hk => ⟨trivial, fun e => by have := Kd.N_base HN.out k e.symm; omega⟩
        have HNE := Aside0.mk hnb
        have HNa := Aside0.mk (hnb ba hba).2
        have HNb := Aside0.mk (hnb bb hbb).2
        have hbd : (done.length + 1) * 32 ≤ 140737488355328 := by simp at hL; omega
        have HBD := Aside0.mk hbd
        have HFx := Aside0.mk hFx
        have HFy := Aside0.mk hFy
        have HCX := Aside0.mk hCx
        have HCY := Aside0.mk hCy
        have HL := Aside0.mk hL
        have HPL := Aside0.mk hpl
        have HPM := Aside0.mk hpm
        clear hnb hbd hFx hFy hCx hCy hL hpl hpm
        by_cases hlt : x.f0 < y.f0
        · have HCMP := Lib.hid (show Lib.compareInt x.f0 y.f0 = -1 by unfold Lib.compareInt; rw [if_pos hlt])
          go_upto_region 3 with (fail)
          refine wp_region_held_drew (S := fun W => W.cell? ⟨ba, oa, none⟩ = some (.int .i64 x.f0) ∧ W.cell? ⟨ba, oa + 1, none⟩ = some (.slice A1 x.f1.length c1) ∧ W.cell? ⟨bb, ob, none⟩ = some (.int .i64 y.f0) ∧ W.cell? ⟨bb, ob + 1, none⟩ = some (.slice B1 y.f1.length d1)) (by kernel_rfl) (⟨hx0, hx1, hy0, hy1⟩) (fun hS => ?_)
          simp only [List.size_toArray, List.length_cons, List.length_nil, Nat.reduceAdd, Array.replicate_succ, Array.replicate_zero, List.push_toArray, List.nil_append, List.cons_append]
          refine take_at (i := 0) 19 (.func (.func 103) #[] #[]) rfl rfl (by kernel_rfl) (by kernel_rfl) (by kernel_rfl) (fun _ _ _ h => h) (Or.inl ⟨by rfl, fun W hW => by go_simp⟩) hS ?_
          try simp only [List.setIfInBounds_toArray, List.set_cons_zero, List.set_cons_succ]
          refine take_at (i := 1) 20 (.slice (some ⟨ba, oa, none⟩) (x :: l).length ca) rfl rfl (by kernel_rfl) (by kernel_rfl) (by kernel_rfl) (fun _ _ _ h => h) (Or.inl ⟨by rfl, fun W hW => by go_simp⟩) hS ?_
          try simp only [List.setIfInBounds_toArray, List.set_cons_zero, List.set_cons_succ]
          refine take_at (i := 2) 21 (.pointer (some ⟨ba, oa, none⟩)) rfl rfl (by kernel_rfl) (by kernel_rfl) (by kernel_rfl) (fun _ _ _ h => h) (Or.inl ⟨by rfl, fun W hW => by go_simp⟩) hS ?_
          try simp only [List.setIfInBounds_toArray, List.set_cons_zero, List.set_cons_succ]
          refine take_at (i := 3) 22 (.agg #[.int .i64 x.f0, .slice A1 x.f1.length c1]) rfl rfl (by kernel_rfl) (by kernel_rfl) (by kernel_rfl) (fun _ _ _ h => h) (Or.inl ⟨by rfl, fun W hW => by obtain ⟨h1, h2, h3, h4⟩ := hW; go_simp⟩) hS ?_
          try simp only [List.setIfInBounds_toArray, List.set_cons_zero, List.set_cons_succ]
          refine take_at (i := 4) 23 (.slice (some ⟨bb, ob, none⟩) (y :: m).length cb) rfl rfl (by kernel_rfl) (by kernel_rfl) (by kernel_rfl) (fun _ _ _ h => h) (Or.inl ⟨by rfl, fun W hW => by go_simp⟩) hS ?_
          try simp only [List.setIfInBounds_toArray, List.set_cons_zero, List.set_cons_succ]
          refine take_at (i := 5) 24 (.pointer (some ⟨bb, ob, none⟩)) rfl rfl (by kernel_rfl) (by kernel_rfl) (by kernel_rfl) (fun _ _ _ h => h) (Or.inl ⟨by rfl, fun W hW => by go_simp⟩) hS ?_
          try simp only [List.setIfInBounds_toArray, List.set_cons_zero, List.set_cons_succ]
          refine take_at (i := 6) 25 (.agg #[.int .i64 y.f0, .slice B1 y.f1.length d1]) rfl rfl (by kernel_rfl) (by kernel_rfl) (by kernel_rfl) (fun _ _ _ h => h) (Or.inl ⟨by rfl, fun W hW => by obtain ⟨h1, h2, h3, h4⟩ := hW; go_simp⟩) hS ?_
          try simp only [List.setIfInBounds_toArray, List.set_cons_zero, List.set_cons_succ]
          refine wpAnyH_ready (rs := [7]) (by kernel_rfl) (by simp) ?_
          refine AllReadyH.cons rfl (fun K hK => ?_) AllReadyH.nil
          go_simp
          refine (cmp_any x.f0 y.f0 A1 B1 x.f1.length c1 y.f1.length d1 _).mono ?_
          rintro e w1 ⟨rfl, hcb1⟩
          rw [HCMP.out]
          refine hK.out _ _ (⟨cellB hcb1 (Nat.le_refl _) hS.1, cellB hcb1 (Nat.le_refl _) hS.2.1, cellB hcb1 (Nat.le_refl _) hS.2.2.1, cellB hcb1 (Nat.le_refl _) hS.2.2.2⟩) (fun hS => ?_)
          clear hK K
          try simp only [Act.put, List.getElem_toArray, List.getElem_cons_succ, List.getElem_cons_zero, List.setIfInBounds_toArray, List.set_cons_zero, List.set_cons_succ]
          refine take_at (i := 8) 10 (.int .i64 (-1)) rfl rfl (by kernel_rfl) (by kernel_rfl) (by kernel_rfl) (fun _ _ _ h => h) (Or.inl ⟨by rfl, fun W hW => by go_simp⟩) hS ?_
          try simp only [List.setIfInBounds_toArray, List.set_cons_zero, List.set_cons_succ]
          refine wpAnyH_done (by kernel_rfl) ?_ _
          have HN1 := Aside0.mk (Kd.N_below (Kd.N_drew HN.out) hcb1)
          have HW1 := Aside0.mk (HW.out.drew.trans (hcb1.mono HW.out.size))
          have HCx := Aside0.mk (Kd.FK_below HFx.out HW1.out)
          have HCy := Aside0.mk (Kd.FK_below HFy.out HW1.out)
          have hS0 := hS
          clear hS hx0 hx1 hy0 hy1 hcb1
          go_upto_region 6 with (fail)
          refine wp_region_held_drew (S := fun W => W.cell? ⟨ba, oa, none⟩ = some (.int .i64 x.f0) ∧ W.cell? ⟨ba, oa + 1, none⟩ = some (.slice A1 x.f1.length c1) ∧ W.cell? ⟨bb, ob, none⟩ = some (.int .i64 y.f0) ∧ W.cell? ⟨bb, ob + 1, none⟩ = some (.slice B1 y.f1.length d1)) (by kernel_rfl) (hS0) (fun hS => ?_)
          simp only [List.size_toArray, List.length_cons, List.length_nil, Nat.reduceAdd, Array.replicate_succ, Array.replicate_zero, List.push_toArray, List.nil_append, List.cons_append]
          refine take_at (i := 0) 45 (.slice O done.length co) rfl rfl (by kernel_rfl) (by kernel_rfl) (by kernel_rfl) (fun _ _ _ h => h) (Or.inl ⟨by rfl, fun W hW => by go_simp⟩) hS ?_
          try simp only [List.setIfInBounds_toArray, List.set_cons_zero, List.set_cons_succ]
          refine take_at (i := 1) 46 (.slice (some ⟨ba, oa, none⟩) (x :: l).length ca) rfl rfl (by kernel_rfl) (by kernel_rfl) (by kernel_rfl) (fun _ _ _ h => h) (Or.inl ⟨by rfl, fun W hW => by go_simp⟩) hS ?_
          try simp only [List.setIfInBounds_toArray, List.set_cons_zero, List.set_cons_succ]
          refine take_at (i := 2) 47 (.pointer (some ⟨ba, oa, none⟩)) rfl rfl (by kernel_rfl) (by kernel_rfl) (by kernel_rfl) (fun _ _ _ h => h) (Or.inl ⟨by rfl, fun W hW => by go_simp⟩) hS ?_
          try simp only [List.setIfInBounds_toArray, List.set_cons_zero, List.set_cons_succ]
          refine take_at (i := 3) 48 (.agg #[.int .i64 x.f0, .slice A1 x.f1.length c1]) rfl rfl (by kernel_rfl) (by kernel_rfl) (by kernel_rfl) (fun _ _ _ h => h) (Or.inl ⟨by rfl, fun W hW => by obtain ⟨h1, h2, h3, h4⟩ := hW; go_simp⟩) hS ?_
          try simp only [List.setIfInBounds_toArray, List.set_cons_zero, List.set_cons_succ]
          refine take_at (i := 6) 51 (.slice (some ⟨ba, oa, none⟩) (x :: l).length ca) rfl rfl (by kernel_rfl) (by kernel_rfl) (by kernel_rfl) (fun _ _ _ h => h) (Or.inl ⟨by rfl, fun W hW => by go_simp⟩) hS ?_
          try simp only [List.setIfInBounds_toArray, List.set_cons_zero, List.set_cons_succ]
          refine take_at (i := 7) 52 (.slice A2 l.length (ca - 1)) rfl rfl (by kernel_rfl) (by kernel_rfl) (by kernel_rfl) (fun _ _ _ h => h) (Or.inl ⟨by rfl, fun W hW => (exec_sliceFrom _ 26 64 2 (.tmp 51) _ rfl _ (x :: l).length ca 1 rfl rfl Tryz.underlying26 size64 (by simp)).trans (by rw [HA2.out]; rfl)⟩) hS ?_
          try simp only [List.setIfInBounds_toArray, List.set_cons_zero, List.set_cons_succ]
          refine wpAnyH_ready (rs := [4]) (by kernel_rfl) (by simp) ?_
          refine AllReadyH.cons rfl (fun K hK => ?_) AllReadyH.nil
          rw [if_pos (by rfl)]
          refine oper_build1 (.tmp 48) rfl rfl (build26 _ _ _ _ _) ?_
          refine hK.out _ _ (⟨cellB (below_alloc1 _ _) (Nat.le_refl _) hS.1, cellB (below_alloc1 _ _) (Nat.le_refl _) hS.2.1, cellB (below_alloc1 _ _) (Nat.le_refl _) hS.2.2.1, cellB (below_alloc1 _ _) (Nat.le_refl _) hS.2.2.2⟩) (fun hS => ?_)
          clear hK K
          try simp only [Act.put, List.getElem_toArray, List.getElem_cons_succ, List.getElem_cons_zero, List.setIfInBounds_toArray, List.set_cons_zero, List.set_cons_succ]
          refine wpAnyH_ready (rs := [5]) (by kernel_rfl) (by simp) ?_
          refine AllReadyH.cons rfl (fun K hK => ?_) AllReadyH.nil
          refine Kd.N_append_step k64 (w0 := w) w.heap.size (by rfl) (.tmp 45) (.tmp 49) 26 64 (.agg #[.int .i64 0, .slice none 0 0]) 32 rfl Tryz.underlying26 info64 rfl (by decide) (by decide) (.slice O done.length co) done x [.int .i64 x.f0, .slice A1 x.f1.length c1] (fun _ => True) (fun k => k < w.heap.size) rfl rfl (Kd.FK_below HCx.out (Below.refl _ _).drew) HNE.out (fun _ _ => trivial) (Kd.N_drew HN1.out) HW1.out.drew HW1.out.drew.size HBD.out ?_
          intro v1 w9 hv1 hb1 hg1 hat1
          refine hK.out _ _ (⟨cell_grown (W := w1.drew) hg1 hS0.1 HNa.out, cell_grown (W := w1.drew) hg1 hS0.2.1 HNa.out, cell_grown (W := w1.drew) hg1 hS0.2.2.1 HNb.out, cell_grown (W := w1.drew) hg1 hS0.2.2.2 HNb.out⟩) (fun hS => ?_)
          clear hK K
          try simp only [Act.put, List.getElem_toArray, List.getElem_cons_succ, List.getElem_cons_zero, List.setIfInBounds_toArray, List.set_cons_zero, List.set_cons_succ]
          refine take_at (i := 8) 9 (v1) rfl rfl (by kernel_rfl) (by kernel_rfl) (by kernel_rfl) (fun _ _ _ h => h) (Or.inl ⟨by rfl, fun W hW => by go_simp⟩) hS ?_
          try simp only [List.setIfInBounds_toArray, List.set_cons_zero, List.set_cons_succ]
          refine take_at (i := 9) 0 (.slice A2 l.length (ca - 1)) rfl rfl (by kernel_rfl) (by kernel_rfl) (by kernel_rfl) (fun _ _ _ h => h) (Or.inl ⟨by rfl, fun W hW => by go_simp⟩) hS ?_
          try simp only [List.setIfInBounds_toArray, List.set_cons_zero, List.set_cons_succ]
          refine wpAnyH_done (by kernel_rfl) ?_ _
          clear hS
          go_wp2
          go_roundw
          case rel => exact ⟨A2, ca - 1, _, cb, l, y :: m, _, rfl, (by simp at hca; omega), hA', rfl, hcb, hB, hv1, hb1, by rw [HM.out, merge_lt l m hlt, List.append_assoc]; rfl, (by have := HL.out; simp at this ⊢; omega), (by simp at hl ⊢; omega), (by simp at hm ⊢; omega), (by have := HPL.out; rw [show x :: l = [x] ++ l from rfl, pages_append, List.length_append] at this; omega), (by have := HPM.out; exact this)⟩
          case measure => (simp [lenV] <;> omega)
        · by_cases hgt : y.f0 < x.f0
          · have HCMP := Lib.hid (show Lib.compareInt x.f0 y.f0 = 1 by unfold Lib.compareInt; rw [if_neg hlt, if_pos hgt])
            go_upto_region 3 with (fail)
            refine wp_region_held_drew (S := fun W => W.cell? ⟨ba, oa, none⟩ = some (.int .i64 x.f0) ∧ W.cell? ⟨ba, oa + 1, none⟩ = some (.slice A1 x.f1.length c1) ∧ W.cell? ⟨bb, ob, none⟩ = some (.int .i64 y.f0) ∧ W.cell? ⟨bb, ob + 1, none⟩ = some (.slice B1 y.f1.length d1)) (by kernel_rfl) (⟨hx0, hx1, hy0, hy1⟩) (fun hS => ?_)
            simp only [List.size_toArray, List.length_cons, List.length_nil, Nat.reduceAdd, Array.replicate_succ, Array.replicate_zero, List.push_toArray, List.nil_append, List.cons_append]
            refine take_at (i := 0) 19 (.func (.func 103) #[] #[]) rfl rfl (by kernel_rfl) (by kernel_rfl) (by kernel_rfl) (fun _ _ _ h => h) (Or.inl ⟨by rfl, fun W hW => by go_simp⟩) hS ?_
            try simp only [List.setIfInBounds_toArray, List.set_cons_zero, List.set_cons_succ]
            refine take_at (i := 1) 20 (.slice (some ⟨ba, oa, none⟩) (x :: l).length ca) rfl rfl (by kernel_rfl) (by kernel_rfl) (by kernel_rfl) (fun _ _ _ h => h) (Or.inl ⟨by rfl, fun W hW => by go_simp⟩) hS ?_
            try simp only [List.setIfInBounds_toArray, List.set_cons_zero, List.set_cons_succ]
            refine take_at (i := 2) 21 (.pointer (some ⟨ba, oa, none⟩)) rfl rfl (by kernel_rfl) (by kernel_rfl) (by kernel_rfl) (fun _ _ _ h => h) (Or.inl ⟨by rfl, fun W hW => by go_simp⟩) hS ?_
            try simp only [List.setIfInBounds_toArray, List.set_cons_zero, List.set_cons_succ]
            refine take_at (i := 3) 22 (.agg #[.int .i64 x.f0, .slice A1 x.f1.length c1]) rfl rfl (by kernel_rfl) (by kernel_rfl) (by kernel_rfl) (fun _ _ _ h => h) (Or.inl ⟨by rfl, fun W hW => by obtain ⟨h1, h2, h3, h4⟩ := hW; go_simp⟩) hS ?_
            try simp only [List.setIfInBounds_toArray, List.set_cons_zero, List.set_cons_succ]
            refine take_at (i := 4) 23 (.slice (some ⟨bb, ob, none⟩) (y :: m).length cb) rfl rfl (by kernel_rfl) (by kernel_rfl) (by kernel_rfl) (fun _ _ _ h => h) (Or.inl ⟨by rfl, fun W hW => by go_simp⟩) hS ?_
            try simp only [List.setIfInBounds_toArray, List.set_cons_zero, List.set_cons_succ]
            refine take_at (i := 5) 24 (.pointer (some ⟨bb, ob, none⟩)) rfl rfl (by kernel_rfl) (by kernel_rfl) (by kernel_rfl) (fun _ _ _ h => h) (Or.inl ⟨by rfl, fun W hW => by go_simp⟩) hS ?_
            try simp only [List.setIfInBounds_toArray, List.set_cons_zero, List.set_cons_succ]
            refine take_at (i := 6) 25 (.agg #[.int .i64 y.f0, .slice B1 y.f1.length d1]) rfl rfl (by kernel_rfl) (by kernel_rfl) (by kernel_rfl) (fun _ _ _ h => h) (Or.inl ⟨by rfl, fun W hW => by obtain ⟨h1, h2, h3, h4⟩ := hW; go_simp⟩) hS ?_
            try simp only [List.setIfInBounds_toArray, List.set_cons_zero, List.set_cons_succ]
            refine wpAnyH_ready (rs := [7]) (by kernel_rfl) (by simp) ?_
            refine AllReadyH.cons rfl (fun K hK => ?_) AllReadyH.nil
            go_simp
            refine (cmp_any x.f0 y.f0 A1 B1 x.f1.length c1 y.f1.length d1 _).mono ?_
            rintro e w1 ⟨rfl, hcb1⟩
            rw [HCMP.out]
            refine hK.out _ _ (⟨cellB hcb1 (Nat.le_refl _) hS.1, cellB hcb1 (Nat.le_refl _) hS.2.1, cellB hcb1 (Nat.le_refl _) hS.2.2.1, cellB hcb1 (Nat.le_refl _) hS.2.2.2⟩) (fun hS => ?_)
            clear hK K
            try simp only [Act.put, List.getElem_toArray, List.getElem_cons_succ, List.getElem_cons_zero, List.setIfInBounds_toArray, List.set_cons_zero, List.set_cons_succ]
            refine take_at (i := 8) 10 (.int .i64 (1)) rfl rfl (by kernel_rfl) (by kernel_rfl) (by kernel_rfl) (fun _ _ _ h => h) (Or.inl ⟨by rfl, fun W hW => by go_simp⟩) hS ?_
            try simp only [List.setIfInBounds_toArray, List.set_cons_zero, List.set_cons_succ]
            refine wpAnyH_done (by kernel_rfl) ?_ _
            have HN1 := Aside0.mk (Kd.N_below (Kd.N_drew HN.out) hcb1)
            have HW1 := Aside0.mk (HW.out.drew.trans (hcb1.mono HW.out.size))
            have HCx := Aside0.mk (Kd.FK_below HFx.out HW1.out)
            have HCy := Aside0.mk (Kd.FK_below HFy.out HW1.out)
            have hS0 := hS
            clear hS hx0 hx1 hy0 hy1 hcb1
            go_upto_region 8 with (fail)
            refine wp_region_held_drew (S := fun W => W.cell? ⟨ba, oa, none⟩ = some (.int .i64 x.f0) ∧ W.cell? ⟨ba, oa + 1, none⟩ = some (.slice A1 x.f1.length c1) ∧ W.cell? ⟨bb, ob, none⟩ = some (.int .i64 y.f0) ∧ W.cell? ⟨bb, ob + 1, none⟩ = some (.slice B1 y.f1.length d1)) (by kernel_rfl) (hS0) (fun hS => ?_)
            simp only [List.size_toArray, List.length_cons, List.length_nil, Nat.reduceAdd, Array.replicate_succ, Array.replicate_zero, List.push_toArray, List.nil_append, List.cons_append]
            refine take_at (i := 0) 56 (.slice O done.length co) rfl rfl (by kernel_rfl) (by kernel_rfl) (by kernel_rfl) (fun _ _ _ h => h) (Or.inl ⟨by rfl, fun W hW => by go_simp⟩) hS ?_
            try simp only [List.setIfInBounds_toArray, List.set_cons_zero, List.set_cons_succ]
            refine take_at (i := 1) 57 (.slice (some ⟨bb, ob, none⟩) (y :: m).length cb) rfl rfl (by kernel_rfl) (by kernel_rfl) (by kernel_rfl) (fun _ _ _ h => h) (Or.inl ⟨by rfl, fun W hW => by go_simp⟩) hS ?_
            try simp only [List.setIfInBounds_toArray, List.set_cons_zero, List.set_cons_succ]
            refine take_at (i := 2) 58 (.pointer (some ⟨bb, ob, none⟩)) rfl rfl (by kernel_rfl) (by kernel_rfl) (by kernel_rfl) (fun _ _ _ h => h) (Or.inl ⟨by rfl, fun W hW => by go_simp⟩) hS ?_
            try simp only [List.setIfInBounds_toArray, List.set_cons_zero, List.set_cons_succ]
            refine take_at (i := 3) 59 (.agg #[.int .i64 y.f0, .slice B1 y.f1.length d1]) rfl rfl (by kernel_rfl) (by kernel_rfl) (by kernel_rfl) (fun _ _ _ h => h) (Or.inl ⟨by rfl, fun W hW => by obtain ⟨h1, h2, h3, h4⟩ := hW; go_simp⟩) hS ?_
            try simp only [List.setIfInBounds_toArray, List.set_cons_zero, List.set_cons_succ]
            refine take_at (i := 6) 62 (.slice (some ⟨bb, ob, none⟩) (y :: m).length cb) rfl rfl (by kernel_rfl) (by kernel_rfl) (by kernel_rfl) (fun _ _ _ h => h) (Or.inl ⟨by rfl, fun W hW => by go_simp⟩) hS ?_
            try simp only [List.setIfInBounds_toArray, List.set_cons_zero, List.set_cons_succ]
            refine take_at (i := 7) 63 (.slice B2 m.length (cb - 1)) rfl rfl (by kernel_rfl) (by kernel_rfl) (by kernel_rfl) (fun _ _ _ h => h) (Or.inl ⟨by rfl, fun W hW => (exec_sliceFrom _ 26 64 2 (.tmp 62) _ rfl _ (y :: m).length cb 1 rfl rfl Tryz.underlying26 size64 (by simp)).trans (by rw [HB2.out]; rfl)⟩) hS ?_
            try simp only [List.setIfInBounds_toArray, List.set_cons_zero, List.set_cons_succ]
            refine wpAnyH_ready (rs := [4]) (by kernel_rfl) (by simp) ?_
            refine AllReadyH.cons rfl (fun K hK => ?_) AllReadyH.nil
            rw [if_pos (by rfl)]
            refine oper_build1 (.tmp 59) rfl rfl (build26 _ _ _ _ _) ?_
            refine hK.out _ _ (⟨cellB (below_alloc1 _ _) (Nat.le_refl _) hS.1, cellB (below_alloc1 _ _) (Nat.le_refl _) hS.2.1, cellB (below_alloc1 _ _) (Nat.le_refl _) hS.2.2.1, cellB (below_alloc1 _ _) (Nat.le_refl _) hS.2.2.2⟩) (fun hS => ?_)
            clear hK K
            try simp only [Act.put, List.getElem_toArray, List.getElem_cons_succ, List.getElem_cons_zero, List.setIfInBounds_toArray, List.set_cons_zero, List.set_cons_succ]
            refine wpAnyH_ready (rs := [5]) (by kernel_rfl) (by simp) ?_
            refine AllReadyH.cons rfl (fun K hK => ?_) AllReadyH.nil
            refine Kd.N_append_step k64 (w0 := w) w.heap.size (by rfl) (.tmp 56) (.tmp 60) 26 64 (.agg #[.int .i64 0, .slice none 0 0]) 32 rfl Tryz.underlying26 info64 rfl (by decide) (by decide) (.slice O done.length co) done y [.int .i64 y.f0, .slice B1 y.f1.length d1] (fun _ => True) (fun k => k < w.heap.size) rfl rfl (Kd.FK_below HCy.out (Below.refl _ _).drew) HNE.out (fun _ _ => trivial) (Kd.N_drew HN1.out) HW1.out.drew HW1.out.drew.size HBD.out ?_
            intro v1 w9 hv1 hb1 hg1 hat1
            refine hK.out _ _ (⟨cell_grown (W := w1.drew) hg1 hS0.1 HNa.out, cell_grown (W := w1.drew) hg1 hS0.2.1 HNa.out, cell_grown (W := w1.drew) hg1 hS0.2.2.1 HNb.out, cell_grown (W := w1.drew) hg1 hS0.2.2.2 HNb.out⟩) (fun hS => ?_)
            clear hK K
            try simp only [Act.put, List.getElem_toArray, List.getElem_cons_succ, List.getElem_cons_zero, List.setIfInBounds_toArray, List.set_cons_zero, List.set_cons_succ]
            refine take_at (i := 8) 9 (v1) rfl rfl (by kernel_rfl) (by kernel_rfl) (by kernel_rfl) (fun _ _ _ h => h) (Or.inl ⟨by rfl, fun W hW => by go_simp⟩) hS ?_
            try simp only [List.setIfInBounds_toArray, List.set_cons_zero, List.set_cons_succ]
            refine take_at (i := 9) 1 (.slice B2 m.length (cb - 1)) rfl rfl (by kernel_rfl) (by kernel_rfl) (by kernel_rfl) (fun _ _ _ h => h) (Or.inl ⟨by rfl, fun W hW => by go_simp⟩) hS ?_
            try simp only [List.setIfInBounds_toArray, List.set_cons_zero, List.set_cons_succ]
            refine wpAnyH_done (by kernel_rfl) ?_ _
            clear hS
            go_wp2
            go_roundw
            case rel => exact ⟨_, ca, B2, cb - 1, x :: l, m, _, rfl, hca, hA, rfl, (by simp at hcb; omega), hB', hv1, hb1, by rw [HM.out, merge_gt l m hgt, List.append_assoc]; rfl, (by have := HL.out; simp at this ⊢; omega), (by simp at hl ⊢; omega), (by simp at hm ⊢; omega), (by have := HPL.out; exact this), (by have := HPM.out; rw [show y :: m = [y] ++ m from rfl, pages_append, List.length_append] at this; omega)⟩
            case measure => (simp [lenV] <;> omega)
          · have heq : x.f0 = y.f0 := by omega
            have HCMP := Lib.hid (show Lib.compareInt x.f0 y.f0 = 0 by unfold Lib.compareInt; rw [if_neg hlt, if_neg hgt])
            have hsum : x.f1.length + y.f1.length ≤ 10000000 := by
              have h1 := HPL.out
              have h2 := HPM.out
              rw [show x :: l = [x] ++ l from rfl, pages_append, List.length_append, pages_one] at h1
              rw [show y :: m = [y] ++ m from rfl, pages_append, List.length_append, pages_one] at h2
              have h3 := ha.2
              have h4 := hb.2
              omega
            have HSUM := Aside0.mk hsum
            have HEQ := Lib.hid heq
            clear hsum heq
            go_upto_region 3 with (fail)
            refine wp_region_held_drew (S := fun W => W.cell? ⟨ba, oa, none⟩ = some (.int .i64 x.f0) ∧ W.cell? ⟨ba, oa + 1, none⟩ = some (.slice A1 x.f1.length c1) ∧ W.cell? ⟨bb, ob, none⟩ = some (.int .i64 y.f0) ∧ W.cell? ⟨bb, ob + 1, none⟩ = some (.slice B1 y.f1.length d1)) (by kernel_rfl) (⟨hx0, hx1, hy0, hy1⟩) (fun hS => ?_)
            simp only [List.size_toArray, List.length_cons, List.length_nil, Nat.reduceAdd, Array.replicate_succ, Array.replicate_zero, List.push_toArray, List.nil_append, List.cons_append]
            refine take_at (i := 0) 19 (.func (.func 103) #[] #[]) rfl rfl (by kernel_rfl) (by kernel_rfl) (by kernel_rfl) (fun _ _ _ h => h) (Or.inl ⟨by rfl, fun W hW => by go_simp⟩) hS ?_
            try simp only [List.setIfInBounds_toArray, List.set_cons_zero, List.set_cons_succ]
            refine take_at (i := 1) 20 (.slice (some ⟨ba, oa, none⟩) (x :: l).length ca) rfl rfl (by kernel_rfl) (by kernel_rfl) (by kernel_rfl) (fun _ _ _ h => h) (Or.inl ⟨by rfl, fun W hW => by go_simp⟩) hS ?_
            try simp only [List.setIfInBounds_toArray, List.set_cons_zero, List.set_cons_succ]
            refine take_at (i := 2) 21 (.pointer (some ⟨ba, oa, none⟩)) rfl rfl (by kernel_rfl) (by kernel_rfl) (by kernel_rfl) (fun _ _ _ h => h) (Or.inl ⟨by rfl, fun W hW => by go_simp⟩) hS ?_
            try simp only [List.setIfInBounds_toArray, List.set_cons_zero, List.set_cons_succ]
            refine take_at (i := 3) 22 (.agg #[.int .i64 x.f0, .slice A1 x.f1.length c1]) rfl rfl (by kernel_rfl) (by kernel_rfl) (by kernel_rfl) (fun _ _ _ h => h) (Or.inl ⟨by rfl, fun W hW => by obtain ⟨h1, h2, h3, h4⟩ := hW; go_simp⟩) hS ?_
            try simp only [List.setIfInBounds_toArray, List.set_cons_zero, List.set_cons_succ]
            refine take_at (i := 4) 23 (.slice (some ⟨bb, ob, none⟩) (y :: m).length cb) rfl rfl (by kernel_rfl) (by kernel_rfl) (by kernel_rfl) (fun _ _ _ h => h) (Or.inl ⟨by rfl, fun W hW => by go_simp⟩) hS ?_
            try simp only [List.setIfInBounds_toArray, List.set_cons_zero, List.set_cons_succ]
            refine take_at (i := 5) 24 (.pointer (some ⟨bb, ob, none⟩)) rfl rfl (by kernel_rfl) (by kernel_rfl) (by kernel_rfl) (fun _ _ _ h => h) (Or.inl ⟨by rfl, fun W hW => by go_simp⟩) hS ?_
            try simp only [List.setIfInBounds_toArray, List.set_cons_zero, List.set_cons_succ]
            refine take_at (i := 6) 25 (.agg #[.int .i64 y.f0, .slice B1 y.f1.length d1]) rfl rfl (by kernel_rfl) (by kernel_rfl) (by kernel_rfl) (fun _ _ _ h => h) (Or.inl ⟨by rfl, fun W hW => by obtain ⟨h1, h2, h3, h4⟩ := hW; go_simp⟩) hS ?_
            try simp only [List.setIfInBounds_toArray, List.set_cons_zero, List.set_cons_succ]
            refine wpAnyH_ready (rs := [7]) (by kernel_rfl) (by simp) ?_
            refine AllReadyH.cons rfl (fun K hK => ?_) AllReadyH.nil
            go_simp
            refine (cmp_any x.f0 y.f0 A1 B1 x.f1.length c1 y.f1.length d1 _).mono ?_
            rintro e w1 ⟨rfl, hcb1⟩
            rw [HCMP.out]
            refine hK.out _ _ (⟨cellB hcb1 (Nat.le_refl _) hS.1, cellB hcb1 (Nat.le_refl _) hS.2.1, cellB hcb1 (Nat.le_refl _) hS.2.2.1, cellB hcb1 (Nat.le_refl _) hS.2.2.2⟩) (fun hS => ?_)
            clear hK K
            try simp only [Act.put, List.getElem_toArray, List.getElem_cons_succ, List.getElem_cons_zero, List.setIfInBounds_toArray, List.set_cons_zero, List.set_cons_succ]
            refine take_at (i := 8) 10 (.int .i64 (0)) rfl rfl (by kernel_rfl) (by kernel_rfl) (by kernel_rfl) (fun _ _ _ h => h) (Or.inl ⟨by rfl, fun W hW => by go_simp⟩) hS ?_
            try simp only [List.setIfInBounds_toArray, List.set_cons_zero, List.set_cons_succ]
            refine wpAnyH_done (by kernel_rfl) ?_ _
            have HN1 := Aside0.mk (Kd.N_below (Kd.N_drew HN.out) hcb1)
            have HW1 := Aside0.mk (HW.out.drew.trans (hcb1.mono HW.out.size))
            have HCx := Aside0.mk (Kd.FK_below HFx.out HW1.out)
            have HCy := Aside0.mk (Kd.FK_below HFy.out HW1.out)
            have hS0 := hS
            clear hS hx0 hx1 hy0 hy1 hcb1
            go_upto_region 4 with (fail)
            refine wp_region_held_drew (S := fun W => W.cell? ⟨ba, oa, none⟩ = some (.int .i64 x.f0) ∧ W.cell? ⟨ba, oa + 1, none⟩ = some (.slice A1 x.f1.length c1) ∧ W.cell? ⟨bb, ob, none⟩ = some (.int .i64 y.f0) ∧ W.cell? ⟨bb, ob + 1, none⟩ = some (.slice B1 y.f1.length d1)) (by kernel_rfl) (hS0) (fun hS => ?_)
            simp only [List.size_toArray, List.length_cons, List.length_nil, Nat.reduceAdd, Array.replicate_succ, Array.replicate_zero, List.push_toArray, List.nil_append, List.cons_append]
            refine take_at (i := 0) 27 (.slice O done.length co) rfl rfl (by kernel_rfl) (by kernel_rfl) (by kernel_rfl) (fun _ _ _ h => h) (Or.inl ⟨by rfl, fun W hW => by go_simp⟩) hS ?_
            try simp only [List.setIfInBounds_toArray, List.set_cons_zero, List.set_cons_succ]
            refine take_at (i := 1) 28 (.func (.func 105) #[] #[]) rfl rfl (by kernel_rfl) (by kernel_rfl) (by kernel_rfl) (fun _ _ _ h => h) (Or.inl ⟨by rfl, fun W hW => by go_simp⟩) hS ?_
            try simp only [List.setIfInBounds_toArray, List.set_cons_zero, List.set_cons_succ]
            refine take_at (i := 2) 29 (.slice (some ⟨ba, oa, none⟩) (x :: l).length ca) rfl rfl (by kernel_rfl) (by kernel_rfl) (by kernel_rfl) (fun _ _ _ h => h) (Or.inl ⟨by rfl, fun W hW => by go_simp⟩) hS ?_
            try simp only [List.setIfInBounds_toArray, List.set_cons_zero, List.set_cons_succ]
            refine take_at (i := 3) 30 (.pointer (some ⟨ba, oa, none⟩)) rfl rfl (by kernel_rfl) (by kernel_rfl) (by kernel_rfl) (fun _ _ _ h => h) (Or.inl ⟨by rfl, fun W hW => by go_simp⟩) hS ?_
            try simp only [List.setIfInBounds_toArray, List.set_cons_zero, List.set_cons_succ]
            refine take_at (i := 4) 31 (.agg #[.int .i64 x.f0, .slice A1 x.f1.length c1]) rfl rfl (by kernel_rfl) (by kernel_rfl) (by kernel_rfl) (fun _ _ _ h => h) (Or.inl ⟨by rfl, fun W hW => by obtain ⟨h1, h2, h3, h4⟩ := hW; go_simp⟩) hS ?_
            try simp only [List.setIfInBounds_toArray, List.set_cons_zero, List.set_cons_succ]
            refine take_at (i := 5) 32 (.slice (some ⟨bb, ob, none⟩) (y :: m).length cb) rfl rfl (by kernel_rfl) (by kernel_rfl) (by kernel_rfl) (fun _ _ _ h => h) (Or.inl ⟨by rfl, fun W hW => by go_simp⟩) hS ?_
            try simp only [List.setIfInBounds_toArray, List.set_cons_zero, List.set_cons_succ]
            refine take_at (i := 6) 33 (.pointer (some ⟨bb, ob, none⟩)) rfl rfl (by kernel_rfl) (by kernel_rfl) (by kernel_rfl) (fun _ _ _ h => h) (Or.inl ⟨by rfl, fun W hW => by go_simp⟩) hS ?_
            try simp only [List.setIfInBounds_toArray, List.set_cons_zero, List.set_cons_succ]
            refine take_at (i := 7) 34 (.agg #[.int .i64 y.f0, .slice B1 y.f1.length d1]) rfl rfl (by kernel_rfl) (by kernel_rfl) (by kernel_rfl) (fun _ _ _ h => h) (Or.inl ⟨by rfl, fun W hW => by obtain ⟨h1, h2, h3, h4⟩ := hW; go_simp⟩) hS ?_
            try simp only [List.setIfInBounds_toArray, List.set_cons_zero, List.set_cons_succ]
            refine take_at (i := 11) 38 (.slice (some ⟨ba, oa, none⟩) (x :: l).length ca) rfl rfl (by kernel_rfl) (by kernel_rfl) (by kernel_rfl) (fun _ _ _ h => h) (Or.inl ⟨by rfl, fun W hW => by go_simp⟩) hS ?_
            try simp only [List.setIfInBounds_toArray, List.set_cons_zero, List.set_cons_succ]
            refine take_at (i := 12) 39 (.slice A2 l.length (ca - 1)) rfl rfl (by kernel_rfl) (by kernel_rfl) (by kernel_rfl) (fun _ _ _ h => h) (Or.inl ⟨by rfl, fun W hW => (exec_sliceFrom _ 26 64 2 (.tmp 38) _ rfl _ (x :: l).length ca 1 rfl rfl Tryz.underlying26 size64 (by simp)).trans (by rw [HA2.out]; rfl)⟩) hS ?_
            try simp only [List.setIfInBounds_toArray, List.set_cons_zero, List.set_cons_succ]
            refine take_at (i := 13) 40 (.slice (some ⟨bb, ob, none⟩) (y :: m).length cb) rfl rfl (by kernel_rfl) (by kernel_rfl) (by kernel_rfl) (fun _ _ _ h => h) (Or.inl ⟨by rfl, fun W hW => by go_simp⟩) hS ?_
            try simp only [List.setIfInBounds_toArray, List.set_cons_zero, List.set_cons_succ]
            refine take_at (i := 14) 41 (.slice B2 m.length (cb - 1)) rfl rfl (by kernel_rfl) (by kernel_rfl) (by kernel_rfl) (fun _ _ _ h => h) (Or.inl ⟨by rfl, fun W hW => (exec_sliceFrom _ 26 64 2 (.tmp 40) _ rfl _ (y :: m).length cb 1 rfl rfl Tryz.underlying26 size64 (by simp)).trans (by rw [HB2.out]; rfl)⟩) hS ?_
            try simp only [List.setIfInBounds_toArray, List.set_cons_zero, List.set_cons_succ]
            refine wpAnyH_ready (rs := [8]) (by kernel_rfl) (by simp) ?_
            refine AllReadyH.cons rfl (fun K hK => ?_) AllReadyH.nil
            go_simp
            refine (both_any x.f0 y.f0 A1 B1 x.f1 y.f1 c1 d1 _ (Kd.C_below HCX.out HW1.out.drew) (Kd.C_below HCY.out HW1.out.drew) hl1 hd1 HSUM.out).mono ?_
            rintro e w2 ⟨sv, rfl, hsv, hcb2⟩
            obtain ⟨sA, sc, rfl⟩ := Kd.R_slice hsv
            refine hK.out _ _ (⟨cellB hcb2 (Nat.le_refl _) hS.1, cellB hcb2 (Nat.le_refl _) hS.2.1, cellB hcb2 (Nat.le_refl _) hS.2.2.1, cellB hcb2 (Nat.le_refl _) hS.2.2.2⟩) (fun hS => ?_)
            clear hK K
            try simp only [Act.put, List.getElem_toArray, List.getElem_cons_succ, List.getElem_cons_zero, List.setIfInBounds_toArray, List.set_cons_zero, List.set_cons_succ]
            refine wpAnyH_ready (rs := [9]) (by kernel_rfl) (by simp) ?_
            refine AllReadyH.cons rfl (fun K hK => ?_) AllReadyH.nil
            rw [if_pos (by rfl)]
            refine oper_build1 (.tmp 35) rfl rfl (build26 _ _ _ _ _) ?_
            refine hK.out _ _ (⟨cellB (below_alloc1 _ _) (Nat.le_refl _) hS.1, cellB (below_alloc1 _ _) (Nat.le_refl _) hS.2.1, cellB (below_alloc1 _ _) (Nat.le_refl _) hS.2.2.1, cellB (below_alloc1 _ _) (Nat.le_refl _) hS.2.2.2⟩) (fun hS => ?_)
            clear hK K
            try simp only [Act.put, List.getElem_toArray, List.getElem_cons_succ, List.getElem_cons_zero, List.setIfInBounds_toArray, List.set_cons_zero, List.set_cons_succ]
            refine wpAnyH_ready (rs := [10]) (by kernel_rfl) (by simp) ?_
            refine AllReadyH.cons rfl (fun K hK => ?_) AllReadyH.nil
            have hN2 := Kd.N_below (Kd.N_drew HN1.out) hcb2
            have hW2 := HW1.out.drew.trans (hcb2.mono HW1.out.drew.size)
            have hok2 : ∀ k, w1.heap.size ≤ k → True ∧ some k ≠ (Value.slice O done.length co).ownBlock := fun k hk => ⟨trivial, fun e => by have := Kd.N_lt HN1.out k e.symm; omega⟩
            refine Kd.N_append_step k64 (w0 := w) w.heap.size (by rfl) (.tmp 27) (.tmp 36) 26 64 (.agg #[.int .i64 0, .slice none 0 0]) 32 rfl Tryz.underlying26 info64 rfl (by decide) (by decide) (.slice O done.length co) done (⟨x.f0, (sortI (x.f1 ++ y.f1))⟩ : S64) [.int .i64 x.f0, .slice sA (sortI (x.f1 ++ y.f1)).length sc] (fun _ => True) (fun k => w1.heap.size ≤ k) rfl rfl (k64_mkF _ _ (⟨x.f0, (sortI (x.f1 ++ y.f1))⟩ : S64) (Kd.R_reads' hsv).2.1 (Kd.R_F (Kd.R_mono (Kd.R_bound hsv) (fun k hk => hk.2.1)))) hok2 (fun _ _ => trivial) hN2 hW2 hW2.size HBD.out ?_
            intro v1 w9 hv1 hb1 hg1 hat1
            have hS2 := And.intro (cellB hcb2 (Nat.le_refl _) hS0.1) (And.intro (cellB hcb2 (Nat.le_refl _) hS0.2.1) (And.intro (cellB hcb2 (Nat.le_refl _) hS0.2.2.1) (cellB hcb2 (Nat.le_refl _) hS0.2.2.2)))
            refine hK.out _ _ (⟨cell_grown hg1 hS2.1 HNa.out, cell_grown hg1 hS2.2.1 HNa.out, cell_grown hg1 hS2.2.2.1 HNb.out, cell_grown hg1 hS2.2.2.2 HNb.out⟩) (fun hS => ?_)
            clear hK K
            try simp only [Act.put, List.getElem_toArray, List.getElem_cons_succ, List.getElem_cons_zero, List.setIfInBounds_toArray, List.set_cons_zero, List.set_cons_succ]
            refine take_at (i := 15) 9 (v1) rfl rfl (by kernel_rfl) (by kernel_rfl) (by kernel_rfl) (fun _ _ _ h => h) (Or.inl ⟨by rfl, fun W hW => by go_simp⟩) hS ?_
            try simp only [List.setIfInBounds_toArray, List.set_cons_zero, List.set_cons_succ]
            refine take_at (i := 16) 0 (.slice A2 l.length (ca - 1)) rfl rfl (by kernel_rfl) (by kernel_rfl) (by kernel_rfl) (fun _ _ _ h => h) (Or.inl ⟨by rfl, fun W hW => by go_simp⟩) hS ?_
            try simp only [List.setIfInBounds_toArray, List.set_cons_zero, List.set_cons_succ]
            refine take_at (i := 17) 1 (.slice B2 m.length (cb - 1)) rfl rfl (by kernel_rfl) (by kernel_rfl) (by kernel_rfl) (fun _ _ _ h => h) (Or.inl ⟨by rfl, fun W hW => by go_simp⟩) hS ?_
            try simp only [List.setIfInBounds_toArray, List.set_cons_zero, List.set_cons_succ]
            refine wpAnyH_done (by kernel_rfl) ?_ _
            clear hS
            go_wp2
            go_roundw
            case rel => exact ⟨A2, ca - 1, B2, cb - 1, l, m, _, rfl, (by simp at hca; omega), hA', rfl, (by simp at hcb; omega), hB', hv1, hb1, by rw [HM.out, merge_eq l m HEQ.out, List.append_assoc]; rfl, (by have := HL.out; simp at this ⊢; omega), (by simp at hl ⊢; omega), (by simp at hm ⊢; omega), (by have := HPL.out; rw [show x :: l = [x] ++ l from rfl, pages_append, List.length_append] at this; omega), (by have := HPM.out; rw [show y :: m = [y] ++ m from rfl, pages_append, List.length_append] at this; omega)⟩
            case measure => (simp [lenV] <;> omega)
end Go.Proofs.YtpnhelcemodnmaaGreat

/- Two lists of freed pages, put together; Merge. -/
namespace Go.Proofs.YtpnhelcemodnmaaGreat
open Go.RowKit Go.Shelf Go.Proofs.YtpnhelcemodnmaaGreatW.PrintWords Go.Proofs.YtpnhelcemodnmaaGreatW.PrintLast Go.Proofs.YtpnhelcemodnmaaGreatW.PrintMore PA
set_option linter.unusedVariables false
set_option linter.unusedSimpArgs false
attribute [local go_sem] Oper.semAt_some
theorem set_self {α : Type} (l : List α) (k : Nat) (x : α) (h : l[k]? = some x) : l.set k x = l := by
  apply List.ext_getElem?
  intro i
  by_cases e : i = k
  · subst e
    rw [List.getElem?_set_self (List.getElem?_eq_some_iff.1 h).1, h]
  · rw [List.getElem?_set_ne (Ne.symm e)]
theorem merge_pages (a b : List S64) : (pagesOf (mergeL a b)).length = (pagesOf a).length + (pagesOf b).length := by
  have one : ∀ (x : S64) (l : List S64), (pagesOf (x :: l)).length = x.f1.length + (pagesOf l).length := fun x l => by
    rw [show x :: l = [x] ++ l from rfl, pages_append, List.length_append, pages_one]
  induction a generalizing b with
  | nil => rw [merge_nil]; simp [pagesOf, flat]
  | cons x a ih =>
    induction b with
    | nil => rw [merge_nil2]; simp [pagesOf, flat]
    | cons y b ihb =>
      rcases Int.lt_trichotomy x.f0 y.f0 with h | h | h
      · rw [merge_lt a b h, one, ih, one, one]; omega
      · rw [merge_eq a b h, one, ih, one, one]; simp [sortI_length]; omega
      · rw [merge_gt a b h, one, ihb, one, one]; omega
set_option maxRecDepth 100000 in
set_option maxHeartbeats 4000000 in
theorem together_any (la lb : List S64) (A : Option Addr) (ca : Nat) (B : Option Addr) (cb : Nat) (w : World) (hA : k64.C w A la.length la) (hca : la.length ≤ ca) (hB : k64.C w B lb.length lb) (hcb : lb.length ≤ cb) (ha : smallL la) (hb : smallL lb) :
    Calls Tryz.prog 56 #[.slice A la.length ca, .slice B lb.length cb] w fun e w' => ∃ v, e = .returned v ∧ Kd.N k64 64 w' w.heap.size (fun _ => True) v (mergeL la lb) ∧ Below w.heap.size w w' := by
  have HMM := Aside0.mk (merged_any la lb A ca B cb w hA hca hB hcb ha hb)
  have hpg : (pagesOf (mergeL la lb)).length ≤ 2000000 := by rw [merge_pages]; have := ha.2; have := hb.2; omega
  have hln := merge_length la lb
  obtain ⟨ms, hms⟩ : ∃ ms, mergeL la lb = ms := ⟨_, rfl⟩
  rw [hms] at HMM hpg hln ⊢
  clear hms hA hB
  have hml : ms.length ≤ 2000000 := by have := ha.1; have := hb.1; omega
  clear hln
  go_enter Tryz.func56, Tryz.ntmps56
  go_wp2_with (go_at_call 102; (with_reducible refine HMM.out.mono ?_); rintro e w1 ⟨v, rfl, hv, hb1⟩; obtain ⟨O, co, rfl⟩ := Kd.N_slice hv)
  have HV := Aside0.mk hv
  have HW := Aside0.mk hb1
  clear hv hb1
  go_loopw [12] (fun i wr => ∃ k : Nat, k ≤ ms.length ∧ i = .int .i64 k ∧ Aside0 (Kd.N k64 64 wr w.heap.size (fun _ => True) (.slice O ms.length co) ms) ∧ Aside0 (Below w.heap.size w wr))
    (fun i _ => ms.length - (intOf i).toNat)
  case atStart => exact ⟨0, Nat.zero_le _, rfl, HV, HW⟩
  case round =>
    obtain ⟨k, hk, rfl, HN, HB⟩ := hrel
    clear HV HW
    by_cases hlt : k < ms.length
    · obtain ⟨g, cap, e, hg1, hg2, -⟩ := Kd.N_form HN.out (by omega)
      injection e with e1 e2 e3
      subst e1 e3
      obtain ⟨cs, hcl, hFK, hcc, hff⟩ := Kd.N_elem HN.out z64 (k : Int) (by omega) (by omega)
      rw [show ms.getD (k : Int).toNat z64 = rd_T64 ms (k : Int) from rfl] at hFK
      obtain ⟨A1, c1, rfl, hl1, hF1⟩ := k64_openF hFK
      have hx1 : wr.cell? ⟨g, k * 2 + 1, none⟩ = some (.slice A1 (rd_T64 ms (k : Int)).f1.length c1) := hcc 1 _ rfl
      have hel : ms[k]? = some (rd_T64 ms (k : Int)) := by rw [rd_nat ms k hlt]; exact List.getElem?_eq_getElem hlt
      have hgl : (rd_T64 ms (k : Int)).f1.length ≤ 2000000 := by
        have h1 := pages_take_le ms (k + 1)
        rw [take_rd ms k hlt, pages_append, List.length_append, pages_one] at h1
        omega
      obtain ⟨x, hx⟩ : ∃ x, rd_T64 ms (k : Int) = x := ⟨_, rfl⟩
      rw [hx] at hFK hx1 hel hgl hF1 hcc hl1
      have HEL := Lib.hid hel
      have HCC := Aside0.mk hcc
      have HFF := Aside0.mk hff
      have HX := Aside0.mk (cloneInt x.f1 A1 c1 wr (Kd.F_now hF1) (by omega))
      clear hx hel hFK hF1 hcc hff
      have h23 : (Tryz.prog.info? 23).map (·.size) = some 1 := by kernel_rfl
      have hk0 : (0 : Int) ≤ (k : Int) := by omega
      have hk1 : (k : Int) < (ms.length : Int) := by omega
      go_wp2_with (first
        | (go_at_call 96; (with_reducible refine HX.out.mono ?_); rintro e w2 ⟨cv, rfl, hcv, hcb2⟩; obtain ⟨cA, cc, rfl⟩ := Kd.R_slice hcv; have HCV := Aside0.mk hcv; have HN2 := Aside0.mk (Kd.N_below HN.out hcb2); have HB2 := Aside0.mk (HB.out.trans (hcb2.mono HB.out.size)); have HC2 := Aside0.mk (fun j u h => cellB hcb2 (Nat.le_refl _) (HCC.out j u h)); clear hcv hcb2)
        | (refine Kd.N_store k64 (w0 := w) w.heap.size rfl rfl 23 (.tmp 24) (.tmp 22) rfl 64 (k : Int) 1 ms x (.slice cA x.f1.length cc) [.slice cA x.f1.length cc] [.int .i64 x.f0, .slice A1 x.f1.length c1] (fun _ => True) (fun q => wr.heap.size ≤ q) rfl rfl rfl rfl h23 (by simp [Value.oneCell']) HN2.out hk0 hk1 rfl HC2.out (Nat.le_refl 2) (k64_mkF _ _ x (Kd.R_reads' HCV.out).2.1 (Kd.R_F (Kd.R_mono (Kd.R_bound HCV.out) (fun q hq => hq.2.1)))) (fun q hq => ⟨trivial, fun e => by have : wr.heap.size ≤ q := hq; omega⟩) HB2.out ?_; intro w3 hn3 hb3 hg3; rw [Int.toNat_natCast, set_self ms k x HEL.out] at hn3))
      go_roundw
      case rel => exact ⟨k + 1, by omega, by go_num, ⟨hn3⟩, ⟨hb3⟩⟩
      case measure => simp [intOf]; omega
    · obtain rfl : k = ms.length := by omega
      go_wp2
      go_ret
      exact ⟨_, rfl, HN.out, HB.out⟩
end Go.Proofs.YtpnhelcemodnmaaGreat

/- Merge. -/
namespace Go.Proofs.YtpnhelcemodnmaaGreat
open Go.RowKit Go.Shelf Go.Proofs.YtpnhelcemodnmaaGreatW.PrintWords Go.Proofs.YtpnhelcemodnmaaGreatW.PrintLast Go.Proofs.YtpnhelcemodnmaaGreatW.PrintMore PA
set_option linter.unusedVariables false
set_option linter.unusedSimpArgs false
attribute [local go_sem] Oper.semAt_some
/-- Whether two lists can be merged. -/
def mergeOk (la lb : List S64) : Bool := validB 4096 la && validB 4096 lb && validB 4096 (mergeL la lb)
set_option maxRecDepth 100000 in
set_option maxHeartbeats 4000000 in
theorem Merge_any (la lb : List S64) (A : Option Addr) (ca : Nat) (B : Option Addr) (cb : Nat) (w : World) (hA : k64.C w A la.length la) (hca : la.length ≤ ca) (hB : k64.C w B lb.length lb) (hcb : lb.length ≤ cb) (ha : smallL la) (hb : smallL lb) :
    Calls Tryz.prog 24 #[.slice A la.length ca, .slice B lb.length cb] w fun e w' => (mergeOk la lb = false ∧ e = .returned (.tuple #[.slice none 0 0, .int .i64 2]) ∨ mergeOk la lb = true ∧ ∃ v, e = .returned (.tuple #[v, .int .i64 0]) ∧ Kd.N k64 64 w' w.heap.size (fun _ => True) v (mergeL la lb)) ∧ Below w.heap.size w w' := by
  have HVA := Lib.hid (valid_any la 4096 A ca w hA hca)
  have HVB := Lib.hid (fun (w1 : World) (h : Below w.heap.size w w1) => valid_any lb 4096 B cb w1 (Kd.C_below hB h) hcb)
  have HT := Lib.hid (fun (w1 : World) (h : Below w.heap.size w w1) => together_any la lb A ca B cb w1 (Kd.C_below hA h) hca (Kd.C_below hB h) hcb ha hb)
  have HVM := Lib.hid (fun (w1 : World) (O : Option Addr) (co base : Nat) (ok : Nat → Prop) (h : Kd.N k64 64 w1 base ok (.slice O (mergeL la lb).length co) (mergeL la lb)) => valid_any (mergeL la lb) 4096 O co w1 (Kd.N_reads' h).2.2 (Kd.N_reads' h).2.1)
  have HO := Lib.hid (show mergeOk la lb = (validB 4096 la && validB 4096 lb && validB 4096 (mergeL la lb)) from rfl)
  obtain ⟨b1, h1⟩ : ∃ b, validB 4096 la = b := ⟨_, rfl⟩
  obtain ⟨b2, h2⟩ : ∃ b, validB 4096 lb = b := ⟨_, rfl⟩
  obtain ⟨b3, h3⟩ : ∃ b, validB 4096 (mergeL la lb) = b := ⟨_, rfl⟩
  obtain ⟨M, hM⟩ : ∃ M, mergeL la lb = M := ⟨_, rfl⟩
  obtain ⟨K, hK⟩ : ∃ K, mergeOk la lb = K := ⟨_, rfl⟩
  rw [h1, h2, h3, hK] at HO
  rw [h1] at HVA
  rw [h2] at HVB
  rw [h3] at HVM
  rw [hM] at HT HVM
  rw [hK, hM]
  clear h1 h2 h3 hM hK hA hB
  cases b1 with
  | false =>
    have HO2 := Lib.hid (show K = false by rw [HO.out]; rfl)
    go_enter Tryz.func24, Tryz.ntmps24
    go_wp2_with (first | (go_at_call 47; (refine HVA.out.mono ?_); rintro e w2 ⟨rfl, hb2⟩))
    go_ret2
    exact ⟨.inl ⟨HO2.out, rfl⟩, hb2⟩
  | true =>
    cases b2 with
    | false =>
      have HO2 := Lib.hid (show K = false by rw [HO.out]; rfl)
      go_enter Tryz.func24, Tryz.ntmps24
      go_wp2_with (first | (go_at_call 47; (refine HVA.out.mono ?_); rintro e w2 ⟨rfl, hb2⟩; clear HVA) | (go_at_call 47; (refine (HVB.out _ hb2).mono ?_); rintro e w3 ⟨rfl, hb3⟩))
      go_ret2
      exact ⟨.inl ⟨HO2.out, rfl⟩, hb2.trans (hb3.mono hb2.size)⟩
    | true =>
      cases b3 with
      | false =>
        have HO2 := Lib.hid (show K = false by rw [HO.out]; rfl)
        go_enter Tryz.func24, Tryz.ntmps24
        go_wp2_with (first | (go_at_call 47; (refine HVA.out.mono ?_); rintro e w2 ⟨rfl, hb2⟩; clear HVA) | (go_at_call 47; (refine (HVB.out _ hb2).mono ?_); rintro e w3 ⟨rfl, hb3⟩; have hb23 := hb2.trans (hb3.mono hb2.size); clear HVB hb2 hb3) | (go_at_call 56; (refine (HT.out _ hb23).mono ?_); rintro e w4 ⟨v, rfl, hv, hb4⟩; obtain ⟨O, co, rfl⟩ := Kd.N_slice hv; have HX := Lib.hid (HVM.out w4 O co _ _ hv)) | (go_at_call 47; (refine HX.out.mono ?_); rintro e w5 ⟨rfl, hb5⟩; clear HX))
        go_ret2
        exact ⟨.inl ⟨HO2.out, rfl⟩, (hb23.trans (hb4.mono hb23.size)).trans (hb5.mono (Nat.le_trans hb23.size hb4.size))⟩
      | true =>
        have HO2 := Lib.hid (show K = true by rw [HO.out]; rfl)
        go_enter Tryz.func24, Tryz.ntmps24
        go_wp2_with (first | (go_at_call 47; (refine HVA.out.mono ?_); rintro e w2 ⟨rfl, hb2⟩; clear HVA) | (go_at_call 47; (refine (HVB.out _ hb2).mono ?_); rintro e w3 ⟨rfl, hb3⟩; have hb23 := hb2.trans (hb3.mono hb2.size); clear HVB hb2 hb3) | (go_at_call 56; (refine (HT.out _ hb23).mono ?_); rintro e w4 ⟨v, rfl, hv, hb4⟩; obtain ⟨O, co, rfl⟩ := Kd.N_slice hv; have HX := Lib.hid (HVM.out w4 O co _ _ hv)) | (go_at_call 47; (refine HX.out.mono ?_); rintro e w5 ⟨rfl, hb5⟩; clear HX))
        go_ret2
        exact ⟨.inr ⟨HO2.out, _, rfl, Kd.N_lower (Kd.N_below hv hb5) hb23.size⟩, (hb23.trans (hb4.mono hb23.size)).trans (hb5.mono (Nat.le_trans hb23.size hb4.size))⟩
end Go.Proofs.YtpnhelcemodnmaaGreat

/- A list of freed pages cut into what fits in pages. -/
namespace Go.Proofs.YtpnhelcemodnmaaGreat
open Go.RowKit Go.Shelf Go.Proofs.YtpnhelcemodnmaaGreatW.PrintWords Go.Proofs.YtpnhelcemodnmaaGreatW.PrintLast Go.Proofs.YtpnhelcemodnmaaGreatW.PrintMore PA
set_option linter.unusedVariables false
set_option linter.unusedSimpArgs false
attribute [local go_sem] Oper.semAt_some
attribute [local go_sem] max2_int min2_int max_two min_two max_three min_three max_four min_four
/-- What fits in so much room, and what is left. -/
def cutL : Nat → List S64 → List S64 × List S64
  | _, [] => ([], [])
  | r, f :: t => if r < 12 then ([], f :: t) else if (r - 8) / 4 < f.f1.length then ([⟨f.f0, f.f1.take ((r - 8) / 4)⟩], ⟨f.f0, f.f1.drop ((r - 8) / 4)⟩ :: t)
    else (f :: (cutL (r - (8 + 4 * f.f1.length)) t).1, (cutL (r - (8 + 4 * f.f1.length)) t).2)
theorem cut_full {r : Nat} {f : S64} {t : List S64} (h : r < 12) : cutL r (f :: t) = ([], f :: t) := by rw [cutL, if_pos h]
theorem cut_part {r : Nat} {f : S64} {t : List S64} (h : ¬ r < 12) (h2 : (r - 8) / 4 < f.f1.length) : cutL r (f :: t) = ([⟨f.f0, f.f1.take ((r - 8) / 4)⟩], ⟨f.f0, f.f1.drop ((r - 8) / 4)⟩ :: t) := by rw [cutL, if_neg h, if_pos h2]
theorem cut_more {r : Nat} {f : S64} {t : List S64} (h : ¬ r < 12) (h2 : ¬ (r - 8) / 4 < f.f1.length) : cutL r (f :: t) = (f :: (cutL (r - (8 + 4 * f.f1.length)) t).1, (cutL (r - (8 + 4 * f.f1.length)) t).2) := by rw [cutL, if_neg h, if_neg h2]
theorem size3 : (Tryz.prog.info? 3).map (·.size) = some 1 := by kernel_rfl
theorem F_drop {W : World} {ok : Nat → Prop} {ad : Addr} {l : List S64} {c m : Nat} (h : Kd.F k64 W ok (some ad) l.length l) (hm : m ≤ l.length) (hc : l.length ≤ c) (hmc : m < c) : Kd.F k64 W ok (some (ad.add (m * 2))) (l.length - m) (l.drop m) := by
  refine Kd.F_imp h fun W' hC => ?_
  have := Kd.C_drop (m := m) hC hm hc
  rw [if_neg (by omega), List.length_drop] at this
  exact this
theorem F_rest {W : World} {ok : Nat → Prop} {A : Option Addr} {xs : List Int} {c m : Nat} (h : Kd.F (Kd.int .i64) W ok A xs.length xs) (hm : m ≤ xs.length) (hc : xs.length ≤ c) : Kd.F (Kd.int .i64) W ok (if c = m then A else A.map (·.add (m * 1))) (xs.drop m).length (xs.drop m) :=
  Kd.F_imp h fun W' hC => Kd.C_drop (m := m) hC hm hc
theorem elem_F {W : World} {ok : Nat → Prop} {A : Option Addr} {l : List S64} (h : Kd.F k64 W ok A l.length l) (k : Nat) (hk : k < l.length) : ∃ ad A1 c1, A = some ad ∧ W.cell? (ad.add (k * 2)) = some (.int .i64 (rd_T64 l (k : Int)).f0) ∧ W.cell? ⟨(ad.add (k * 2)).block, (ad.add (k * 2)).off + 1, none⟩ = some (.slice A1 (rd_T64 l (k : Int)).f1.length c1) ∧ (rd_T64 l (k : Int)).f1.length ≤ c1 ∧
    Kd.F (Kd.int .i64) W ok A1 (rd_T64 l (k : Int)).f1.length (rd_T64 l (k : Int)).f1 := by
  obtain ⟨ad, c, rfl, hcl, hFK, hcc⟩ := ReadsRow.get_ (Kd.F_rows h) z64 (k : Int) (by omega) (by omega)
  obtain ⟨A1, c1, rfl, hl1, hF1⟩ := k64_openF hFK
  rw [Int.toNat_natCast] at hcc
  exact ⟨ad, A1, c1, rfl, hcc 0 _ rfl, by rw [← add_field _ _ 1 (by omega)]; exact hcc 1 _ rfl, hl1, hF1⟩
/-- A row of the call's own of one element, whose rows are read only. -/
theorem N_one {W : World} {base n : Nat} {ok okp : Nat → Prop} {C : Array Value} {x : S64} (hb : W.heap[n]? = some (.cells C 64 (0, 0))) (hC : C.size = 2) (hF : Kd.FK k64 W okp x C.toList) (hn : base ≤ n) (hok : ok n) (hokp : ∀ k, okp k → ok k ∧ k ≠ n) : Kd.N k64 64 W base ok (.slice (some ⟨n, 0, none⟩) 1 1) [x] := by
  have hrow : W.ownsRow base 64 2 (.slice (some ⟨n, 0, none⟩) 1 1) 1 C.toList := ⟨by simp [hC], .inr ⟨n, 1, C, rfl, hn, hb, Nat.le_refl _, by unfold maxLen; omega, by rw [hC], by rw [Nat.one_mul, List.take_of_length_le (by simp [hC])]⟩⟩
  have hreps : Reps ((Kd.raw 2).M W base (fun k => (some k = (Value.slice (some ⟨n, 0, none⟩) 1 1).ownBlock) ∧ some k ≠ (Value.slice (some ⟨n, 0, none⟩) 1 1).ownBlock)) 2 [C.toList] C.toList := by
    refine ⟨by simp [hC], fun j p hj => ?_⟩
    cases j with
    | zero =>
      obtain rfl : C.toList = p := by simpa using hj
      rw [Nat.zero_mul, List.drop_zero, List.take_of_length_le (by simp [hC])]
      exact ⟨rfl, by simp [hC], k64.K_one (Kd.FK_now hF)⟩
    | succ j => simp at hj
  refine ⟨fun k hk => ?_, [C.toList], rfl, ⟨fun k hk => hk.symm, C.toList, hrow, hreps⟩, fun j y c hy hc => ?_⟩
  · have : n = k := by simpa [Value.ownBlock] using hk
    exact this ▸ hok
  · cases j with
    | zero =>
      obtain rfl : x = y := by simpa using hy
      obtain rfl : C.toList = c := by simpa using hc
      exact Kd.FK_mono hF fun k hk => ⟨(hokp k hk).1, fun e => (hokp k hk).2 (by simpa [Value.ownBlock] using e)⟩
    | succ j => simp at hy
end Go.Proofs.YtpnhelcemodnmaaGreat

/- The walk of cutPage. -/
namespace Go.Proofs.YtpnhelcemodnmaaGreat
open Go.RowKit Go.Shelf Go.Proofs.YtpnhelcemodnmaaGreatW.PrintWords Go.Proofs.YtpnhelcemodnmaaGreatW.PrintLast Go.Proofs.YtpnhelcemodnmaaGreatW.PrintMore PA
set_option linter.unusedVariables false
set_option linter.unusedSimpArgs false
attribute [local go_sem] Oper.semAt_some
attribute [local go_sem] max2_int min2_int max_two min_two max_three min_three max_four min_four
set_option maxRecDepth 100000 in
set_option maxHeartbeats 4000000 in
theorem cutPage_any (l : List S64) (A : Option Addr) (c : Nat) (w : World) (okp : Nat → Prop) (hF : Kd.F k64 w okp A l.length l) (hc : l.length ≤ c) (hn : ∀ f ∈ l, f.f1 ≠ []) (hs : l.length ≤ 3000000) :
    Calls Tryz.prog 122 #[.slice A l.length c] w fun e w' => ∃ p q, e = .returned (.tuple #[p, q]) ∧ k64.R 64 w' w.heap.size (fun _ => True) p (cutL 490 l).1 ∧ Kd.N k64 64 w' w.heap.size (fun k => okp k ∨ w.heap.size ≤ k) q (cutL 490 l).2 ∧ Below w.heap.size w w' := by
  have hC := Kd.F_now hF
  have HF := Aside0.mk hF
  clear hF
  go_enter Tryz.func122, Tryz.ntmps122
  go_wp2
  go_loopw [2, 3, 4, 10] (fun p q r i wr => ∃ (k r' : Nat), k ≤ l.length ∧ q = .slice none 0 0 ∧ i = .int .i64 k ∧ r = .int .i64 r' ∧ r' ≤ 490 ∧ Hid (cutL 490 l = (l.take k ++ (cutL r' (l.drop k)).1, (cutL r' (l.drop k)).2)) ∧ Aside0 (k64.R 64 wr w.heap.size (fun _ => True) p (l.take k)) ∧ Aside0 (Below w.heap.size w wr))
    (fun _ _ _ i _ => l.length - (intOf i).toNat)
  case atStart => exact ⟨0, 490, Nat.zero_le _, rfl, rfl, rfl, Nat.le_refl _, Lib.hid rfl, ⟨Kd.R_nil _ _ _ _ _⟩, ⟨Below.refl _ _⟩⟩
  case round =>
    obtain ⟨k, r, hk, rfl, rfl, rfl, hr, HL, HR, HB⟩ := hrel
    by_cases hlt : k < l.length
    · obtain ⟨ad, A1, c1, rfl, hx0, hx1, hl1, hFI⟩ := elem_F HF.out k hlt
      have hC1 := Kd.F_now (Kd.F_below hFI HB.out)
      replace hx0 := cellB HB.out (Nat.le_refl _) hx0
      replace hx1 := cellB HB.out (Nat.le_refl _) hx1
      have hel : rd_T64 l (k : Int) ∈ l := by rw [rd_nat l k hlt]; exact List.getElem_mem hlt
      have hdr : l.drop k = rd_T64 l (k : Int) :: l.drop (k + 1) := by rw [rd_nat l k hlt]; exact List.drop_eq_getElem_cons hlt
      have hpos := hn _ hel
      have HT := Lib.hid (take_rd l k hlt)
      have hk1 : k < l.length := hlt
      obtain ⟨x, hx⟩ : ∃ x, rd_T64 l (k : Int) = x := ⟨_, rfl⟩
      rw [hx] at hx0 hx1 hl1 hC1 hpos HT hdr hFI
      have HFI := Aside0.mk (Kd.F_bound hFI)
      have HX := Lib.hid hx
      have HD := Lib.hid hdr
      have hp1 : 0 < x.f1.length := List.length_pos_iff.2 hpos
      clear hx hdr hel hpos hFI
      have hfb := blk_new wr (.cells #[.int .i64 x.f0, .slice A1 x.f1.length c1] 64)
      have HCX := Aside0.mk (Kd.C_alloc hC1 (.cells #[.int .i64 x.f0, .slice A1 x.f1.length c1] 64))
      have HRX := Aside0.mk (Kd.R_below HR.out (below_alloc1 wr (.cells #[.int .i64 x.f0, .slice A1 x.f1.length c1] 64)))
      have HBA := Aside0.mk (HB.out.alloc HB.out.size (.cells #[.int .i64 x.f0, .slice A1 x.f1.length c1] 64))
      have hno : ∀ k : Nat, okp k → (okp k ∨ w.heap.size ≤ k) ∧ some k ≠ (Value.slice none 0 0).ownBlock := fun k hk => ⟨.inl hk, by simp [Value.ownBlock]⟩
      have HNO := Aside0.mk hno
      clear hno
      by_cases hr12 : r < 12
      · by_cases hmn : (x.f1.length : Int) < ((r : Int) - 8).tdiv 4
        all_goals
          have HFD := Aside0.mk (F_drop (Kd.F_below HF.out HBA.out) hk hc (by omega))
          have HND := Aside0.mk (Kd.N_nil k64 64 (wr.alloc (.cells #[.int .i64 x.f0, .slice A1 x.f1.length c1] 64)) w.heap.size (fun k => okp k ∨ w.heap.size ≤ k))
          have HBD := Aside0.mk (show (([] : List S64).length + (l.length - k)) * 32 ≤ 140737488355328 by simp; omega)
          clear hC hfb
          go_wp2_with (at_builtin; refine Kd.N_append_rows k64 (w0 := w) w.heap.size rfl (.tmp 29) (.tmp 32) 26 64 (.agg #[.int .i64 0, .slice none 0 0]) 32 rfl Tryz.underlying26 info64 rfl (by decide) (by decide) (.slice none 0 0) [] (l.drop k) _ _ _ (fun q => okp q ∨ w.heap.size ≤ q) okp rfl rfl HND.out HFD.out HNO.out (fun q hq => .inr (Nat.le_trans HBA.out.size hq)) HBA.out HBA.out.size HBD.out ?_; intro q1 w9 hq1 hb1 hg1 hat1)
          go_ret2
          refine ⟨_, _, rfl, ?_, ?_, hb1⟩
          · rw [HL.out, HD.out, cut_full hr12, List.append_nil]
            exact Kd.R_grown HRX.out hg1 (fun _ _ => by simp [Value.ownBlock])
          · rw [HL.out, HD.out, cut_full hr12, ← HD.out]
            simpa using hq1
      · have hr3 : decide ((r : Int) < 12) = false := decide_eq_false (by omega)
        by_cases hn1 : (r - 8) / 4 < x.f1.length
        · obtain ⟨g, hg⟩ : ∃ g, x.f1.take ((r - 8) / 4) = g := ⟨_, rfl⟩
          have hgl0 : g.length = (r - 8) / 4 := by rw [← hg, List.length_take]; omega
          have GC : (Kd.int .i64).C wr A1 g.length g := by rw [← hg]; exact Kd.C_take hC1 (by omega)
          have HGE := Lib.hid hg
          have HCUT := Lib.hid (cut_part (t := l.drop (k + 1)) hr12 hn1)
          have hmn : ((r : Int) - 8) / 4 < (x.f1.length : Int) := by omega
          have hnn : ((r : Int) - 8) / 4 = (g.length : Int) := by omega
          have hd1 : decide ((g.length : Int) < 1) = false := decide_eq_false (by omega)
          have hg1 : g.length < x.f1.length := by omega
          have hcle : g.length ≤ c1 := by omega
          have hr8 : 8 + 4 * g.length ≤ r := by omega
          have HGL := Lib.hid hgl0
          clear hgl0 hg
          go_upto_region 8 with (fail)
          clear hnn
          have hC1g : (Kd.int .i64).C wr A1 g.length g := GC
          have hgc : g.length ≤ c1 := hcle
          obtain ⟨W0, hW0⟩ : ∃ W0, wr.alloc (.cells #[.int .i64 x.f0, .slice A1 x.f1.length c1] 64) = W0 := ⟨_, rfl⟩
          have hsz0 : W0.heap.size = wr.heap.size + 1 := by rw [← hW0]; simp
          have HCA := Aside0.mk (Kd.C_below hC1g (below_alloc1 wr (.cells #[.int .i64 x.f0, .slice A1 x.f1.length c1] 64)))
          rw [hW0] at HCX HRX HBA hfb HCA ⊢
          obtain ⟨Bf, hBf⟩ : ∃ Bf, wr.heap.size = Bf := ⟨_, rfl⟩
          have hne : some Bf ≠ Value.ownBlock u2 := fun e => by have := Kd.R_lt HR.out _ e.symm; omega
          have HNE := Aside0.mk hne
          rw [hBf] at hsz0 hfb ⊢
          have HRA := Aside0.mk (Kd.R_mono (ok' := fun k => True ∧ some k ≠ (Value.slice none 0 0).ownBlock) HRX.out (fun q _ => ⟨trivial, by simp [Value.ownBlock]⟩))
          have HG8 := Aside0.mk (show g.length * 8 ≤ 140737488355328 by omega)
          have HRL := Aside0.mk (show ((l.take k).length + 1) * 32 ≤ 140737488355328 by rw [List.length_take]; omega)
          have HBF := Aside0.mk hBf
          clear hne hW0 hx0 hx1 hC1 hC1g hBf hC
          refine wp_region_held_drew (S := fun W => W.heap[Bf]? = some (.cells #[.int .i64 x.f0, .slice A1 x.f1.length c1] 64 (0, 0))) (by kernel_rfl) (hfb) (fun hS => ?_)
          simp only [List.size_toArray, List.length_cons, List.length_nil, Nat.reduceAdd, Array.replicate_succ, Array.replicate_zero, List.push_toArray, List.nil_append, List.cons_append]
          refine take_at (i := 0) 34 (u2) rfl rfl (by kernel_rfl) (by kernel_rfl) (by kernel_rfl) (fun _ _ _ h => h) (Or.inl ⟨by rfl, fun W hW => by go_simp⟩) hS ?_
          try simp only [List.setIfInBounds_toArray, List.set_cons_zero, List.set_cons_succ]
          refine take_at (i := 1) 35 (.pointer (some ⟨Bf, 0, none⟩)) rfl rfl (by kernel_rfl) (by kernel_rfl) (by kernel_rfl) (fun _ _ _ h => h) (Or.inl ⟨by rfl, fun W hW => by go_simp⟩) hS ?_
          try simp only [List.setIfInBounds_toArray, List.set_cons_zero, List.set_cons_succ]
          refine take_at (i := 2) 36 (.int .i64 x.f0) rfl rfl (by kernel_rfl) (by kernel_rfl) (by kernel_rfl) (fun _ _ _ h => h) (Or.inl ⟨by rfl, fun W hW => by have h0 : W.cell? ⟨Bf, 0, none⟩ = some (.int .i64 x.f0) := (blk_cell hW 0).trans rfl; go_simp⟩) hS ?_
          try simp only [List.setIfInBounds_toArray, List.set_cons_zero, List.set_cons_succ]
          refine take_at (i := 3) 37 (.pointer (some ⟨Bf, 1, none⟩)) rfl rfl (by kernel_rfl) (by kernel_rfl) (by kernel_rfl) (fun _ _ _ h => h) (Or.inl ⟨by rfl, fun W hW => by go_simp⟩) hS ?_
          try simp only [List.setIfInBounds_toArray, List.set_cons_zero, List.set_cons_succ]
          refine take_at (i := 4) 38 (.slice A1 x.f1.length c1) rfl rfl (by kernel_rfl) (by kernel_rfl) (by kernel_rfl) (fun _ _ _ h => h) (Or.inl ⟨by rfl, fun W hW => by have h0 : W.cell? ⟨Bf, 1, none⟩ = some (.slice A1 x.f1.length c1) := (blk_cell hW 1).trans rfl; go_simp⟩) hS ?_
          try simp only [List.setIfInBounds_toArray, List.set_cons_zero, List.set_cons_succ]
          refine take_at (i := 5) 39 (.int .i64 (g.length : Int)) rfl rfl (by kernel_rfl) (by kernel_rfl) (by kernel_rfl) (fun _ _ _ h => h) (Or.inl ⟨by rfl, fun W hW => by go_simp⟩) hS ?_
          try simp only [List.setIfInBounds_toArray, List.set_cons_zero, List.set_cons_succ]
          refine take_at (i := 6) 40 (.slice A1 g.length c1) rfl rfl (by kernel_rfl) (by kernel_rfl) (by kernel_rfl) (fun _ _ _ h => h) (Or.inl ⟨by rfl, fun W hW => exec_sliceTo _ 23 3 1 (.tmp 38) (.tmp 39) rfl A1 x.f1.length c1 g.length rfl rfl Tryz.underlying23 size3 hgc⟩) hS ?_
          try simp only [List.setIfInBounds_toArray, List.set_cons_zero, List.set_cons_succ]
          refine wpAnyH_ready (rs := [7]) (by kernel_rfl) (by simp) ?_
          refine AllReadyH.cons rfl (fun K hK => ?_) AllReadyH.nil
          go_simp
          refine (cloneInt g A1 c1 _ (Kd.C_drew HCA.out) HG8.out).mono ?_
          rintro e w1 ⟨cv, rfl, hcv, hcb⟩
          obtain ⟨cA, cc, rfl⟩ := Kd.R_slice hcv
          refine hK.out _ _ (blk_below hS hcb) (fun hS => ?_)
          clear hK K
          try simp only [Act.put, List.getElem_toArray, List.getElem_cons_succ, List.getElem_cons_zero, List.setIfInBounds_toArray, List.set_cons_zero, List.set_cons_succ]
          refine take_at (i := 8) 42 (.agg #[.int .i64 x.f0, .slice cA g.length cc]) rfl rfl (by kernel_rfl) (by kernel_rfl) (by kernel_rfl) (fun _ _ _ h => h) (Or.inl ⟨by rfl, fun W hW => by have h0 := build64 x.f0 cA g.length cc W; go_simp⟩) hS ?_
          try simp only [List.setIfInBounds_toArray, List.set_cons_zero, List.set_cons_succ]
          refine wpAnyH_ready (rs := [9]) (by kernel_rfl) (by simp) ?_
          refine AllReadyH.cons rfl (fun K hK => ?_) AllReadyH.nil
          rw [if_pos (by rfl)]
          refine oper_build1 (.tmp 42) rfl rfl (build26 x.f0 cA g.length cc _) ?_
          refine hK.out _ _ (blk_alloc hS _) (fun hS => ?_)
          clear hK K
          try simp only [Act.put, List.getElem_toArray, List.getElem_cons_succ, List.getElem_cons_zero, List.setIfInBounds_toArray, List.set_cons_zero, List.set_cons_succ]
          refine wpAnyH_ready (rs := [10]) (by kernel_rfl) (by simp) ?_
          refine AllReadyH.cons rfl (fun K hK => ?_) AllReadyH.nil
          obtain ⟨q1, q2, q3, q4, q5, q6⟩ := push_ready (w := w) (W0 := W0.drew) (v := x.f0) (Kd.R_nil (Kd.int .i64) 3 W0.drew w.heap.size (fun _ => True)) (Kd.R_drew HRA.out) HBA.out.drew hcv hcb
          refine Kd.R_append_rows_step k64 (w0 := w) w.heap.size (by rfl) (.tmp 34) (.tmp 43) 26 64 (.agg #[.int .i64 0, .slice none 0 0]) 32 rfl Tryz.underlying26 info64 rfl (by decide) (by decide) u2 (l.take k) [⟨x.f0, g⟩] _ 1 1 (fun k => True ∧ some k ≠ (Value.slice none 0 0).ownBlock) (fun k => W0.drew.heap.size ≤ k) rfl rfl q1 q2 (fun _ _ h => h) q3 q4 q5 q5.size HRL.out ?_
          intro p1 w9 hp1 hb1 hg1 hat1
          refine hK.out _ _ (blk_grown hS hg1 HNE.out) (fun hS => ?_)
          clear hK K
          try simp only [Act.put, List.getElem_toArray, List.getElem_cons_succ, List.getElem_cons_zero, List.setIfInBounds_toArray, List.set_cons_zero, List.set_cons_succ]
          refine take_at (i := 11) 2 (p1) rfl rfl (by kernel_rfl) (by kernel_rfl) (by kernel_rfl) (fun _ _ _ h => h) (Or.inl ⟨by rfl, fun W hW => by go_simp⟩) hS ?_
          try simp only [List.setIfInBounds_toArray, List.set_cons_zero, List.set_cons_succ]
          refine wpAnyH_done (by kernel_rfl) ?_ _
          have hfb9 := hS
          clear hS
          have hcc1 : w9.cell? ⟨Bf, 1, none⟩ = some (.slice A1 x.f1.length c1) := (blk_cell hfb9 1).trans rfl
          have hcc0 : w9.cell? ⟨Bf, 0, none⟩ = some (.int .i64 x.f0) := (blk_cell hfb9 0).trans rfl
          have hq0 : (0 : Int) ≤ (r : Int) - (8 + 4 * (g.length : Int)) := by omega
          obtain ⟨A3, hA3⟩ : ∃ A3, (if c1 = g.length then A1 else A1.map (·.add (g.length * 1))) = A3 := ⟨_, rfl⟩
          have hF3 := F_rest (m := g.length) HFI.out (by omega) hl1
          rw [hA3] at hF3
          have HF3 := Aside0.mk hF3
          have HA3 := Lib.hid hA3
          have hgl : g.length ≤ x.f1.length := by omega
          clear hA3 hF3
          go_upto_region 11 with (fail)
          refine wp_region_held_drew (S := fun W => W.heap[Bf]? = some (.cells #[.int .i64 x.f0, .slice A1 x.f1.length c1] 64 (0, 0))) (by kernel_rfl) (hfb9) (fun hS => ?_)
          simp only [List.size_toArray, List.length_cons, List.length_nil, Nat.reduceAdd, Array.replicate_succ, Array.replicate_zero, List.push_toArray, List.nil_append, List.cons_append]
          refine take_at (i := 0) 55 (.pointer (some ⟨Bf, 0, none⟩)) rfl rfl (by kernel_rfl) (by kernel_rfl) (by kernel_rfl) (fun _ _ _ h => h) (Or.inl ⟨by rfl, fun W hW => by go_simp⟩) hS ?_
          try simp only [List.setIfInBounds_toArray, List.set_cons_zero, List.set_cons_succ]
          refine take_at (i := 1) 56 (.int .i64 x.f0) rfl rfl (by kernel_rfl) (by kernel_rfl) (by kernel_rfl) (fun _ _ _ h => h) (Or.inl ⟨by rfl, fun W hW => by have h0 : W.cell? ⟨Bf, 0, none⟩ = some (.int .i64 x.f0) := (blk_cell hW 0).trans rfl; go_simp⟩) hS ?_
          try simp only [List.setIfInBounds_toArray, List.set_cons_zero, List.set_cons_succ]
          refine take_at (i := 2) 57 (.pointer (some ⟨Bf, 1, none⟩)) rfl rfl (by kernel_rfl) (by kernel_rfl) (by kernel_rfl) (fun _ _ _ h => h) (Or.inl ⟨by rfl, fun W hW => by go_simp⟩) hS ?_
          try simp only [List.setIfInBounds_toArray, List.set_cons_zero, List.set_cons_succ]
          refine take_at (i := 3) 58 (.slice A1 x.f1.length c1) rfl rfl (by kernel_rfl) (by kernel_rfl) (by kernel_rfl) (fun _ _ _ h => h) (Or.inl ⟨by rfl, fun W hW => by have h0 : W.cell? ⟨Bf, 1, none⟩ = some (.slice A1 x.f1.length c1) := (blk_cell hW 1).trans rfl; go_simp⟩) hS ?_
          try simp only [List.setIfInBounds_toArray, List.set_cons_zero, List.set_cons_succ]
          refine take_at (i := 4) 59 (.int .i64 (g.length : Int)) rfl rfl (by kernel_rfl) (by kernel_rfl) (by kernel_rfl) (fun _ _ _ h => h) (Or.inl ⟨by rfl, fun W hW => by go_simp⟩) hS ?_
          try simp only [List.setIfInBounds_toArray, List.set_cons_zero, List.set_cons_succ]
          refine take_at (i := 5) 60 (.slice A3 (x.f1.length - g.length) (c1 - g.length)) rfl rfl (by kernel_rfl) (by kernel_rfl) (by kernel_rfl) (fun _ _ _ h => h) (Or.inl ⟨by rfl, fun W hW => (exec_sliceFrom _ 23 3 1 (.tmp 58) (.tmp 59) rfl A1 x.f1.length c1 g.length rfl rfl Tryz.underlying23 size3 hgl).trans (by rw [HA3.out])⟩) hS ?_
          try simp only [List.setIfInBounds_toArray, List.set_cons_zero, List.set_cons_succ]
          refine take_at (i := 6) 61 (.agg #[.int .i64 x.f0, .slice A3 (x.f1.length - g.length) (c1 - g.length)]) rfl rfl (by kernel_rfl) (by kernel_rfl) (by kernel_rfl) (fun _ _ _ h => h) (Or.inl ⟨by rfl, fun W hW => by have h0 := build64 x.f0 A3 (x.f1.length - g.length) (c1 - g.length) W; go_simp⟩) hS ?_
          try simp only [List.setIfInBounds_toArray, List.set_cons_zero, List.set_cons_succ]
          refine wpAnyH_ready (rs := [7]) (by kernel_rfl) (by simp) ?_
          refine AllReadyH.cons rfl (fun K hK => ?_) AllReadyH.nil
          rw [if_pos (by rfl)]
          refine oper_build1 (.tmp 61) rfl rfl (build26 x.f0 A3 (x.f1.length - g.length) (c1 - g.length) _) ?_
          refine hK.out _ _ (blk_alloc hS _) (fun hS => ?_)
          clear hK K
          try simp only [Act.put, List.getElem_toArray, List.getElem_cons_succ, List.getElem_cons_zero, List.setIfInBounds_toArray, List.set_cons_zero, List.set_cons_succ]
          refine take_at (i := 8) 3 (.slice (some ⟨w9.drew.heap.size, 0, none⟩) 1 1) rfl rfl (by kernel_rfl) (by kernel_rfl) (by kernel_rfl) (fun _ _ _ h => h) (Or.inl ⟨by rfl, fun W hW => by go_simp⟩) hS ?_
          try simp only [List.setIfInBounds_toArray, List.set_cons_zero, List.set_cons_succ]
          refine wpAnyH_done (by kernel_rfl) ?_ _
          obtain ⟨W5, hW5⟩ : ∃ W5, w9.drew.alloc (.cells #[.int .i64 x.f0, .slice A3 (x.f1.length - g.length) (c1 - g.length)] 64) = W5 := ⟨_, rfl⟩
          have hnb : W5.heap[w9.heap.size]? = some (.cells #[.int .i64 x.f0, .slice A3 (x.f1.length - g.length) (c1 - g.length)] 64 (0, 0)) := by rw [← hW5]; exact blk_new w9.drew _
          have hsW := hb1.size
          have hB5 : Below w.heap.size w W5 := by rw [← hW5]; exact hb1.drew.alloc (by exact hb1.size) _
          have hp5 : k64.R 64 W5 w.heap.size (fun k => k < w9.heap.size) p1 (l.take k ++ [⟨x.f0, g⟩]) := by rw [← hW5]; exact Kd.R_below (Kd.R_drew (Kd.R_mono (Kd.R_bound hp1) (fun q hq => hq.2.2.1))) (below_alloc1 w9.drew _)
          have hplt := Kd.R_lt hp1
          have hfk : Kd.FK k64 W5 (fun q => okp q ∧ q < w.heap.size) (⟨x.f0, x.f1.drop g.length⟩ : S64) [.int .i64 x.f0, .slice A3 (x.f1.length - g.length) (c1 - g.length)] := by
            have := k64_mkF W5 _ (⟨x.f0, x.f1.drop g.length⟩ : S64) (A1 := A3) (c1 := c1 - g.length) (by rw [List.length_drop]; omega) (Kd.F_below HF3.out hB5)
            rw [List.length_drop] at this
            exact this
          have HN5 := Aside0.mk (N_one (base := w.heap.size) (ok := fun q => okp q ∨ w.heap.size ≤ q) hnb rfl hfk hsW (.inr hsW) (fun q hq => ⟨.inl hq.1, by have := hq.2; omega⟩))
          have HB5 := Aside0.mk hB5
          have HP5 := Aside0.mk hp5
          have HNB := Aside0.mk hnb
          have hpne : ∀ q, Value.ownBlock p1 = some q → some q ≠ (Value.slice (some ⟨w9.heap.size, 0, none⟩) 1 1).ownBlock := fun q hq e => by have := hplt q hq; simp [Value.ownBlock] at e; omega
          have HPN := Aside0.mk hpne
          rw [show w9.drew.heap.size = w9.heap.size from rfl, hW5]
          obtain ⟨n5, hn5⟩ : ∃ n, w9.heap.size = n := ⟨_, rfl⟩
          rw [hn5] at HN5 HPN HP5 ⊢
          have HN5S := Lib.hid hn5
          have hnw : w.heap.size ≤ n5 := hn5 ▸ hsW
          have HNO5 := Aside0.mk (show ∀ q, (okp q ∧ q < w.heap.size) → (okp q ∨ w.heap.size ≤ q) ∧ some q ≠ (Value.slice (some ⟨n5, 0, none⟩) 1 1).ownBlock from fun q hq => ⟨.inl hq.1, fun e => by have := hq.2; simp [Value.ownBlock] at e; omega⟩)
          clear hW5 hnb hB5 hp5 hfk hpne hn5 hp1 hb1 hfb9 hcc0 hcc1 hplt hsW hS
          have hbd5 : (([⟨x.f0, x.f1.drop g.length⟩] : List S64).length + (l.length - (k + 1))) * 32 ≤ 140737488355328 := by simp; omega
          have HBD5 := Aside0.mk hbd5
          clear hbd5
          by_cases hck : c = k + 1
          · have HRD : Aside0 (Kd.F k64 W5 (fun q => okp q ∧ q < w.heap.size) (some ad) 0 (l.drop (k + 1))) := ⟨fun W2 hW2 => ⟨by rw [List.length_drop]; omega, by omega, fun h => absurd h (Nat.lt_irrefl 0)⟩⟩
            have hbd0 : (([⟨x.f0, x.f1.drop g.length⟩] : List S64).length + 0) * 32 ≤ 140737488355328 := by simp
            have HBD0 := Aside0.mk hbd0
            subst hck
            go_wp2_with (at_builtin; refine Kd.N_append_rows k64 (w0 := w) w.heap.size rfl (.tmp 64) (.tmp 68) 26 64 (.agg #[.int .i64 0, .slice none 0 0]) 32 rfl Tryz.underlying26 info64 rfl (by decide) (by decide) _ _ (l.drop (k + 1)) _ _ _ (fun q => okp q ∨ w.heap.size ≤ q) (fun q => okp q ∧ q < w.heap.size) rfl rfl HN5.out HRD.out HNO5.out (fun q hq => .inr (Nat.le_trans HB5.out.size hq)) HB5.out HB5.out.size HBD0.out ?_; intro q1 w6 hq1 hb6 hg6 hat6)
            go_ret2
            exact ⟨_, _, rfl, by rw [HL.out, HD.out, HCUT.out, HGE.out]; exact Kd.R_mono (Kd.R_grown HP5.out hg6 (fun q hq e => by have h2 : q < n5 := hq; have e2 : some q = some n5 := e; injection e2 with e2; omega)) (fun _ _ => trivial), by rw [HL.out, HD.out, HCUT.out, ← HGL.out]; exact hq1, hb6⟩
          · have HRD : Aside0 (Kd.F k64 W5 (fun q => okp q ∧ q < w.heap.size) (some (ad.add ((k + 1) * 2))) (l.length - (k + 1)) (l.drop (k + 1))) := ⟨F_drop (Kd.F_below (Kd.F_bound HF.out) HB5.out) hk1 hc (by omega)⟩
            go_wp2_with (at_builtin; refine Kd.N_append_rows k64 (w0 := w) w.heap.size rfl (.tmp 64) (.tmp 68) 26 64 (.agg #[.int .i64 0, .slice none 0 0]) 32 rfl Tryz.underlying26 info64 rfl (by decide) (by decide) _ _ (l.drop (k + 1)) _ _ _ (fun q => okp q ∨ w.heap.size ≤ q) (fun q => okp q ∧ q < w.heap.size) rfl rfl HN5.out HRD.out HNO5.out (fun q hq => .inr (Nat.le_trans HB5.out.size hq)) HB5.out HB5.out.size HBD5.out ?_; intro q1 w6 hq1 hb6 hg6 hat6)
            go_ret2
            exact ⟨_, _, rfl, by rw [HL.out, HD.out, HCUT.out, HGE.out]; exact Kd.R_mono (Kd.R_grown HP5.out hg6 (fun q hq e => by have h2 : q < n5 := hq; have e2 : some q = some n5 := e; injection e2 with e2; omega)) (fun _ _ => trivial), by rw [HL.out, HD.out, HCUT.out, ← HGL.out]; exact hq1, hb6⟩
        · obtain ⟨g, hg⟩ : ∃ g, x.f1 = g := ⟨_, rfl⟩
          have GC : (Kd.int .i64).C wr A1 g.length g := hg ▸ hC1
          have HCUT := Lib.hid (cut_more (t := l.drop (k + 1)) hr12 hn1)
          have hmin : (if (x.f1.length : Int) < ((r : Int) - 8) / 4 then (x.f1.length : Int) else ((r : Int) - 8) / 4) = (g.length : Int) := by rw [← hg]; split <;> omega
          have hd1 : decide ((g.length : Int) < 1) = false := decide_eq_false (by rw [← hg]; omega)
          have HGE := Lib.hid hg
          have hg1 : x.f1.length ≤ g.length := by rw [hg]; exact Nat.le_refl _
          have hcle : g.length ≤ c1 := by rw [← hg]; exact hl1
          have hr8 : 8 + 4 * g.length ≤ r := by rw [← hg]; omega
          clear hg
          go_upto_region 8 with (fail)
          clear hmin
          have hC1g : (Kd.int .i64).C wr A1 g.length g := GC
          have hgc : g.length ≤ c1 := hcle
          obtain ⟨W0, hW0⟩ : ∃ W0, wr.alloc (.cells #[.int .i64 x.f0, .slice A1 x.f1.length c1] 64) = W0 := ⟨_, rfl⟩
          have hsz0 : W0.heap.size = wr.heap.size + 1 := by rw [← hW0]; simp
          have HCA := Aside0.mk (Kd.C_below hC1g (below_alloc1 wr (.cells #[.int .i64 x.f0, .slice A1 x.f1.length c1] 64)))
          rw [hW0] at HCX HRX HBA hfb HCA ⊢
          obtain ⟨Bf, hBf⟩ : ∃ Bf, wr.heap.size = Bf := ⟨_, rfl⟩
          have hne : some Bf ≠ Value.ownBlock u2 := fun e => by have := Kd.R_lt HR.out _ e.symm; omega
          have HNE := Aside0.mk hne
          rw [hBf] at hsz0 hfb ⊢
          have HRA := Aside0.mk (Kd.R_mono (ok' := fun k => True ∧ some k ≠ (Value.slice none 0 0).ownBlock) HRX.out (fun q _ => ⟨trivial, by simp [Value.ownBlock]⟩))
          have HG8 := Aside0.mk (show g.length * 8 ≤ 140737488355328 by omega)
          have HRL := Aside0.mk (show ((l.take k).length + 1) * 32 ≤ 140737488355328 by rw [List.length_take]; omega)
          have HBF := Aside0.mk hBf
          clear hne hW0 hx0 hx1 hC1 hC1g hBf hC
          refine wp_region_held_drew (S := fun W => W.heap[Bf]? = some (.cells #[.int .i64 x.f0, .slice A1 x.f1.length c1] 64 (0, 0))) (by kernel_rfl) (hfb) (fun hS => ?_)
          simp only [List.size_toArray, List.length_cons, List.length_nil, Nat.reduceAdd, Array.replicate_succ, Array.replicate_zero, List.push_toArray, List.nil_append, List.cons_append]
          refine take_at (i := 0) 34 (u2) rfl rfl (by kernel_rfl) (by kernel_rfl) (by kernel_rfl) (fun _ _ _ h => h) (Or.inl ⟨by rfl, fun W hW => by go_simp⟩) hS ?_
          try simp only [List.setIfInBounds_toArray, List.set_cons_zero, List.set_cons_succ]
          refine take_at (i := 1) 35 (.pointer (some ⟨Bf, 0, none⟩)) rfl rfl (by kernel_rfl) (by kernel_rfl) (by kernel_rfl) (fun _ _ _ h => h) (Or.inl ⟨by rfl, fun W hW => by go_simp⟩) hS ?_
          try simp only [List.setIfInBounds_toArray, List.set_cons_zero, List.set_cons_succ]
          refine take_at (i := 2) 36 (.int .i64 x.f0) rfl rfl (by kernel_rfl) (by kernel_rfl) (by kernel_rfl) (fun _ _ _ h => h) (Or.inl ⟨by rfl, fun W hW => by have h0 : W.cell? ⟨Bf, 0, none⟩ = some (.int .i64 x.f0) := (blk_cell hW 0).trans rfl; go_simp⟩) hS ?_
          try simp only [List.setIfInBounds_toArray, List.set_cons_zero, List.set_cons_succ]
          refine take_at (i := 3) 37 (.pointer (some ⟨Bf, 1, none⟩)) rfl rfl (by kernel_rfl) (by kernel_rfl) (by kernel_rfl) (fun _ _ _ h => h) (Or.inl ⟨by rfl, fun W hW => by go_simp⟩) hS ?_
          try simp only [List.setIfInBounds_toArray, List.set_cons_zero, List.set_cons_succ]
          refine take_at (i := 4) 38 (.slice A1 x.f1.length c1) rfl rfl (by kernel_rfl) (by kernel_rfl) (by kernel_rfl) (fun _ _ _ h => h) (Or.inl ⟨by rfl, fun W hW => by have h0 : W.cell? ⟨Bf, 1, none⟩ = some (.slice A1 x.f1.length c1) := (blk_cell hW 1).trans rfl; go_simp⟩) hS ?_
          try simp only [List.setIfInBounds_toArray, List.set_cons_zero, List.set_cons_succ]
          refine take_at (i := 5) 39 (.int .i64 (g.length : Int)) rfl rfl (by kernel_rfl) (by kernel_rfl) (by kernel_rfl) (fun _ _ _ h => h) (Or.inl ⟨by rfl, fun W hW => by go_simp⟩) hS ?_
          try simp only [List.setIfInBounds_toArray, List.set_cons_zero, List.set_cons_succ]
          refine take_at (i := 6) 40 (.slice A1 g.length c1) rfl rfl (by kernel_rfl) (by kernel_rfl) (by kernel_rfl) (fun _ _ _ h => h) (Or.inl ⟨by rfl, fun W hW => exec_sliceTo _ 23 3 1 (.tmp 38) (.tmp 39) rfl A1 x.f1.length c1 g.length rfl rfl Tryz.underlying23 size3 hgc⟩) hS ?_
          try simp only [List.setIfInBounds_toArray, List.set_cons_zero, List.set_cons_succ]
          refine wpAnyH_ready (rs := [7]) (by kernel_rfl) (by simp) ?_
          refine AllReadyH.cons rfl (fun K hK => ?_) AllReadyH.nil
          go_simp
          refine (cloneInt g A1 c1 _ (Kd.C_drew HCA.out) HG8.out).mono ?_
          rintro e w1 ⟨cv, rfl, hcv, hcb⟩
          obtain ⟨cA, cc, rfl⟩ := Kd.R_slice hcv
          refine hK.out _ _ (blk_below hS hcb) (fun hS => ?_)
          clear hK K
          try simp only [Act.put, List.getElem_toArray, List.getElem_cons_succ, List.getElem_cons_zero, List.setIfInBounds_toArray, List.set_cons_zero, List.set_cons_succ]
          refine take_at (i := 8) 42 (.agg #[.int .i64 x.f0, .slice cA g.length cc]) rfl rfl (by kernel_rfl) (by kernel_rfl) (by kernel_rfl) (fun _ _ _ h => h) (Or.inl ⟨by rfl, fun W hW => by have h0 := build64 x.f0 cA g.length cc W; go_simp⟩) hS ?_
          try simp only [List.setIfInBounds_toArray, List.set_cons_zero, List.set_cons_succ]
          refine wpAnyH_ready (rs := [9]) (by kernel_rfl) (by simp) ?_
          refine AllReadyH.cons rfl (fun K hK => ?_) AllReadyH.nil
          rw [if_pos (by rfl)]
          refine oper_build1 (.tmp 42) rfl rfl (build26 x.f0 cA g.length cc _) ?_
          refine hK.out _ _ (blk_alloc hS _) (fun hS => ?_)
          clear hK K
          try simp only [Act.put, List.getElem_toArray, List.getElem_cons_succ, List.getElem_cons_zero, List.setIfInBounds_toArray, List.set_cons_zero, List.set_cons_succ]
          refine wpAnyH_ready (rs := [10]) (by kernel_rfl) (by simp) ?_
          refine AllReadyH.cons rfl (fun K hK => ?_) AllReadyH.nil
          obtain ⟨q1, q2, q3, q4, q5, q6⟩ := push_ready (w := w) (W0 := W0.drew) (v := x.f0) (Kd.R_nil (Kd.int .i64) 3 W0.drew w.heap.size (fun _ => True)) (Kd.R_drew HRA.out) HBA.out.drew hcv hcb
          refine Kd.R_append_rows_step k64 (w0 := w) w.heap.size (by rfl) (.tmp 34) (.tmp 43) 26 64 (.agg #[.int .i64 0, .slice none 0 0]) 32 rfl Tryz.underlying26 info64 rfl (by decide) (by decide) u2 (l.take k) [⟨x.f0, g⟩] _ 1 1 (fun k => True ∧ some k ≠ (Value.slice none 0 0).ownBlock) (fun k => W0.drew.heap.size ≤ k) rfl rfl q1 q2 (fun _ _ h => h) q3 q4 q5 q5.size HRL.out ?_
          intro p1 w9 hp1 hb1 hg1 hat1
          refine hK.out _ _ (blk_grown hS hg1 HNE.out) (fun hS => ?_)
          clear hK K
          try simp only [Act.put, List.getElem_toArray, List.getElem_cons_succ, List.getElem_cons_zero, List.setIfInBounds_toArray, List.set_cons_zero, List.set_cons_succ]
          refine take_at (i := 11) 2 (p1) rfl rfl (by kernel_rfl) (by kernel_rfl) (by kernel_rfl) (fun _ _ _ h => h) (Or.inl ⟨by rfl, fun W hW => by go_simp⟩) hS ?_
          try simp only [List.setIfInBounds_toArray, List.set_cons_zero, List.set_cons_succ]
          refine wpAnyH_done (by kernel_rfl) ?_ _
          have hfb9 := hS
          clear hS
          have hcc1 : w9.cell? ⟨Bf, 1, none⟩ = some (.slice A1 x.f1.length c1) := (blk_cell hfb9 1).trans rfl
          have hq0 : (0 : Int) ≤ (r : Int) - (8 + 4 * (g.length : Int)) := by omega
          go_wp2
          go_roundw
          case rel => exact ⟨k + 1, r - (8 + 4 * g.length), by omega, rfl, by go_num, by go_num, by omega, Lib.hid (by rw [HL.out, HD.out, HCUT.out, HT.out, HGE.out, List.append_assoc]; rfl), ⟨by rw [HT.out, show x = ⟨x.f0, g⟩ by rw [← HGE.out]]; exact Kd.R_mono hp1 (fun _ _ => trivial)⟩, ⟨hb1⟩⟩
          case measure => simp [intOf]; omega
    · obtain rfl : k = l.length := by omega
      have hE : cutL 490 l = (l, []) := by
        have := HL.out
        rw [List.take_length, List.drop_length, cutL, List.append_nil] at this
        exact this
      have HE := Lib.hid hE
      have HR2 := HR
      rw [List.take_length] at HR2
      clear hE HL HR
      go_wp2_with fail
      go_ret2
      exact ⟨_, _, rfl, by rw [HE.out]; exact HR2.out, by rw [HE.out]; exact Kd.N_nil _ _ _ _ _, HB.out⟩
end Go.Proofs.YtpnhelcemodnmaaGreat

/- The parts of a list of freed pages; ListNeeds. -/
namespace Go.Proofs.YtpnhelcemodnmaaGreat
open Go.RowKit Go.Shelf Go.Proofs.YtpnhelcemodnmaaGreatW.PrintWords Go.Proofs.YtpnhelcemodnmaaGreatW.PrintLast Go.Proofs.YtpnhelcemodnmaaGreatW.PrintMore PA
set_option linter.unusedVariables false
set_option linter.unusedSimpArgs false
attribute [local go_sem] Oper.semAt_some
/-- What each page of a list has. -/
def partsL : Nat → List S64 → List (List S64)
  | 0, _ => []
  | _ + 1, [] => []
  | n + 1, f :: t => (cutL 490 (f :: t)).1 :: partsL n (cutL 490 (f :: t)).2
def partsOf (l : List S64) : List (List S64) := partsL ((pagesOf l).length + 1) l
def fullL (l : List S64) : Prop := ∀ f ∈ l, f.f1 ≠ []
theorem pages_cons (x : S64) (l : List S64) : (pagesOf (x :: l)).length = x.f1.length + (pagesOf l).length := by
  rw [show x :: l = [x] ++ l from rfl, pages_append, List.length_append, pages_one]
theorem cut_left (r : Nat) (l : List S64) (h : fullL l) : fullL (cutL r l).2 ∧ (pagesOf (cutL r l).2).length ≤ (pagesOf l).length ∧ (cutL r l).2.length ≤ l.length := by
  induction l generalizing r with
  | nil => rw [cutL]; exact ⟨h, Nat.le_refl _, Nat.le_refl _⟩
  | cons f t ih =>
    have ht : fullL t := fun x hx => h x (List.mem_cons_of_mem _ hx)
    by_cases h1 : r < 12
    · rw [cut_full h1]; exact ⟨h, Nat.le_refl _, Nat.le_refl _⟩
    · by_cases h2 : (r - 8) / 4 < f.f1.length
      · rw [cut_part h1 h2]
        refine ⟨fun x hx => ?_, ?_, Nat.le_refl _⟩
        · rcases List.mem_cons.1 hx with rfl | hx
          · show f.f1.drop _ ≠ []
            rw [← List.length_pos_iff, List.length_drop]; omega
          · exact ht x hx
        · show (pagesOf (_ :: t)).length ≤ _
          rw [pages_cons, pages_cons]
          show (f.f1.drop _).length + _ ≤ _
          rw [List.length_drop]; omega
      · rw [cut_more h1 h2]
        obtain ⟨i1, i2, i3⟩ := ih (r - (8 + 4 * f.f1.length)) ht
        exact ⟨i1, by rw [pages_cons]; show (pagesOf (cutL _ t).2).length ≤ _; omega, by show (cutL _ t).2.length ≤ _; simp; omega⟩
theorem cut_less (f : S64) (t : List S64) (h : fullL (f :: t)) : (pagesOf (cutL 490 (f :: t)).2).length < (pagesOf (f :: t)).length := by
  have ht : fullL t := fun x hx => h x (List.mem_cons_of_mem _ hx)
  have hf := List.length_pos_iff.2 (h f List.mem_cons_self)
  by_cases h2 : (490 - 8) / 4 < f.f1.length
  · rw [cut_part (by omega) h2, pages_cons, pages_cons]
    show (f.f1.drop _).length + _ < _
    rw [List.length_drop]; omega
  · rw [cut_more (by omega) h2, pages_cons]
    have := (cut_left (490 - (8 + 4 * f.f1.length)) t ht).2.1
    show (pagesOf (cutL _ t).2).length < _
    omega
set_option maxHeartbeats 1000000 in
theorem more_any (A : Option Addr) (n c : Nat) (w : World) : Calls Tryz.prog 121 #[.slice A n c] w fun e w' => e = .returned (.bool (decide (0 < n))) ∧ w = w' := by
  go_enter Tryz.func121, Tryz.ntmps121
  go_wp2
  go_ret
  exact ⟨by simp, rfl⟩
theorem FK_slice {W : World} {ok : Nat → Prop} {A : Option Addr} {l : List S64} {c : Nat} (h : Kd.F k64 W ok A l.length l) (hc : l.length ≤ c) : Kd.FK (Kd.slice 64 k64) W ok l [.slice A l.length c] := fun W' hW => ⟨A, c, rfl, hc, h W' hW⟩
set_option maxRecDepth 100000 in
set_option maxHeartbeats 4000000 in
theorem divided_any (l : List S64) (A : Option Addr) (c : Nat) (w : World) (okp : Nat → Prop) (hF : Kd.F k64 w okp A l.length l) (hc : l.length ≤ c) (hn : fullL l) (hs : smallL l) :
    Calls Tryz.prog 120 #[.slice A l.length c, .func (.func 121) #[] #[], .func (.func 122) #[] #[]] w fun e w' => ∃ v, e = .returned v ∧ Kd.N (Kd.slice 64 k64) 26 w' w.heap.size (fun q => w.heap.size ≤ q) v (partsOf l) ∧ Below w.heap.size w w' := by
  obtain ⟨K, hK⟩ : ∃ K, (pagesOf l).length + 1 = K := ⟨_, rfl⟩
  have HK := Lib.hid hK
  have hpl : (pagesOf l).length < K := by omega
  have hKb : K ≤ 1000001 := by have := hs.2; omega
  unfold partsOf
  rw [hK]
  have hll := hs.1
  clear hK hs
  go_enter Tryz.func120, Tryz.ntmps120
  go_wp2
  go_loopg [0, 7] K (fun kq r o wr => ∃ (A : Option Addr) (c : Nat) (l' : List S64) (done : List (List S64)), r = .slice A l'.length c ∧ l'.length ≤ c ∧ fullL l' ∧ l'.length ≤ 1000000 ∧ (pagesOf l').length < kq ∧ Hid (partsL K l = done ++ partsL kq l') ∧ done.length + kq = K ∧
    Aside0 (Kd.N (Kd.slice 64 k64) 26 wr w.heap.size (fun q => w.heap.size ≤ q) o done) ∧ Aside0 (Kd.F k64 wr (fun q => some q ≠ o.ownBlock) A l'.length l') ∧ Aside0 (Below w.heap.size w wr))
  case atStart => exact ⟨A, c, l, [], rfl, hc, hn, hll, hpl, Lib.hid rfl, by simp, ⟨Kd.N_nil _ _ _ _ _⟩, ⟨Kd.F_mono hF (fun q _ => by simp [Value.ownBlock])⟩, ⟨Below.refl _ _⟩⟩
  case round =>
    obtain ⟨A, c, l', done, rfl, hc, hn, hll, hpk, HP, hdk, HN, HF, HB⟩ := hrel
    cases gk with
    | zero => omega
    | succ kq =>
      cases l' with
      | nil =>
        have HE := Lib.hid (show partsL K l = done by rw [HP.out]; cases kq <;> simp [partsL])
        go_wp2_with (go_at_call 121; (with_reducible refine (more_any _ _ _ _).mono ?_); rintro e w' ⟨rfl, rfl⟩)
        go_ret
        exact ⟨_, rfl, by rw [HE.out]; exact HN.out, HB.out⟩
      | cons f t =>
        have HC := Lib.hid (cutPage_any (f :: t) A c wr _ HF.out hc hn (by simp at hll ⊢; omega))
        have HX := Lib.hid (cut_left 490 (f :: t) hn)
        have HY := Lib.hid (cut_less f t hn)
        have HPP := Lib.hid (show partsL (kq + 1) (f :: t) = (cutL 490 (f :: t)).1 :: partsL kq (cutL 490 (f :: t)).2 from rfl)
        obtain ⟨P, hP⟩ : ∃ P, cutL 490 (f :: t) = P := ⟨_, rfl⟩
        rw [hP] at HC HX HY HPP
        obtain ⟨PA, PB⟩ := P
        clear hP
        have hlt0 := Kd.N_lt HN.out
        have HLT := Aside0.mk hlt0
        have HOK := Aside0.mk (show ∀ q, wr.heap.size ≤ q → w.heap.size ≤ q ∧ some q ≠ Value.ownBlock u7 from fun q hq => ⟨Nat.le_trans HB.out.size hq, fun e => by have := hlt0 q e.symm; omega⟩)
        have HBD := Aside0.mk (show (done.length + 1) * 24 ≤ 140737488355328 by omega)
        clear hlt0
        go_wp2_with (first
          | (go_at_call 121; (with_reducible refine (more_any _ _ _ _).mono ?_); rintro e w' ⟨rfl, rfl⟩)
          | (go_at_call 122; (refine HC.out.mono ?_); rintro e w1 ⟨pv, qv, rfl, hp, hq, hb1⟩; obtain ⟨pA, pc, rfl⟩ := Kd.R_slice hp; obtain ⟨qA, qc, rfl⟩ := Kd.N_slice hq; have HPV := Aside0.mk hp; have HQV := Aside0.mk hq; have HB1 := Aside0.mk hb1; clear hp hq hb1; have HN1 := Aside0.mk (Kd.N_below HN.out HB1.out); have HBW := Aside0.mk (HB.out.trans (HB1.out.mono HB.out.size)); have HFP := Aside0.mk (FK_slice (Kd.R_F (Kd.R_mono (Kd.R_bound HPV.out) (fun q hq => hq.2.1))) (Kd.R_reads' HPV.out).2.1); have HFQ := Aside0.mk (Kd.F_mono (ok' := fun q => True ∧ some q ≠ Value.ownBlock u7) (Kd.N_F HQV.out) (fun q hq => ⟨trivial, fun e => hq.elim (fun h => h e) (fun h => by have := HLT.out q e.symm; omega)⟩)); have HQC := Aside0.mk (Kd.N_reads' HQV.out).2.1)
          | (at_builtin; refine Kd.N_append (Kd.slice 64 k64) (w0 := w) w.heap.size rfl (.tmp 19) (.tmp 21) 90 26 (.slice none 0 0) 24 rfl Tryz.underlying90 info26 rfl (by decide) (by decide) _ done PA [.slice pA PA.length pc] (fun q => w.heap.size ≤ q) (fun q => wr.heap.size ≤ q) rfl rfl HFP.out HOK.out (fun q hq => Nat.le_trans HBW.out.size hq) HN1.out HBW.out HBW.out.size HBD.out ?_; intro v1 w2 hv1 hb2 hg2 hat2))
        go_roundg kq
        case measure => omega
        case rel => exact ⟨qA, qc, PB, done ++ [PA], rfl, HQC.out, HX.out.1, by have h7 : PB.length ≤ (f :: t).length := HX.out.2.2; omega, by have h7 : (pagesOf PB).length < (pagesOf (f :: t)).length := HY.out; omega, Lib.hid (by rw [HP.out, HPP.out, List.append_assoc]; rfl), by rw [List.length_append]; simp; omega, ⟨hv1⟩, ⟨Kd.F_mono (Kd.F_after HFQ.out hg2 hat2) (fun q hq => hq.2)⟩, ⟨hb2⟩⟩
set_option maxHeartbeats 1000000 in
theorem listParts_any (l : List S64) (A : Option Addr) (c : Nat) (w : World) (hC : k64.C w A l.length l) (hc : l.length ≤ c) (hn : fullL l) (hs : smallL l) :
    Calls Tryz.prog 76 #[.slice A l.length c] w fun e w' => ∃ v, e = .returned v ∧ Kd.N (Kd.slice 64 k64) 26 w' w.heap.size (fun q => w.heap.size ≤ q) v (partsOf l) ∧ Below w.heap.size w w' := by
  have HD := Lib.hid (divided_any l A c w _ (Kd.C_F k64_heap hC) hc hn hs)
  clear hC hn hs
  go_enter Tryz.func76, Tryz.ntmps76
  go_wp2_with (go_at_call 120; (refine HD.out.mono ?_); rintro e w1 ⟨v, rfl, hv, hb⟩)
  go_ret
  exact ⟨_, rfl, hv, hb⟩
end Go.Proofs.YtpnhelcemodnmaaGreat

/- A list of freed pages, as chapter 4 takes it; ListNeeds. -/
namespace Go.Proofs.YtpnhelcemodnmaaGreat
open Go.RowKit Go.Shelf Go.Proofs.YtpnhelcemodnmaaGreatW.PrintWords Go.Proofs.YtpnhelcemodnmaaGreatW.PrintLast Go.Proofs.YtpnhelcemodnmaaGreatW.PrintMore PA
set_option linter.unusedVariables false
set_option linter.unusedSimpArgs false
attribute [local go_sem] Oper.semAt_some
theorem pwithin_some (a b c : Int) : page_within.f a b c = some (decide (b ≤ a ∧ a ≤ c)) := by
  unfold page_within.f
  by_cases h : b ≤ a <;> simp [h]
theorem pnum_some (a : Int) : page_numbered.f a = some (decide (2 ≤ a ∧ a ≤ 4095)) := by
  unfold page_numbered.f
  rw [pwithin_some]; rfl
theorem freed_l1 (l : List S64) (i : Nat) (v : Int) (xs : List Int) (hlm : xs.length ≤ 9223372036854775806) (d : Nat) : ∀ (k q : Nat), q ≤ xs.length → xs.length - q = d → incP 4096 (xs.take q) →
    page_freed.l1 (d + 1 + k) l l (l.length : Int) (i : Int) xs (xs.length : Int) (q : Int) v xs = if incP 4096 xs then page_freed.l0 k l l (l.length : Int) (wrap64 ((i : Int) + 1)) else some false := by
  induction d with
  | zero =>
    intro k q h1 h2 h3
    obtain rfl : q = xs.length := by omega
    rw [List.take_length] at h3
    rw [if_pos h3, show 0 + 1 + k = k + 1 by omega]
    simp only [page_freed.l1]
    rw [if_neg (by omega)]
  | succ d ih =>
    intro k q h1 h2 h3
    have hlt : q < xs.length := by omega
    have hT := inc_take 4096 xs q hlt
    rw [show d + 1 + 1 + k = (d + 1 + k) + 1 by omega]
    simp only [page_freed.l1]
    rw [if_pos (by omega), if_pos (by omega), if_pos (by omega), rd_at xs q hlt, pnum_some]
    simp only [Option.bind_some]
    by_cases c1 : 2 ≤ xs[q] ∧ xs[q] ≤ 4095
    · rw [if_pos (by simpa using c1)]
      cases q with
      | zero =>
        rw [if_neg (by simp), wrapp 0 (by omega)]
        exact ih k 1 (by omega) (by omega) (hT.2 ⟨h3, by omega, fun j hj => by omega⟩)
      | succ j =>
        have hj : j < xs.length := by omega
        rw [if_pos (by omega), wrapn _ (by omega), show ((j + 1 : Nat) : Int) - 1 = (j : Int) by omega, if_pos (by omega), if_pos (by omega), rd_at xs j hj]
        by_cases c2 : xs[j] ≥ xs[j + 1]
        · rw [if_pos c2, if_neg]
          intro h
          have := (hT.1 (inc_of_take 4096 xs _ h)).2.2 j rfl hj
          omega
        · rw [if_neg c2, wrapp _ (by omega)]
          refine ih k (j + 1 + 1) (by omega) (by omega) (hT.2 ⟨h3, by omega, fun j' hj' hl' => ?_⟩)
          obtain rfl : j = j' := by omega
          omega
    · rw [if_neg (by simpa using c1), if_neg]
      intro h
      have := (hT.1 (inc_of_take 4096 xs _ h)).2.1
      omega
theorem form_false {p : Int} {l : List S64} {i : Nat} (h : i < l.length) (hn : ¬ okAt p l i) : decide (formP p l) = false := decide_eq_false fun hf => hn ((form_take p l i h).1 (form_of_take p l (i + 1) hf)).2
theorem freed_l0 (l : List S64) (hlm : l.length ≤ 9223372036854775806) (hm : ∀ f ∈ l, f.f1.length ≤ 9223372036854775806) (d : Nat) : ∀ (i : Nat), i ≤ l.length → l.length - i = d → formP 4096 (l.take i) → ∃ K, page_freed.l0 K l l (l.length : Int) (i : Int) = some (decide (formP 4096 l)) := by
  induction d with
  | zero =>
    intro i h1 h2 h3
    obtain rfl : i = l.length := by omega
    rw [List.take_length] at h3
    refine ⟨1, ?_⟩
    simp only [page_freed.l0]
    rw [if_neg (by omega)]
    simp [h3]
  | succ d ih =>
    intro i h1 h2 h3
    have hlt : i < l.length := by omega
    have hT := form_take 4096 l i hlt
    have hml : (rd_T64 l (i : Int)).f1.length ≤ 9223372036854775806 := by rw [rd_nat l i hlt]; exact hm _ (List.getElem_mem hlt)
    by_cases c1 : 0 ≤ (rd_T64 l (i : Int)).f0 ∧ (rd_T64 l (i : Int)).f0 ≤ 1099511627776
    · by_cases c2 : (rd_T64 l (i : Int)).f1 = []
      · refine ⟨2, ?_⟩
        simp only [page_freed.l0]
        rw [if_pos (by omega), if_pos (by omega), if_pos (by omega), pwithin_some]
        simp only [Option.bind_some]
        rw [if_pos (by simpa using c1), if_pos (by rw [c2]; rfl)]
        simp only [page_freed.j1]
        rw [if_pos trivial, form_false hlt fun h => h.2.2.1 c2]
      · have hp1 : 0 < (rd_T64 l (i : Int)).f1.length := List.length_pos_iff.2 c2
        by_cases c3 : ∀ j, i = j + 1 → (rd_T64 l (j : Int)).f0 < (rd_T64 l (i : Int)).f0
        · have hstep : ∀ K, page_freed.l0 ((rd_T64 l (i : Int)).f1.length + 1 + K + 1 + 1) l l (l.length : Int) (i : Int) = if incP 4096 (rd_T64 l (i : Int)).f1 then page_freed.l0 K l l (l.length : Int) (wrap64 ((i : Int) + 1)) else some false := by
            intro K
            simp only [page_freed.l0]
            rw [if_pos (by omega), if_pos (by omega), if_pos (by omega), pwithin_some]
            simp only [Option.bind_some]
            rw [if_pos (by simpa using c1), if_neg (by omega)]
            have hj1 : page_freed.j1 ((rd_T64 l (i : Int)).f1.length + 1 + K + 1) l l (l.length : Int) (i : Int) false (rd_T64 l (i : Int)).f0 (rd_T64 l (i : Int)).f1 = if incP 4096 (rd_T64 l (i : Int)).f1 then page_freed.l0 K l l (l.length : Int) (wrap64 ((i : Int) + 1)) else some false := by
              simp only [page_freed.j1]
              rw [if_neg (by simp)]
              exact freed_l1 l i _ _ hml _ K 0 (by omega) (by omega) ⟨by simp, by simp⟩
            cases i with
            | zero => rw [if_neg (by simp)]; exact hj1
            | succ j =>
              have := c3 j rfl
              rw [if_pos (by omega), wrapn _ (by omega), show ((j + 1 : Nat) : Int) - 1 = (j : Int) by omega, if_pos (by omega), if_pos (by omega)]
              rw [show decide ((rd_T64 l (j : Int)).f0 ≥ (rd_T64 l ((j + 1 : Nat) : Int)).f0) = false from decide_eq_false (by omega)]
              exact hj1
          by_cases c4 : incP 4096 (rd_T64 l (i : Int)).f1
          · obtain ⟨K, hK⟩ := ih (i + 1) (by omega) (by omega) (hT.2 ⟨h3, c1, c3, c2, c4⟩)
            refine ⟨_, (hstep K).trans ?_⟩
            rw [if_pos c4, wrapp i (by omega)]
            exact hK
          · refine ⟨_, (hstep 0).trans ?_⟩
            rw [if_neg c4, form_false hlt fun h => c4 h.2.2.2]
        · refine ⟨2, ?_⟩
          simp only [page_freed.l0]
          rw [if_pos (by omega), if_pos (by omega), if_pos (by omega), pwithin_some]
          simp only [Option.bind_some]
          rw [if_pos (by simpa using c1), if_neg (by omega)]
          cases i with
          | zero => exact absurd (fun j hj => by omega) c3
          | succ j =>
            have c5 : (rd_T64 l (j : Int)).f0 ≥ (rd_T64 l ((j + 1 : Nat) : Int)).f0 := by
              by_cases h : (rd_T64 l (j : Int)).f0 < (rd_T64 l ((j + 1 : Nat) : Int)).f0
              · exact absurd (by intro j' hj'; obtain rfl : j = j' := (by omega); exact h) c3
              · omega
            rw [if_pos (by omega), wrapn _ (by omega), show ((j + 1 : Nat) : Int) - 1 = (j : Int) by omega, if_pos (by omega), if_pos (by omega)]
            rw [show decide ((rd_T64 l (j : Int)).f0 ≥ (rd_T64 l ((j + 1 : Nat) : Int)).f0) = true from decide_eq_true c5]
            simp only [page_freed.j1]
            rw [if_pos trivial, form_false hlt fun h => absurd (h.2.1 j rfl) (by omega)]
    · refine ⟨2, ?_⟩
      simp only [page_freed.l0]
      rw [if_pos (by omega), if_pos (by omega), if_pos (by omega), pwithin_some]
      simp only [Option.bind_some]
      rw [if_neg (by simpa using c1)]
      simp only [page_freed.j1]
      rw [if_pos trivial, form_false hlt fun h => c1 h.1]
theorem freed_any (l : List S64) (A : Option Addr) (c : Nat) (w : World) (hC : k64.C w A l.length l) (hc : l.length ≤ c) (hs : smallL l) :
    Calls Tryz.prog 75 #[.slice A l.length c] w fun e w' => e = .returned (.bool (decide (formP 4096 l))) ∧ Below w.heap.size w w' := by
  obtain ⟨K, hK⟩ := freed_l0 l (by have := hs.1; omega) (fun f hf => by have := small_each hs f hf; omega) _ 0 (Nat.zero_le _) rfl ⟨by simp, by simp⟩
  exact page_freed.calls K A c l _ w hC hc hK
end Go.Proofs.YtpnhelcemodnmaaGreat

/- ListNeeds. -/
namespace Go.Proofs.YtpnhelcemodnmaaGreat
open Go.RowKit Go.Shelf Go.Proofs.YtpnhelcemodnmaaGreatW.PrintWords Go.Proofs.YtpnhelcemodnmaaGreatW.PrintLast Go.Proofs.YtpnhelcemodnmaaGreatW.PrintMore PA
set_option linter.unusedVariables false
set_option linter.unusedSimpArgs false
attribute [local go_sem] Oper.semAt_some
theorem form_fullL {p : Int} {l : List S64} (h : formP p l) : fullL l := fun f hf => (h.1 f hf).2.2.1
set_option maxHeartbeats 1000000 in
theorem needs_yes (l : List S64) (A : Option Addr) (c : Nat) (w : World) (hC : k64.C w A l.length l) (hc : l.length ≤ c) (hs : smallL l) (hf : formP 4096 l) :
    Calls Tryz.prog 33 #[.slice A l.length c] w fun e w' => e = .returned (.tuple #[.int .i64 (partsOf l).length, .int .i64 0]) ∧ Below w.heap.size w w' := by
  have HF := Lib.hid (freed_any l A c w hC hc hs)
  rw [decide_eq_true hf] at HF
  have HP := Lib.hid (fun (w1 : World) (hb : Below w.heap.size w w1) => listParts_any l A c w1 (Kd.C_below hC hb) hc (form_fullL hf) hs)
  clear hC hs hf
  go_enter Tryz.func33, Tryz.ntmps33
  go_wp2_with (first | (go_at_call 75; (refine HF.out.mono ?_); rintro e w2 ⟨rfl, hb2⟩) | (go_at_call 76; (refine (HP.out _ hb2).mono ?_); rintro e w3 ⟨v, rfl, hv, hb3⟩; obtain ⟨pA, pc, rfl⟩ := Kd.N_slice hv))
  go_ret2
  exact ⟨rfl, hb2.trans (hb3.mono hb2.size)⟩
end Go.Proofs.YtpnhelcemodnmaaGreat

/- numbers: numbers of pages are different, each is one. -/
namespace Go.Proofs.YtpnhelcemodnmaaGreat
open Go.RowKit Go.Shelf Go.Proofs.YtpnhelcemodnmaaGreatW.PrintWords Go.Proofs.YtpnhelcemodnmaaGreatW.PrintLast Go.Proofs.YtpnhelcemodnmaaGreatW.PrintMore PA
set_option linter.unusedVariables false
set_option linter.unusedSimpArgs false
attribute [local go_sem] Oper.semAt_some
theorem compactUp_le (d : Array Int) (m : Nat) : (Lib.compactUpTo d m).length ≤ m := by
  induction m with
  | zero => simp [Lib.compactUpTo]
  | succ m ih => rw [Lib.compactUpTo_succ, List.length_append]; split <;> simp <;> omega
theorem compactUp_lt (d : Array Int) (m j : Nat) (hj : j < m) (hk : Lib.keeps d j = false) : (Lib.compactUpTo d m).length < m := by
  induction m with
  | zero => omega
  | succ m ih =>
    rw [Lib.compactUpTo_succ, List.length_append]
    have := compactUp_le d m
    by_cases h : j = m
    · subst h; rw [hk]; simp; omega
    · have := ih (by omega)
      split <;> simp <;> omega
theorem compact_count {zs : List Int} (hs : zs.Pairwise (· ≤ ·)) : (Lib.compact zs).length = zs.length ↔ zs.Nodup := by
  constructor
  · intro h
    have hk : ∀ j, j < zs.length → Lib.keeps zs.toArray j = true := by
      intro j hj
      by_cases hn : Lib.keeps zs.toArray j = true
      · exact hn
      · have := compactUp_lt zs.toArray zs.length j hj (by simpa using hn)
        unfold Lib.compact at h
        omega
    rw [List.Nodup, List.pairwise_iff_getElem]
    have hadj : ∀ j, (hj : j + 1 < zs.length) → zs[j] < zs[j + 1] := by
      intro j hj
      have h1 := hk (j + 1) hj
      have h2 := List.pairwise_iff_getElem.1 hs j (j + 1) (by omega) hj (by omega)
      simp [Lib.keeps, hj, show j < zs.length by omega] at h1
      omega
    have hlt : ∀ n i, (hi : i + n + 1 < zs.length) → zs[i]'(by omega) < zs[i + n + 1] := by
      intro n
      induction n with
      | zero => intro i hi; exact hadj i hi
      | succ n ih => intro i hi; exact Int.lt_trans (ih i (by omega)) (hadj (i + n + 1) hi)
    intro i j hi hj hij
    obtain ⟨n, rfl⟩ : ∃ n, j = i + n + 1 := ⟨j - i - 1, by omega⟩
    have := hlt n i hj
    omega
  · intro h
    rw [Lib.compact_all]
    intro j hj
    cases j with
    | zero => simp [Lib.keeps]
    | succ j =>
      have := (List.pairwise_iff_getElem.1 h) j (j + 1) (by omega) hj (by omega)
      simp [Lib.keeps, hj, show j < zs.length by omega]
      omega
theorem sortI_perm (l : List Int) : (sortI l).Perm l := List.mergeSort_perm l _
theorem sortI_pair (l : List Int) : (sortI l).Pairwise (· ≤ ·) := by
  have := List.pairwise_mergeSort (le := fun x y : Int => decide (x ≤ y)) (by intro a b c h1 h2; simp at *; omega) (by intro a b; simp; omega) l
  exact this.imp (by simp)
theorem compact_sort (l : List Int) : (Lib.compact (sortI l)).length = l.length ↔ l.Nodup := by
  have := compact_count (sortI_pair l)
  rw [sortI_length] at this
  rw [this]
  exact (sortI_perm l).nodup_iff
theorem compact_R {w : World} {base : Nat} {ok : Nat → Prop} {v : Value} {l : List Int} (h : (Kd.int .i64).R 3 w base ok v l) (hl : l.length < 4611686018427387904) :
    Calls Tryz.prog 141 #[v] w fun e w' => (∃ A c, e = .returned (.slice A (Lib.compact l).length c)) ∧ Below base w w' := by
  have ho := Kd.own_of_R h
  by_cases hv : v = .slice none 0 0
  · subst hv
    have hl0 : l = [] := by
      rcases ho.2 with ⟨_, e⟩ | ⟨g, cap, cur, e, _⟩
      · cases l with
        | nil => rfl
        | cons a t => simp [encs] at e
      · cases e
    subst hl0
    refine (Tryz.slices_Compact_int_empty none 0 w).mono ?_
    rintro e w' ⟨rfl, rfl⟩
    exact ⟨⟨none, 0, rfl⟩, Below.refl _ _⟩
  · obtain ⟨g, cap, rfl, hbg, hlt, hn, hm, hzl, hH⟩ := Lib.holds_of_ownsRow ho hv
    refine (Tryz.slices_Compact_int g 0 cap l w hH (by omega) hn).mono ?_
    rintro e w' ⟨rfl, n, rfl⟩
    exact ⟨⟨_, _, rfl⟩, Lib.below_putRow (Below.refl base w) hbg⟩
end Go.Proofs.YtpnhelcemodnmaaGreat

/- Merging and putting, in plain. -/
namespace Go.Proofs.YtpnhelcemodnmaaGreat
open Go.RowKit Go.Shelf Go.Proofs.YtpnhelcemodnmaaGreatW.PrintWords Go.Proofs.YtpnhelcemodnmaaGreatW.PrintLast Go.Proofs.YtpnhelcemodnmaaGreatW.PrintMore PA
set_option linter.unusedVariables false
set_option linter.unusedSimpArgs false
/-- A number is laid into an increasing list, ahead of the first that is not smaller. -/
def insI (l : List Int) (n : Int) : List Int := l.takeWhile (fun x => decide (x < n)) ++ n :: l.dropWhile (fun x => decide (x < n))
def insAll (l ps : List Int) : List Int := ps.foldl insI l
theorem insI_perm (l : List Int) (n : Int) : (insI l n).Perm (n :: l) := by
  unfold insI
  refine List.perm_middle.trans ?_
  rw [List.takeWhile_append_dropWhile]
theorem insI_length (l : List Int) (n : Int) : (insI l n).length = l.length + 1 := by rw [(insI_perm l n).length_eq]; rfl
theorem insAll_length (ps : List Int) : ∀ l, (insAll l ps).length = l.length + ps.length := by
  induction ps with
  | nil => intro l; rfl
  | cons p t ih => intro l; show (insAll (insI l p) t).length = _; rw [ih, insI_length, List.length_cons]; omega
theorem drop_ge {l : List Int} {n : Int} (h : l.Pairwise (· ≤ ·)) : ∀ x ∈ l.dropWhile (fun x => decide (x < n)), n ≤ x := by
  induction l with
  | nil => intro x hx; simp at hx
  | cons a t ih =>
    intro x hx
    have h1 := List.pairwise_cons.1 h
    by_cases ha : a < n
    · rw [List.dropWhile_cons_of_pos (by simpa using ha)] at hx; exact ih h1.2 x hx
    · rw [List.dropWhile_cons_of_neg (by simpa using ha)] at hx
      rcases List.mem_cons.1 hx with rfl | hx
      · omega
      · have := h1.1 x hx; omega
theorem take_lt {l : List Int} {n : Int} : ∀ x ∈ l.takeWhile (fun x => decide (x < n)), x < n := by
  induction l with
  | nil => intro x hx; simp at hx
  | cons a t ih =>
    intro x hx
    by_cases ha : a < n
    · rw [List.takeWhile_cons_of_pos (by simpa using ha)] at hx
      rcases List.mem_cons.1 hx with rfl | hx
      · exact ha
      · exact ih x hx
    · rw [List.takeWhile_cons_of_neg (by simpa using ha)] at hx; simp at hx
theorem insI_pair {l : List Int} (n : Int) (h : l.Pairwise (· ≤ ·)) : (insI l n).Pairwise (· ≤ ·) := by
  unfold insI
  have hs : (l.takeWhile (fun x => decide (x < n)) ++ l.dropWhile (fun x => decide (x < n))).Pairwise (· ≤ ·) := by rw [List.takeWhile_append_dropWhile]; exact h
  rw [List.pairwise_append] at hs ⊢
  refine ⟨hs.1, List.pairwise_cons.2 ⟨drop_ge h, hs.2.1⟩, fun a ha b hb => ?_⟩
  have := take_lt a ha
  rcases List.mem_cons.1 hb with rfl | hb
  · omega
  · exact hs.2.2 a ha b hb
theorem insAll_pair (ps : List Int) : ∀ {l : List Int}, l.Pairwise (· ≤ ·) → (insAll l ps).Pairwise (· ≤ ·) := by
  induction ps with
  | nil => intro l h; exact h
  | cons p t ih => intro l h; exact ih (insI_pair p h)
theorem insAll_perm (ps : List Int) : ∀ l : List Int, (insAll l ps).Perm (l ++ ps) := by
  induction ps with
  | nil => intro l; simp [insAll]
  | cons p t ih => intro l; refine (ih (insI l p)).trans ?_; refine ((insI_perm l p).append_right t).trans ?_; simpa using List.perm_middle.symm
theorem insAll_sort {l : List Int} (ps : List Int) (h : l.Pairwise (· ≤ ·)) : insAll l ps = sortI (l ++ ps) :=
  List.Perm.eq_of_pairwise (le := (· ≤ ·)) (fun a b _ _ h1 h2 => by omega) (insAll_pair ps h) (sortI_pair _) ((insAll_perm ps l).trans (sortI_perm _).symm)
theorem insAll_nil (ps : List Int) : insAll [] ps = sortI ps := by rw [insAll_sort ps List.Pairwise.nil, List.nil_append]
/-- What the reference's Put does from an element on; done: the pages are laid. -/
def putGo (ver : Int) (ps : List Int) : Bool → List S64 → List S64
  | d, [] => if d then [] else [⟨ver, ps⟩]
  | d, x :: t => if x.f0 = ver then ⟨ver, insAll x.f1 ps⟩ :: putGo ver ps true t else if ver < x.f0 ∧ d = false then ⟨ver, ps⟩ :: x :: putGo ver ps true t else x :: putGo ver ps d t
/-- Versions increase strictly, pages increase. -/
def ordL (l : List S64) : Prop := (l.map (·.f0)).Pairwise (· < ·)
theorem ordL_cons {x : S64} {t : List S64} : ordL (x :: t) ↔ (∀ y ∈ t, x.f0 < y.f0) ∧ ordL t := by
  unfold ordL; rw [List.map_cons, List.pairwise_cons]; simp
theorem putGo_done {ver : Int} (ps : List Int) {l : List S64} (h : ∀ y ∈ l, ver < y.f0) : putGo ver ps true l = l := by
  induction l with
  | nil => rfl
  | cons x t ih =>
    have := h x (by simp)
    rw [putGo, if_neg (by omega), if_neg (by simp), ih (fun y hy => h y (by simp [hy]))]
theorem putGo_merge (ver : Int) (ps : List Int) (l : List S64) (h : ordL l) (hs : ∀ f ∈ l, f.f1.Pairwise (· ≤ ·)) : putGo ver ps false l = mergeL l [⟨ver, ps⟩] := by
  induction l with
  | nil => rw [merge_nil]; rfl
  | cons x t ih =>
    have h1 := ordL_cons.1 h
    rw [putGo]
    by_cases he : x.f0 = ver
    · rw [if_pos he, merge_eq (x := x) (y := ⟨ver, ps⟩) _ _ he, putGo_done ps (fun y hy => he ▸ h1.1 y hy), merge_nil2, insAll_sort ps (hs x (by simp)), he]
    · rw [if_neg he]
      by_cases hl : ver < x.f0
      · rw [if_pos ⟨hl, rfl⟩, merge_gt (x := x) (y := ⟨ver, ps⟩) _ _ hl, merge_nil2, putGo_done ps (fun y hy => by have := h1.1 y hy; omega)]
      · rw [if_neg (fun e => hl e.1), merge_lt (x := x) (y := ⟨ver, ps⟩) _ _ (by show x.f0 < ver; omega), ih h1.2 (fun f hf => hs f (by simp [hf]))]
theorem merge_past {l : List S64} {f : S64} (h : ∀ y ∈ l, y.f0 < f.f0) : mergeL l [f] = l ++ [f] := by
  induction l with
  | nil => rw [merge_nil]; rfl
  | cons x t ih => rw [merge_lt _ _ (h x (by simp)), ih (fun y hy => h y (by simp [hy])), List.cons_append]
theorem merge_snoc (a b : List S64) (f : S64) (ha : ordL a) (hb : ordL (b ++ [f])) : mergeL a (b ++ [f]) = mergeL (mergeL a b) [f] := by
  have hbf : ∀ y ∈ b, y.f0 < f.f0 := by
    intro y hy
    unfold ordL at hb
    rw [List.map_append, List.pairwise_append] at hb
    exact hb.2.2 _ (List.mem_map_of_mem hy) _ (by simp)
  clear hb
  induction a generalizing b with
  | nil => rw [merge_nil, merge_nil, merge_past hbf]
  | cons x a iha =>
    have h1 := ordL_cons.1 ha
    induction b with
    | nil => rw [merge_nil2]; rfl
    | cons y b ihb =>
      have hy := hbf y (by simp)
      rw [List.cons_append]
      by_cases hlt : x.f0 < y.f0
      · rw [merge_lt _ _ hlt, merge_lt _ _ hlt, ← List.cons_append, iha (y :: b) h1.2 hbf, merge_lt _ _ (by omega)]
      · by_cases hgt : y.f0 < x.f0
        · rw [merge_gt _ _ hgt, merge_gt _ _ hgt, ihb (fun z hz => hbf z (by simp [hz])), merge_lt _ _ hy]
        · have he : x.f0 = y.f0 := by omega
          rw [merge_eq _ _ he, merge_eq _ _ he, iha b h1.2 (fun z hz => hbf z (by simp [hz])), merge_lt _ _ (by show x.f0 < f.f0; omega)]
theorem ordL_front {b c : List S64} (h : ordL (b ++ c)) : ordL b := by
  unfold ordL at *; rw [List.map_append, List.pairwise_append] at h; exact h.1
theorem merge_perm (a b : List S64) : (pagesOf (mergeL a b)).Perm (pagesOf a ++ pagesOf b) := by
  induction a generalizing b with
  | nil => rw [merge_nil]; simp [pagesOf, flat]
  | cons x a iha =>
    induction b with
    | nil => rw [merge_nil2]; simp [pagesOf, flat]
    | cons y b ihb =>
      have e1 : ∀ (z : S64) (l : List S64), pagesOf (z :: l) = z.f1 ++ pagesOf l := fun z l => by rw [← List.singleton_append, pages_append, pages_one]
      by_cases hlt : x.f0 < y.f0
      · rw [merge_lt _ _ hlt, e1, e1 x a, List.append_assoc]; exact (iha (y :: b)).append_left _
      · by_cases hgt : y.f0 < x.f0
        · rw [merge_gt _ _ hgt, e1, e1 y b]
          refine (ihb.append_left _).trans ?_
          rw [← List.append_assoc, ← List.append_assoc]
          exact List.perm_append_comm.append_right _
        · have he : x.f0 = y.f0 := by omega
          rw [merge_eq _ _ he, e1, e1 x a, e1 y b]
          show (sortI (x.f1 ++ y.f1) ++ pagesOf (mergeL a b)).Perm _
          refine ((sortI_perm _).append (iha b)).trans ?_
          rw [List.append_assoc, List.append_assoc]
          refine List.Perm.append_left _ ?_
          rw [← List.append_assoc, ← List.append_assoc]
          exact List.perm_append_comm.append_right _
theorem merge_mem {a b : List S64} {f : S64} (h : f ∈ mergeL a b) : (∃ g ∈ a, g.f0 = f.f0) ∨ ∃ g ∈ b, g.f0 = f.f0 := by
  induction a generalizing b with
  | nil => rw [merge_nil] at h; exact .inr ⟨f, h, rfl⟩
  | cons x a iha =>
    induction b with
    | nil => rw [merge_nil2] at h; exact .inl ⟨f, h, rfl⟩
    | cons y b ihb =>
      by_cases hlt : x.f0 < y.f0
      · rw [merge_lt _ _ hlt] at h
        rcases List.mem_cons.1 h with rfl | h
        · exact .inl ⟨f, by simp, rfl⟩
        · rcases iha h with ⟨g, hg, e⟩ | ⟨g, hg, e⟩
          · exact .inl ⟨g, by simp [hg], e⟩
          · exact .inr ⟨g, hg, e⟩
      · by_cases hgt : y.f0 < x.f0
        · rw [merge_gt _ _ hgt] at h
          rcases List.mem_cons.1 h with rfl | h
          · exact .inr ⟨f, by simp, rfl⟩
          · rcases ihb h with ⟨g, hg, e⟩ | ⟨g, hg, e⟩
            · exact .inl ⟨g, hg, e⟩
            · exact .inr ⟨g, by simp [hg], e⟩
        · have he : x.f0 = y.f0 := by omega
          rw [merge_eq _ _ he] at h
          rcases List.mem_cons.1 h with rfl | h
          · exact .inl ⟨x, by simp, rfl⟩
          · rcases iha h with ⟨g, hg, e⟩ | ⟨g, hg, e⟩
            · exact .inl ⟨g, by simp [hg], e⟩
            · exact .inr ⟨g, by simp [hg], e⟩
theorem merge_ord {a b : List S64} (ha : ordL a) (hb : ordL b) : ordL (mergeL a b) := by
  induction a generalizing b with
  | nil => rw [merge_nil]; exact hb
  | cons x a iha =>
    have h1 := ordL_cons.1 ha
    induction b with
    | nil => rw [merge_nil2]; exact ha
    | cons y b ihb =>
      have h2 := ordL_cons.1 hb
      by_cases hlt : x.f0 < y.f0
      · rw [merge_lt _ _ hlt]
        refine ordL_cons.2 ⟨fun f hf => ?_, iha h1.2 hb⟩
        rcases merge_mem hf with ⟨g, hg, e⟩ | ⟨g, hg, e⟩
        · rw [← e]; exact h1.1 g hg
        · rcases List.mem_cons.1 hg with rfl | hg
          · omega
          · have := h2.1 g hg; omega
      · by_cases hgt : y.f0 < x.f0
        · rw [merge_gt _ _ hgt]
          refine ordL_cons.2 ⟨fun f hf => ?_, ihb h2.2⟩
          rcases merge_mem hf with ⟨g, hg, e⟩ | ⟨g, hg, e⟩
          · rcases List.mem_cons.1 hg with rfl | hg
            · omega
            · have := h1.1 g hg; omega
          · rw [← e]; exact h2.1 g hg
        · have he : x.f0 = y.f0 := by omega
          rw [merge_eq _ _ he]
          refine ordL_cons.2 ⟨fun f hf => ?_, iha h1.2 h2.2⟩
          show x.f0 < f.f0
          rcases merge_mem hf with ⟨g, hg, e⟩ | ⟨g, hg, e⟩
          · rw [← e]; exact h1.1 g hg
          · have := h2.1 g hg; omega
/-- What each element of a valid list is, but for the order. -/
def elemP (p : Int) (f : S64) : Prop := 0 ≤ f.f0 ∧ f.f0 ≤ 1099511627776 ∧ f.f1 ≠ [] ∧ incP p f.f1
theorem merge_elem {p : Int} {a b : List S64} (ha : ∀ f ∈ a, elemP p f) (hb : ∀ f ∈ b, elemP p f) (hn : (pagesOf a ++ pagesOf b).Nodup) : ∀ f ∈ mergeL a b, elemP p f := by
  have e1 : ∀ (z : S64) (l : List S64), pagesOf (z :: l) = z.f1 ++ pagesOf l := fun z l => by rw [← List.singleton_append, pages_append, pages_one]
  induction a generalizing b with
  | nil => rw [merge_nil]; exact hb
  | cons x a iha =>
    have hx := ha x (by simp)
    have ha' : ∀ f ∈ a, elemP p f := fun f hf => ha f (by simp [hf])
    induction b with
    | nil => rw [merge_nil2]; exact ha
    | cons y b ihb =>
      have hy := hb y (by simp)
      have hb' : ∀ f ∈ b, elemP p f := fun f hf => hb f (by simp [hf])
      by_cases hlt : x.f0 < y.f0
      · rw [merge_lt _ _ hlt]
        intro f hf
        rcases List.mem_cons.1 hf with rfl | hf
        · exact hx
        · refine iha ha' hb ?_ f hf
          rw [e1, List.append_assoc] at hn
          exact (List.nodup_append.1 hn).2.1
      · by_cases hgt : y.f0 < x.f0
        · rw [merge_gt _ _ hgt]
          intro f hf
          rcases List.mem_cons.1 hf with rfl | hf
          · exact hy
          · refine ihb hb' ?_ f hf
            rw [e1 y b] at hn
            exact hn.sublist (List.Sublist.append (List.Sublist.refl _) (List.sublist_append_right _ _))
        · have he : x.f0 = y.f0 := by omega
          rw [merge_eq _ _ he]
          intro f hf
          rw [e1 x a, e1 y b] at hn
          rcases List.mem_cons.1 hf with rfl | hf
          · have hxy : (x.f1 ++ y.f1).Nodup := hn.sublist (List.Sublist.append (List.sublist_append_left _ _) (List.sublist_append_left _ _))
            refine ⟨hx.1, hx.2.1, ?_, ?_, ?_⟩
            · intro e
              have h0 := sortI_length (x.f1 ++ y.f1)
              have h1 : sortI (x.f1 ++ y.f1) = [] := e
              rw [h1] at h0
              simp at h0
              exact hx.2.2.1 (List.length_eq_zero_iff.1 (by omega))
            · intro n hn
              have := (sortI_perm (x.f1 ++ y.f1)).mem_iff.1 hn
              rcases List.mem_append.1 this with h | h
              · exact hx.2.2.2.1 n h
              · exact hy.2.2.2.1 n h
            · have hp := sortI_pair (x.f1 ++ y.f1)
              have hd : (sortI (x.f1 ++ y.f1)).Nodup := (sortI_perm _).nodup_iff.2 hxy
              exact (hp.and hd).imp fun ⟨h1, h2⟩ => by omega
          · refine iha ha' hb' ?_ f hf
            exact hn.sublist (List.Sublist.append (List.sublist_append_right _ _) (List.sublist_append_right _ _))
theorem form_iff (p : Int) (l : List S64) : formP p l ↔ (∀ f ∈ l, elemP p f) ∧ ordL l := Iff.rfl
theorem merge_valid {p : Int} {a b : List S64} (ha : validP p a) (hb : validP p b) : validP p (mergeL a b) ↔ ∀ x ∈ pagesOf b, ¬ x ∈ pagesOf a := by
  have hpm := (merge_perm a b).nodup_iff
  constructor
  · intro h x hx hxa
    have := hpm.1 h.2.2
    exact (List.nodup_append.1 this).2.2 x hxa x hx rfl
  · intro h
    have hn : (pagesOf a ++ pagesOf b).Nodup := List.nodup_append.2 ⟨ha.2.2, hb.2.2, fun x hx y hy e => h y hy (e ▸ hx)⟩
    exact ⟨ha.1, (form_iff _ _).2 ⟨merge_elem ha.2.1.1 hb.2.1.1 hn, merge_ord ha.2.1.2 hb.2.1.2⟩, hpm.2 hn⟩
/-- The reference's Put, element for element. -/
def putsL (a b : List S64) : List S64 := b.foldl (fun l f => putGo f.f0 f.f1 false l) a
theorem puts_merge {a : List S64} (ha : ordL a) (hs : ∀ f ∈ a, f.f1.Pairwise (· ≤ ·)) (b : List S64) (hb : ordL b) (hbs : ∀ f ∈ b, f.f1.Pairwise (· ≤ ·)) : putsL a b = mergeL a b ∧ ordL (mergeL a b) ∧ ∀ f ∈ mergeL a b, f.f1.Pairwise (· ≤ ·) := by
  have hsrt : ∀ {a b : List S64}, (∀ f ∈ a, f.f1.Pairwise (· ≤ ·)) → (∀ f ∈ b, f.f1.Pairwise (· ≤ ·)) → ∀ f ∈ mergeL a b, f.f1.Pairwise (· ≤ ·) := by
    intro a
    induction a with
    | nil => intro b _ hb; rw [merge_nil]; exact hb
    | cons x a iha =>
      intro b ha
      induction b with
      | nil => intro _; rw [merge_nil2]; exact ha
      | cons y b ihb =>
        intro hb f hf
        have ha' : ∀ f ∈ a, f.f1.Pairwise (· ≤ ·) := fun f hf => ha f (by simp [hf])
        have hb' : ∀ f ∈ b, f.f1.Pairwise (· ≤ ·) := fun f hf => hb f (by simp [hf])
        by_cases hlt : x.f0 < y.f0
        · rw [merge_lt _ _ hlt] at hf
          rcases List.mem_cons.1 hf with rfl | hf
          · exact ha f (by simp)
          · exact iha ha' hb f hf
        · by_cases hgt : y.f0 < x.f0
          · rw [merge_gt _ _ hgt] at hf
            rcases List.mem_cons.1 hf with rfl | hf
            · exact hb f (by simp)
            · exact ihb hb' f hf
          · have he : x.f0 = y.f0 := by omega
            rw [merge_eq _ _ he] at hf
            rcases List.mem_cons.1 hf with rfl | hf
            · exact sortI_pair _
            · exact iha ha' hb' f hf
  have key : ∀ n, ∀ b : List S64, b.length = n → ordL b → (∀ f ∈ b, f.f1.Pairwise (· ≤ ·)) → putsL a b = mergeL a b := by
    intro n
    induction n with
    | zero => intro b hn _ _; obtain rfl := List.length_eq_zero_iff.1 hn; rw [merge_nil2]; rfl
    | succ n ih =>
      intro b hn hb hbs
      have hne : b ≠ [] := fun e => by rw [e] at hn; simp at hn
      obtain ⟨c, f, rfl⟩ : ∃ c f, b = c ++ [f] := ⟨b.dropLast, b.getLast hne, (List.dropLast_concat_getLast hne).symm⟩
      have hc : ordL c := ordL_front hb
      have hcs : ∀ f ∈ c, f.f1.Pairwise (· ≤ ·) := fun g hg => hbs g (by simp [hg])
      rw [merge_snoc a c f ha hb]
      unfold putsL
      rw [List.foldl_append]
      show putGo f.f0 f.f1 false (putsL a c) = _
      rw [ih c (by simpa using hn) hc hcs]
      exact putGo_merge f.f0 f.f1 _ (merge_ord ha hc) (hsrt hs hcs)
  exact ⟨key _ b rfl hb hbs, merge_ord ha hb, hsrt hs hbs⟩
end Go.Proofs.YtpnhelcemodnmaaGreat

-- PRINTED by print.py (a twelfth state) out of the translation. Not trusted: Lean checks it.
namespace Go.Proofs.YtpnhelcemodnmaaGreat.PA
open Go.RowKit Go.Proofs.YtpnhelcemodnmaaGreatW.PrintWords Go.Proofs.YtpnhelcemodnmaaGreatW.PrintLast Go.Proofs.YtpnhelcemodnmaaGreatW.PrintMore
attribute [local go_sem] max2_int min2_int max_two min_two max_three min_three max_four min_four   -- for this text's walks alone
set_option linter.unusedVariables false
set_option linter.unusedSimpArgs false

/-! ### understoryref12_once: function 59 -/
def understoryref12_once.l0 : Nat → List Int → Int → Int → Option (Bool)
  | 0, _, _, _ => none
  | k + 1, x0, x1, x5 => if x5 < (x0.length : Int) then (if 0 ≤ x5 then (if (rd x0 x5) < 2 then (some false) else (if (rd x0 x5) ≥ x1 then (some false) else (if x5 > 0 then (if 0 ≤ (wrap64 (x5 - 1)) then (if (wrap64 (x5 - 1)) < (x0.length : Int) then (if (rd x0 x5) ≤ (rd x0 (wrap64 (x5 - 1))) then (some false) else (understoryref12_once.l0 k x0 x1 (wrap64 (x5 + 1)))) else (none)) else (none)) else (understoryref12_once.l0 k x0 x1 (wrap64 (x5 + 1)))))) else (none)) else (some true)
def understoryref12_once.f (k : Nat) (l0 : List Int) (a1 : Int) : Option (Bool) := understoryref12_once.l0 k l0 a1 0
theorem understoryref12_once.mono_l : ∀ k, (∀ y0 y1 y2, LeO (understoryref12_once.l0 k y0 y1 y2) (understoryref12_once.l0 (k + 1) y0 y1 y2))
  | 0 => fun _ _ _ r h => by simp [understoryref12_once.l0] at h
  | k + 1 => by
    have ih0 := understoryref12_once.mono_l k
    · intro y0 y1 y2
      unfold understoryref12_once.l0
      repeat' first
      | (with_reducible exact ih0 _ _ _)
      | (with_reducible exact LeO.refl _)
      | (with_reducible exact LeO.none _)
      | (with_reducible refine LeO.ite ?_ ?_)
      | (with_reducible refine LeO.bind ?_ (fun _ => ?_))
      | exact ih0 _ _ _
      | exact LeO.none _
      | refine LeO.ite ?_ ?_
      | refine LeO.bind ?_ (fun _ => ?_)
theorem understoryref12_once.mono : ∀ a0 a1 k, LeO (understoryref12_once.f k a0 a1) (understoryref12_once.f (k + 1) a0 a1) := by
  intro a0 a1 k
  have ih0 := understoryref12_once.mono_l k
  unfold understoryref12_once.f
  repeat' first
      | (with_reducible exact ih0 _ _ _)
      | (with_reducible exact LeO.refl _)
      | (with_reducible exact LeO.none _)
      | (with_reducible refine LeO.ite ?_ ?_)
      | (with_reducible refine LeO.bind ?_ (fun _ => ?_))
      | exact ih0 _ _ _
      | exact LeO.none _
      | refine LeO.ite ?_ ?_
      | refine LeO.bind ?_ (fun _ => ?_)
/-! ### understoryref12_apart: function 60 -/
mutual
def understoryref12_apart.l0 : Nat → List (S64) → List Bool → List Int → Int → Option (Bool)
  | 0, _, _, _, _ => none
  | k + 1, x2, x9, x10, x11 => if x11 < (x2.length : Int) then (if 0 ≤ x11 then (if x10.length + ((rd_T64 x2 x11).f1).length < 17592186044416 then (understoryref12_apart.l0 k x2 x9 (x10 ++ ((rd_T64 x2 x11).f1)) (wrap64 (x11 + 1))) else (none)) else (none)) else (understoryref12_apart.l1 k x9 x10 0)
def understoryref12_apart.l1 : Nat → List Bool → List Int → Int → Option (Bool)
  | 0, _, _, _ => none
  | k + 1, x9, x10, x12 => if x12 < (x10.length : Int) then (if 0 ≤ x12 then (if 0 ≤ (rd x10 x12) then (if (rd x10 x12) < (x9.length : Int) then (if rdOf false x9 (rd x10 x12) = true then (some false) else (understoryref12_apart.l1 k (x9.set ((rd x10 x12) : Int).toNat true) x10 (wrap64 (x12 + 1)))) else (none)) else (none)) else (none)) else (some true)
end
def understoryref12_apart.f (k : Nat) (l0 : List Int) (l1 : List Int) (l2 : List (S64)) (a3 : Int) : Option (Bool) := if 0 ≤ a3 then (if (a3 : Int).toNat ≤ 281474976710656 then ((some (([] : List Int) : List Int)).bind fun y317 => (if y317.length + l0.length < 17592186044416 then ((some (y317 ++ l0 : List Int)).bind fun y320 => (if y320.length + l1.length < 17592186044416 then (understoryref12_apart.l0 k l2 (List.replicate (a3 : Int).toNat false) (y320 ++ l1) 0) else (none))) else (none))) else (none)) else (none)
theorem understoryref12_apart.mono_l : ∀ k, (∀ y0 y1 y2 y3, LeO (understoryref12_apart.l0 k y0 y1 y2 y3) (understoryref12_apart.l0 (k + 1) y0 y1 y2 y3)) ∧ (∀ y0 y1 y2, LeO (understoryref12_apart.l1 k y0 y1 y2) (understoryref12_apart.l1 (k + 1) y0 y1 y2))
  | 0 => ⟨fun _ _ _ _ r h => by simp [understoryref12_apart.l0] at h, fun _ _ _ r h => by simp [understoryref12_apart.l1] at h⟩
  | k + 1 => by
    obtain ⟨ih0, ih1⟩ := understoryref12_apart.mono_l k
    refine ⟨?_, ?_⟩
    · intro y0 y1 y2 y3
      unfold understoryref12_apart.l0
      repeat' first
      | (with_reducible exact ih0 _ _ _ _)
      | (with_reducible exact ih1 _ _ _)
      | (with_reducible exact LeO.refl _)
      | (with_reducible exact LeO.none _)
      | (with_reducible refine LeO.ite ?_ ?_)
      | (with_reducible refine LeO.bind ?_ (fun _ => ?_))
      | exact ih0 _ _ _ _
      | exact ih1 _ _ _
      | exact LeO.none _
      | refine LeO.ite ?_ ?_
      | refine LeO.bind ?_ (fun _ => ?_)
    · intro y0 y1 y2
      unfold understoryref12_apart.l1
      repeat' first
      | (with_reducible exact ih0 _ _ _ _)
      | (with_reducible exact ih1 _ _ _)
      | (with_reducible exact LeO.refl _)
      | (with_reducible exact LeO.none _)
      | (with_reducible refine LeO.ite ?_ ?_)
      | (with_reducible refine LeO.bind ?_ (fun _ => ?_))
      | exact ih0 _ _ _ _
      | exact ih1 _ _ _
      | exact LeO.none _
      | refine LeO.ite ?_ ?_
      | refine LeO.bind ?_ (fun _ => ?_)
theorem understoryref12_apart.mono : ∀ a0 a1 a2 a3 k, LeO (understoryref12_apart.f k a0 a1 a2 a3) (understoryref12_apart.f (k + 1) a0 a1 a2 a3) := by
  intro a0 a1 a2 a3 k
  obtain ⟨ih0, ih1⟩ := understoryref12_apart.mono_l k
  unfold understoryref12_apart.f
  repeat' first
      | (with_reducible exact ih0 _ _ _ _)
      | (with_reducible exact ih1 _ _ _)
      | (with_reducible exact LeO.refl _)
      | (with_reducible exact LeO.none _)
      | (with_reducible refine LeO.ite ?_ ?_)
      | (with_reducible refine LeO.bind ?_ (fun _ => ?_))
      | exact ih0 _ _ _ _
      | exact ih1 _ _ _
      | exact LeO.none _
      | refine LeO.ite ?_ ?_
      | refine LeO.bind ?_ (fun _ => ?_)
/-! ### understoryref12_with: function 70 -/
def understoryref12_with.l0 : Nat → List Int → Int → List Int → Int → Option (List Int)
  | 0, _, _, _, _ => none
  | k + 1, x0, x1, x5, x6 => if x6 < (x0.length : Int) then (if 0 ≤ x6 then (if (rd x0 x6) < x1 then (if x5.length < 17592186044416 then (understoryref12_with.l0 k x0 x1 (x5 ++ [rd x0 x6]) (wrap64 (x6 + 1))) else (none)) else (if x5.length < 17592186044416 then ((some (x5 ++ [x1] : List Int)).bind fun y339 => (if x6 ≤ (x0.length : Int) then (if y339.length + (x0.drop (x6 : Int).toNat).length < 17592186044416 then (some (y339 ++ (x0.drop (x6 : Int).toNat))) else (none)) else (none))) else (none))) else (none)) else (if x5.length < 17592186044416 then ((some (x5 ++ [x1] : List Int)).bind fun y346 => (if 0 ≤ x6 then (if x6 ≤ (x0.length : Int) then (if y346.length + (x0.drop (x6 : Int).toNat).length < 17592186044416 then (some (y346 ++ (x0.drop (x6 : Int).toNat))) else (none)) else (none)) else (none))) else (none))
def understoryref12_with.f (k : Nat) (l0 : List Int) (a1 : Int) : Option (List Int) := understoryref12_with.l0 k l0 a1 ([] : List Int) 0
theorem understoryref12_with.mono_l : ∀ k, (∀ y0 y1 y2 y3, LeO (understoryref12_with.l0 k y0 y1 y2 y3) (understoryref12_with.l0 (k + 1) y0 y1 y2 y3))
  | 0 => fun _ _ _ _ r h => by simp [understoryref12_with.l0] at h
  | k + 1 => by
    have ih0 := understoryref12_with.mono_l k
    · intro y0 y1 y2 y3
      unfold understoryref12_with.l0
      repeat' first
      | (with_reducible exact ih0 _ _ _ _)
      | (with_reducible exact LeO.refl _)
      | (with_reducible exact LeO.none _)
      | (with_reducible refine LeO.ite ?_ ?_)
      | (with_reducible refine LeO.bind ?_ (fun _ => ?_))
      | exact ih0 _ _ _ _
      | exact LeO.none _
      | refine LeO.ite ?_ ?_
      | refine LeO.bind ?_ (fun _ => ?_)
theorem understoryref12_with.mono : ∀ a0 a1 k, LeO (understoryref12_with.f k a0 a1) (understoryref12_with.f (k + 1) a0 a1) := by
  intro a0 a1 k
  have ih0 := understoryref12_with.mono_l k
  unfold understoryref12_with.f
  repeat' first
      | (with_reducible exact ih0 _ _ _ _)
      | (with_reducible exact LeO.refl _)
      | (with_reducible exact LeO.none _)
      | (with_reducible refine LeO.ite ?_ ?_)
      | (with_reducible refine LeO.bind ?_ (fun _ => ?_))
      | exact ih0 _ _ _ _
      | exact LeO.none _
      | refine LeO.ite ?_ ?_
      | refine LeO.bind ?_ (fun _ => ?_)
set_option maxHeartbeats 8000000 in
set_option maxRecDepth 100000 in
theorem understoryref12_with.calls (k : Nat) (A0 : Option Addr) (c0 : Nat) (l0 : List Int) (a1 : Int) (r : List Int) (w : World) (hr0 : Kd.C (Kd.int .i64) w A0 l0.length l0) (hc0 : l0.length ≤ c0) (h : understoryref12_with.f k l0 a1 = some r) :
    Calls Tryz.prog 70 #[.slice A0 l0.length c0, .int .i64 a1] w fun e w' => ∃ v0_ : Value, e = .returned (v0_) ∧ Kd.R (Kd.int .i64) 3 w' w.heap.size (fun _ => True) v0_ r ∧ Below w.heap.size w w' := by
  have HR0 := Aside0.mk hr0
  have HC0 := Aside0.mk hc0
  clear hr0 hc0
  have HB := Aside0.mk (Below.refl w.heap.size w)
  have H : (understoryref12_with.l0 k l0 a1 ([] : List Int) 0) = some r := h
  clear h
  have H' := Aside0.mk H
  clear H
  go_enter Tryz.func70, Tryz.ntmps70
  go_wp2
  go_loopg [5, 6] k (fun kq v5 v6 w' => ∃ (x5_1 : List Int) (x6_1 : Int), v6 = .int .i64 x6_1 ∧ Aside0 (understoryref12_with.l0 kq l0 a1 x5_1 x6_1 = some r) ∧ Aside0 (kq ≤ k) ∧ Aside0 (Kd.R (Kd.int .i64) 3 w' w.heap.size (fun _ => True) v5 x5_1) ∧ Aside0 (Below w.heap.size w w'))
  case atStart => exact ⟨(([] : List Int)), (0), (by first | rfl | (simp; done) | (simp [*]; done)), H', ⟨Nat.le_refl _⟩, ⟨by first | exact Kd.R_nil _ _ _ _ _ | exact Kd.N_nil _ _ _ _ _ | exact Kd.V_nil _ _ _ _ _ | exact Kd.Q_nil _ _ _ _ _ | exact Kd.S_nil _ _ _ _ _⟩, ⟨by repeat (first | (with_reducible first | exact HB.out | apply below_alloc | apply pw_below_drewN | apply below_drew1) | exact HB.out)⟩⟩
  case round =>
    clear H'
    try clear p2
    obtain ⟨x5_1, x6_1, rfl, HA, HK1, HO_5, HB⟩ := hrel
    cases gk with
    | zero => exact absurd HA.out (by simp [understoryref12_with.l0])
    | succ k1 =>
      have H := HA.out
      clear HA
      simp only [understoryref12_with.l0] at H
      by_cases c3 : x6_1 < (l0.length : Int)
      · rw [if_pos c3] at H
        have c3b0 : decide (x6_1 < (l0.length : Int)) = true := decide_eq_true c3
        clear c3
        by_cases c4 : 0 ≤ x6_1
        · rw [if_pos c4] at H
          have c4b0 : decide (0 ≤ x6_1) = true := decide_eq_true c4
          clear c4
          by_cases c5 : (rd l0 x6_1) < a1
          · rw [if_pos c5] at H
            have c5b0 : decide ((rd l0 x6_1) < a1) = true := decide_eq_true c5
            clear c5
            by_cases c6 : x5_1.length < 17592186044416
            · rw [if_pos c6] at H
              have LMc6 := Aside0.mk c6
              clear c6
              obtain ⟨y336, hy336⟩ : ∃ y_ : List Int, y_ = (x5_1 ++ [rd l0 x6_1]) := ⟨_, rfl⟩
              replace H : (understoryref12_with.l0 k1 l0 a1 y336 (wrap64 (x6_1 + 1))) = some r := by first | (rw [hy336]; with_reducible exact H) | (have H2_ := (Option.bind_some _ _).symm.trans H; rw [hy336]; with_reducible exact H2_) | (have H2_ := (Option.bind_some _ _).symm.trans H; with_reducible exact H2_) | with_reducible exact H | (rw [hy336]; exact H) | exact H
              have Ny336 := Aside0.mk hy336
              clear hy336
              have H' := Aside0.mk H
              clear H
              have p334 : 0 ≤ (x6_1 : Int) := of_decide_eq_true (by first | (with_reducible assumption) | assumption)
              have q334 : x6_1 < (l0.length : Int) := of_decide_eq_true (by first | (with_reducible assumption) | assumption)
              obtain ⟨ad334, e334, hx334_0⟩ := Kd.at_int HR0.out x6_1 p334 q334
              cases e334
              replace hx334_0 := (HB.out.cell (World.block_lt_of_cell? w _ hx334_0)).trans hx334_0
              replace p334 := eq_true p334
              replace q334 := eq_true q334
              have p335 : 0 ≤ (x6_1 : Int) := of_decide_eq_true (by first | (with_reducible assumption) | assumption)
              have q335 : x6_1 < (l0.length : Int) := of_decide_eq_true (by first | (with_reducible assumption) | assumption)
              obtain ⟨ad335, e335, hx335_0⟩ := Kd.at_int HR0.out x6_1 p335 q335
              obtain rfl : ad334 = ad335 := (by injection e335)
              replace hx335_0 := (HB.out.cell (World.block_lt_of_cell? w _ hx335_0)).trans hx335_0
              replace p335 := eq_true p335
              replace q335 := eq_true q335
              go_wp2_with (first | ((with_reducible refine gate_builtin (b := .append) (xs := #[.tmp 19, .tmp 24]) rfl ?_); at_builtin; refine Kd.R_append (Kd.int .i64) (w0 := w) w.heap.size rfl (.tmp 19) (.tmp 24) 23 3 (.int .i64 0) 8 rfl Tryz.underlying23 info3 rfl (by decide) (by omega) u5 x5_1 (rd l0 x6_1) [.int .i64 (rd l0 x6_1)] (fun _ => True) (fun _ => False) rfl rfl ?aP (fun _ hk => hk.elim) ?aF ?aO ?aB ?aS ?aL ?_; (case aP => exact rfl); (case aB => exact (by repeat (first | (with_reducible first | exact HB.out | apply below_alloc | apply pw_below_drewN | apply below_drew1) | exact HB.out))); (case aF => exact (fun _ _ => trivial)); (case aO => exact (by (with_reducible repeat (first | apply Kd.R_alloc | apply Kd.R_drewN | apply Kd.R_drew)); exact HO_5.out)); (case aS => exact (below_size (by repeat (first | (with_reducible first | exact HB.out | apply below_alloc | apply pw_below_drewN | apply below_drew1) | exact HB.out)))); (case aL => have := LMc6.out; omega); intro v337 w7 ho hb hg hat; rw [← Ny336.out] at ho; have n0_ := Aside0.mk (hb); have n1_ := Aside0.mk (ho); clear HB; clear HO_5; have HB := n0_; have HO338 := n1_; clear n0_ n1_; clear ho hb hg hat))
              go_roundg k1
              case measure => have := HK1.out; omega
              case rel => exact ⟨(y336), (wrap64 (x6_1 + 1)), (by first | rfl | (simp; done) | (simp [*]; done)), H', ⟨by have := HK1.out; omega⟩, ⟨by (with_reducible repeat (first | apply Kd.R_alloc | apply Kd.R_drewN | apply Kd.R_drew)); exact HO338.out⟩, ⟨by repeat (first | (with_reducible first | exact HB.out | apply below_alloc | apply pw_below_drewN | apply below_drew1) | exact HB.out)⟩⟩
            · rw [if_neg c6] at H
              exact absurd H (by simp)
          · rw [if_neg c5] at H
            have c5b0 : decide ((rd l0 x6_1) < a1) = false := decide_eq_false c5
            clear c5
            by_cases c8 : x5_1.length < 17592186044416
            · rw [if_pos c8] at H
              have LMc8 := Aside0.mk c8
              clear c8
              obtain ⟨y339, hy339⟩ : ∃ y_ : List Int, y_ = (x5_1 ++ [a1]) := ⟨_, rfl⟩
              replace H : (if x6_1 ≤ (l0.length : Int) then (if y339.length + (l0.drop (x6_1 : Int).toNat).length < 17592186044416 then (some (y339 ++ (l0.drop (x6_1 : Int).toNat))) else (none)) else (none)) = some r := by first | (rw [hy339]; with_reducible exact H) | (have H2_ := (Option.bind_some _ _).symm.trans H; rw [hy339]; with_reducible exact H2_) | (have H2_ := (Option.bind_some _ _).symm.trans H; with_reducible exact H2_) | with_reducible exact H | (rw [hy339]; exact H) | exact H
              have Ny339 := Aside0.mk hy339
              clear hy339
              have c9b0 := eq_true (of_decide_eq_true (by first | (with_reducible assumption) | assumption) : 0 ≤ x6_1)
              by_cases c10 : x6_1 ≤ (l0.length : Int)
              · rw [if_pos c10] at H
                have c10b0 := eq_true c10
                have c10b1 : decide (x6_1 ≤ (l0.length : Int)) = true := decide_eq_true c10
                clear c10
                by_cases c11 : y339.length + (l0.drop (x6_1 : Int).toNat).length < 17592186044416
                · rw [if_pos c11] at H
                  have LMc11 := Aside0.mk c11
                  clear c11
                  obtain ⟨y343, hy343⟩ : ∃ y_ : List Int, y_ = (y339 ++ (l0.drop (x6_1 : Int).toNat)) := ⟨_, rfl⟩
                  replace H : (some y343) = some r := by first | (rw [hy343]; with_reducible exact H) | (have H2_ := (Option.bind_some _ _).symm.trans H; rw [hy343]; with_reducible exact H2_) | (have H2_ := (Option.bind_some _ _).symm.trans H; with_reducible exact H2_) | with_reducible exact H | (rw [hy343]; exact H) | exact H
                  have Ny343 := Aside0.mk hy343
                  clear hy343
                  obtain rfl := Option.some.inj H
                  have p334 : 0 ≤ (x6_1 : Int) := of_decide_eq_true (by first | (with_reducible assumption) | assumption)
                  have q334 : x6_1 < (l0.length : Int) := of_decide_eq_true (by first | (with_reducible assumption) | assumption)
                  obtain ⟨ad334, e334, hx334_0⟩ := Kd.at_int HR0.out x6_1 p334 q334
                  cases e334
                  replace hx334_0 := (HB.out.cell (World.block_lt_of_cell? w _ hx334_0)).trans hx334_0
                  replace p334 := eq_true p334
                  replace q334 := eq_true q334
                  go_wp2_with (first | ((with_reducible refine gate_builtin (b := .append) (xs := #[.tmp 28, .tmp 30]) rfl ?_); at_builtin; refine Kd.R_append (Kd.int .i64) (w0 := w) w.heap.size rfl (.tmp 28) (.tmp 30) 23 3 (.int .i64 0) 8 rfl Tryz.underlying23 info3 rfl (by decide) (by omega) u5 x5_1 a1 [.int .i64 a1] (fun _ => True) (fun _ => False) rfl rfl ?aP (fun _ hk => hk.elim) ?aF ?aO ?aB ?aS ?aL ?_; (case aP => exact rfl); (case aB => exact (by repeat (first | (with_reducible first | exact HB.out | apply below_alloc | apply pw_below_drewN | apply below_drew1) | exact HB.out))); (case aF => exact (fun _ _ => trivial)); (case aO => exact (by (with_reducible repeat (first | apply Kd.R_alloc | apply Kd.R_drewN | apply Kd.R_drew)); exact HO_5.out)); (case aS => exact (below_size (by repeat (first | (with_reducible first | exact HB.out | apply below_alloc | apply pw_below_drewN | apply below_drew1) | exact HB.out)))); (case aL => have := LMc8.out; omega); intro v340 w12 ho hb hg hat; rw [← Ny339.out] at ho; have n0_ := Aside0.mk (hb); have n1_ := Aside0.mk (ho); clear HB; clear HO_5; have HB := n0_; have HO341 := n1_; clear n0_ n1_; clear ho hb hg hat; obtain ⟨i013, hi013, _, hsz13, _⟩ := info_parts info3; obtain ⟨A13, hcut13, hA13, hC13⟩ := print_drop_of (P := Tryz.prog) (Value.int .i64) 0 23 3 .i64 Tryz.underlying23 hi013 hsz13 (some ad334) c0 l0 x6_1 (of_decide_eq_true (by first | (with_reducible assumption) | assumption)) (of_decide_eq_true (by first | (with_reducible assumption) | assumption)) HC0.out; have HR342 := Aside0.mk (Kd.C_of_reads (h1 := fun _ => rfl) (hA13 _ (Kd.reads_of_C HR0.out))); have HC342 := Aside0.mk hC13; clear hA13 hC13 hi013 hsz13) | ((with_reducible refine gate_builtin (b := .append) (xs := #[.tmp 32, .tmp 35]) rfl ?_); at_builtin; refine Kd.R_append_rows (Kd.int .i64) (w0 := w) w.heap.size rfl (.tmp 32) (.tmp 35) 23 3 (.int .i64 0) 8 rfl Tryz.underlying23 info3 rfl (by decide) (by omega) v340 y339 (l0.drop (x6_1 : Int).toNat) _ _ _ (fun _ => True) (fun _ => False) rfl rfl ?aO ?aR (fun _ _ h => h) (fun _ h => h.elim) ?aF ?aB ?aS ?aL ?_; (case aR => first | (rw [← show (l0.drop (x6_1 : Int).toNat).length = (l0.length - x6_1.toNat) from List.length_drop]; repeat (first | exact (Kd.C_below HR342.out HB.out) | (with_reducible refine Kd.C_alloc ?_ _) | (with_reducible refine Kd.C_drewN ?_ _) | (with_reducible refine Kd.C_drew ?_))) | (repeat (first | exact (Kd.C_below HR342.out HB.out) | (with_reducible refine Kd.C_alloc ?_ _) | (with_reducible refine Kd.C_drewN ?_ _) | (with_reducible refine Kd.C_drew ?_)))); (case aB => exact (by repeat (first | (with_reducible first | exact HB.out | apply below_alloc | apply pw_below_drewN | apply below_drew1) | exact HB.out))); (case aF => exact (fun _ _ => trivial)); (case aO => exact (by (with_reducible repeat (first | apply Kd.R_alloc | apply Kd.R_drewN | apply Kd.R_drew)); exact HO341.out)); (case aS => exact (below_size (by repeat (first | (with_reducible first | exact HB.out | apply below_alloc | apply pw_below_drewN | apply below_drew1) | exact HB.out)))); (case aL => have := LMc11.out; have hlx_ := (show (l0.drop (x6_1 : Int).toNat).length = (l0.length - x6_1.toNat) from List.length_drop); omega); intro v344 w14 ho hb hg hat; rw [← Ny343.out] at ho; have n0_ := Aside0.mk (hb); have n1_ := Aside0.mk (ho); clear HB; clear HO341; have HB := n0_; have HO345 := n1_; clear n0_ n1_; clear ho hb hg hat))
                  go_ret
                  exact ⟨_, by first | rfl | (simp [errW_none, errW_some] <;> rfl) | (simp [*, errW_none, errW_some] <;> rfl), by (with_reducible repeat (first | apply Kd.R_alloc | apply Kd.R_drewN | apply Kd.R_drew)); exact HO345.out, by repeat (first | (with_reducible first | exact HB.out | apply below_alloc | apply pw_below_drewN | apply below_drew1) | exact HB.out)⟩
                · rw [if_neg c11] at H
                  exact absurd H (by simp)
              · rw [if_neg c10] at H
                exact absurd H (by simp)
            · rw [if_neg c8] at H
              exact absurd H (by simp)
        · rw [if_neg c4] at H
          exact absurd H (by simp)
      · rw [if_neg c3] at H
        have c3b0 : decide (x6_1 < (l0.length : Int)) = false := decide_eq_false c3
        clear c3
        by_cases c15 : x5_1.length < 17592186044416
        · rw [if_pos c15] at H
          have LMc15 := Aside0.mk c15
          clear c15
          obtain ⟨y346, hy346⟩ : ∃ y_ : List Int, y_ = (x5_1 ++ [a1]) := ⟨_, rfl⟩
          replace H : (if 0 ≤ x6_1 then (if x6_1 ≤ (l0.length : Int) then (if y346.length + (l0.drop (x6_1 : Int).toNat).length < 17592186044416 then (some (y346 ++ (l0.drop (x6_1 : Int).toNat))) else (none)) else (none)) else (none)) = some r := by first | (rw [hy346]; with_reducible exact H) | (have H2_ := (Option.bind_some _ _).symm.trans H; rw [hy346]; with_reducible exact H2_) | (have H2_ := (Option.bind_some _ _).symm.trans H; with_reducible exact H2_) | with_reducible exact H | (rw [hy346]; exact H) | exact H
          have Ny346 := Aside0.mk hy346
          clear hy346
          by_cases c16 : 0 ≤ x6_1
          · rw [if_pos c16] at H
            have c16b0 := eq_true c16
            have c16b1 : decide (0 ≤ x6_1) = true := decide_eq_true c16
            clear c16
            by_cases c17 : x6_1 ≤ (l0.length : Int)
            · rw [if_pos c17] at H
              have c17b0 := eq_true c17
              have c17b1 : decide (x6_1 ≤ (l0.length : Int)) = true := decide_eq_true c17
              clear c17
              by_cases c18 : y346.length + (l0.drop (x6_1 : Int).toNat).length < 17592186044416
              · rw [if_pos c18] at H
                have LMc18 := Aside0.mk c18
                clear c18
                obtain ⟨y350, hy350⟩ : ∃ y_ : List Int, y_ = (y346 ++ (l0.drop (x6_1 : Int).toNat)) := ⟨_, rfl⟩
                replace H : (some y350) = some r := by first | (rw [hy350]; with_reducible exact H) | (have H2_ := (Option.bind_some _ _).symm.trans H; rw [hy350]; with_reducible exact H2_) | (have H2_ := (Option.bind_some _ _).symm.trans H; with_reducible exact H2_) | with_reducible exact H | (rw [hy350]; exact H) | exact H
                have Ny350 := Aside0.mk hy350
                clear hy350
                obtain rfl := Option.some.inj H
                go_wp2_with (first | ((with_reducible refine gate_builtin (b := .append) (xs := #[.tmp 28, .tmp 30]) rfl ?_); at_builtin; refine Kd.R_append (Kd.int .i64) (w0 := w) w.heap.size rfl (.tmp 28) (.tmp 30) 23 3 (.int .i64 0) 8 rfl Tryz.underlying23 info3 rfl (by decide) (by omega) u5 x5_1 a1 [.int .i64 a1] (fun _ => True) (fun _ => False) rfl rfl ?aP (fun _ hk => hk.elim) ?aF ?aO ?aB ?aS ?aL ?_; (case aP => exact rfl); (case aB => exact (by repeat (first | (with_reducible first | exact HB.out | apply below_alloc | apply pw_below_drewN | apply below_drew1) | exact HB.out))); (case aF => exact (fun _ _ => trivial)); (case aO => exact (by (with_reducible repeat (first | apply Kd.R_alloc | apply Kd.R_drewN | apply Kd.R_drew)); exact HO_5.out)); (case aS => exact (below_size (by repeat (first | (with_reducible first | exact HB.out | apply below_alloc | apply pw_below_drewN | apply below_drew1) | exact HB.out)))); (case aL => have := LMc15.out; omega); intro v347 w19 ho hb hg hat; rw [← Ny346.out] at ho; have n0_ := Aside0.mk (hb); have n1_ := Aside0.mk (ho); clear HB; clear HO_5; have HB := n0_; have HO348 := n1_; clear n0_ n1_; clear ho hb hg hat; obtain ⟨i020, hi020, _, hsz20, _⟩ := info_parts info3; obtain ⟨A20, hcut20, hA20, hC20⟩ := print_drop_of (P := Tryz.prog) (Value.int .i64) 0 23 3 .i64 Tryz.underlying23 hi020 hsz20 A0 c0 l0 x6_1 (of_decide_eq_true (by first | (with_reducible assumption) | assumption)) (of_decide_eq_true (by first | (with_reducible assumption) | assumption)) HC0.out; have HR349 := Aside0.mk (Kd.C_of_reads (h1 := fun _ => rfl) (hA20 _ (Kd.reads_of_C HR0.out))); have HC349 := Aside0.mk hC20; clear hA20 hC20 hi020 hsz20) | ((with_reducible refine gate_builtin (b := .append) (xs := #[.tmp 32, .tmp 35]) rfl ?_); at_builtin; refine Kd.R_append_rows (Kd.int .i64) (w0 := w) w.heap.size rfl (.tmp 32) (.tmp 35) 23 3 (.int .i64 0) 8 rfl Tryz.underlying23 info3 rfl (by decide) (by omega) v347 y346 (l0.drop (x6_1 : Int).toNat) _ _ _ (fun _ => True) (fun _ => False) rfl rfl ?aO ?aR (fun _ _ h => h) (fun _ h => h.elim) ?aF ?aB ?aS ?aL ?_; (case aR => first | (rw [← show (l0.drop (x6_1 : Int).toNat).length = (l0.length - x6_1.toNat) from List.length_drop]; repeat (first | exact (Kd.C_below HR349.out HB.out) | (with_reducible refine Kd.C_alloc ?_ _) | (with_reducible refine Kd.C_drewN ?_ _) | (with_reducible refine Kd.C_drew ?_))) | (repeat (first | exact (Kd.C_below HR349.out HB.out) | (with_reducible refine Kd.C_alloc ?_ _) | (with_reducible refine Kd.C_drewN ?_ _) | (with_reducible refine Kd.C_drew ?_)))); (case aB => exact (by repeat (first | (with_reducible first | exact HB.out | apply below_alloc | apply pw_below_drewN | apply below_drew1) | exact HB.out))); (case aF => exact (fun _ _ => trivial)); (case aO => exact (by (with_reducible repeat (first | apply Kd.R_alloc | apply Kd.R_drewN | apply Kd.R_drew)); exact HO348.out)); (case aS => exact (below_size (by repeat (first | (with_reducible first | exact HB.out | apply below_alloc | apply pw_below_drewN | apply below_drew1) | exact HB.out)))); (case aL => have := LMc18.out; have hlx_ := (show (l0.drop (x6_1 : Int).toNat).length = (l0.length - x6_1.toNat) from List.length_drop); omega); intro v351 w21 ho hb hg hat; rw [← Ny350.out] at ho; have n0_ := Aside0.mk (hb); have n1_ := Aside0.mk (ho); clear HB; clear HO348; have HB := n0_; have HO352 := n1_; clear n0_ n1_; clear ho hb hg hat))
                go_ret
                exact ⟨_, by first | rfl | (simp [errW_none, errW_some] <;> rfl) | (simp [*, errW_none, errW_some] <;> rfl), by (with_reducible repeat (first | apply Kd.R_alloc | apply Kd.R_drewN | apply Kd.R_drew)); exact HO352.out, by repeat (first | (with_reducible first | exact HB.out | apply below_alloc | apply pw_below_drewN | apply below_drew1) | exact HB.out)⟩
              · rw [if_neg c18] at H
                exact absurd H (by simp)
            · rw [if_neg c17] at H
              exact absurd H (by simp)
          · rw [if_neg c16] at H
            exact absurd H (by simp)
        · rw [if_neg c15] at H
          exact absurd H (by simp)

-- NOT PRINTED: function 61 (understoryref12_Put)

end Go.Proofs.YtpnhelcemodnmaaGreat.PA

/- The reference: a number is laid into an increasing list. -/
namespace Go.Proofs.YtpnhelcemodnmaaGreat
open Go.RowKit Go.Shelf Go.Proofs.YtpnhelcemodnmaaGreatW.PrintWords Go.Proofs.YtpnhelcemodnmaaGreatW.PrintLast Go.Proofs.YtpnhelcemodnmaaGreatW.PrintMore PA
set_option linter.unusedVariables false
set_option linter.unusedSimpArgs false
attribute [local go_sem] Oper.semAt_some
theorem take_while (l : List Int) (n : Int) (i : Nat) (h1 : i ≤ l.length) (h2 : ∀ x ∈ l.take i, x < n) (h3 : ∀ h : i < l.length, ¬ l[i] < n) : insI l n = l.take i ++ n :: l.drop i := by
  have e : l = l.take i ++ l.drop i := (List.take_append_drop i l).symm
  have e1 : l.takeWhile (fun x => decide (x < n)) = l.take i ∧ l.dropWhile (fun x => decide (x < n)) = l.drop i := by
    have hd : (l.drop i).takeWhile (fun x => decide (x < n)) = [] ∧ (l.drop i).dropWhile (fun x => decide (x < n)) = l.drop i := by
      by_cases h : i < l.length
      · rw [List.drop_eq_getElem_cons h]
        have := h3 h
        rw [List.takeWhile_cons_of_neg (by simpa using this), List.dropWhile_cons_of_neg (by simpa using this)]
        exact ⟨rfl, rfl⟩
      · rw [List.drop_eq_nil_of_le (by omega)]; exact ⟨rfl, rfl⟩
    have ha : ∀ x ∈ l.take i, (fun x => decide (x < n)) x = true := fun x hx => decide_eq_true (h2 x hx)
    conv => lhs; lhs; rw [e]
    conv => rhs; lhs; rw [e]
    rw [List.takeWhile_append_of_pos ha, List.dropWhile_append_of_pos ha, hd.1, hd.2, List.append_nil]
    exact ⟨rfl, rfl⟩
  unfold insI
  rw [e1.1, e1.2]
theorem with_l0 (l : List Int) (n : Int) (hl : l.length ≤ 1000000000) (d : Nat) : ∀ i : Nat, i ≤ l.length → l.length - i = d → (∀ x ∈ l.take i, x < n) → understoryref12_with.l0 (d + 1) l n (l.take i) (i : Int) = some (insI l n) := by
  induction d with
  | zero =>
    intro i h1 h2 h3
    obtain rfl : i = l.length := by omega
    simp only [understoryref12_with.l0]
    rw [if_neg (by omega), if_pos (by rw [List.length_take]; omega)]
    simp only [Option.bind_some]
    rw [if_pos (by omega), if_pos (by omega), if_pos (by simp; omega), take_while l n l.length (by omega) h3 (fun h => absurd h (by omega))]
    simp
  | succ d ih =>
    intro i h1 h2 h3
    have ha : i < l.length := by omega
    simp only [understoryref12_with.l0]
    rw [if_pos (by omega), if_pos (by omega), rd_at l i ha]
    by_cases c : l[i] < n
    · rw [if_pos c, if_pos (by rw [List.length_take]; omega), wrapp i (by omega)]
      have := ih (i + 1) (by omega) (by omega) (by
        rw [List.take_succ_eq_append_getElem ha]
        intro x hx
        rcases List.mem_append.1 hx with hx | hx
        · exact h3 x hx
        · rw [List.mem_singleton.1 hx]; exact c)
      rw [List.take_succ_eq_append_getElem ha] at this
      exact this
    · rw [if_neg c, if_pos (by rw [List.length_take]; omega)]
      simp only [Option.bind_some]
      rw [if_pos (by omega), if_pos (by simp; omega), take_while l n i (by omega) h3 (fun _ => c)]
      simp
theorem with_any (l : List Int) (n : Int) (A : Option Addr) (c : Nat) (w : World) (hC : (Kd.int .i64).C w A l.length l) (hc : l.length ≤ c) (hl : l.length ≤ 1000000000) :
    Calls Tryz.prog 70 #[.slice A l.length c, .int .i64 n] w fun e w' => ∃ v, e = .returned v ∧ (Kd.int .i64).R 3 w' w.heap.size (fun _ => True) v (insI l n) ∧ Below w.heap.size w w' :=
  understoryref12_with.calls _ A c l n _ w hC hc (with_l0 l n hl _ 0 (Nat.zero_le _) rfl (by simp))
end Go.Proofs.YtpnhelcemodnmaaGreat

/- The walk of numbers. -/
namespace Go.Proofs.YtpnhelcemodnmaaGreat
open Go.RowKit Go.Shelf Go.Proofs.YtpnhelcemodnmaaGreatW.PrintWords Go.Proofs.YtpnhelcemodnmaaGreatW.PrintLast Go.Proofs.YtpnhelcemodnmaaGreatW.PrintMore PA
set_option linter.unusedVariables false
set_option linter.unusedSimpArgs false
attribute [local go_sem] Oper.semAt_some
/-- The first place of a list with a property, or -1. -/
def idxI (P : Int → Bool) : List Int → Int
  | [] => -1
  | x :: t => if P x = true then 0 else if idxI P t = -1 then -1 else idxI P t + 1
theorem idxI_none (P : Int → Bool) (l : List Int) (h : ∀ x ∈ l, P x = false) : idxI P l = -1 := by
  induction l with
  | nil => rfl
  | cons x t ih => rw [idxI, if_neg (by rw [h x List.mem_cons_self]; simp), if_pos (ih fun y hy => h y (List.mem_cons_of_mem _ hy))]
theorem idxI_at (P : Int → Bool) (l : List Int) (k : Nat) (hk : k < l.length) (h : ∀ x ∈ l.take k, P x = false) (hp : P l[k] = true) : idxI P l = k := by
  induction l generalizing k with
  | nil => simp at hk
  | cons x t ih =>
    cases k with
    | zero => rw [idxI, if_pos (by simpa using hp)]; rfl
    | succ k =>
      have := ih k (by simpa using hk) (fun y hy => h y (by simp [hy])) (by simpa using hp)
      rw [idxI, if_neg (by rw [h x (by simp)]; simp), this, if_neg (by omega)]
      omega
def noNum (n : Int) : Bool := !decide (2 ≤ n ∧ n ≤ 4095)
set_option maxHeartbeats 1000000 in
theorem nonum_any (n : Int) (w : World) : Calls Tryz.prog 143 #[.int .i64 n] w fun e w' => e = .returned (.bool (noNum n)) ∧ Drawn0 w w' := by
  have HN := Lib.hid (page_numbered.calls n _ w (pnum_some n))
  unfold noNum
  obtain ⟨b, hb⟩ : ∃ b, decide (2 ≤ n ∧ n ≤ 4095) = b := ⟨_, rfl⟩
  rw [hb] at HN ⊢
  clear hb
  have hnot : ∀ (x : Bool) (w : World), (Op.unary .not (.bool x)).run Tryz.prog w = .ok (.bool (!x)) w := fun _ _ => rfl
  go_enter Tryz.func143, Tryz.ntmps143
  go_wp2_with (go_at_call 119; (refine HN.out.mono ?_); rintro e w' ⟨rfl, ⟨nd, rfl⟩⟩)
  go_ret
  exact ⟨rfl, ⟨nd, rfl⟩⟩
set_option maxRecDepth 100000 in
set_option maxHeartbeats 1000000 in
theorem index_nonum (l : List Int) (A : Option Addr) (c : Nat) (w : World) (hC : (Kd.int .i64).C w A l.length l) (hc : l.length ≤ c) (hl : l.length ≤ 1000000) :
    Calls Tryz.prog 140 #[.slice A l.length c, .func (.func 143) #[] #[]] w fun e w' => e = .returned (.int .i64 (idxI noNum l)) ∧ Below w.heap.size w w' := by
  go_enter Tryz.func140, Tryz.ntmps140
  go_wp2
  go_loopw [8] (fun i wr => ∃ k : Nat, k ≤ l.length ∧ i = .int .i64 k ∧ (∀ x ∈ l.take k, noNum x = false) ∧ Aside0 (Below w.heap.size w wr))
    (fun i _ => l.length - (intOf i).toNat)
  case atStart => exact ⟨0, Nat.zero_le _, rfl, by simp, ⟨Below.refl _ _⟩⟩
  case round =>
    obtain ⟨k, hk, rfl, hno, HB⟩ := hrel
    have HNO := Lib.hid hno
    clear hno
    by_cases hlt : k < l.length
    · obtain ⟨ad, rfl, hx⟩ := Kd.at_int (Kd.C_below hC HB.out) (k : Int) (by omega) (by omega)
      rw [Int.toNat_natCast, rd_at l k hlt] at hx
      obtain ⟨x, hxx⟩ : ∃ x, l[k] = x := ⟨_, rfl⟩
      rw [hxx] at hx
      have HC := Lib.hid (nonum_any x wr)
      have HT := Lib.hid (show l.take (k + 1) = l.take k ++ [x] by rw [List.take_succ_eq_append_getElem hlt, hxx])
      by_cases hb : noNum x = true
      · have HE := Lib.hid (idxI_at noNum l k hlt HNO.out (by rw [hxx]; exact hb))
        rw [hb] at HC
        clear hxx hC hb
        go_wp2_with (go_at_call 143; (refine HC.out.mono ?_); rintro e w' ⟨rfl, ⟨nd, rfl⟩⟩)
        go_ret
        exact ⟨by rw [HE.out]; rfl, pw_below_drewN HB.out nd⟩
      · have hb2 : noNum x = false := by simpa using hb
        rw [hb2] at HC
        have HB2 := Lib.hid hb2
        clear hxx hC hb hb2
        go_wp2_with (go_at_call 143; (refine HC.out.mono ?_); rintro e w' ⟨rfl, ⟨nd, rfl⟩⟩)
        go_roundw
        case rel => exact ⟨k + 1, by omega, by go_num, by rw [HT.out]; intro y hy; rcases List.mem_append.1 hy with h | h; exact HNO.out y h; rw [List.mem_singleton.1 h]; exact HB2.out, ⟨pw_below_drewN HB.out nd⟩⟩
        case measure => simp [intOf]; omega
    · obtain rfl : k = l.length := by omega
      have HE := Lib.hid (idxI_none noNum l (by have := HNO.out; rwa [List.take_length] at this))
      go_wp2
      go_ret
      exact ⟨by rw [HE.out]; rfl, HB.out⟩
theorem idx_ge (l : List Int) : decide (idxI noNum l ≥ 0) = !decide (∀ x ∈ l, 2 ≤ x ∧ x ≤ 4095) := by
  by_cases h : ∀ x ∈ l, 2 ≤ x ∧ x ≤ 4095
  · rw [idxI_none noNum l (fun x hx => by simp [noNum, h x hx]), decide_eq_true h]; rfl
  · rw [decide_eq_false h]
    have h2 : 0 ≤ idxI noNum l := by
      induction l with
      | nil => exact absurd (by simp) h
      | cons x t ih =>
        rw [idxI]
        by_cases hx : noNum x = true
        · rw [if_pos hx]; omega
        · rw [if_neg hx]
          have hx2 : 2 ≤ x ∧ x ≤ 4095 := by simpa [noNum] using hx
          have := ih fun h3 => h fun y hy => by rcases List.mem_cons.1 hy with rfl | hy; exact hx2; exact h3 y hy
          rw [if_neg (by omega)]; omega
    simpa using h2
set_option maxHeartbeats 1000000 in
theorem contains_nonum (l : List Int) (A : Option Addr) (c : Nat) (w : World) (hC : (Kd.int .i64).C w A l.length l) (hc : l.length ≤ c) (hl : l.length ≤ 1000000) :
    Calls Tryz.prog 142 #[.slice A l.length c, .func (.func 143) #[] #[]] w fun e w' => e = .returned (.bool (!decide (∀ x ∈ l, 2 ≤ x ∧ x ≤ 4095))) ∧ Below w.heap.size w w' := by
  have HI := Lib.hid (index_nonum l A c w hC hc hl)
  have HE := Lib.hid (idx_ge l)
  clear hC
  go_enter Tryz.func142, Tryz.ntmps142
  go_wp2_with (go_at_call 140; (refine HI.out.mono ?_); rintro e w' ⟨rfl, hb⟩)
  go_ret
  exact ⟨by rw [HE.out]; rfl, hb⟩
/-- Numbers of pages are different and each is one; a version is one. -/
def numB (l : List Int) (v : Int) : Bool := decide (l.Nodup ∧ (∀ x ∈ l, 2 ≤ x ∧ x ≤ 4095) ∧ 0 ≤ v ∧ v ≤ 1099511627776)
end Go.Proofs.YtpnhelcemodnmaaGreat

/- The walk of numbers, joined. -/
namespace Go.Proofs.YtpnhelcemodnmaaGreat
open Go.RowKit Go.Shelf Go.Proofs.YtpnhelcemodnmaaGreatW.PrintWords Go.Proofs.YtpnhelcemodnmaaGreatW.PrintLast Go.Proofs.YtpnhelcemodnmaaGreatW.PrintMore PA
set_option linter.unusedVariables false
set_option linter.unusedSimpArgs false
attribute [local go_sem] Oper.semAt_some
theorem len_eq (l : List Int) : (((Lib.compact (sortI l)).length : Int) == (l.length : Int)) = decide l.Nodup := by
  have := compact_sort l
  by_cases h : l.Nodup
  · rw [decide_eq_true h, this.2 h]; simp
  · rw [decide_eq_false h]
    have h2 : ¬ (Lib.compact (sortI l)).length = l.length := fun e => h (this.1 e)
    simp; omega
set_option maxRecDepth 100000 in
set_option maxHeartbeats 1000000 in
theorem numbers_any (l : List Int) (v : Int) (A : Option Addr) (c : Nat) (w : World) (hC : (Kd.int .i64).C w A l.length l) (hc : l.length ≤ c) (hl : l.length ≤ 1000000) :
    Calls Tryz.prog 100 #[.slice A l.length c, .int .i64 v] w fun e w' => e = .returned (.bool (numB l v)) ∧ Below w.heap.size w w' := by
  have HL := Lib.hid (cloneInt l A c w hC (by omega))
  have HK := Lib.hid (fun (w1 : World) (hb : Below w.heap.size w w1) => contains_nonum l A c w1 (Kd.C_below hC hb) hc hl)
  have HE := Lib.hid (len_eq l)
  obtain ⟨b1, hb1⟩ : ∃ b, decide l.Nodup = b := ⟨_, rfl⟩
  obtain ⟨b2, hb2⟩ : ∃ b, decide (∀ x ∈ l, 2 ≤ x ∧ x ≤ 4095) = b := ⟨_, rfl⟩
  obtain ⟨b3, hb3⟩ : ∃ b, decide (0 ≤ v ∧ v ≤ 1099511627776) = b := ⟨_, rfl⟩
  have hN : numB l v = (b1 && (b2 && b3)) := by rw [← hb1, ← hb2, ← hb3, numB]; simp
  rw [hN]
  have HW := Lib.hid (fun (w1 : World) => page_within.calls v 0 1099511627776 _ w1 (pwithin_some v 0 1099511627776))
  rw [hb2] at HK
  rw [hb1] at HE
  rw [hb3] at HW
  have HS := Lib.hid (show (sortI l).length = l.length from sortI_length l)
  clear hb1 hb2 hb3 hN hC
  have hnot : ∀ (x : Bool) (w : World), (Op.unary .not (.bool x)).run Tryz.prog w = .ok (.bool (!x)) w := fun _ _ => rfl
  have hll : l.length < 4611686018427387904 := by omega
  have HLL := Aside0.mk hll
  clear hll
  obtain ⟨m, hm⟩ : ∃ m, (Lib.compact (sortI l)).length = m := ⟨_, rfl⟩
  rw [hm] at HE
  have HM := Lib.hid hm
  clear hm
  go_enter Tryz.func100, Tryz.ntmps100
  cases b1 <;> cases b2
  all_goals
    have hE := HE.out
    go_wp2_with (first
      | (go_at_call 96; (refine HL.out.mono ?_); rintro e w1 ⟨u, rfl, hu, hb1⟩; obtain ⟨uA, uc, rfl⟩ := Kd.R_slice hu)
      | (go_at_call 73; (refine (sort_R hu HLL.out).mono ?_); rintro e w2 ⟨rfl, hs, hkp, hb2⟩)
      | (go_at_call 141; (refine (compact_R hs (by rw [HS.out]; exact HLL.out)).mono ?_); rintro e w3 ⟨⟨dA, dc, rfl⟩, hb3⟩; rw [HM.out])
      | (go_at_call 142; (refine (HK.out _ (hb1.trans (hb2.trans hb3))).mono ?_); rintro e w4 ⟨rfl, hb4⟩)
      | (go_at_call 118; (refine (HW.out _).mono ?_); rintro e w5 ⟨rfl, ⟨nd, rfl⟩⟩))
    go_ret
    refine ⟨rfl, ?_⟩
    first | exact pw_below_drewN ((hb1.trans (hb2.trans hb3)).trans (hb4.mono (hb1.trans (hb2.trans hb3)).size)) nd | exact (hb1.trans (hb2.trans hb3)).trans (hb4.mono (hb1.trans (hb2.trans hb3)).size) | exact hb1.trans (hb2.trans hb3)
end Go.Proofs.YtpnhelcemodnmaaGreat

/- Pages as rows of ten cells; chained. -/
namespace Go.Proofs.YtpnhelcemodnmaaGreat
open Go.RowKit Go.Shelf Go.Proofs.YtpnhelcemodnmaaGreatW.PrintWords Go.Proofs.YtpnhelcemodnmaaGreatW.PrintLast Go.Proofs.YtpnhelcemodnmaaGreatW.PrintMore PA
set_option linter.unusedVariables false
set_option linter.unusedSimpArgs false
attribute [local go_sem] Oper.semAt_some
/-- A page: its entries are told by the slice alone. -/
structure S89 where
  kind : Int
  no : Int
  ver : Int
  tree : Int
  level : Int
  top : Bool
  ent : Option Addr × Nat × Nat
  next : Int
  data : ByteArray
  freed : List S64
def z89 : S89 := ⟨0, 0, 0, 0, 0, false, (none, 0, 0), 0, ⟨#[]⟩, []⟩
/-- A slice told by its head alone. -/
def kHead : Kd (Option Addr × Nat × Nat) := Kd.scalar (fun x => Value.slice x.1 x.2.1 x.2.2) (fun _ => rfl)
def k89 : Kd S89 := Kd.iso (Kd.pair (Kd.int .i64) (Kd.pair (Kd.int .i64) (Kd.pair (Kd.int .i64) (Kd.pair (Kd.int .i64) (Kd.pair (Kd.int .i64) (Kd.pair Kd.bool (Kd.pair kHead (Kd.pair (Kd.int .i64) (Kd.pair Kd.string (Kd.slice 64 k64))))))))))
  (fun x : S89 => (x.kind, x.no, x.ver, x.tree, x.level, x.top, x.ent, x.next, x.data, x.freed))
theorem k89_heap : Kd.Heap k89 := Kd.heap_iso _ (Kd.heap_pair (Kd.heap_int _) (Kd.heap_pair (Kd.heap_int _) (Kd.heap_pair (Kd.heap_int _) (Kd.heap_pair (Kd.heap_int _) (Kd.heap_pair (Kd.heap_int _) (Kd.heap_pair Kd.heap_bool (Kd.heap_pair Kd.heap_scalar (Kd.heap_pair (Kd.heap_int _) (Kd.heap_pair Kd.heap_string (Kd.heap_slice 64 k64_heap))))))))))
theorem k89_sz : k89.sz = 10 := rfl
/-- A page's cells. -/
def cells89 (x : S89) (A : Option Addr) (c : Nat) : List Value := [.int .i64 x.kind, .int .i64 x.no, .int .i64 x.ver, .int .i64 x.tree, .int .i64 x.level, .bool x.top, .slice x.ent.1 x.ent.2.1 x.ent.2.2, .int .i64 x.next, .string x.data, .slice A x.freed.length c]
theorem k89_open {w : World} {x : S89} {cs : List Value} (h : k89.K w x cs) : ∃ A c, cs = cells89 x A c ∧ x.freed.length ≤ c ∧ k64.C w A x.freed.length x.freed := by
  obtain ⟨_, _, rfl, rfl, _, _, rfl, rfl, _, _, rfl, rfl, _, _, rfl, rfl, _, _, rfl, rfl, _, _, rfl, rfl, _, _, rfl, rfl, _, _, rfl, rfl, _, _, rfl, rfl, ⟨A, c, rfl, l1, g1⟩⟩ := h
  exact ⟨A, c, rfl, l1, g1⟩
theorem k89_mk (w : World) (x : S89) {A : Option Addr} {c : Nat} (l1 : x.freed.length ≤ c) (g1 : k64.C w A x.freed.length x.freed) : k89.K w x (cells89 x A c) :=
  ⟨[_], _, rfl, rfl, [_], _, rfl, rfl, [_], _, rfl, rfl, [_], _, rfl, rfl, [_], _, rfl, rfl, [_], _, rfl, rfl, [_], _, rfl, rfl, [_], _, rfl, rfl, [_], _, rfl, rfl, ⟨A, c, rfl, l1, g1⟩⟩
theorem k89_openF {W : World} {ok : Nat → Prop} {x : S89} {cs : List Value} (h : Kd.FK k89 W ok x cs) : ∃ A c, cs = cells89 x A c ∧ x.freed.length ≤ c ∧ Kd.F k64 W ok A x.freed.length x.freed := by
  obtain ⟨A, c, rfl, l1, _⟩ := k89_open (Kd.FK_now h)
  refine ⟨A, c, rfl, l1, fun W' hW => ?_⟩
  obtain ⟨A', c', he, l', g'⟩ := k89_open (h W' hW)
  injection (Option.some.inj (show some (Value.slice A x.freed.length c) = some (Value.slice A' x.freed.length c') from congrArg (fun l => l[9]?) he)) with ha _ _
  rw [ha]
  exact g'
theorem k89_mkF (W : World) (ok : Nat → Prop) (x : S89) {A : Option Addr} {c : Nat} (l1 : x.freed.length ≤ c) (g1 : Kd.F k64 W ok A x.freed.length x.freed) : Kd.FK k89 W ok x (cells89 x A c) := fun W2 hW => k89_mk W2 x l1 (g1 W2 hW)
theorem info89 : (Tryz.prog.info? 89).map (fun i => (i.zero, i.size, i.bytes)) = some (some (.agg (cells89 z89 none 0).toArray), 10, 120) := by kernel_rfl
theorem zero89F {W : World} {ok : Nat → Prop} : Kd.FK k89 W ok z89 (cells89 z89 none 0) := k89_mkF W ok z89 (Nat.le_refl _) (Kd.F_nil _ _ _)
/-- Page i of a row of pages. -/
def pg (l : List S89) (i : Nat) : S89 := l.getD i z89
def chP (n : Nat) (no : List Int) (kind v : Int) (i : Nat) (p : S89) : S89 := { p with kind := kind, no := rd no (i : Int), ver := v, next := if i + 1 < n then rd no ((i + 1 : Nat) : Int) else p.next }
/-- The first k pages have got numbers, each leads to the next one. -/
def chTo (k : Nat) (l : List S89) (no : List Int) (kind v : Int) : List S89 := l.mapIdx fun i p => if i < k then chP l.length no kind v i p else p
theorem chTo_length (k : Nat) (l : List S89) (no : List Int) (kind v : Int) : (chTo k l no kind v).length = l.length := by simp [chTo]
theorem chTo_zero (l : List S89) (no : List Int) (kind v : Int) : chTo 0 l no kind v = l := by
  refine List.ext_getElem (by simp [chTo]) fun i h1 h2 => ?_
  simp [chTo]
theorem chTo_at (k : Nat) (l : List S89) (no : List Int) (kind v : Int) (h : k < l.length) : (chTo k l no kind v).getD k z89 = pg l k := by
  simp [chTo, pg, h]
theorem chTo_step (k : Nat) (l : List S89) (no : List Int) (kind v : Int) (h : k < l.length) : (chTo k l no kind v).set k (chP l.length no kind v k (pg l k)) = chTo (k + 1) l no kind v := by
  refine List.ext_getElem (by simp [chTo]) fun i h1 h2 => ?_
  simp only [List.getElem_set, chTo, List.getElem_mapIdx]
  by_cases e : k = i
  · subst e
    rw [if_pos rfl, if_pos (by omega)]
    simp [pg, h]
  · rw [if_neg e]
    by_cases e2 : i < k
    · rw [if_pos e2, if_pos (by omega)]
    · rw [if_neg e2, if_neg (by omega)]
end Go.Proofs.YtpnhelcemodnmaaGreat

/- The walk of chained. -/
namespace Go.Proofs.YtpnhelcemodnmaaGreat
open Go.RowKit Go.Shelf Go.Proofs.YtpnhelcemodnmaaGreatW.PrintWords Go.Proofs.YtpnhelcemodnmaaGreatW.PrintLast Go.Proofs.YtpnhelcemodnmaaGreatW.PrintMore PA
set_option linter.unusedVariables false
set_option linter.unusedSimpArgs false
attribute [local go_sem] Oper.semAt_some
theorem set_at (l : List S89) (k : Nat) (x : S89) (h : k < l.length) : (l.set k x).getD k z89 = x := by simp [h]
set_option maxRecDepth 100000 in
set_option maxHeartbeats 600000 in
theorem chained_any (l : List S89) (no : List Int) (kind v : Int) (V : Value) (B : Option Addr) (cb : Nat) (base : Nat) (ok : Nat → Prop) (w : World) (hN : Kd.N k89 89 w base ok V l) (hF : Kd.F (Kd.int .i64) w (fun q => some q ≠ V.ownBlock) B no.length no) (hcb : no.length ≤ cb) (hl : l.length = no.length) (hm : l.length ≤ 1000000) :
    Calls Tryz.prog 101 #[V, .slice B no.length cb, .int .i64 kind, .int .i64 v] w fun e w' => e = .returned V ∧ Kd.N k89 89 w' base ok V (chTo l.length l no kind v) ∧ Kept w w' (fun q => some q = V.ownBlock) ∧ Below base w w' := by
  obtain ⟨VA, vc, rfl⟩ := Kd.N_slice hN
  have hbase := Kd.N_base hN
  have HBASE := Aside0.mk hbase
  have hcv := (Kd.N_reads' hN).2.1
  have HL := Lib.hid hl
  clear hbase hl
  go_enter Tryz.func101, Tryz.ntmps101
  go_wp2
  go_loopw [9, 12] (fun i0 i wr => ∃ k : Nat, k ≤ l.length ∧ i = .int .i64 k ∧ Aside0 (Kd.N k89 89 wr base ok (.slice VA l.length vc) (chTo k l no kind v)) ∧ Aside0 (Kept w wr (fun q => some q = (Value.slice VA l.length vc).ownBlock)) ∧ Aside0 (Below base w wr))
    (fun _ i _ => l.length - (intOf i).toNat)
  case atStart => exact ⟨0, Nat.zero_le _, rfl, ⟨by rw [chTo_zero]; exact hN⟩, ⟨Kept.refl _ _⟩, ⟨Below.refl _ _⟩⟩
  case round =>
    obtain ⟨k, hk, rfl, HN, HK, HB⟩ := hrel
    by_cases hlt : k < l.length
    · have hkno : k < no.length := by have := HL.out; omega
      obtain ⟨g, vc', hVe, hbg, hgs, _⟩ := Kd.N_form HN.out (by rw [chTo_length]; omega)
      rw [chTo_length] at hVe
      injection hVe with h1 _ h2
      subst h1 h2
      obtain ⟨cs, hcl, hFK, hcc, hfr⟩ := Kd.N_elem HN.out z89 (k : Int) (by omega) (by omega)
      rw [Int.toNat_natCast, chTo_at k l no kind v hlt] at hFK
      obtain ⟨A9, c9, rfl, hl9, hF9⟩ := k89_openF hFK
      have hF2 := Kd.F_kept hF HK.out (fun q hq h => hq h)
      obtain ⟨bd, rfl, hx⟩ := Kd.at_int (Kd.F_now hF2) (k : Int) (by omega) (by omega)
      rw [Int.toNat_natCast] at hx
      obtain ⟨p, hp⟩ : ∃ p, pg l k = p := ⟨_, rfl⟩
      rw [hp] at hcc
      obtain ⟨a, ha⟩ : ∃ a, rd no (k : Int) = a := ⟨_, rfl⟩
      rw [ha] at hx
      have hc0 := hcc 0 _ rfl
      have hc1 := hcc 1 _ rfl
      have hc2 := hcc 2 _ rfl
      have hc7 := hcc 7 _ rfl
      have hz0 := hfr 0
      have hz1 := hfr 1
      have hz2 := hfr 2
      have hz7 := hfr 7
      simp only [Int.toNat_natCast, k89_sz, Nat.add_zero] at hc0 hc1 hc2 hc7 hz0 hz1 hz2 hz7
      clear hfr
      go_upto_region 5 with (fail)
      obtain ⟨hN1, hG1⟩ := Kd.N_seg HN.out (k : Int) (by omega) (by omega) (c := cells89 p A9 c9) (seg := [.int .i64 kind, .int .i64 a, .int .i64 v]) (j := 0) hcl hcc (by show 0 + 3 ≤ 10; omega) (x' := { p with kind := kind, no := a, ver := v }) (k89_mkF wr _ { p with kind := kind, no := a, ver := v } (by rw [← hp]; exact hl9) (by rw [← hp]; exact hF9)) (fun q hq => hq)
      rw [Int.toNat_natCast, k89_sz, Nat.add_zero] at hN1 hG1
      have hB1 : Below base w (wr.setCells g (k * 10) [.int .i64 kind, .int .i64 a, .int .i64 v]) := ((HB.out.setCell (p := ⟨g, k * 10, none⟩) hbg _).setCell (p := ⟨g, k * 10 + 1, none⟩) hbg _).setCell (p := ⟨g, k * 10 + 1 + 1, none⟩) hbg _
      rw [show ((wr.setCell ⟨g, k * 10, none⟩ (.int .i64 kind)).setCell ⟨g, k * 10 + 1, none⟩ (.int .i64 a)).setCell ⟨g, k * 10 + 2, none⟩ (.int .i64 v) = wr.setCells g (k * 10) [.int .i64 kind, .int .i64 a, .int .i64 v] from rfl]
      obtain ⟨W1, hW1⟩ : ∃ W1, wr.setCells g (k * 10) [.int .i64 kind, .int .i64 a, .int .i64 v] = W1 := ⟨_, rfl⟩
      rw [hW1] at hN1 hG1 hB1 ⊢
      clear hW1 hc0 hc1 hc2 hc7 hz0 hz1 hz2 hz7 hx
      have hK1 : Kept w W1 (fun q => some q = (Value.slice (some ⟨g, 0, none⟩) l.length vc).ownBlock) := ⟨Nat.le_trans HK.out.1 hG1.size, fun q hq hn => by rw [hG1.block q (by have := HK.out.1; omega) (fun e => hn (by simpa [Value.ownBlock] using e)), HK.out.2 q hq hn]⟩
      have HN1 := Aside0.mk hN1
      have HK1 := Aside0.mk hK1
      have HB1 := Aside0.mk hB1
      have HP := Lib.hid hp
      have HA := Lib.hid ha
      have hgn : (chTo k l no kind v).set k { p with kind := kind, no := a, ver := v } = (chTo k l no kind v).set k { p with kind := kind, no := a, ver := v } := rfl
      by_cases hk1 : k + 1 < l.length
      · have hkno1 : k + 1 < no.length := by have := HL.out; omega
        obtain ⟨bd', hbe, hx1⟩ := Kd.at_int (Kd.F_now (Kd.F_kept hF hK1 (fun q hq h => hq h))) ((k : Int) + 1) (by omega) (by omega)
        injection hbe with hbe
        subst hbe
        rw [show ((k : Int) + 1).toNat = k + 1 by omega] at hx1
        obtain ⟨b, hb⟩ : ∃ b, rd no ((k : Int) + 1) = b := ⟨_, rfl⟩
        rw [hb, Addr.add, if_neg (Nat.succ_ne_zero k)] at hx1
        obtain ⟨cs, hcl2, hFK2, hcc2, hfr2⟩ := Kd.N_elem hN1 z89 (k : Int) (by omega) (by omega)
        rw [Int.toNat_natCast, set_at _ k _ (by rw [chTo_length]; exact hlt)] at hFK2
        obtain ⟨A8, c8, rfl, hl8, hF8⟩ := k89_openF hFK2
        have hc7 := hcc2 7 _ rfl
        have hz7 := hfr2 7
        simp only [Int.toNat_natCast, k89_sz] at hc7 hz7
        have HC2 := Aside0.mk hcc2
        have HL8 := Aside0.mk hl8
        have HF8 := Aside0.mk hF8
        have HBV := Lib.hid hb
        have hkn : (k : Int) + 1 < (l.length : Int) := by omega
        clear hp ha hb hN1 hG1 hB1 hK1 hcc hcc2 hN hF hF2 hF8 hF9 hFK hFK2 hgn
        go_upto_region 7 with (fail)
        obtain ⟨hN3, hG3⟩ := Kd.N_seg HN1.out (k : Int) (by omega) (by omega) (c := cells89 { p with kind := kind, no := a, ver := v } A8 c8) (seg := [.int .i64 b]) (j := 7) hcl2 HC2.out (by show 7 + 1 ≤ 10; omega) (x' := { p with kind := kind, no := a, ver := v, next := b }) (k89_mkF W1 _ { p with kind := kind, no := a, ver := v, next := b } HL8.out HF8.out) (fun q hq => hq)
        rw [Int.toNat_natCast, k89_sz, List.set_set] at hN3
        rw [Int.toNat_natCast, k89_sz] at hG3
        have HN3 := Aside0.mk hN3
        have HB3 := Aside0.mk (HB1.out.setCell (p := ⟨g, k * 10 + 7, none⟩) hbg (.int .i64 b))
        have HK3 := Aside0.mk (show Kept w (W1.setCell ⟨g, k * 10 + 7, none⟩ (.int .i64 b)) (fun q => some q = (Value.slice (some ⟨g, 0, none⟩) l.length vc).ownBlock) from ⟨Nat.le_trans HK1.out.1 hG3.size, fun q hq hn => by rw [show W1.setCell ⟨g, k * 10 + 7, none⟩ (.int .i64 b) = W1.setCells g (k * 10 + 7) [.int .i64 b] from rfl, hG3.block q (by have := HK1.out.1; omega) (fun e => hn (by simpa [Value.ownBlock] using e)), HK1.out.2 q hq hn]⟩)
        clear hN3 hG3 hc7 hz7 hx1
        go_wp2
        go_roundw
        case rel => exact ⟨k + 1, by omega, by go_num, ⟨by rw [← chTo_step k l no kind v hlt, chP, if_pos hk1, HP.out, HA.out, show ((k + 1 : Nat) : Int) = (k : Int) + 1 by omega, HBV.out]; exact HN3.out⟩, ⟨HK3.out⟩, ⟨HB3.out⟩⟩
        case measure => simp [intOf]; omega
      · have hkn : ¬ (k : Int) + 1 < (l.length : Int) := by omega
        clear hp ha hN1 hG1 hB1 hK1 hcc hN hF hF2 hF9 hFK hgn
        go_wp2
        go_roundw
        case rel => exact ⟨k + 1, by omega, by go_num, ⟨by rw [← chTo_step k l no kind v hlt, chP, if_neg hk1, HP.out, HA.out]; exact HN1.out⟩, ⟨HK1.out⟩, ⟨HB1.out⟩⟩
        case measure => simp [intOf]; omega
    · obtain rfl : k = l.length := by omega
      go_wp2
      go_ret
      exact ⟨rfl, HN.out, HK.out, HB.out⟩
end Go.Proofs.YtpnhelcemodnmaaGreat

/- The walk of ListPages. -/
namespace Go.Proofs.YtpnhelcemodnmaaGreat
open Go.RowKit Go.Shelf Go.Proofs.YtpnhelcemodnmaaGreatW.PrintWords Go.Proofs.YtpnhelcemodnmaaGreatW.PrintLast Go.Proofs.YtpnhelcemodnmaaGreatW.PrintMore PA
set_option linter.unusedVariables false
set_option linter.unusedSimpArgs false
attribute [local go_sem] Oper.semAt_some
/-- The first k pages have got what they free. -/
def fillTo (k n : Nat) (parts : List (List S64)) : List S89 := (List.range n).map fun i => if i < k then { z89 with freed := rd_L3 parts (i : Int) } else z89
theorem fillTo_length (k n : Nat) (parts : List (List S64)) : (fillTo k n parts).length = n := by simp [fillTo]
theorem fillTo_zero (n : Nat) (parts : List (List S64)) : fillTo 0 n parts = List.replicate n z89 := by
  refine List.ext_getElem (by simp [fillTo]) fun i h1 h2 => ?_
  simp [fillTo]
theorem fillTo_at (k n : Nat) (parts : List (List S64)) (h : k < n) : (fillTo k n parts).getD k z89 = z89 := by
  simp [fillTo, h]
theorem fillTo_step (k n : Nat) (parts : List (List S64)) (h : k < n) : (fillTo k n parts).set k { z89 with freed := rd_L3 parts (k : Int) } = fillTo (k + 1) n parts := by
  refine List.ext_getElem (by simp [fillTo]) fun i h1 h2 => ?_
  simp only [List.getElem_set, fillTo, List.getElem_map, List.getElem_range]
  by_cases e : k = i
  · subst e
    rw [if_pos rfl, if_pos (by omega)]
  · rw [if_neg e]
    by_cases e2 : i < k
    · rw [if_pos e2, if_pos (by omega)]
    · rw [if_neg e2, if_neg (by omega)]
/-- The pages of a list. -/
def listPg (l : List S64) (no : List Int) (v : Int) : List S89 := chTo no.length (fillTo (partsOf l).length no.length (partsOf l)) no 4 v
end Go.Proofs.YtpnhelcemodnmaaGreat

/- The walk of ListPages where it answers. -/
namespace Go.Proofs.YtpnhelcemodnmaaGreat
open Go.RowKit Go.Shelf Go.Proofs.YtpnhelcemodnmaaGreatW.PrintWords Go.Proofs.YtpnhelcemodnmaaGreatW.PrintLast Go.Proofs.YtpnhelcemodnmaaGreatW.PrintMore PA
set_option linter.unusedVariables false
set_option linter.unusedSimpArgs false
attribute [local go_sem] Oper.semAt_some
set_option maxRecDepth 100000 in
set_option maxHeartbeats 1000000 in
theorem pages_yes (l : List S64) (no : List Int) (v : Int) (A B : Option Addr) (c cb : Nat) (w : World) (hC : k64.C w A l.length l) (hc : l.length ≤ c) (hs : smallL l) (hf : formP 4096 l) (hB : (Kd.int .i64).C w B no.length no) (hcb : no.length ≤ cb) (hno : no.length ≤ 1000000)
    (hlen : (partsOf l).length ≤ no.length) (hn : numB no v = true) :
    Calls Tryz.prog 55 #[.slice A l.length c, .slice B no.length cb, .int .i64 v] w fun e w' => ∃ u, e = .returned (.tuple #[u, .int .i64 0]) ∧ Kd.N k89 89 w' w.heap.size (fun q => w.heap.size ≤ q) u (listPg l no v) ∧ Below w.heap.size w w' := by
  have HF := Lib.hid (freed_any l A c w hC hc hs)
  rw [decide_eq_true hf] at HF
  have HP := Lib.hid (fun (w1 : World) (hb : Below w.heap.size w w1) => listParts_any l A c w1 (Kd.C_below hC hb) hc (form_fullL hf) hs)
  have HU := Lib.hid (fun (w1 : World) (hb : Below w.heap.size w w1) => numbers_any no v B cb w1 (Kd.C_below hB hb) hcb hno)
  rw [hn] at HU
  have HBF := Aside0.mk (Kd.C_F (Kd.heap_int .i64) hB)
  unfold listPg
  obtain ⟨parts, hp⟩ : ∃ p, partsOf l = p := ⟨_, rfl⟩
  rw [hp] at hlen ⊢
  obtain ⟨m, hm⟩ : ∃ m, parts.length = m := ⟨_, rfl⟩
  have HM := Lib.hid hm
  have HPA := Lib.hid hp
  rw [hm] at hlen ⊢
  clear hC hs hf hB hm hp hn
  have hlt2 : ¬ (no.length : Int) < (m : Int) := by omega
  have hnot : ∀ (x : Bool) (w : World), (Op.unary .not (.bool x)).run Tryz.prog w = .ok (.bool (!x)) w := fun _ _ => rfl
  go_enter Tryz.func55, Tryz.ntmps55
  go_upto_region 6 with (first | (go_at_call 75; (refine HF.out.mono ?_); rintro e w2 ⟨rfl, hb2⟩) | (go_at_call 76; (refine (HP.out _ hb2).mono ?_); rintro e w3 ⟨u, rfl, hu, hb3⟩; rw [HPA.out] at hu; obtain ⟨pA, pc, rfl⟩ := Kd.N_slice hu; rw [HM.out]) | (go_at_call 100; (refine (HU.out _ (hb2.trans (hb3.mono hb2.size))).mono ?_); rintro e w4 ⟨rfl, hb4⟩))
  have hB4 : Below w.heap.size w w4 := (hb2.trans (hb3.mono hb2.size)).trans (hb4.mono (hb2.trans (hb3.mono hb2.size)).size)
  have HU4 := Aside0.mk (Kd.N_mono (Kd.N_bound (Kd.N_lower (Kd.N_below hu hb4) hb2.size)) (fun q hq => (⟨Nat.le_trans hb2.size hq.1, hq.2⟩ : w.heap.size ≤ q ∧ q < w4.heap.size)))
  have HB4 := Aside0.mk hB4
  clear hu hb2 hb3 hb4 hB4 hlt2
  have hn120 : (no.length : Int).toNat * 120 ≤ 281474976710656 := by omega
  have HN120 := Aside0.mk hn120
  clear hn120
  go_upto_region 7 with (at_make; refine Kd.N_make k89 (w0 := w) w.heap.size 89 rfl (N' := 30) rfl 22 _ _ rfl (no.length : Int) rfl rfl Tryz.underlying22 (.agg (cells89 z89 none 0).toArray) 120 info89 rfl (by decide) (by decide) z89 (ok := fun q => w.heap.size ≤ q) (okp := fun _ => False) zero89F (fun _ h => h.elim) HB4.out.size (by omega) HN120.out HB4.out HB4.out.size ?_; intro ov w5 ho hb5 hg5 hat5)
  obtain ⟨S, hS⟩ : ∃ S, w4.heap.size = S := ⟨_, rfl⟩
  obtain ⟨gb, hgb, hgs⟩ := hat5
  rw [hS] at hgs
  have hu5 := Kd.N_grown HU4.out hg5 (fun _ _ => by simp)
  rw [hS, HM.out] at hu5
  have hnn : (no.length : Int).toNat = no.length := by omega
  rw [hnn, ← fillTo_zero _ parts] at ho
  have hSw : w.heap.size ≤ S := hS ▸ HB4.out.size
  clear hnn hS hg5
  go_upto_region 8 with (fail)
  go_loopw [10, 11, 33] (fun i0 i1 i wr => ∃ k : Nat, k ≤ m ∧ i = .int .i64 k ∧ Aside0 (Kd.N k89 89 wr w.heap.size (fun q => w.heap.size ≤ q) ov (fillTo k no.length parts)) ∧ Aside0 (Kd.N (Kd.slice 64 k64) 26 wr w.heap.size (fun q => w.heap.size ≤ q ∧ q < S) (.slice pA m pc) parts) ∧ Aside0 (Below w.heap.size w wr))
    (fun _ _ i _ => m - (intOf i).toNat)
  case atStart => exact ⟨0, Nat.zero_le _, rfl, ⟨ho⟩, ⟨hu5⟩, ⟨hb5⟩⟩
  case round =>
    clear ho hu5 hb5
    obtain ⟨k, hk, rfl, HO, HV, HB⟩ := hrel
    by_cases hlt : k < m
    · have hkn : k < no.length := by omega
      have hml := HM.out
      obtain ⟨g, vc, hov, hbg, hgz, _⟩ := Kd.N_form HO.out (by rw [fillTo_length]; omega)
      rw [fillTo_length] at hov
      subst hov
      obtain rfl : g = gb := by simpa [Value.ownBlock] using hgb
      obtain ⟨g', vc', hVe, _, _, _⟩ := Kd.N_form HV.out (by omega)
      injection hVe with h1 h2 h3
      subst h1 h3
      obtain ⟨c1, hcl1, hFK1, hcc1, _⟩ := Kd.N_elem HV.out ([] : List S64) (k : Int) (by omega) (by omega)
      obtain ⟨A1, c2, rfl, hl2, hF2⟩ := Kd.FK_slice_open hFK1
      have hx := hcc1 0 _ rfl
      obtain ⟨c9, hcl, hFK, hcc, hfr⟩ := Kd.N_elem HO.out z89 (k : Int) (by omega) (by omega)
      rw [Int.toNat_natCast, fillTo_at k _ parts hkn] at hFK
      obtain ⟨A9, c9', rfl, hl9, hF9⟩ := k89_openF hFK
      have hc9 := hcc 9 _ rfl
      have hz9 := hfr 9
      have hsz1 : (Kd.slice 64 k64).sz = 1 := rfl
      simp only [Int.toNat_natCast, k89_sz, hsz1, Nat.mul_one, Nat.add_zero] at hx hc9 hz9
      rw [Int.toNat_natCast] at hl2 hF2
      obtain ⟨q, hq⟩ : ∃ q, parts.getD k [] = q := ⟨_, rfl⟩
      rw [hq] at hl2 hF2 hx
      have HQ := Lib.hid (show rd_L3 parts (k : Int) = q by rw [← hq]; rfl)
      have HL2 := Aside0.mk hl2
      have HF2 := Aside0.mk hF2
      have HCL := Aside0.mk hcl
      have HCC := Aside0.mk hcc
      clear hml h2 hcl1 hFK1 hcc1 hFK hl9 hF9 hfr hcc hcl hgb hq hl2 hF2
      go_upto_region 11 with (fail)
      obtain ⟨hN1, hG1⟩ := Kd.N_seg HO.out (k : Int) (by omega) (by omega) (c := cells89 z89 A9 c9') (seg := [.slice A1 q.length c2]) (j := 9) HCL.out HCC.out (by show 9 + 1 ≤ 10; omega) (x' := { z89 with freed := q }) (k89_mkF wr _ { z89 with freed := q } HL2.out HF2.out) (fun y hy => ⟨hy.1.1, by have := hy.1.2; omega⟩)
      rw [Int.toNat_natCast, k89_sz] at hN1 hG1
      have HO1 := Aside0.mk hN1
      have HV1 := Aside0.mk (Kd.N_grown HV.out hG1 (fun y hy => by have := hy.2; intro e; injection e with e; omega))
      have HB1 := Aside0.mk (HB.out.setCell (p := ⟨g, k * 10 + 9, none⟩) hbg (.slice A1 q.length c2))
      clear hN1 hG1 hx hc9 hz9
      go_wp2
      go_roundw
      case rel => exact ⟨k + 1, by omega, by go_num, ⟨by rw [← fillTo_step k _ parts hkn, HQ.out]; exact HO1.out⟩, ⟨HV1.out⟩, ⟨HB1.out⟩⟩
      case measure => simp [intOf]; omega
    · obtain rfl : k = m := by omega
      have HFN := Aside0.mk (Kd.F_mono (ok' := fun q => some q ≠ ov.ownBlock) (Kd.F_below HBF.out HB.out) (fun q hq => by rw [hgb]; intro e; injection e with e; omega))
      have HCH := Lib.hid (chained_any (fillTo k no.length parts) no 4 v ov B cb w.heap.size (fun q => w.heap.size ≤ q) wr HO.out HFN.out hcb (fillTo_length _ _ _) (by rw [fillTo_length]; exact hno))
      clear hgb
      go_wp2_with (go_at_call 101; (refine HCH.out.mono ?_); rintro e w9 ⟨rfl, hn9, hk9, hb9⟩)
      go_ret2
      rw [fillTo_length] at hn9
      exact ⟨_, rfl, hn9, HB.out.trans hb9⟩
end Go.Proofs.YtpnhelcemodnmaaGreat

/- Two lists of freed pages, put together: the answer leads to nothing that was there. -/
namespace Go.Proofs.YtpnhelcemodnmaaGreat
open Go.RowKit Go.Shelf Go.Proofs.YtpnhelcemodnmaaGreatW.PrintWords Go.Proofs.YtpnhelcemodnmaaGreatW.PrintLast Go.Proofs.YtpnhelcemodnmaaGreatW.PrintMore PA
set_option linter.unusedVariables false
set_option linter.unusedSimpArgs false
attribute [local go_sem] Oper.semAt_some
/-- What each element leads to, told by its cells, tells the row's footprint anew. -/
theorem N_tight {α : Type} {d : Kd α} {e : Nat} {W : World} {base g n cap : Nat} {ok ok' : Nat → Prop} {xs : List α} (z : α) (h : Kd.N d e W base ok (.slice (some ⟨g, 0, none⟩) n cap) xs) (hg : ok' g)
    (hf : ∀ j, j < xs.length → ∀ c : List Value, c.length = d.sz → (∀ i u, c[i]? = some u → W.cell? ⟨g, j * d.sz + i, none⟩ = some u) → Kd.FK d W (fun k => ok' k ∧ k ≠ g) (xs.getD j z) c) : Kd.N d e W base ok' (.slice (some ⟨g, 0, none⟩) n cap) xs := by
  have hn := (Kd.N_reads' h).1
  obtain ⟨h0, rows, hl, hR, _⟩ := h
  refine ⟨fun k hk => ?_, rows, hl, hR, fun j x c hx hc => ?_⟩
  · have : g = k := by simpa [Value.ownBlock] using hk
    exact this ▸ hg
  · have hj : j < xs.length := (List.getElem?_eq_some_iff.1 hx).1
    obtain ⟨c', hcl, hM, hcc, _⟩ := Kd.R_elem hR [] (j : Int) (by omega) (by omega)
    rw [Int.toNat_natCast] at hM hcc
    have hcr : c' = c := by
      have h2 := hM.1
      rw [List.getD_eq_getElem?_getD, hc] at h2
      exact h2
    subst hcr
    have := hf j hj c' hcl hcc
    rw [List.getD_eq_getElem?_getD, hx] at this
    exact Kd.FK_mono this fun k hk => ⟨hk.1, fun e => hk.2 (by simpa [Value.ownBlock] using e)⟩
/-- Elements 0 .. k-1 of a row lead to new blocks alone. -/
def NewTo (W : World) (g base k : Nat) (ms : List S64) : Prop := ∀ j, j < k → ∀ c : List Value, c.length = 2 → (∀ i u, c[i]? = some u → W.cell? ⟨g, j * 2 + i, none⟩ = some u) → Kd.FK k64 W (fun q => base ≤ q ∧ q ≠ g) (ms.getD j z64) c
theorem NewTo.below {W W1 : World} {g base k : Nat} {ms : List S64} (h : NewTo W g base k ms) (hg : g < W.heap.size) (hb : Below W.heap.size W W1) : NewTo W1 g base k ms := by
  intro j hj c hcl hcc
  refine Kd.FK_below (h j hj c hcl fun i u hu => ?_) hb
  have := hcc i u hu
  unfold World.cell? at this ⊢
  rw [hb.block g hg] at this
  exact this
theorem NewTo.store {W : World} {g base k : Nat} {ms : List S64} {A : Option Addr} {c : Nat} (h : NewTo W g base k ms) (hk : k < ms.length) (hN : Kd.FK k64 W (fun q => base ≤ q ∧ q ≠ g) (rd_T64 ms (k : Int)) [.int .i64 (rd_T64 ms (k : Int)).f0, .slice A (rd_T64 ms (k : Int)).f1.length c])
    (h0 : W.cell? ⟨g, k * 2, none⟩ = some (.int .i64 (rd_T64 ms (k : Int)).f0)) (h1 : ∃ u, W.cell? ⟨g, k * 2 + 1, none⟩ = some u) (hz : W.frozen? ⟨g, k * 2 + 1, none⟩ = false) : NewTo (W.setCell ⟨g, k * 2 + 1, none⟩ (.slice A (rd_T64 ms (k : Int)).f1.length c)) g base (k + 1) ms := by
  have hgr : ∀ q, (base ≤ q ∧ q ≠ g) → q < W.heap.size → (W.setCell ⟨g, k * 2 + 1, none⟩ (.slice A (rd_T64 ms (k : Int)).f1.length c)).heap[q]? = W.heap[q]? := fun q hq _ => Below.heap_setCell W ⟨g, k * 2 + 1, none⟩ _ q hq.2
  intro j hj c' hcl hcc
  by_cases e : j = k
  · subst e
    have e0 := hcc 0
    have e1 := hcc 1
    match c', hcl with
    | [a, b], _ =>
      have a0 := e0 a rfl
      have a1 := e1 b rfl
      rw [World.cell?_setCell_other (h := by simp), Nat.add_zero, h0] at a0
      obtain ⟨u, hu⟩ := h1
      rw [World.cell?_setCell_same (h := hu)] at a1
      injection a0 with a0
      injection a1 with a1
      subst a0 a1
      exact Kd.FK_step hN hgr
  · refine Kd.FK_step (h j (by omega) c' hcl fun i u hu => ?_) hgr
    have := hcc i u hu
    have hi : i < 2 := by rw [← hcl]; exact (List.getElem?_eq_some_iff.1 hu).1
    rwa [World.cell?_setCell_other (h := by intro e2; injection e2 with _ e2 _; omega)] at this
set_option maxRecDepth 100000 in
set_option maxHeartbeats 4000000 in
theorem together_new (la lb : List S64) (A : Option Addr) (ca : Nat) (B : Option Addr) (cb : Nat) (w : World) (hA : k64.C w A la.length la) (hca : la.length ≤ ca) (hB : k64.C w B lb.length lb) (hcb : lb.length ≤ cb) (ha : smallL la) (hb : smallL lb) :
    Calls Tryz.prog 56 #[.slice A la.length ca, .slice B lb.length cb] w fun e w' => ∃ v, e = .returned v ∧ Kd.N k64 64 w' w.heap.size (fun q => w.heap.size ≤ q) v (mergeL la lb) ∧ Below w.heap.size w w' := by
  have HMM := Aside0.mk (merged_any la lb A ca B cb w hA hca hB hcb ha hb)
  have hpg : (pagesOf (mergeL la lb)).length ≤ 2000000 := by rw [merge_pages]; have := ha.2; have := hb.2; omega
  have hln := merge_length la lb
  obtain ⟨ms, hms⟩ : ∃ ms, mergeL la lb = ms := ⟨_, rfl⟩
  rw [hms] at HMM hpg hln ⊢
  clear hms hA hB
  have hml : ms.length ≤ 2000000 := by have := ha.1; have := hb.1; omega
  clear hln
  go_enter Tryz.func56, Tryz.ntmps56
  go_wp2_with (go_at_call 102; (with_reducible refine HMM.out.mono ?_); rintro e w1 ⟨v, rfl, hv, hb1⟩; obtain ⟨O, co, rfl⟩ := Kd.N_slice hv)
  have HV := Aside0.mk hv
  have HW := Aside0.mk hb1
  clear hv hb1
  go_loopw [12] (fun i wr => ∃ k : Nat, k ≤ ms.length ∧ i = .int .i64 k ∧ Aside0 (Kd.N k64 64 wr w.heap.size (fun _ => True) (.slice O ms.length co) ms) ∧ Aside0 (∀ g, (Value.slice O ms.length co).ownBlock = some g → NewTo wr g w.heap.size k ms) ∧ Aside0 (Below w.heap.size w wr))
    (fun i _ => ms.length - (intOf i).toNat)
  case atStart => exact ⟨0, Nat.zero_le _, rfl, HV, ⟨fun g _ j hj => absurd hj (Nat.not_lt_zero j)⟩, HW⟩
  case round =>
    obtain ⟨k, hk, rfl, HN, HT, HB⟩ := hrel
    clear HV HW
    by_cases hlt : k < ms.length
    · obtain ⟨g, cap, e, hg1, hg2, -⟩ := Kd.N_form HN.out (by omega)
      injection e with e1 e2 e3
      subst e1 e3
      have HT1 := Aside0.mk (HT.out g (by simp [Value.ownBlock]))
      have HG2 := Aside0.mk hg2
      clear HT
      obtain ⟨cs, hcl, hFK, hcc, hff⟩ := Kd.N_elem HN.out z64 (k : Int) (by omega) (by omega)
      rw [show ms.getD (k : Int).toNat z64 = rd_T64 ms (k : Int) from rfl] at hFK
      obtain ⟨A1, c1, rfl, hl1, hF1⟩ := k64_openF hFK
      have hx1 : wr.cell? ⟨g, k * 2 + 1, none⟩ = some (.slice A1 (rd_T64 ms (k : Int)).f1.length c1) := hcc 1 _ rfl
      have hel : ms[k]? = some (rd_T64 ms (k : Int)) := by rw [rd_nat ms k hlt]; exact List.getElem?_eq_getElem hlt
      have hgl : (rd_T64 ms (k : Int)).f1.length ≤ 2000000 := by
        have h1 := pages_take_le ms (k + 1)
        rw [take_rd ms k hlt, pages_append, List.length_append, pages_one] at h1
        omega
      obtain ⟨x, hx⟩ : ∃ x, rd_T64 ms (k : Int) = x := ⟨_, rfl⟩
      rw [hx] at hFK hx1 hel hgl hF1 hcc hl1
      have HEL := Lib.hid hel
      have HXX := Lib.hid hx
      have HCC := Aside0.mk hcc
      have HFF := Aside0.mk hff
      have HX := Aside0.mk (cloneInt x.f1 A1 c1 wr (Kd.F_now hF1) (by omega))
      clear hx hel hFK hF1 hcc
      have h23 : (Tryz.prog.info? 23).map (·.size) = some 1 := by kernel_rfl
      have hk0 : (0 : Int) ≤ (k : Int) := by omega
      have hk1 : (k : Int) < (ms.length : Int) := by omega
      have hz1 := hff 1
      have HZ1 := Aside0.mk hff
      go_upto_region 6 with (go_at_call 96; (with_reducible refine HX.out.mono ?_); rintro e w2 ⟨cv, rfl, hcv, hcb2⟩; obtain ⟨cA, cc, rfl⟩ := Kd.R_slice hcv; have HCV := Aside0.mk hcv; have HN2 := Aside0.mk (Kd.N_below HN.out hcb2); have HB2 := Aside0.mk (HB.out.trans (hcb2.mono HB.out.size)); have HC2 := Aside0.mk (fun j u h => cellB hcb2 (Nat.le_refl _) (HCC.out j u h)); have HT2 := Aside0.mk (HT1.out.below HG2.out hcb2); clear hcv hcb2; have hx2 : w2.cell? ⟨g, k * 2 + 1, none⟩ = some (.slice A1 x.f1.length c1) := HC2.out 1 _ rfl; have hz2 : w2.frozen? ⟨g, k * 2 + 1, none⟩ = false := (by obtain ⟨_, _, _, _, hz⟩ := Kd.N_elem HN2.out z64 (k : Int) hk0 hk1; exact hz 1))
      obtain ⟨hN3, hG3⟩ := Kd.N_seg HN2.out (k : Int) hk0 hk1 (c := [.int .i64 x.f0, .slice A1 x.f1.length c1]) (seg := [.slice cA x.f1.length cc]) (j := 1) rfl HC2.out (Nat.le_refl 2) (x' := x) (k64_mkF w2 _ x (Kd.R_reads' HCV.out).2.1 (Kd.R_F (Kd.R_mono (Kd.R_bound HCV.out) (fun q hq => hq.2.1)))) (fun q hq => ⟨trivial, fun e => by have h3 : wr.heap.size ≤ q := hq; have := HG2.out; omega⟩)
      rw [Int.toNat_natCast, set_self ms k x HEL.out] at hN3
      have hN4 : Kd.N k64 64 (w2.setCell ⟨g, k * 2 + 1, none⟩ (.slice cA x.f1.length cc)) w.heap.size (fun _ => True) (.slice (some ⟨g, 0, none⟩) ms.length co) ms := hN3
      have hT4 := HT2.out.store (A := cA) (c := cc) hlt (by rw [HXX.out]; exact k64_mkF w2 _ x (Kd.R_reads' HCV.out).2.1 (Kd.F_mono (Kd.R_F (Kd.R_mono (Kd.R_bound HCV.out) (fun q hq => hq.2.1))) (fun q hq => ⟨Nat.le_trans HB.out.size hq, fun e => by have := HG2.out; omega⟩))) (by rw [HXX.out]; exact HC2.out 0 _ rfl) ⟨_, hx2⟩ hz2
      rw [HXX.out] at hT4
      have HN4 := Aside0.mk hN4
      have HT4 := Aside0.mk hT4
      have HB4 := Aside0.mk (HB2.out.setCell (p := ⟨g, k * 2 + 1, none⟩) hg1 (.slice cA x.f1.length cc))
      clear hN3 hG3 hN4 hT4 hx2 hz2 hx1 hz1
      go_wp2
      go_roundw
      case rel => exact ⟨k + 1, by omega, by go_num, ⟨HN4.out⟩, ⟨fun g' hg' => by obtain rfl : g = g' := (by simpa [Value.ownBlock] using hg'); exact HT4.out⟩, ⟨HB4.out⟩⟩
      case measure => simp [intOf]; omega
    · obtain rfl : k = ms.length := by omega
      go_wp2
      go_ret
      refine ⟨_, rfl, ?_, HB.out⟩
      by_cases h0 : 0 < ms.length
      · obtain ⟨g, cap, e, hg1, hg2, -⟩ := Kd.N_form HN.out h0
        injection e with e1 e2 e3
        subst e1 e3
        exact N_tight z64 HN.out hg1 fun j hj c hcl hcc => HT.out g (by simp [Value.ownBlock]) j hj c hcl hcc
      · have hm0 : ms = [] := List.length_eq_zero_iff.1 (by omega)
        obtain ⟨h1, rows, h2, h3, h4⟩ := HN.out
        subst hm0
        refine ⟨fun q hq => Kd.N_base HN.out q hq, rows, h2, h3, fun j x c hx => by simp at hx⟩
end Go.Proofs.YtpnhelcemodnmaaGreat

/- The account's list: put. -/
namespace Go.Proofs.YtpnhelcemodnmaaGreat
open Go.RowKit Go.Shelf Go.Proofs.YtpnhelcemodnmaaGreatW.PrintWords Go.Proofs.YtpnhelcemodnmaaGreatW.PrintLast Go.Proofs.YtpnhelcemodnmaaGreatW.PrintMore PA
set_option linter.unusedVariables false
set_option linter.unusedSimpArgs false
attribute [local go_sem] Oper.semAt_some
/-- Only block g and new ones have been turned. -/
structure Turned (g : Nat) (w w' : World) : Prop where
  below : Below g w w'
  keep : KeepBut w w' g none
theorem Turned.of_below {g : Nat} {w w' : World} (h : Below w.heap.size w w') (hg : g < w.heap.size) : Turned g w w' := ⟨h.mono (Nat.le_of_lt hg), ⟨h.size, fun i hi _ _ => h.block i hi⟩⟩
theorem Turned.refl (g : Nat) (w : World) : Turned g w w := ⟨Below.refl _ _, ⟨Nat.le_refl _, fun _ _ _ _ => rfl⟩⟩
theorem Turned.size {g : Nat} {w w' : World} (h : Turned g w w') : w.heap.size ≤ w'.heap.size := h.keep.1
theorem Turned.trans {g : Nat} {w w1 w2 : World} (h : Turned g w w1) (h2 : Turned g w1 w2) : Turned g w w2 :=
  ⟨h.below.trans h2.below, ⟨Nat.le_trans h.keep.1 h2.keep.1, fun i hi hn hr => by rw [h2.keep.2 i (by have := h.keep.1; omega) hn hr, h.keep.2 i hi hn hr]⟩⟩
theorem Turned.set {g : Nat} {w w' : World} (h : Turned g w w') (j : Nat) (u : Value) : Turned g w (w'.setCell ⟨g, j, none⟩ u) :=
  h.trans ⟨(Below.refl g w').setCell (p := ⟨g, j, none⟩) (Nat.le_refl _) u, ⟨by simp, fun i hi hn _ => Below.heap_setCell w' ⟨g, j, none⟩ u i hn⟩⟩
theorem Turned.F {α : Type} {d : Kd α} {g : Nat} {ok : Nat → Prop} {w w' : World} {A : Option Addr} {n : Nat} {xs : List α} (h : Turned g w w') (hok : ∀ k, ok k → k ≠ g) (hF : Kd.F d w ok A n xs) : Kd.F d w' ok A n xs :=
  Kd.F_step hF fun k hk hlt => h.keep.2 k hlt (hok k hk) (by simp)
theorem Turned.N {α : Type} {d : Kd α} {g e base : Nat} {ok : Nat → Prop} {w w' : World} {v : Value} {xs : List α} (h : Turned g w w') (hok : ∀ k, ok k → k ≠ g) (hN : Kd.N d e w base ok v xs) : Kd.N d e w' base ok v xs :=
  Kd.N_step hN fun k hk hlt => h.keep.2 k hlt (hok k hk) (by simp)
/-- Neither the account's block nor the pages' row. -/
def okA (g : Nat) (P : Value) (k : Nat) : Prop := k ≠ g ∧ some k ≠ P.ownBlock
theorem Turned.blk {g h : Nat} {w w' : World} {o : Obj} (ht : Turned g w w') (hn : h ≠ g) (hb : w.heap[h]? = some o) : w'.heap[h]? = some o := (ht.keep.2 h (blk_lt hb) hn (by simp)).trans hb
/-- What the account's block leads to as its list. -/
def AccL (w : World) (g : Nat) (P : Value) (l : List S64) : Prop := ∃ A c, w.heap[g]? = some (.cells #[P, .slice A l.length c] 102 (0, 0)) ∧ l.length ≤ c ∧ Kd.F k64 w (okA g P) A l.length l
theorem AccL.below {w w' : World} {g : Nat} {P : Value} {l : List S64} (h : AccL w g P l) (hb : Below w.heap.size w w') : AccL w' g P l := by
  obtain ⟨A, c, h1, h2, h3⟩ := h
  exact ⟨A, c, blk_below h1 hb, h2, Kd.F_below h3 hb⟩
theorem AccL.lt {w : World} {g : Nat} {P : Value} {l : List S64} (h : AccL w g P l) : g < w.heap.size := by
  obtain ⟨A, c, h1, _⟩ := h
  exact blk_lt h1
/-- The list of the call's own is laid into the account. -/
theorem AccL.put {w : World} {g : Nat} {P : Value} {l l' : List S64} {A : Option Addr} {c base : Nat} {ok : Nat → Prop} (h : AccL w g P l) (hN : Kd.N k64 64 w base ok (.slice A l'.length c) l') (hok : ∀ k, ok k → okA g P k) : AccL (w.setCell ⟨g, 1, none⟩ (.slice A l'.length c)) g P l' := by
  obtain ⟨A0, c0, h1, _, _⟩ := h
  have hF := Kd.N_F hN
  exact ⟨A, c, blk_put h1 1 _ rfl, (Kd.N_reads' hN).2.1, Kd.F_far (Kd.F_mono hF hok) (fun k hk => hk.1) _⟩
end Go.Proofs.YtpnhelcemodnmaaGreat

/- The account's list: least. -/
namespace Go.Proofs.YtpnhelcemodnmaaGreat
open Go.RowKit Go.Shelf Go.Proofs.YtpnhelcemodnmaaGreatW.PrintWords Go.Proofs.YtpnhelcemodnmaaGreatW.PrintLast Go.Proofs.YtpnhelcemodnmaaGreatW.PrintMore PA
set_option linter.unusedVariables false
set_option linter.unusedSimpArgs false
attribute [local go_sem] Oper.semAt_some
set_option maxRecDepth 100000 in
set_option maxHeartbeats 1000000 in
theorem cloneFreedF (l : List S64) (A : Option Addr) (c : Nat) (w : World) (ok : Nat → Prop) (hF : Kd.F k64 w ok A l.length l) (hg : ∀ k, w.heap.size ≤ k → ok k) (hn : l.length * 32 ≤ 140737488355328) :
    Calls Tryz.prog 98 #[.slice A l.length c] w fun e w' => ∃ v, e = .returned v ∧ Kd.N k64 64 w' w.heap.size ok v l ∧ Below w.heap.size w w' := by
  cases A with
  | none =>
    obtain rfl := none_nil (Kd.F_now hF)
    refine (Tryz.slices_Clone98_nil _ _ w).mono ?_
    rintro e w' ⟨rfl, rfl⟩
    exact ⟨_, rfl, Kd.N_nil _ _ _ _ _, Below.refl _ _⟩
  | some ad =>
    have hF2 := Kd.F_below (Kd.F_bound hF) (below_alloc1 w (.cells #[] 64))
    have hz := Kd.R_N (Kd.R_mono (ok' := ok) (Kd.R_bound (R_z k64 64 w)) (fun k hk => hg k hk.2.1))
    have hne : ∀ k, (ok k ∧ k < w.heap.size) → ok k ∧ some k ≠ (Value.slice (some ⟨w.heap.size, 0, none⟩) 0 0).ownBlock := fun k hk => ⟨hk.1, fun e => by have := hk.2; simp [Value.ownBlock] at e; omega⟩
    have hsz : w.heap.size ≤ (w.alloc (.cells #[] 64)).heap.size := by simp
    have hfr : ∀ k, (w.alloc (.cells #[] 64)).heap.size ≤ k → ok k := fun k hk => hg k (by simp at hk; omega)
    have hn2 : (([] : List S64).length + l.length) * 32 ≤ 140737488355328 := by simpa using hn
    have q : ∀ (w : World) (n c : Nat), (binOp .eql 26 (.slice (some ad) n c) (.slice none 0 0)).run Tryz.prog w = .ok (.bool false) w := fun w n c => Lib.run_eql_slice_nil w 26 64 (some ad) n c 0 0 Tryz.underlying26
    go_enter Tryz.func98, Tryz.ntmps98
    go_wp2_with (at_builtin; go_loud (refine Kd.N_append_rows k64 (w0 := w) w.heap.size rfl _ _ 26 64 (.agg #[.int .i64 0, .slice none 0 0]) 32 rfl Tryz.underlying26 info64 rfl (by decide) (by decide) _ _ l (some ad) l.length c ok (fun k => ok k ∧ k < w.heap.size) rfl rfl hz hF2 hne hfr (below_alloc1 w _) hsz hn2 ?_))
    intro v1 w1 hN hb hg hat
    go_wp2
    go_ret
    exact ⟨_, rfl, hN, hb⟩
set_option maxRecDepth 100000 in
set_option maxHeartbeats 1000000 in
theorem least_no (l : List S64) (g : Nat) (P : Value) (w : World) (hA : AccL w g P l) (h0 : l = [] ∨ (rd_T64 l 0).f0 ≠ 0) :
    Calls Tryz.prog 99 #[.pointer (some ⟨g, 1, none⟩)] w fun e w' => e = .returned (.tuple #[.int .i64 0, .bool false]) ∧ w = w' := by
  obtain ⟨A, c, hb, hc, hF⟩ := hA
  have hx0 : w.cell? ⟨g, 1, none⟩ = some (.slice A l.length c) := (blk_cell hb 1).trans rfl
  cases l with
  | nil =>
    clear hF
    go_enter Tryz.func99, Tryz.ntmps99
    go_wp2
    go_ret2
    exact ⟨rfl, rfl⟩
  | cons x t =>
    have hne : (rd_T64 (x :: t) 0).f0 ≠ 0 := h0.resolve_left (by simp)
    obtain ⟨ad, A1, c1, rfl, hx1, hx2, hl1, hC1⟩ := at_T64 (Kd.F_now hF) 0 (by omega) (by simp)
    rw [show ad.add ((0 : Int).toNat * 2) = ad from addr_add0 ad] at hx1
    obtain ⟨v, hv⟩ : ∃ v, (rd_T64 (x :: t) 0).f0 = v := ⟨_, rfl⟩
    rw [hv] at hx1 hne
    have hn2 : (v != 0) = true := bne_iff_ne.2 hne
    have hp : 0 < (x :: t).length := by simp
    obtain ⟨n, hn⟩ : ∃ n, (x :: t).length = n := ⟨_, rfl⟩
    rw [hn] at hx0 hp hc
    have hp2 : ((n : Int) == 0) = false := by simp; omega
    clear hF hC1 h0 hne hx2 hn hv hb
    go_enter Tryz.func99, Tryz.ntmps99
    go_wp2
    go_ret2
    exact ⟨rfl, rfl⟩
theorem Turned.far {g h : Nat} {w w' : World} (ht : Turned g w w') (hh : w.heap.size ≤ h) (hg : g < w.heap.size) (j : Nat) (u : Value) : Turned g w (w'.setCell ⟨h, j, none⟩ u) :=
  ⟨ht.below.setCell (p := ⟨h, j, none⟩) (by show g ≤ h; omega) u, ⟨by rw [World.size_setCell]; exact ht.keep.1, fun i hi hn hr => by rw [Below.heap_setCell w' ⟨h, j, none⟩ u i (by show i ≠ h; omega)]; exact ht.keep.2 i hi hn hr⟩⟩
theorem Turned.drew {g : Nat} {w w' : World} (ht : Turned g w w') : Turned g w w'.drew := ⟨below_drew1 ht.below, ht.keep⟩
/-- The list without its least unused page. -/
def restL (ps : List Int) (t : List S64) : List S64 := if ps = [] then t else ⟨0, ps⟩ :: t
end Go.Proofs.YtpnhelcemodnmaaGreat

/- need, must, caught: an error ends an operation, and is caught. -/
namespace Go.Proofs.YtpnhelcemodnmaaGreat
open Go.RowKit Go.Shelf Go.Proofs.YtpnhelcemodnmaaGreatW.PrintWords Go.Proofs.YtpnhelcemodnmaaGreatW.PrintLast Go.Proofs.YtpnhelcemodnmaaGreatW.PrintMore PA
set_option linter.unusedVariables false
set_option linter.unusedSimpArgs false
attribute [local go_sem] Oper.semAt_some
/-- The panic with which an error ends an operation. -/
def failE (e : Int) : PanicEntry := { v := .iface 166 (.agg #[.int .i64 e]), recovered := false }
theorem need_yes (e : Int) (w : World) : Calls Tryz.prog 45 #[.bool true, .int .i64 e] w fun r w' => r = .returned (.tuple #[]) ∧ w = w' := by
  go_enter Tryz.func45, Tryz.ntmps45
  go_wp2
  go_end0
  simp
theorem need_no (e : Int) (w : World) : Calls Tryz.prog 45 #[.bool false, .int .i64 e] w fun r w' => r = .panicked [failE e] ∧ w = w' := by
  go_enter Tryz.func45, Tryz.ntmps45
  go_wp2
  exact ⟨rfl, rfl, rfl⟩
theorem must_ok (w : World) : Calls Tryz.prog 53 #[.int .i64 0] w fun r w' => r = .returned (.tuple #[]) ∧ w = w' := by
  go_enter Tryz.func53, Tryz.ntmps53
  go_wp2
  go_end0
  simp
theorem caught_idle (p : Addr) (f : Fn) (first cap : Array Value) (w : World) :
    CallsD Tryz.prog 43 #[.pointer (some p), .func f first cap] .returning w fun e u' w' => e = .returned (.tuple #[]) ∧ u' = .returning ∧ w' = w := by
  refine callsD_of_wpS Tryz.func43 rfl fun c₀ cs hu => ?_
  apply wpS_seq
  apply wpS_region
  simp [wpOpsS, go_sem, recoverD, hu, Tryz.ntmps43, Exit.thenS]
  apply wpS_seq
  apply wpS_region
  simp [wpOpsS, go_sem, hu, Tryz.ntmps43, Exit.thenS]
  refine wpS_cond (t := false) (by simp [Act.eval, Array.replicate]) ?_
  simp only [Bool.false_eq_true, if_false]
  refine wpS_of_wp (wp_skip ?_)
  cases c₀
  simp_all [bodyPostS, results, Tryz.results43]
theorem assert43 (v : Value) (w : World) : (Instr.typeAssert (.iface 166 v) 20 166 true).run Tryz.prog w = .ok (.tuple #[v, .bool true]) w := by kernel_rfl
theorem fr43 (a b x t u : Value) : #[a, b] ++ ((((Array.replicate 22 u).setIfInBounds 5 x).setIfInBounds 2 x).setIfInBounds 6 x).setIfInBounds 7 t = #[a, b, u, u, x, u, u, x, x, t, u, u, u, u, u, u, u, u, u, u, u, u, u, u] := by kernel_rfl
set_option maxHeartbeats 2000000 in
theorem caught_93 (p : Addr) (q0 : Addr) (n x : Int) (older : List PanicEntry) (w : World) (Q : World → Prop)
    (hR : Calls Tryz.prog 93 #[.pointer (some q0)] (w.alloc (.cells #[.int .i64 n] 166)) fun e w' => e = .returned (.tuple #[]) ∧ w'.cell? ⟨w.heap.size, 0, none⟩ = some (.int .i64 n) ∧ w'.cell? p = some (.int .i64 x) ∧ w'.frozen? p = false ∧ Q (w'.setCell p (.int .i64 n))) :
    CallsD Tryz.prog 43 #[.pointer (some p), .func (.func 93) #[] #[.pointer (some q0)]] (.panicking (failE n :: older)) w fun e u' w' => e = .returned (.tuple #[]) ∧ u' = .panicking ({ failE n with recovered := true } :: older) ∧ Q w' := by
  have HR := Lib.hid hR
  clear hR
  refine callsD_of_wpS Tryz.func43 rfl fun c₀ cs hu => ?_
  unfold failE at hu ⊢
  apply wpS_seq
  apply wpS_region
  simp [wpOpsS, go_sem, recoverD, hu, Tryz.ntmps43, Exit.thenS]
  apply wpS_seq
  apply wpS_region
  simp [wpOpsS, go_sem, hu, Tryz.ntmps43, Exit.thenS]
  refine wpS_cond (t := true) (by simp [Act.eval, Array.replicate]) ?_
  simp only [if_true]
  apply wpS_of_wp
  refine Code.wp_mono (Q := fun e a w' => e = Exit.normal ∧ a.defers = [] ∧ Q w') ?_ ?_
  · rintro e a w' ⟨rfl, ha, hq⟩
    refine ⟨ha, _, rfl, .tuple #[], ?_, rfl, rfl, hq⟩
    simp [results, Tryz.results43]
  clear hu
  rw [fr43]
  obtain ⟨u, hu⟩ : ∃ u, undef = u := ⟨_, rfl⟩
  rw [hu]
  clear hu
  have hta := assert43
  go_upto_region 5 with (fail)
  clear hta
  go_wp2_with (go_at_call 93; refine HR.out.mono ?_; rintro e w' ⟨rfl, hc, hp, hz, hq⟩)
  exact hq
end Go.Proofs.YtpnhelcemodnmaaGreat

/- The account: take. -/
namespace Go.Proofs.YtpnhelcemodnmaaGreat
open Go.RowKit Go.Shelf Go.Proofs.YtpnhelcemodnmaaGreatW.PrintWords Go.Proofs.YtpnhelcemodnmaaGreatW.PrintLast Go.Proofs.YtpnhelcemodnmaaGreatW.PrintMore PA
set_option linter.unusedVariables false
set_option linter.unusedSimpArgs false
attribute [local go_sem] Oper.semAt_some
/-- What an append to the pages turns. -/
structure TurnedP (g base : Nat) (P P' : Value) (w w' : World) : Prop where
  below : Below base w w'
  keep : w.heap.size ≤ w'.heap.size ∧ ∀ i, i < w.heap.size → okA g P i → w'.heap[i]? = w.heap[i]?
  own : P'.ownBlock = P.ownBlock ∨ ∃ b, P'.ownBlock = some b ∧ w.heap.size ≤ b
theorem Turned.P {g base : Nat} {P : Value} {w w' : World} (h : Turned g w w') (hb : base ≤ g) : TurnedP g base P P w w' :=
  ⟨h.below.mono hb, ⟨h.keep.1, fun i hi hk => h.keep.2 i hi hk.1 (by simp)⟩, .inl rfl⟩
end Go.Proofs.YtpnhelcemodnmaaGreat

/- The account, off some blocks: least and take. -/
namespace Go.Proofs.YtpnhelcemodnmaaGreat
open Go.RowKit Go.Shelf Go.Proofs.YtpnhelcemodnmaaGreatW.PrintWords Go.Proofs.YtpnhelcemodnmaaGreatW.PrintLast Go.Proofs.YtpnhelcemodnmaaGreatW.PrintMore PA
set_option linter.unusedVariables false
set_option linter.unusedSimpArgs false
attribute [local go_sem] Oper.semAt_some
/-- Neither the account's block nor the pages' row, and what else is asked. -/
def okX (X : Nat → Prop) (g : Nat) (P : Value) (k : Nat) : Prop := okA g P k ∧ X k
/-- The account's list, off some blocks. -/
def AccX (X : Nat → Prop) (w : World) (g : Nat) (P : Value) (l : List S64) : Prop := ∃ A c, w.heap[g]? = some (.cells #[P, .slice A l.length c] 102 (0, 0)) ∧ l.length ≤ c ∧ Kd.F k64 w (okX X g P) A l.length l
theorem AccX.acc {X : Nat → Prop} {w : World} {g : Nat} {P : Value} {l : List S64} (h : AccX X w g P l) : AccL w g P l := by
  obtain ⟨A, c, h1, h2, h3⟩ := h
  exact ⟨A, c, h1, h2, Kd.F_mono h3 (fun k hk => hk.1)⟩
theorem AccL.x {X : Nat → Prop} {w : World} {g : Nat} {P : Value} {l : List S64} (h : AccL w g P l) (hX : ∀ k, k < w.heap.size → X k) : AccX X w g P l := by
  obtain ⟨A, c, h1, h2, h3⟩ := h
  exact ⟨A, c, h1, h2, Kd.F_mono (Kd.F_bound h3) (fun k hk => ⟨hk.1, hX k hk.2⟩)⟩
theorem AccX.below {X : Nat → Prop} {w w' : World} {g : Nat} {P : Value} {l : List S64} (h : AccX X w g P l) (hb : Below w.heap.size w w') : AccX X w' g P l := by
  obtain ⟨A, c, h1, h2, h3⟩ := h
  exact ⟨A, c, blk_below h1 hb, h2, Kd.F_below h3 hb⟩
theorem AccX.lt {X : Nat → Prop} {w : World} {g : Nat} {P : Value} {l : List S64} (h : AccX X w g P l) : g < w.heap.size := h.acc.lt
theorem AccX.put {X : Nat → Prop} {w : World} {g : Nat} {P : Value} {l l' : List S64} {A : Option Addr} {c base : Nat} {ok : Nat → Prop} (h : AccX X w g P l) (hN : Kd.N k64 64 w base ok (.slice A l'.length c) l') (hok : ∀ k, ok k → okX X g P k) : AccX X (w.setCell ⟨g, 1, none⟩ (.slice A l'.length c)) g P l' := by
  obtain ⟨A0, c0, h1, _, _⟩ := h
  have hF := Kd.N_F hN
  exact ⟨A, c, blk_put h1 1 _ rfl, (Kd.N_reads' hN).2.1, Kd.F_far (Kd.F_mono hF hok) (fun k hk => hk.1.1) _⟩
set_option maxRecDepth 100000 in
set_option maxHeartbeats 2000000 in
theorem leastX_yes (p : Int) (ps : List Int) (t : List S64) (g : Nat) (P : Value) (w : World) (X : Nat → Prop) (hX : ∀ k, w.heap.size ≤ k → X k) (hA : AccX X w g P (⟨0, p :: ps⟩ :: t)) (hP : ∀ k, P.ownBlock = some k → k < w.heap.size) (hs : smallL (⟨0, p :: ps⟩ :: t)) :
    Calls Tryz.prog 99 #[.pointer (some ⟨g, 1, none⟩)] w fun e w' => e = .returned (.tuple #[.int .i64 p, .bool true]) ∧ AccX X w' g P (restL ps t) ∧ Turned g w w' := by
  have hglt := hA.lt
  have HAC := Aside0.mk hA
  obtain ⟨A, c, hb, hc, hF⟩ := hA
  obtain ⟨l, hl⟩ : ∃ l, (⟨0, p :: ps⟩ :: t : List S64) = l := ⟨_, rfl⟩
  have hr0 : rd_T64 l 0 = ⟨0, p :: ps⟩ := by rw [← hl]; rfl
  have hpos : 0 < l.length := by rw [← hl]; simp
  rw [hl] at hb hc hF hs HAC
  have hx0 : w.cell? ⟨g, 1, none⟩ = some (.slice A l.length c) := (blk_cell hb 1).trans rfl
  have hz0 := blk_frozen hb 1
  obtain ⟨ad, A1, c1, rfl, hx1, hx2, hl1, hC1⟩ := at_T64 (Kd.F_now hF) 0 (by omega) (by omega)
  rw [show ad.add ((0 : Int).toNat * 2) = ad from addr_add0 ad] at hx1 hx2
  rw [hr0] at hx1 hx2 hl1 hC1
  obtain ⟨bd, rfl, hx3⟩ := Kd.at_int hC1 0 (by omega) (by simp)
  rw [show bd.add (0 : Int).toNat = bd from addr_add0 bd] at hx3
  replace hx3 : w.cell? bd = some (.int .i64 p) := hx3
  replace hx1 : w.cell? ad = some (.int .i64 0) := hx1
  obtain ⟨m, hm⟩ : ∃ m, (p :: ps).length = m := ⟨_, rfl⟩
  have hmp : 0 < m := by rw [← hm]; simp
  have HCL := Lib.hid (fun (w1 : World) (hb1 : Below w.heap.size w w1) => cloneFreedF l (some ad) c w1 (okX X g P) (Kd.F_below hF hb1) (fun k hk => ⟨⟨fun e => by have := hb1.size; omega, fun e => by have := hP k e.symm; have := hb1.size; omega⟩, hX k (by have := hb1.size; omega)⟩) (by have := hs.1; omega))
  rw [show ((⟨0, p :: ps⟩ : S64).f1.length) = m from hm] at hx2
  have hn0 : ((l.length : Int) == 0) = false := beq_eq_false_iff_ne.2 (by omega)
  have HG := Aside0.mk hglt
  have HLL := Lib.hid hl
  have HR0 := Lib.hid hr0
  have HMM := Lib.hid hm
  clear hC1 hl1 hr0 hm hF hs hb hl
  obtain ⟨n, hn⟩ : ∃ n, l.length = n := ⟨_, rfl⟩
  have HNN := Lib.hid hn
  rw [hn] at hc hpos hx0 HCL hn0
  clear hn
  go_enter Tryz.func99, Tryz.ntmps99
  go_upto_region 5 with (go_at_call 98; (refine (HCL.out _ (Below.refl _ _)).mono ?_); rintro e w1 ⟨v, rfl, hv, hb1⟩; obtain ⟨vA, vc, rfl⟩ := Kd.N_slice hv; have HV := Aside0.mk hv; have HB1 := Aside0.mk hb1; have HA1 := Aside0.mk (HAC.out.below hb1); have hx4 := cellB hb1 (Nat.le_refl _) hx0; have hz4 : w1.frozen? ⟨g, 1, none⟩ = false := (by obtain ⟨A9, c9, hb9, _⟩ := HAC.out.below hb1; exact blk_frozen hb9 1); clear hv hb1)
  rw [HNN.out] at HV
  obtain ⟨h, vc', hve, hbh, hhs, _⟩ := Kd.N_form HV.out (by rw [HNN.out]; exact hpos)
  rw [HNN.out] at hve ⊢
  injection hve with e1 _ e2
  subst e1 e2
  have hhg : h ≠ g := by have := HG.out; omega
  have hb2 : (w1.setCell ⟨g, 1, none⟩ (.slice (some ⟨h, 0, none⟩) n vc)).heap[g]? = some (.cells #[P, .slice (some ⟨h, 0, none⟩) n vc] 102 (0, 0)) := by
    obtain ⟨A9, c9, hb9, _⟩ := HA1.out
    exact blk_put hb9 1 _ rfl
  have HV2 := Aside0.mk (Kd.N_far HV.out (p := ⟨g, 1, none⟩) (fun k hk => hk.1.1) (.slice (some ⟨h, 0, none⟩) n vc))
  have HA2 := Aside0.mk (AccX.put HA1.out (by rw [HNN.out]; exact HV.out) (fun k hk => hk))
  have HT2 := Aside0.mk ((Turned.of_below HB1.out HG.out).set 1 (.slice (some ⟨h, 0, none⟩) n vc))
  have hy0 : (w1.setCell ⟨g, 1, none⟩ (.slice (some ⟨h, 0, none⟩) n vc)).cell? ⟨g, 1, none⟩ = some (.slice (some ⟨h, 0, none⟩) n vc) := World.cell?_setCell_same _ _ _ hx4
  obtain ⟨W2, hW2⟩ : ∃ W2, w1.setCell ⟨g, 1, none⟩ (.slice (some ⟨h, 0, none⟩) n vc) = W2 := ⟨_, rfl⟩
  rw [HNN.out] at HA2
  rw [hW2] at HV2 HA2 HT2 hy0 hb2 ⊢
  obtain ⟨cs, hcl, hFK, hcc, hfr⟩ := Kd.N_elem HV2.out z64 (0 : Int) (by omega) (by omega)
  rw [show l.getD (0 : Int).toNat z64 = rd_T64 l 0 from rfl, HR0.out] at hFK
  obtain ⟨A5, c5, rfl, hl5, hF5⟩ := k64_openF hFK
  have hy1 : W2.cell? ⟨h, 1, none⟩ = some (.slice A5 m c5) := HMM.out ▸ hcc 1 _ rfl
  have hz5 : W2.frozen? ⟨h, 1, none⟩ = false := hfr 1
  have hmc : m ≤ c5 := HMM.out ▸ hl5
  have h1m : (1 : Int) ≤ (m : Int) := by omega
  have h0n : (0 : Int) < (n : Int) := by omega
  have HCC := Aside0.mk hcc
  have HL5 := Aside0.mk hl5
  have HF5 := Aside0.mk hF5
  clear hcl hFK hcc hfr hl5 hF5 hx0 hx1 hx2 hx3 hx4 hz4 hz0 hW2
  go_region
  have hA6 : (if c5 = 1 then A5 else Option.map (fun x : Addr => (⟨x.block, x.off + 1, none⟩ : Addr)) A5) = (if c5 = 1 then A5 else A5.map (·.add (1 * 1))) := rfl
  have hF6 := F_rest (m := 1) HF5.out (by simp) HL5.out
  rw [← hA6] at hF6
  obtain ⟨A6, hA6e⟩ : ∃ A6, (if c5 = 1 then A5 else Option.map (fun x : Addr => (⟨x.block, x.off + 1, none⟩ : Addr)) A5) = A6 := ⟨_, rfl⟩
  rw [hA6e] at hF6 ⊢
  clear hA6 hA6e
  have hml : m - 1 = ps.length := by rw [← HMM.out]; simp
  rw [hml]
  obtain ⟨hN3, hG3⟩ := Kd.N_seg HV2.out (0 : Int) (by omega) h0n (c := [.int .i64 0, .slice A5 (p :: ps).length c5]) (seg := [.slice A6 ps.length (c5 - 1)]) (j := 1) rfl HCC.out (Nat.le_refl 2) (x' := (⟨0, ps⟩ : S64)) (k64_mkF W2 _ (⟨0, ps⟩ : S64) (by show ps.length ≤ c5 - 1; omega) hF6) (fun k hk => hk)
  have hls : l.set (0 : Int).toNat (⟨0, ps⟩ : S64) = ⟨0, ps⟩ :: t := by rw [← HLL.out]; rfl
  rw [hls] at hN3
  have hN4 : Kd.N k64 64 (W2.setCell ⟨h, 1, none⟩ (.slice A6 ps.length (c5 - 1))).drew w.heap.size (okX X g P) (.slice (some ⟨h, 0, none⟩) n vc) (⟨0, ps⟩ :: t) := Kd.N_drew hN3
  have hy0' : (W2.setCell ⟨h, 1, none⟩ (.slice A6 ps.length (c5 - 1))).drew.cell? ⟨g, 1, none⟩ = some (.slice (some ⟨h, 0, none⟩) n vc) := by
    have := World.cell?_setCell_other W2 ⟨h, 1, none⟩ ⟨g, 1, none⟩ (.slice A6 ps.length (c5 - 1)) (by simp [hhg])
    exact this.trans hy0
  have hy1' : (W2.setCell ⟨h, 1, none⟩ (.slice A6 ps.length (c5 - 1))).drew.cell? ⟨h, 1, none⟩ = some (.slice A6 ps.length (c5 - 1)) := World.cell?_setCell_same _ _ _ hy1
  have hz6 : (W2.setCell ⟨h, 1, none⟩ (.slice A6 ps.length (c5 - 1))).drew.frozen? ⟨g, 1, none⟩ = false := blk_frozen (blk_drew (blk_far hb2 (p := ⟨h, 1, none⟩) (Ne.symm hhg) _)) 1
  have hb3 := blk_drew (blk_far hb2 (p := ⟨h, 1, none⟩) (Ne.symm hhg) (.slice A6 ps.length (c5 - 1)))
  have hT3 := (HT2.out.far hbh HG.out 1 (.slice A6 ps.length (c5 - 1))).drew
  obtain ⟨W3, hW3⟩ : ∃ W3, (W2.setCell ⟨h, 1, none⟩ (.slice A6 ps.length (c5 - 1))).drew = W3 := ⟨_, rfl⟩
  rw [hW3] at hN4 hy0' hy1' hz6 hb3 hT3 ⊢
  have hnl : n = (⟨0, ps⟩ :: t : List S64).length := (Kd.N_reads' hN4).1
  have hnv := (Kd.N_reads' hN4).2.1
  have HN4 := Aside0.mk hN4
  have HB3 := Aside0.mk hb3
  have HT3 := Aside0.mk hT3
  have HNL := Lib.hid hnl
  clear hN3 hG3 hls hW3 hml hN4 hb3 hT3 hnl hy0 hy1 hb2 hF6 h1m
  have hy1b : W3.cell? ⟨h, 1, none⟩ = some (.slice A6 ps.length (c5 - 1)) := hy1'
  by_cases h0 : ps = []
  · have hr : restL ps t = t := if_pos h0
    have HR := Lib.hid hr
    have hp0 : ((ps.length : Int) == 0) = true := by rw [h0]; rfl
    have h1n : 1 ≤ n := hpos
    have h1v : 1 ≤ vc := by omega
    clear hr h0
    have htl : n - 1 = t.length := by rw [HNL.out]; simp
    have HTL := Lib.hid htl
    by_cases hv1 : vc = 1
    · have hnn : n = 1 := by omega
      have htn : t = [] := List.length_eq_zero_iff.1 (by omega)
      have HTN := Lib.hid htn
      subst hv1 hnn
      clear htl htn
      go_wp2
      go_ret2
      rw [HR.out]
      have hb4 := blk_put HB3.out 1 (.slice (some ⟨h, 0, none⟩) 0 0) rfl
      refine ⟨rfl, ⟨some ⟨h, 0, none⟩, 0, ?_, ?_, ?_⟩, HT3.out.set 1 _⟩
      · rw [HTN.out]; exact hb4
      · rw [HTN.out]; simp
      · rw [HTN.out]; exact fun W2 hW2 => ⟨rfl, Nat.zero_le _, fun h => absurd h (Nat.lt_irrefl 0)⟩
    · clear htl
      go_wp2
      go_ret2
      rw [HR.out, HTL.out]
      have hb4 := blk_put HB3.out 1 (.slice (some ⟨h, 2, none⟩) t.length (vc - 1)) rfl
      have hF4 := Kd.N_F HN4.out
      rw [HNL.out] at hF4
      have hF5 := F_drop (m := 1) hF4 (by simp) (by rw [← HNL.out]; exact hnv) (by omega)
      refine ⟨rfl, ⟨_, _, hb4, by rw [← HTL.out]; omega, ?_⟩, HT3.out.set 1 _⟩
      exact Kd.F_far (show Kd.F k64 W3 (okX X g P) (some ⟨h, 2, none⟩) t.length t from hF5) (fun k hk => hk.1.1) _
  · have hr : restL ps t = ⟨0, ps⟩ :: t := if_neg h0
    have HR := Lib.hid hr
    have hlp : 0 < ps.length := List.length_pos_iff.2 h0
    have hp0 : ((ps.length : Int) == 0) = false := beq_eq_false_iff_ne.2 (by omega)
    clear hr h0
    go_wp2
    go_ret2
    rw [HR.out]
    exact ⟨rfl, ⟨_, _, HNL.out ▸ HB3.out, by rw [← HNL.out]; exact hnv, by have := Kd.N_F HN4.out; rw [HNL.out] at this; exact this⟩, HT3.out⟩
set_option maxRecDepth 100000 in
set_option maxHeartbeats 400000 in
theorem takeX_yes (p : Int) (ps : List Int) (t : List S64) (g : Nat) (P : Value) (w : World) (X : Nat → Prop) (hX : ∀ k, w.heap.size ≤ k → X k) (hA : AccX X w g P (⟨0, p :: ps⟩ :: t)) (hP : ∀ k, P.ownBlock = some k → k < w.heap.size) (hs : smallL (⟨0, p :: ps⟩ :: t)) :
    Calls Tryz.prog 54 #[.pointer (some ⟨g, 0, none⟩)] w fun e w' => e = .returned (.int .i64 p) ∧ AccX X w' g P (restL ps t) ∧ Turned g w w' := by
  have HL := Lib.hid (leastX_yes p ps t g P w X hX hA hP hs)
  clear hA
  go_enter Tryz.func54, Tryz.ntmps54
  go_wp2_with (go_at_call 99; (refine HL.out.mono ?_); rintro e w1 ⟨rfl, ha, ht⟩)
  go_ret
  exact ⟨rfl, ha, ht⟩
set_option maxRecDepth 100000 in
set_option maxHeartbeats 400000 in
theorem takeX_new (l : List S64) (g : Nat) (P : Value) (pg : List S89) (base : Nat) (w : World) (X : Nat → Prop) (hX : ∀ k, w.heap.size ≤ k → X k) (hA : AccX X w g P l) (h0 : l = [] ∨ (rd_T64 l 0).f0 ≠ 0) (hN : Kd.N k89 89 w base (fun k => k ≠ g ∧ X k) P pg) (hm : pg.length < 4096) (hbg : base ≤ g) :
    Calls Tryz.prog 54 #[.pointer (some ⟨g, 0, none⟩)] w fun e w' => e = .returned (.int .i64 pg.length) ∧ ∃ P', AccX X w' g P' l ∧ Kd.N k89 89 w' base (fun k => k ≠ g ∧ X k) P' (pg ++ [z89]) ∧ TurnedP g base P P' w w' := by
  have HL := Lib.hid (least_no l g P w hA.acc h0)
  have hglt := hA.lt
  obtain ⟨PA, pc, rfl⟩ := Kd.N_slice hN
  have HAC := Aside0.mk hA
  have HN := Aside0.mk hN
  obtain ⟨A, c, hb, hc, hF⟩ := hA
  have hx0 : w.cell? ⟨g, 0, none⟩ = some (.slice PA pg.length pc) := (blk_cell hb 0).trans rfl
  have HD := Lib.hid (show decide ((pg.length : Int) < 4096) = true from decide_eq_true (by omega))
  have HG := Aside0.mk hglt
  have HLE := Lib.hid (show (pg ++ [z89]).length = pg.length + 1 by simp)
  have HNE := Aside0.mk (show some g ≠ (Value.slice PA pg.length pc).ownBlock from fun e => (hN.1 g e.symm).1 rfl)
  have HBK := Aside0.mk hb
  have HF := Aside0.mk hF
  have HCC := Aside0.mk hc
  have HFR := Aside0.mk (show ∀ k, w.heap.size ≤ k → k ≠ g ∧ X k from fun k hk => ⟨fun e => by omega, hX k hk⟩)
  have HBB := Aside0.mk (Below.refl base w)
  have HBS := Aside0.mk (show base ≤ w.heap.size by omega)
  have HLN := Aside0.mk (show (pg.length + 1) * 120 ≤ 140737488355328 by omega)
  clear hF hN hb h0
  go_enter Tryz.func54, Tryz.ntmps54
  go_upto_region 5 with (first | (go_at_call 99; (refine HL.out.mono ?_); rintro e w1 ⟨rfl, rfl⟩) | (go_at_call 45; rw [HD.out]; refine (need_yes _ _).mono ?_; rintro e w' ⟨rfl, rfl⟩))
  go_wp2_with (at_builtin; refine Kd.N_append k89 (w0 := w) base rfl (.tmp 25) (.tmp 27) 22 89 (.agg (cells89 z89 none 0).toArray) 120 rfl Tryz.underlying22 info89 rfl (by decide) (by decide) (.slice PA pg.length pc) pg z89 [.int .i64 0, .int .i64 0, .int .i64 0, .int .i64 0, .int .i64 0, .bool false, .slice none 0 0, .int .i64 0, .string ⟨#[]⟩, .slice none 0 0] (fun k => k ≠ g ∧ X k) (fun _ => False) rfl rfl zero89F (fun _ h => h.elim) (fun k hk => HFR.out k hk) HN.out HBB.out HBS.out HLN.out ?_; intro P1 w1 hp1 hb1 hg1 hat1; obtain ⟨QA, qc, rfl⟩ := Kd.N_slice hp1; rw [HLE.out] at hp1 hat1 ⊢; have hk1 := (hg1.block g HG.out HNE.out).trans HBK.out; have hy0 := blk_cell hk1 0; have hz0 := blk_frozen hk1 0)
  go_ret
  refine ⟨by simp, .slice QA (pg.length + 1) qc, ⟨A, c, blk_put hk1 0 _ rfl, HCC.out, Kd.F_mono (Kd.F_far (Kd.F_after (Kd.F_mono (ok' := fun k => (k ≠ g ∧ X k) ∧ some k ≠ (Value.slice PA pg.length pc).ownBlock) HF.out (fun k hk => ⟨⟨hk.1.1, hk.2⟩, hk.1.2⟩)) hg1 hat1) (fun k hk => hk.1.1) _) (fun k hk => ⟨⟨hk.1.1, hk.2⟩, hk.1.2⟩)⟩, Kd.N_far hp1 (fun k hk => hk.1) _, ⟨hb1.setCell (p := ⟨g, 0, none⟩) hbg _, ⟨by rw [World.size_setCell]; exact hg1.size, fun i hi hk => by rw [Below.heap_setCell w1 ⟨g, 0, none⟩ _ i hk.1, hg1.block i hi hk.2]⟩, hat1⟩⟩
end Go.Proofs.YtpnhelcemodnmaaGreat


/- Texts put together for one claim: part 3. -/
import Derived.Deep.LoopGhost
import Derived.Defers
import Derived.Recover
import Derived.WalkLawsBesides
import Derived.Shelf.SlicesE.DeleteFunc
import Derived.Shelf.SlSortFunc.HeapSort
import Derived.Test.YtpnhelcemodnmaaGreatV2
namespace Go.Proofs.YtpnhelcemodnmaaGreat
open Go.RowKit Go.Shelf Go.Proofs.YtpnhelcemodnmaaGreatW.PrintWords Go.Proofs.YtpnhelcemodnmaaGreatW.PrintLast Go.Proofs.YtpnhelcemodnmaaGreatW.PrintMore PA
set_option linter.unusedVariables false
set_option linter.unusedSimpArgs false
attribute [local go_sem] Oper.semAt_some
set_option maxHeartbeats 1000000 in
theorem z4v (x y : Int) (A B : Option Addr) (n c m d : Nat) (w : World) : Calls Tryz.prog 103 #[.agg #[.int .i64 x, .slice A n c], .agg #[.int .i64 y, .slice B m d]] w fun e w' => e = .returned (.int .i64 (Lib.compareInt x y)) ∧ Below w.heap.size w w' := by
 have HC := Lib.hid (fun w1 => Tryz.cmp_Compare_int x y w1)
 go_enter Tryz.func103, Tryz.ntmps103
 go_wp2_with (go_at_call 104; (with_reducible refine (HC.out _).mono ?_); rintro e w' ⟨rfl, rfl⟩)
 go_ret
 exact ⟨rfl, (z0i w _).alloc (by simp) _⟩
theorem z2e {α : Type} {R : α → List Value → Prop} {sz : Nat} {w : World} {n : Nat} {t : TypeId} {C : Array Value} {ps : List α} (hb : w.heap[n]? = some (.cells C t (0, 0))) (hr : Reps R sz ps C.toList) (hm : ps.length ≤ 9223372036854775807) : ReadsRow R sz w (some ⟨n, 0, none⟩) ps.length ps := by
 refine ⟨rfl, hm, fun _ => ⟨_, rfl, fun j q hj => ⟨_, ?_, hr.2 j q hj, fun i u hu => ?_⟩⟩⟩
 ·have hjl := (List.getElem?_eq_some_iff.1 hj).1
  have h1 := hr.1
  have : j * sz + sz ≤ ps.length * sz := by rw [← Nat.succ_mul]; exact Nat.mul_le_mul_right _ hjl
  rw [List.length_take, List.length_drop]
  omega
 ·rw [List.getElem?_take] at hu
  by_cases hi : i < sz
  ·rw [if_pos hi, List.getElem?_drop, Array.getElem?_toList] at hu
   rw [Addr.add_lit, Nat.zero_add]
   exact (z0a hb _).trans hu
  ·rw [if_neg hi] at hu; cases hu
set_option maxHeartbeats 1000000 in
theorem both_any (x y : Int) (A B : Option Addr) (xs ys : List Int) (c d : Nat) (w : World) (hA : (Kd.int .i64).C w A xs.length xs) (hB : (Kd.int .i64).C w B ys.length ys) (hc : xs.length ≤ c) (hd : ys.length ≤ d) (hn : xs.length + ys.length ≤ 10000000) :
  Calls Tryz.prog 105 #[.agg #[.int .i64 x, .slice A xs.length c], .agg #[.int .i64 y, .slice B ys.length d]] w fun e w' => ∃ v, e = .returned (.agg #[.int .i64 x, v]) ∧ (Kd.int .i64).R 3 w' w.heap.size (fun _ => True) v (sortI (xs ++ ys)) ∧ Below w.heap.size w w' := by
 go_enter Tryz.func105, Tryz.ntmps105
 go_wp2_with fail
 obtain ⟨W0, hW0⟩ : ∃ W0, ((((w.alloc (.cells #[.int .i64 x, .slice A xs.length c] 64)).alloc (.cells #[.int .i64 y, .slice B ys.length d] 64)).alloc (.cells #[.int .i64 0, .slice none 0 0] 64)).alloc (.cells #[.slice A xs.length c, .slice B ys.length d] 23)) = W0 := ⟨_, rfl⟩
 have hs0 : W0.heap.size = w.heap.size + 4 := by rw [← hW0]; simp
 have hb0 : Below w.heap.size w W0 := by rw [← hW0]; exact (((z0i w _).alloc (by simp) _).alloc (by simp; omega) _).alloc (by simp; omega) _
 have hk0 : W0.heap[w.heap.size]? = some (.cells #[.int .i64 x, .slice A xs.length c] 64 (0, 0)) := by rw [← hW0]; exact z0j (z0j (z0j (z0l w _) _) _) _
 have hk2 : W0.heap[w.heap.size + 1 + 1]? = some (.cells #[.int .i64 0, .slice none 0 0] 64 (0, 0)) := by
  rw [← hW0]
  have := z0l ((w.alloc (.cells #[.int .i64 x, .slice A xs.length c] 64)).alloc (.cells #[.int .i64 y, .slice B ys.length d] 64)) (.cells #[.int .i64 0, .slice none 0 0] 64)
  rw [World.size_alloc, World.size_alloc] at this
  exact z0j this _
 have hk3 : W0.heap[w.heap.size + 1 + 1 + 1]? = some (.cells #[.slice A xs.length c, .slice B ys.length d] 23 (0, 0)) := by
  rw [← hW0]
  have := z0l (((w.alloc (.cells #[.int .i64 x, .slice A xs.length c] 64)).alloc (.cells #[.int .i64 y, .slice B ys.length d] 64)).alloc (.cells #[.int .i64 0, .slice none 0 0] 64)) (.cells #[.slice A xs.length c, .slice B ys.length d] 23)
  rw [World.size_alloc, World.size_alloc, World.size_alloc] at this
  exact this
 rw [hW0]
 clear hW0
 have hrow : (Kd.slice 3 (Kd.int .i64)).C W0 (some ⟨w.heap.size + 1 + 1 + 1, 0, none⟩) [xs, ys].length [xs, ys] := by
  refine z2e hk3 ⟨rfl, fun j q hj => ?_⟩ (by simp)
  match j with
  | 0 =>
      obtain rfl : xs = q := by simpa using hj
      exact ⟨A, c, rfl, hc, Kd.C_below hA hb0⟩
  | 1 =>
      obtain rfl : ys = q := by simpa using hj
      exact ⟨B, d, rfl, hd, Kd.C_below hB hb0⟩
  | j + 2 => simp at hj
 have HCC := Aside0.mk (concatInt [xs, ys] _ 2 W0 hrow (by simp) (by simpa using hn))
 refine HCC.out.mono ?_
 rintro e w2 ⟨v, rfl, hv, hb2⟩
 have hv' : (Kd.int .i64).R 3 w2 W0.heap.size (fun _ => True) v (xs ++ ys) := by simpa using hv
 have hbig : (xs ++ ys).length < 4611686018427387904 := by rw [List.length_append]; omega
 have HS := Aside0.mk (sort_R hv' hbig)
 obtain ⟨B2, hB2⟩ : ∃ B2, w.heap.size + 1 + 1 = B2 := ⟨_, rfl⟩
 have hne : some w.heap.size ≠ v.ownBlock := fun e => by have := Kd.R_base hv' _ e.symm; omega
 have hne2 : some B2 ≠ v.ownBlock := fun e => by have := Kd.R_base hv' _ e.symm; omega
 rw [hB2] at hk2 ⊢
 have HB20 := Aside0.mk hB2
 have HK0 := Aside0.mk (z0g hk0 hb2)
 have HK2 := Aside0.mk (z0g hk2 hb2)
 have HB := Aside0.mk (hb0.trans (hb2.mono (by omega)))
 clear hk0 hk2 hk3 hrow HCC hB2 hv hv' hA hB
 go_wp2_with (go_at_call 73; (with_reducible refine HS.out.mono ?_); rintro e w3 ⟨rfl, hv3, hkk3, hb3⟩; have hq0 := z5q HK0.out hkk3 hne; have hq2 := z5q HK2.out hkk3 hne2; have hx0 : w3.cell? ⟨w.heap.size, 0, none⟩ = some (.int .i64 x) := (z0a hq0 0).trans rfl; have hf0 := z0d hq2 0; have hf1 := z0d hq2 1; have hy0 : w3.cell? ⟨B2, 0, none⟩ = some (.int .i64 0) := (z0a hq2 0).trans rfl; have hy1 : w3.cell? ⟨B2, 1, none⟩ = some (.slice none 0 0) := (z0a hq2 1).trans rfl; obtain ⟨vA, vc, rfl⟩ := Kd.R_slice hv3)
 have hq5 : ((w3.setCell ⟨B2, 0, none⟩ (.int .i64 x)).setCell ⟨B2, 1, none⟩ (.slice vA (sortI (xs ++ ys)).length vc)).heap[B2]? = some (.cells #[.int .i64 x, .slice vA (sortI (xs ++ ys)).length vc] 64 (0, 0)) := z1a (z1a hq2 0 _) 1 _
 have hR5 := Kd.R_far (p := ⟨B2, 1, none⟩) (Kd.R_far (p := ⟨B2, 0, none⟩) (Kd.R_far1 hv3 rfl hne2) (fun k hk => hk.2) (.int .i64 x)) (fun k hk => hk.2) (.slice vA (sortI (xs ++ ys)).length vc)
 have hsz := HB.out.size
 have hB2 := HB20.out
 refine bodyPost_ret (v := .agg #[.int .i64 x, .slice vA (sortI (xs ++ ys)).length vc]) (z8c rfl (.cell B2 64 _ (0, 0) _ rfl hq5 Tryz.underlying64 rfl (by kernel_rfl) .nil)) rfl ⟨_, rfl, Kd.R_mono (Kd.R_lower hR5 (by omega)) (fun _ _ => trivial), ?_⟩
 exact ((HB.out.trans (hb3.mono (by omega))).setCell (p := ⟨B2, 0, none⟩) (by show w.heap.size ≤ B2; omega) _).setCell (p := ⟨B2, 1, none⟩) (by show w.heap.size ≤ B2; omega) _
def mergeL : List S64 → List S64 → List S64
 | [], b => b
 | x :: a, [] => x :: a
 | x :: a, y :: b => if x.f0 < y.f0 then x :: mergeL a (y :: b) else if y.f0 < x.f0 then y :: mergeL (x :: a) b else ⟨x.f0, sortI (x.f1 ++ y.f1)⟩ :: mergeL a b
termination_by a b => a.length + b.length
theorem z1v (b : List S64) : mergeL [] b = b := by rw [mergeL]
theorem z1q (a : List S64) : mergeL a [] = a := by cases a <;> rw [mergeL]
theorem z17 {x y : S64} (a b : List S64) (h : x.f0 < y.f0) : mergeL (x :: a) (y :: b) = x :: mergeL a (y :: b) := by rw [mergeL, if_pos h]
theorem z1w {x y : S64} (a b : List S64) (h : y.f0 < x.f0) : mergeL (x :: a) (y :: b) = y :: mergeL (x :: a) b := by rw [mergeL, if_neg (by omega), if_pos h]
theorem z18 {x y : S64} (a b : List S64) (h : x.f0 = y.f0) : mergeL (x :: a) (y :: b) = ⟨x.f0, sortI (x.f1 ++ y.f1)⟩ :: mergeL a b := by rw [mergeL, if_neg (by omega), if_neg (by omega)]
theorem z58 (a b : List S64) : (mergeL a b).length ≤ a.length + b.length := by
 induction a generalizing b with
 | nil => rw [z1v]; simp
 | cons x a ih =>
  induction b with
  | nil => rw [z1q]; simp
  | cons y b ihb =>
   rcases Int.lt_trichotomy x.f0 y.f0 with h | h | h
   ·rw [z17 a b h]; have := ih (y :: b); simp at this ⊢; omega
   ·rw [z18 a b h]; have := ih b; simp at this ⊢; omega
   ·rw [z1w a b h]; simp at ihb ⊢; omega
def lenV : Value → Nat
 | .slice _ n _ => n
 | _ => 0
def MI (la lb : List S64) (w wr : World) (va vb vo : Value) : Prop :=
 ∃ (A : Option Addr) (ca : Nat) (B : Option Addr) (cb : Nat) (l m done : List S64), va = .slice A l.length ca ∧ l.length ≤ ca ∧ k64.C w A l.length l ∧ vb = .slice B m.length cb ∧ m.length ≤ cb ∧ k64.C w B m.length m ∧
  Kd.N k64 64 wr w.heap.size (fun _ => True) vo done ∧ Below w.heap.size w wr ∧ mergeL la lb = done ++ mergeL l m ∧ done.length + l.length + m.length ≤ la.length + lb.length ∧ l.length ≤ la.length ∧ m.length ≤ lb.length ∧
  (pagesOf l).length ≤ (pagesOf la).length ∧ (pagesOf m).length ≤ (pagesOf lb).length
theorem size64 : (Tryz.prog.info? 64).map (·.size) = some 2 := by kernel_rfl
theorem cell_grown {W W1 : World} {row : Option Nat} (hg : W.grownBy W1 row) {a : Addr} {v : Value} (h : W.cell? a = some v) (hne : some a.block ≠ row) : W1.cell? a = some v := by
 have := hg.block a.block (World.block_lt_of_cell? W a h) hne
 simpa [World.cell?, this] using h
theorem z59 {w : World} {A : Option Addr} {x : S64} {l : List S64} (h : k64.C w A (x :: l).length (x :: l)) : ∃ b o A1 c1, A = some ⟨b, o, none⟩ ∧ w.cell? ⟨b, o, none⟩ = some (.int .i64 x.f0) ∧ w.cell? ⟨b, o + 1, none⟩ = some (.slice A1 x.f1.length c1) ∧ x.f1.length ≤ c1 ∧
  Kd.FK k64 w (fun k => k < w.heap.size) x [.int .i64 x.f0, .slice A1 x.f1.length c1] ∧ (Kd.int .i64).C w A1 x.f1.length x.f1 ∧ b < w.heap.size := by
 obtain ⟨⟨b, o, t⟩, A1, c1, rfl, h0, h1, h2, h3⟩ := z0n h 0 (by simp) (by simp)
 have e : rd_T64 (x :: l) 0 = x := rfl
 rw [e] at h0 h1 h2 h3
 rw [show (Addr.add ⟨b, o, t⟩ ((0 : Int).toNat * 2)) = ⟨b, o, t⟩ from rfl] at h0 h1
 have ht : t = none := by
  cases t with
  | none => rfl
  | some q =>
   have : w.cell? ⟨b, o, some q⟩ = none := by unfold World.cell?; split <;> simp
   rw [this] at h0
   cases h0
 subst ht
 exact ⟨b, o, A1, c1, rfl, h0, h1, h2, z1b _ _ x h2 (Kd.C_F (Kd.heap_int .i64) h3), h3, World.block_lt_of_cell? w _ h0⟩
set_option maxRecDepth 100000 in
set_option maxHeartbeats 4000000 in
theorem z8q (la lb : List S64) (A : Option Addr) (ca : Nat) (B : Option Addr) (cb : Nat) (w : World) (hA : k64.C w A la.length la) (hca : la.length ≤ ca) (hB : k64.C w B lb.length lb) (hcb : lb.length ≤ cb) (ha : smallL la) (hb : smallL lb) :
  Calls Tryz.prog 102 #[.slice A la.length ca, .slice B lb.length cb, .func (.func 103) #[] #[], .func (.func 105) #[] #[]] w fun e w' => ∃ v, e = .returned v ∧ Kd.N k64 64 w' w.heap.size (fun _ => True) v (mergeL la lb) ∧ Below w.heap.size w w' := by
 go_enter Tryz.func102, Tryz.ntmps102
 go_wp2
 go_loopw [0, 1, 9] (fun va vb vo wr => MI la lb w wr va vb vo) (fun va vb _ _ => lenV va + lenV vb)
 case atStart => exact ⟨A, ca, B, cb, la, lb, [], rfl, hca, hA, rfl, hcb, hB, Kd.N_nil _ _ _ _ _, Below.refl _ _, rfl, by simp, Nat.le_refl _, Nat.le_refl _, Nat.le_refl _, Nat.le_refl _⟩
 case round =>
  obtain ⟨A, ca, B, cb, l, m, done, rfl, hca, hA, rfl, hcb, hB, hN, hW, hM, hL, hl, hm, hpl, hpm⟩ := hrel
  obtain ⟨O, co, rfl⟩ := Kd.N_slice hN
  have HN := Aside0.mk hN
  have HW := Aside0.mk hW
  have HM := Lib.hid hM
  clear hN hW hM
  have hsl := ha.1
  have hsm := hb.1
  cases l with
  | nil =>
   go_wp2_with fail
   have hk := z0l wr (.cells #[.slice O done.length co, .slice A (([] : List S64)).length ca, .slice B (m).length cb] 26)
   have hbw := z0i wr (.cells #[.slice O done.length co, .slice A (([] : List S64)).length ca, .slice B (m).length cb] 26)
   have hrow : (Kd.slice 64 k64).C (wr.alloc (.cells #[.slice O done.length co, .slice A (([] : List S64)).length ca, .slice B (m).length cb] 26)) (some ⟨wr.heap.size, 0, none⟩) [done, ([] : List S64), m].length [done, ([] : List S64), m] := by
    refine z2e hk ⟨rfl, fun j q hj => ?_⟩ (by simp)
    obtain ⟨_, hco, hCO⟩ := Kd.N_reads' HN.out
    match j with
    | 0 =>
        obtain rfl : done = q := by simpa using hj
        exact ⟨O, co, rfl, hco, Kd.C_below hCO hbw⟩
    | 1 =>
        obtain rfl : (([] : List S64)) = q := by simpa using hj
        exact ⟨A, ca, rfl, hca, Kd.C_below hA (HW.out.trans (hbw.mono HW.out.size))⟩
    | 2 =>
        obtain rfl : (m) = q := by simpa using hj
        exact ⟨B, cb, rfl, hcb, Kd.C_below hB (HW.out.trans (hbw.mono HW.out.size))⟩
    | j + 3 => simp at hj
   have hfl : [done, ([] : List S64), m].flatten = done ++ ((([] : List S64)) ++ (m)) := by simp
   refine (concatFreed [done, ([] : List S64), m] _ 3 _ hrow (by simp) (by rw [hfl]; simp only [List.length_append]; simp at hL ⊢; omega)).mono ?_
   rintro e w2 ⟨v, rfl, hv, hb2⟩
   rw [hfl] at hv
   go_wp2
   go_ret
   refine ⟨_, rfl, ?_, HW.out.trans ((hbw.trans (hb2.mono (by simp))).mono HW.out.size)⟩
   have := Kd.N_lower hv (show w.heap.size ≤ _ by have := HW.out.size; simp; omega)
   rw [HM.out, z1v]
   exact this
  | cons x l =>
   cases m with
   | nil =>
    go_wp2_with fail
    have hk := z0l wr (.cells #[.slice O done.length co, .slice A (x :: l).length ca, .slice B (([] : List S64)).length cb] 26)
    have hbw := z0i wr (.cells #[.slice O done.length co, .slice A (x :: l).length ca, .slice B (([] : List S64)).length cb] 26)
    have hrow : (Kd.slice 64 k64).C (wr.alloc (.cells #[.slice O done.length co, .slice A (x :: l).length ca, .slice B (([] : List S64)).length cb] 26)) (some ⟨wr.heap.size, 0, none⟩) [done, x :: l, ([] : List S64)].length [done, x :: l, ([] : List S64)] := by
     refine z2e hk ⟨rfl, fun j q hj => ?_⟩ (by simp)
     obtain ⟨_, hco, hCO⟩ := Kd.N_reads' HN.out
     match j with
     | 0 =>
         obtain rfl : done = q := by simpa using hj
         exact ⟨O, co, rfl, hco, Kd.C_below hCO hbw⟩
     | 1 =>
         obtain rfl : (x :: l) = q := by simpa using hj
         exact ⟨A, ca, rfl, hca, Kd.C_below hA (HW.out.trans (hbw.mono HW.out.size))⟩
     | 2 =>
         obtain rfl : (([] : List S64)) = q := by simpa using hj
         exact ⟨B, cb, rfl, hcb, Kd.C_below hB (HW.out.trans (hbw.mono HW.out.size))⟩
     | j + 3 => simp at hj
    have hfl : [done, x :: l, ([] : List S64)].flatten = done ++ ((x :: l) ++ (([] : List S64))) := by simp
    refine (concatFreed [done, x :: l, ([] : List S64)] _ 3 _ hrow (by simp) (by rw [hfl]; simp only [List.length_append]; simp at hL ⊢; omega)).mono ?_
    rintro e w2 ⟨v, rfl, hv, hb2⟩
    rw [hfl] at hv
    go_wp2
    go_ret
    refine ⟨_, rfl, ?_, HW.out.trans ((hbw.trans (hb2.mono (by simp))).mono HW.out.size)⟩
    have := Kd.N_lower hv (show w.heap.size ≤ _ by have := HW.out.size; simp; omega)
    rw [HM.out, z1q]
    rw [List.append_nil] at this
    exact this
   | cons y m =>
    obtain ⟨ba, oa, A1, c1, rfl, hx0, hx1, hl1, hFx, hCx, hba⟩ := z59 hA
    obtain ⟨bb, ob, B1, d1, rfl, hy0, hy1, hd1, hFy, hCy, hbb⟩ := z59 hB
    replace hx0 := cellB HW.out (Nat.le_refl _) hx0
    replace hx1 := cellB HW.out (Nat.le_refl _) hx1
    replace hy0 := cellB HW.out (Nat.le_refl _) hy0
    replace hy1 := cellB HW.out (Nat.le_refl _) hy1
    obtain ⟨A2, hA2⟩ : ∃ A2, (if ca = 1 then some ⟨ba, oa, none⟩ else (some (⟨ba, oa, none⟩ : Addr)).map (·.add (1 * 2))) = A2 := ⟨_, rfl⟩
    obtain ⟨B2, hB2⟩ : ∃ B2, (if cb = 1 then some ⟨bb, ob, none⟩ else (some (⟨bb, ob, none⟩ : Addr)).map (·.add (1 * 2))) = B2 := ⟨_, rfl⟩
    have hA' : k64.C w A2 l.length l := by rw [← hA2]; exact Kd.C_drop (m := 1) hA (by simp) hca
    have hB' : k64.C w B2 m.length m := by rw [← hB2]; exact Kd.C_drop (m := 1) hB (by simp) hcb
    have HA2 := Lib.hid hA2
    have HB2 := Lib.hid hB2
    clear hA2 hB2
    have hnb : ∀ k, k < w.heap.size → True ∧ some k ≠ (Value.slice O done.length co).ownBlock := fun k hk => ⟨trivial, fun e => by have := Kd.N_base HN.out k e.symm; omega⟩
    have HNE := Aside0.mk hnb
    have HNa := Aside0.mk (hnb ba hba).2
    have HNb := Aside0.mk (hnb bb hbb).2
    have hbd : (done.length + 1) * 32 ≤ 140737488355328 := by simp at hL; omega
    have HBD := Aside0.mk hbd
    have HFx := Aside0.mk hFx
    have HFy := Aside0.mk hFy
    have HCX := Aside0.mk hCx
    have HCY := Aside0.mk hCy
    have HL := Aside0.mk hL
    have HPL := Aside0.mk hpl
    have HPM := Aside0.mk hpm
    clear hnb hbd hFx hFy hCx hCy hL hpl hpm
    by_cases hlt : x.f0 < y.f0
    ·have HCMP := Lib.hid (show Lib.compareInt x.f0 y.f0 = -1 by unfold Lib.compareInt; rw [if_pos hlt])
     go_upto_region 3 with (fail)
     refine wp_region_held_drew (S := fun W => W.cell? ⟨ba, oa, none⟩ = some (.int .i64 x.f0) ∧ W.cell? ⟨ba, oa + 1, none⟩ = some (.slice A1 x.f1.length c1) ∧ W.cell? ⟨bb, ob, none⟩ = some (.int .i64 y.f0) ∧ W.cell? ⟨bb, ob + 1, none⟩ = some (.slice B1 y.f1.length d1)) (by kernel_rfl) (⟨hx0, hx1, hy0, hy1⟩) (fun hS => ?_)
     simp only [List.size_toArray, List.length_cons, List.length_nil, Nat.reduceAdd, Array.replicate_succ, Array.replicate_zero, List.push_toArray, List.nil_append, List.cons_append]
     refine z0b (i := 0) 19 (.func (.func 103) #[] #[]) rfl rfl (by kernel_rfl) (by kernel_rfl) (by kernel_rfl) (fun _ _ _ h => h) (Or.inl ⟨by rfl, fun W hW => by go_simp⟩) hS ?_
     try simp only [List.setIfInBounds_toArray, List.set_cons_zero, List.set_cons_succ]
     refine z0b (i := 1) 20 (.slice (some ⟨ba, oa, none⟩) (x :: l).length ca) rfl rfl (by kernel_rfl) (by kernel_rfl) (by kernel_rfl) (fun _ _ _ h => h) (Or.inl ⟨by rfl, fun W hW => by go_simp⟩) hS ?_
     try simp only [List.setIfInBounds_toArray, List.set_cons_zero, List.set_cons_succ]
     refine z0b (i := 2) 21 (.pointer (some ⟨ba, oa, none⟩)) rfl rfl (by kernel_rfl) (by kernel_rfl) (by kernel_rfl) (fun _ _ _ h => h) (Or.inl ⟨by rfl, fun W hW => by go_simp⟩) hS ?_
     try simp only [List.setIfInBounds_toArray, List.set_cons_zero, List.set_cons_succ]
     refine z0b (i := 3) 22 (.agg #[.int .i64 x.f0, .slice A1 x.f1.length c1]) rfl rfl (by kernel_rfl) (by kernel_rfl) (by kernel_rfl) (fun _ _ _ h => h) (Or.inl ⟨by rfl, fun W hW => by obtain ⟨h1, h2, h3, h4⟩ := hW; go_simp⟩) hS ?_
     try simp only [List.setIfInBounds_toArray, List.set_cons_zero, List.set_cons_succ]
     refine z0b (i := 4) 23 (.slice (some ⟨bb, ob, none⟩) (y :: m).length cb) rfl rfl (by kernel_rfl) (by kernel_rfl) (by kernel_rfl) (fun _ _ _ h => h) (Or.inl ⟨by rfl, fun W hW => by go_simp⟩) hS ?_
     try simp only [List.setIfInBounds_toArray, List.set_cons_zero, List.set_cons_succ]
     refine z0b (i := 5) 24 (.pointer (some ⟨bb, ob, none⟩)) rfl rfl (by kernel_rfl) (by kernel_rfl) (by kernel_rfl) (fun _ _ _ h => h) (Or.inl ⟨by rfl, fun W hW => by go_simp⟩) hS ?_
     try simp only [List.setIfInBounds_toArray, List.set_cons_zero, List.set_cons_succ]
     refine z0b (i := 6) 25 (.agg #[.int .i64 y.f0, .slice B1 y.f1.length d1]) rfl rfl (by kernel_rfl) (by kernel_rfl) (by kernel_rfl) (fun _ _ _ h => h) (Or.inl ⟨by rfl, fun W hW => by obtain ⟨h1, h2, h3, h4⟩ := hW; go_simp⟩) hS ?_
     try simp only [List.setIfInBounds_toArray, List.set_cons_zero, List.set_cons_succ]
     refine wpAnyH_ready (rs := [7]) (by kernel_rfl) (by simp) ?_
     refine AllReadyH.cons rfl (fun K hK => ?_) AllReadyH.nil
     go_simp
     refine (z4v x.f0 y.f0 A1 B1 x.f1.length c1 y.f1.length d1 _).mono ?_
     rintro e w1 ⟨rfl, hcb1⟩
     rw [HCMP.out]
     refine hK.out _ _ (⟨cellB hcb1 (Nat.le_refl _) hS.1, cellB hcb1 (Nat.le_refl _) hS.2.1, cellB hcb1 (Nat.le_refl _) hS.2.2.1, cellB hcb1 (Nat.le_refl _) hS.2.2.2⟩) (fun hS => ?_)
     clear hK K
     try simp only [Act.put, List.getElem_toArray, List.getElem_cons_succ, List.getElem_cons_zero, List.setIfInBounds_toArray, List.set_cons_zero, List.set_cons_succ]
     refine z0b (i := 8) 10 (.int .i64 (-1)) rfl rfl (by kernel_rfl) (by kernel_rfl) (by kernel_rfl) (fun _ _ _ h => h) (Or.inl ⟨by rfl, fun W hW => by go_simp⟩) hS ?_
     try simp only [List.setIfInBounds_toArray, List.set_cons_zero, List.set_cons_succ]
     refine wpAnyH_done (by kernel_rfl) ?_ _
     have HN1 := Aside0.mk (Kd.N_below (Kd.N_drew HN.out) hcb1)
     have HW1 := Aside0.mk (HW.out.drew.trans (hcb1.mono HW.out.size))
     have HCx := Aside0.mk (Kd.FK_below HFx.out HW1.out)
     have HCy := Aside0.mk (Kd.FK_below HFy.out HW1.out)
     have hS0 := hS
     clear hS hx0 hx1 hy0 hy1 hcb1
     go_upto_region 6 with (fail)
     refine wp_region_held_drew (S := fun W => W.cell? ⟨ba, oa, none⟩ = some (.int .i64 x.f0) ∧ W.cell? ⟨ba, oa + 1, none⟩ = some (.slice A1 x.f1.length c1) ∧ W.cell? ⟨bb, ob, none⟩ = some (.int .i64 y.f0) ∧ W.cell? ⟨bb, ob + 1, none⟩ = some (.slice B1 y.f1.length d1)) (by kernel_rfl) (hS0) (fun hS => ?_)
     simp only [List.size_toArray, List.length_cons, List.length_nil, Nat.reduceAdd, Array.replicate_succ, Array.replicate_zero, List.push_toArray, List.nil_append, List.cons_append]
     refine z0b (i := 0) 45 (.slice O done.length co) rfl rfl (by kernel_rfl) (by kernel_rfl) (by kernel_rfl) (fun _ _ _ h => h) (Or.inl ⟨by rfl, fun W hW => by go_simp⟩) hS ?_
     try simp only [List.setIfInBounds_toArray, List.set_cons_zero, List.set_cons_succ]
     refine z0b (i := 1) 46 (.slice (some ⟨ba, oa, none⟩) (x :: l).length ca) rfl rfl (by kernel_rfl) (by kernel_rfl) (by kernel_rfl) (fun _ _ _ h => h) (Or.inl ⟨by rfl, fun W hW => by go_simp⟩) hS ?_
     try simp only [List.setIfInBounds_toArray, List.set_cons_zero, List.set_cons_succ]
     refine z0b (i := 2) 47 (.pointer (some ⟨ba, oa, none⟩)) rfl rfl (by kernel_rfl) (by kernel_rfl) (by kernel_rfl) (fun _ _ _ h => h) (Or.inl ⟨by rfl, fun W hW => by go_simp⟩) hS ?_
     try simp only [List.setIfInBounds_toArray, List.set_cons_zero, List.set_cons_succ]
     refine z0b (i := 3) 48 (.agg #[.int .i64 x.f0, .slice A1 x.f1.length c1]) rfl rfl (by kernel_rfl) (by kernel_rfl) (by kernel_rfl) (fun _ _ _ h => h) (Or.inl ⟨by rfl, fun W hW => by obtain ⟨h1, h2, h3, h4⟩ := hW; go_simp⟩) hS ?_
     try simp only [List.setIfInBounds_toArray, List.set_cons_zero, List.set_cons_succ]
     refine z0b (i := 6) 51 (.slice (some ⟨ba, oa, none⟩) (x :: l).length ca) rfl rfl (by kernel_rfl) (by kernel_rfl) (by kernel_rfl) (fun _ _ _ h => h) (Or.inl ⟨by rfl, fun W hW => by go_simp⟩) hS ?_
     try simp only [List.setIfInBounds_toArray, List.set_cons_zero, List.set_cons_succ]
     refine z0b (i := 7) 52 (.slice A2 l.length (ca - 1)) rfl rfl (by kernel_rfl) (by kernel_rfl) (by kernel_rfl) (fun _ _ _ h => h) (Or.inl ⟨by rfl, fun W hW => (z2q _ 26 64 2 (.tmp 51) _ rfl _ (x :: l).length ca 1 rfl rfl Tryz.underlying26 size64 (by simp)).trans (by rw [HA2.out]; rfl)⟩) hS ?_
     try simp only [List.setIfInBounds_toArray, List.set_cons_zero, List.set_cons_succ]
     refine wpAnyH_ready (rs := [4]) (by kernel_rfl) (by simp) ?_
     refine AllReadyH.cons rfl (fun K hK => ?_) AllReadyH.nil
     rw [if_pos (by rfl)]
     refine z15 (.tmp 48) rfl rfl (build26 _ _ _ _ _) ?_
     refine hK.out _ _ (⟨cellB (z0i _ _) (Nat.le_refl _) hS.1, cellB (z0i _ _) (Nat.le_refl _) hS.2.1, cellB (z0i _ _) (Nat.le_refl _) hS.2.2.1, cellB (z0i _ _) (Nat.le_refl _) hS.2.2.2⟩) (fun hS => ?_)
     clear hK K
     try simp only [Act.put, List.getElem_toArray, List.getElem_cons_succ, List.getElem_cons_zero, List.setIfInBounds_toArray, List.set_cons_zero, List.set_cons_succ]
     refine wpAnyH_ready (rs := [5]) (by kernel_rfl) (by simp) ?_
     refine AllReadyH.cons rfl (fun K hK => ?_) AllReadyH.nil
     refine Kd.N_append_step k64 (w0 := w) w.heap.size (by rfl) (.tmp 45) (.tmp 49) 26 64 (.agg #[.int .i64 0, .slice none 0 0]) 32 rfl Tryz.underlying26 info64 rfl (by decide) (by decide) (.slice O done.length co) done x [.int .i64 x.f0, .slice A1 x.f1.length c1] (fun _ => True) (fun k => k < w.heap.size) rfl rfl (Kd.FK_below HCx.out (Below.refl _ _).drew) HNE.out (fun _ _ => trivial) (Kd.N_drew HN1.out) HW1.out.drew HW1.out.drew.size HBD.out ?_
     intro v1 w9 hv1 hb1 hg1 hat1
     refine hK.out _ _ (⟨cell_grown (W := w1.drew) hg1 hS0.1 HNa.out, cell_grown (W := w1.drew) hg1 hS0.2.1 HNa.out, cell_grown (W := w1.drew) hg1 hS0.2.2.1 HNb.out, cell_grown (W := w1.drew) hg1 hS0.2.2.2 HNb.out⟩) (fun hS => ?_)
     clear hK K
     try simp only [Act.put, List.getElem_toArray, List.getElem_cons_succ, List.getElem_cons_zero, List.setIfInBounds_toArray, List.set_cons_zero, List.set_cons_succ]
     refine z0b (i := 8) 9 (v1) rfl rfl (by kernel_rfl) (by kernel_rfl) (by kernel_rfl) (fun _ _ _ h => h) (Or.inl ⟨by rfl, fun W hW => by go_simp⟩) hS ?_
     try simp only [List.setIfInBounds_toArray, List.set_cons_zero, List.set_cons_succ]
     refine z0b (i := 9) 0 (.slice A2 l.length (ca - 1)) rfl rfl (by kernel_rfl) (by kernel_rfl) (by kernel_rfl) (fun _ _ _ h => h) (Or.inl ⟨by rfl, fun W hW => by go_simp⟩) hS ?_
     try simp only [List.setIfInBounds_toArray, List.set_cons_zero, List.set_cons_succ]
     refine wpAnyH_done (by kernel_rfl) ?_ _
     clear hS
     go_wp2
     go_roundw
     case rel => exact ⟨A2, ca - 1, _, cb, l, y :: m, _, rfl, (by simp at hca; omega), hA', rfl, hcb, hB, hv1, hb1, by rw [HM.out, z17 l m hlt, List.append_assoc]; rfl, (by have := HL.out; simp at this ⊢; omega), (by simp at hl ⊢; omega), (by simp at hm ⊢; omega), (by have := HPL.out; rw [show x :: l = [x] ++ l from rfl, z0y, List.length_append] at this; omega), (by have := HPM.out; exact this)⟩
     case measure => (simp [lenV] <;> omega)
    ·by_cases hgt : y.f0 < x.f0
     ·have HCMP := Lib.hid (show Lib.compareInt x.f0 y.f0 = 1 by unfold Lib.compareInt; rw [if_neg hlt, if_pos hgt])
      go_upto_region 3 with (fail)
      refine wp_region_held_drew (S := fun W => W.cell? ⟨ba, oa, none⟩ = some (.int .i64 x.f0) ∧ W.cell? ⟨ba, oa + 1, none⟩ = some (.slice A1 x.f1.length c1) ∧ W.cell? ⟨bb, ob, none⟩ = some (.int .i64 y.f0) ∧ W.cell? ⟨bb, ob + 1, none⟩ = some (.slice B1 y.f1.length d1)) (by kernel_rfl) (⟨hx0, hx1, hy0, hy1⟩) (fun hS => ?_)
      simp only [List.size_toArray, List.length_cons, List.length_nil, Nat.reduceAdd, Array.replicate_succ, Array.replicate_zero, List.push_toArray, List.nil_append, List.cons_append]
      refine z0b (i := 0) 19 (.func (.func 103) #[] #[]) rfl rfl (by kernel_rfl) (by kernel_rfl) (by kernel_rfl) (fun _ _ _ h => h) (Or.inl ⟨by rfl, fun W hW => by go_simp⟩) hS ?_
      try simp only [List.setIfInBounds_toArray, List.set_cons_zero, List.set_cons_succ]
      refine z0b (i := 1) 20 (.slice (some ⟨ba, oa, none⟩) (x :: l).length ca) rfl rfl (by kernel_rfl) (by kernel_rfl) (by kernel_rfl) (fun _ _ _ h => h) (Or.inl ⟨by rfl, fun W hW => by go_simp⟩) hS ?_
      try simp only [List.setIfInBounds_toArray, List.set_cons_zero, List.set_cons_succ]
      refine z0b (i := 2) 21 (.pointer (some ⟨ba, oa, none⟩)) rfl rfl (by kernel_rfl) (by kernel_rfl) (by kernel_rfl) (fun _ _ _ h => h) (Or.inl ⟨by rfl, fun W hW => by go_simp⟩) hS ?_
      try simp only [List.setIfInBounds_toArray, List.set_cons_zero, List.set_cons_succ]
      refine z0b (i := 3) 22 (.agg #[.int .i64 x.f0, .slice A1 x.f1.length c1]) rfl rfl (by kernel_rfl) (by kernel_rfl) (by kernel_rfl) (fun _ _ _ h => h) (Or.inl ⟨by rfl, fun W hW => by obtain ⟨h1, h2, h3, h4⟩ := hW; go_simp⟩) hS ?_
      try simp only [List.setIfInBounds_toArray, List.set_cons_zero, List.set_cons_succ]
      refine z0b (i := 4) 23 (.slice (some ⟨bb, ob, none⟩) (y :: m).length cb) rfl rfl (by kernel_rfl) (by kernel_rfl) (by kernel_rfl) (fun _ _ _ h => h) (Or.inl ⟨by rfl, fun W hW => by go_simp⟩) hS ?_
      try simp only [List.setIfInBounds_toArray, List.set_cons_zero, List.set_cons_succ]
      refine z0b (i := 5) 24 (.pointer (some ⟨bb, ob, none⟩)) rfl rfl (by kernel_rfl) (by kernel_rfl) (by kernel_rfl) (fun _ _ _ h => h) (Or.inl ⟨by rfl, fun W hW => by go_simp⟩) hS ?_
      try simp only [List.setIfInBounds_toArray, List.set_cons_zero, List.set_cons_succ]
      refine z0b (i := 6) 25 (.agg #[.int .i64 y.f0, .slice B1 y.f1.length d1]) rfl rfl (by kernel_rfl) (by kernel_rfl) (by kernel_rfl) (fun _ _ _ h => h) (Or.inl ⟨by rfl, fun W hW => by obtain ⟨h1, h2, h3, h4⟩ := hW; go_simp⟩) hS ?_
      try simp only [List.setIfInBounds_toArray, List.set_cons_zero, List.set_cons_succ]
      refine wpAnyH_ready (rs := [7]) (by kernel_rfl) (by simp) ?_
      refine AllReadyH.cons rfl (fun K hK => ?_) AllReadyH.nil
      go_simp
      refine (z4v x.f0 y.f0 A1 B1 x.f1.length c1 y.f1.length d1 _).mono ?_
      rintro e w1 ⟨rfl, hcb1⟩
      rw [HCMP.out]
      refine hK.out _ _ (⟨cellB hcb1 (Nat.le_refl _) hS.1, cellB hcb1 (Nat.le_refl _) hS.2.1, cellB hcb1 (Nat.le_refl _) hS.2.2.1, cellB hcb1 (Nat.le_refl _) hS.2.2.2⟩) (fun hS => ?_)
      clear hK K
      try simp only [Act.put, List.getElem_toArray, List.getElem_cons_succ, List.getElem_cons_zero, List.setIfInBounds_toArray, List.set_cons_zero, List.set_cons_succ]
      refine z0b (i := 8) 10 (.int .i64 (1)) rfl rfl (by kernel_rfl) (by kernel_rfl) (by kernel_rfl) (fun _ _ _ h => h) (Or.inl ⟨by rfl, fun W hW => by go_simp⟩) hS ?_
      try simp only [List.setIfInBounds_toArray, List.set_cons_zero, List.set_cons_succ]
      refine wpAnyH_done (by kernel_rfl) ?_ _
      have HN1 := Aside0.mk (Kd.N_below (Kd.N_drew HN.out) hcb1)
      have HW1 := Aside0.mk (HW.out.drew.trans (hcb1.mono HW.out.size))
      have HCx := Aside0.mk (Kd.FK_below HFx.out HW1.out)
      have HCy := Aside0.mk (Kd.FK_below HFy.out HW1.out)
      have hS0 := hS
      clear hS hx0 hx1 hy0 hy1 hcb1
      go_upto_region 8 with (fail)
      refine wp_region_held_drew (S := fun W => W.cell? ⟨ba, oa, none⟩ = some (.int .i64 x.f0) ∧ W.cell? ⟨ba, oa + 1, none⟩ = some (.slice A1 x.f1.length c1) ∧ W.cell? ⟨bb, ob, none⟩ = some (.int .i64 y.f0) ∧ W.cell? ⟨bb, ob + 1, none⟩ = some (.slice B1 y.f1.length d1)) (by kernel_rfl) (hS0) (fun hS => ?_)
      simp only [List.size_toArray, List.length_cons, List.length_nil, Nat.reduceAdd, Array.replicate_succ, Array.replicate_zero, List.push_toArray, List.nil_append, List.cons_append]
      refine z0b (i := 0) 56 (.slice O done.length co) rfl rfl (by kernel_rfl) (by kernel_rfl) (by kernel_rfl) (fun _ _ _ h => h) (Or.inl ⟨by rfl, fun W hW => by go_simp⟩) hS ?_
      try simp only [List.setIfInBounds_toArray, List.set_cons_zero, List.set_cons_succ]
      refine z0b (i := 1) 57 (.slice (some ⟨bb, ob, none⟩) (y :: m).length cb) rfl rfl (by kernel_rfl) (by kernel_rfl) (by kernel_rfl) (fun _ _ _ h => h) (Or.inl ⟨by rfl, fun W hW => by go_simp⟩) hS ?_
      try simp only [List.setIfInBounds_toArray, List.set_cons_zero, List.set_cons_succ]
      refine z0b (i := 2) 58 (.pointer (some ⟨bb, ob, none⟩)) rfl rfl (by kernel_rfl) (by kernel_rfl) (by kernel_rfl) (fun _ _ _ h => h) (Or.inl ⟨by rfl, fun W hW => by go_simp⟩) hS ?_
      try simp only [List.setIfInBounds_toArray, List.set_cons_zero, List.set_cons_succ]
      refine z0b (i := 3) 59 (.agg #[.int .i64 y.f0, .slice B1 y.f1.length d1]) rfl rfl (by kernel_rfl) (by kernel_rfl) (by kernel_rfl) (fun _ _ _ h => h) (Or.inl ⟨by rfl, fun W hW => by obtain ⟨h1, h2, h3, h4⟩ := hW; go_simp⟩) hS ?_
      try simp only [List.setIfInBounds_toArray, List.set_cons_zero, List.set_cons_succ]
      refine z0b (i := 6) 62 (.slice (some ⟨bb, ob, none⟩) (y :: m).length cb) rfl rfl (by kernel_rfl) (by kernel_rfl) (by kernel_rfl) (fun _ _ _ h => h) (Or.inl ⟨by rfl, fun W hW => by go_simp⟩) hS ?_
      try simp only [List.setIfInBounds_toArray, List.set_cons_zero, List.set_cons_succ]
      refine z0b (i := 7) 63 (.slice B2 m.length (cb - 1)) rfl rfl (by kernel_rfl) (by kernel_rfl) (by kernel_rfl) (fun _ _ _ h => h) (Or.inl ⟨by rfl, fun W hW => (z2q _ 26 64 2 (.tmp 62) _ rfl _ (y :: m).length cb 1 rfl rfl Tryz.underlying26 size64 (by simp)).trans (by rw [HB2.out]; rfl)⟩) hS ?_
      try simp only [List.setIfInBounds_toArray, List.set_cons_zero, List.set_cons_succ]
      refine wpAnyH_ready (rs := [4]) (by kernel_rfl) (by simp) ?_
      refine AllReadyH.cons rfl (fun K hK => ?_) AllReadyH.nil
      rw [if_pos (by rfl)]
      refine z15 (.tmp 59) rfl rfl (build26 _ _ _ _ _) ?_
      refine hK.out _ _ (⟨cellB (z0i _ _) (Nat.le_refl _) hS.1, cellB (z0i _ _) (Nat.le_refl _) hS.2.1, cellB (z0i _ _) (Nat.le_refl _) hS.2.2.1, cellB (z0i _ _) (Nat.le_refl _) hS.2.2.2⟩) (fun hS => ?_)
      clear hK K
      try simp only [Act.put, List.getElem_toArray, List.getElem_cons_succ, List.getElem_cons_zero, List.setIfInBounds_toArray, List.set_cons_zero, List.set_cons_succ]
      refine wpAnyH_ready (rs := [5]) (by kernel_rfl) (by simp) ?_
      refine AllReadyH.cons rfl (fun K hK => ?_) AllReadyH.nil
      refine Kd.N_append_step k64 (w0 := w) w.heap.size (by rfl) (.tmp 56) (.tmp 60) 26 64 (.agg #[.int .i64 0, .slice none 0 0]) 32 rfl Tryz.underlying26 info64 rfl (by decide) (by decide) (.slice O done.length co) done y [.int .i64 y.f0, .slice B1 y.f1.length d1] (fun _ => True) (fun k => k < w.heap.size) rfl rfl (Kd.FK_below HCy.out (Below.refl _ _).drew) HNE.out (fun _ _ => trivial) (Kd.N_drew HN1.out) HW1.out.drew HW1.out.drew.size HBD.out ?_
      intro v1 w9 hv1 hb1 hg1 hat1
      refine hK.out _ _ (⟨cell_grown (W := w1.drew) hg1 hS0.1 HNa.out, cell_grown (W := w1.drew) hg1 hS0.2.1 HNa.out, cell_grown (W := w1.drew) hg1 hS0.2.2.1 HNb.out, cell_grown (W := w1.drew) hg1 hS0.2.2.2 HNb.out⟩) (fun hS => ?_)
      clear hK K
      try simp only [Act.put, List.getElem_toArray, List.getElem_cons_succ, List.getElem_cons_zero, List.setIfInBounds_toArray, List.set_cons_zero, List.set_cons_succ]
      refine z0b (i := 8) 9 (v1) rfl rfl (by kernel_rfl) (by kernel_rfl) (by kernel_rfl) (fun _ _ _ h => h) (Or.inl ⟨by rfl, fun W hW => by go_simp⟩) hS ?_
      try simp only [List.setIfInBounds_toArray, List.set_cons_zero, List.set_cons_succ]
      refine z0b (i := 9) 1 (.slice B2 m.length (cb - 1)) rfl rfl (by kernel_rfl) (by kernel_rfl) (by kernel_rfl) (fun _ _ _ h => h) (Or.inl ⟨by rfl, fun W hW => by go_simp⟩) hS ?_
      try simp only [List.setIfInBounds_toArray, List.set_cons_zero, List.set_cons_succ]
      refine wpAnyH_done (by kernel_rfl) ?_ _
      clear hS
      go_wp2
      go_roundw
      case rel => exact ⟨_, ca, B2, cb - 1, x :: l, m, _, rfl, hca, hA, rfl, (by simp at hcb; omega), hB', hv1, hb1, by rw [HM.out, z1w l m hgt, List.append_assoc]; rfl, (by have := HL.out; simp at this ⊢; omega), (by simp at hl ⊢; omega), (by simp at hm ⊢; omega), (by have := HPL.out; exact this), (by have := HPM.out; rw [show y :: m = [y] ++ m from rfl, z0y, List.length_append] at this; omega)⟩
      case measure => (simp [lenV] <;> omega)
     ·have heq : x.f0 = y.f0 := by omega
      have HCMP := Lib.hid (show Lib.compareInt x.f0 y.f0 = 0 by unfold Lib.compareInt; rw [if_neg hlt, if_neg hgt])
      have hsum : x.f1.length + y.f1.length ≤ 10000000 := by
       have h1 := HPL.out
       have h2 := HPM.out
       rw [show x :: l = [x] ++ l from rfl, z0y, List.length_append, z02] at h1
       rw [show y :: m = [y] ++ m from rfl, z0y, List.length_append, z02] at h2
       have h3 := ha.2
       have h4 := hb.2
       omega
      have HSUM := Aside0.mk hsum
      have HEQ := Lib.hid heq
      clear hsum heq
      go_upto_region 3 with (fail)
      refine wp_region_held_drew (S := fun W => W.cell? ⟨ba, oa, none⟩ = some (.int .i64 x.f0) ∧ W.cell? ⟨ba, oa + 1, none⟩ = some (.slice A1 x.f1.length c1) ∧ W.cell? ⟨bb, ob, none⟩ = some (.int .i64 y.f0) ∧ W.cell? ⟨bb, ob + 1, none⟩ = some (.slice B1 y.f1.length d1)) (by kernel_rfl) (⟨hx0, hx1, hy0, hy1⟩) (fun hS => ?_)
      simp only [List.size_toArray, List.length_cons, List.length_nil, Nat.reduceAdd, Array.replicate_succ, Array.replicate_zero, List.push_toArray, List.nil_append, List.cons_append]
      refine z0b (i := 0) 19 (.func (.func 103) #[] #[]) rfl rfl (by kernel_rfl) (by kernel_rfl) (by kernel_rfl) (fun _ _ _ h => h) (Or.inl ⟨by rfl, fun W hW => by go_simp⟩) hS ?_
      try simp only [List.setIfInBounds_toArray, List.set_cons_zero, List.set_cons_succ]
      refine z0b (i := 1) 20 (.slice (some ⟨ba, oa, none⟩) (x :: l).length ca) rfl rfl (by kernel_rfl) (by kernel_rfl) (by kernel_rfl) (fun _ _ _ h => h) (Or.inl ⟨by rfl, fun W hW => by go_simp⟩) hS ?_
      try simp only [List.setIfInBounds_toArray, List.set_cons_zero, List.set_cons_succ]
      refine z0b (i := 2) 21 (.pointer (some ⟨ba, oa, none⟩)) rfl rfl (by kernel_rfl) (by kernel_rfl) (by kernel_rfl) (fun _ _ _ h => h) (Or.inl ⟨by rfl, fun W hW => by go_simp⟩) hS ?_
      try simp only [List.setIfInBounds_toArray, List.set_cons_zero, List.set_cons_succ]
      refine z0b (i := 3) 22 (.agg #[.int .i64 x.f0, .slice A1 x.f1.length c1]) rfl rfl (by kernel_rfl) (by kernel_rfl) (by kernel_rfl) (fun _ _ _ h => h) (Or.inl ⟨by rfl, fun W hW => by obtain ⟨h1, h2, h3, h4⟩ := hW; go_simp⟩) hS ?_
      try simp only [List.setIfInBounds_toArray, List.set_cons_zero, List.set_cons_succ]
      refine z0b (i := 4) 23 (.slice (some ⟨bb, ob, none⟩) (y :: m).length cb) rfl rfl (by kernel_rfl) (by kernel_rfl) (by kernel_rfl) (fun _ _ _ h => h) (Or.inl ⟨by rfl, fun W hW => by go_simp⟩) hS ?_
      try simp only [List.setIfInBounds_toArray, List.set_cons_zero, List.set_cons_succ]
      refine z0b (i := 5) 24 (.pointer (some ⟨bb, ob, none⟩)) rfl rfl (by kernel_rfl) (by kernel_rfl) (by kernel_rfl) (fun _ _ _ h => h) (Or.inl ⟨by rfl, fun W hW => by go_simp⟩) hS ?_
      try simp only [List.setIfInBounds_toArray, List.set_cons_zero, List.set_cons_succ]
      refine z0b (i := 6) 25 (.agg #[.int .i64 y.f0, .slice B1 y.f1.length d1]) rfl rfl (by kernel_rfl) (by kernel_rfl) (by kernel_rfl) (fun _ _ _ h => h) (Or.inl ⟨by rfl, fun W hW => by obtain ⟨h1, h2, h3, h4⟩ := hW; go_simp⟩) hS ?_
      try simp only [List.setIfInBounds_toArray, List.set_cons_zero, List.set_cons_succ]
      refine wpAnyH_ready (rs := [7]) (by kernel_rfl) (by simp) ?_
      refine AllReadyH.cons rfl (fun K hK => ?_) AllReadyH.nil
      go_simp
      refine (z4v x.f0 y.f0 A1 B1 x.f1.length c1 y.f1.length d1 _).mono ?_
      rintro e w1 ⟨rfl, hcb1⟩
      rw [HCMP.out]
      refine hK.out _ _ (⟨cellB hcb1 (Nat.le_refl _) hS.1, cellB hcb1 (Nat.le_refl _) hS.2.1, cellB hcb1 (Nat.le_refl _) hS.2.2.1, cellB hcb1 (Nat.le_refl _) hS.2.2.2⟩) (fun hS => ?_)
      clear hK K
      try simp only [Act.put, List.getElem_toArray, List.getElem_cons_succ, List.getElem_cons_zero, List.setIfInBounds_toArray, List.set_cons_zero, List.set_cons_succ]
      refine z0b (i := 8) 10 (.int .i64 (0)) rfl rfl (by kernel_rfl) (by kernel_rfl) (by kernel_rfl) (fun _ _ _ h => h) (Or.inl ⟨by rfl, fun W hW => by go_simp⟩) hS ?_
      try simp only [List.setIfInBounds_toArray, List.set_cons_zero, List.set_cons_succ]
      refine wpAnyH_done (by kernel_rfl) ?_ _
      have HN1 := Aside0.mk (Kd.N_below (Kd.N_drew HN.out) hcb1)
      have HW1 := Aside0.mk (HW.out.drew.trans (hcb1.mono HW.out.size))
      have HCx := Aside0.mk (Kd.FK_below HFx.out HW1.out)
      have HCy := Aside0.mk (Kd.FK_below HFy.out HW1.out)
      have hS0 := hS
      clear hS hx0 hx1 hy0 hy1 hcb1
      go_upto_region 4 with (fail)
      refine wp_region_held_drew (S := fun W => W.cell? ⟨ba, oa, none⟩ = some (.int .i64 x.f0) ∧ W.cell? ⟨ba, oa + 1, none⟩ = some (.slice A1 x.f1.length c1) ∧ W.cell? ⟨bb, ob, none⟩ = some (.int .i64 y.f0) ∧ W.cell? ⟨bb, ob + 1, none⟩ = some (.slice B1 y.f1.length d1)) (by kernel_rfl) (hS0) (fun hS => ?_)
      simp only [List.size_toArray, List.length_cons, List.length_nil, Nat.reduceAdd, Array.replicate_succ, Array.replicate_zero, List.push_toArray, List.nil_append, List.cons_append]
      refine z0b (i := 0) 27 (.slice O done.length co) rfl rfl (by kernel_rfl) (by kernel_rfl) (by kernel_rfl) (fun _ _ _ h => h) (Or.inl ⟨by rfl, fun W hW => by go_simp⟩) hS ?_
      try simp only [List.setIfInBounds_toArray, List.set_cons_zero, List.set_cons_succ]
      refine z0b (i := 1) 28 (.func (.func 105) #[] #[]) rfl rfl (by kernel_rfl) (by kernel_rfl) (by kernel_rfl) (fun _ _ _ h => h) (Or.inl ⟨by rfl, fun W hW => by go_simp⟩) hS ?_
      try simp only [List.setIfInBounds_toArray, List.set_cons_zero, List.set_cons_succ]
      refine z0b (i := 2) 29 (.slice (some ⟨ba, oa, none⟩) (x :: l).length ca) rfl rfl (by kernel_rfl) (by kernel_rfl) (by kernel_rfl) (fun _ _ _ h => h) (Or.inl ⟨by rfl, fun W hW => by go_simp⟩) hS ?_
      try simp only [List.setIfInBounds_toArray, List.set_cons_zero, List.set_cons_succ]
      refine z0b (i := 3) 30 (.pointer (some ⟨ba, oa, none⟩)) rfl rfl (by kernel_rfl) (by kernel_rfl) (by kernel_rfl) (fun _ _ _ h => h) (Or.inl ⟨by rfl, fun W hW => by go_simp⟩) hS ?_
      try simp only [List.setIfInBounds_toArray, List.set_cons_zero, List.set_cons_succ]
      refine z0b (i := 4) 31 (.agg #[.int .i64 x.f0, .slice A1 x.f1.length c1]) rfl rfl (by kernel_rfl) (by kernel_rfl) (by kernel_rfl) (fun _ _ _ h => h) (Or.inl ⟨by rfl, fun W hW => by obtain ⟨h1, h2, h3, h4⟩ := hW; go_simp⟩) hS ?_
      try simp only [List.setIfInBounds_toArray, List.set_cons_zero, List.set_cons_succ]
      refine z0b (i := 5) 32 (.slice (some ⟨bb, ob, none⟩) (y :: m).length cb) rfl rfl (by kernel_rfl) (by kernel_rfl) (by kernel_rfl) (fun _ _ _ h => h) (Or.inl ⟨by rfl, fun W hW => by go_simp⟩) hS ?_
      try simp only [List.setIfInBounds_toArray, List.set_cons_zero, List.set_cons_succ]
      refine z0b (i := 6) 33 (.pointer (some ⟨bb, ob, none⟩)) rfl rfl (by kernel_rfl) (by kernel_rfl) (by kernel_rfl) (fun _ _ _ h => h) (Or.inl ⟨by rfl, fun W hW => by go_simp⟩) hS ?_
      try simp only [List.setIfInBounds_toArray, List.set_cons_zero, List.set_cons_succ]
      refine z0b (i := 7) 34 (.agg #[.int .i64 y.f0, .slice B1 y.f1.length d1]) rfl rfl (by kernel_rfl) (by kernel_rfl) (by kernel_rfl) (fun _ _ _ h => h) (Or.inl ⟨by rfl, fun W hW => by obtain ⟨h1, h2, h3, h4⟩ := hW; go_simp⟩) hS ?_
      try simp only [List.setIfInBounds_toArray, List.set_cons_zero, List.set_cons_succ]
      refine z0b (i := 11) 38 (.slice (some ⟨ba, oa, none⟩) (x :: l).length ca) rfl rfl (by kernel_rfl) (by kernel_rfl) (by kernel_rfl) (fun _ _ _ h => h) (Or.inl ⟨by rfl, fun W hW => by go_simp⟩) hS ?_
      try simp only [List.setIfInBounds_toArray, List.set_cons_zero, List.set_cons_succ]
      refine z0b (i := 12) 39 (.slice A2 l.length (ca - 1)) rfl rfl (by kernel_rfl) (by kernel_rfl) (by kernel_rfl) (fun _ _ _ h => h) (Or.inl ⟨by rfl, fun W hW => (z2q _ 26 64 2 (.tmp 38) _ rfl _ (x :: l).length ca 1 rfl rfl Tryz.underlying26 size64 (by simp)).trans (by rw [HA2.out]; rfl)⟩) hS ?_
      try simp only [List.setIfInBounds_toArray, List.set_cons_zero, List.set_cons_succ]
      refine z0b (i := 13) 40 (.slice (some ⟨bb, ob, none⟩) (y :: m).length cb) rfl rfl (by kernel_rfl) (by kernel_rfl) (by kernel_rfl) (fun _ _ _ h => h) (Or.inl ⟨by rfl, fun W hW => by go_simp⟩) hS ?_
      try simp only [List.setIfInBounds_toArray, List.set_cons_zero, List.set_cons_succ]
      refine z0b (i := 14) 41 (.slice B2 m.length (cb - 1)) rfl rfl (by kernel_rfl) (by kernel_rfl) (by kernel_rfl) (fun _ _ _ h => h) (Or.inl ⟨by rfl, fun W hW => (z2q _ 26 64 2 (.tmp 40) _ rfl _ (y :: m).length cb 1 rfl rfl Tryz.underlying26 size64 (by simp)).trans (by rw [HB2.out]; rfl)⟩) hS ?_
      try simp only [List.setIfInBounds_toArray, List.set_cons_zero, List.set_cons_succ]
      refine wpAnyH_ready (rs := [8]) (by kernel_rfl) (by simp) ?_
      refine AllReadyH.cons rfl (fun K hK => ?_) AllReadyH.nil
      go_simp
      refine (both_any x.f0 y.f0 A1 B1 x.f1 y.f1 c1 d1 _ (Kd.C_below HCX.out HW1.out.drew) (Kd.C_below HCY.out HW1.out.drew) hl1 hd1 HSUM.out).mono ?_
      rintro e w2 ⟨sv, rfl, hsv, hcb2⟩
      obtain ⟨sA, sc, rfl⟩ := Kd.R_slice hsv
      refine hK.out _ _ (⟨cellB hcb2 (Nat.le_refl _) hS.1, cellB hcb2 (Nat.le_refl _) hS.2.1, cellB hcb2 (Nat.le_refl _) hS.2.2.1, cellB hcb2 (Nat.le_refl _) hS.2.2.2⟩) (fun hS => ?_)
      clear hK K
      try simp only [Act.put, List.getElem_toArray, List.getElem_cons_succ, List.getElem_cons_zero, List.setIfInBounds_toArray, List.set_cons_zero, List.set_cons_succ]
      refine wpAnyH_ready (rs := [9]) (by kernel_rfl) (by simp) ?_
      refine AllReadyH.cons rfl (fun K hK => ?_) AllReadyH.nil
      rw [if_pos (by rfl)]
      refine z15 (.tmp 35) rfl rfl (build26 _ _ _ _ _) ?_
      refine hK.out _ _ (⟨cellB (z0i _ _) (Nat.le_refl _) hS.1, cellB (z0i _ _) (Nat.le_refl _) hS.2.1, cellB (z0i _ _) (Nat.le_refl _) hS.2.2.1, cellB (z0i _ _) (Nat.le_refl _) hS.2.2.2⟩) (fun hS => ?_)
      clear hK K
      try simp only [Act.put, List.getElem_toArray, List.getElem_cons_succ, List.getElem_cons_zero, List.setIfInBounds_toArray, List.set_cons_zero, List.set_cons_succ]
      refine wpAnyH_ready (rs := [10]) (by kernel_rfl) (by simp) ?_
      refine AllReadyH.cons rfl (fun K hK => ?_) AllReadyH.nil
      have hN2 := Kd.N_below (Kd.N_drew HN1.out) hcb2
      have hW2 := HW1.out.drew.trans (hcb2.mono HW1.out.drew.size)
      have hok2 : ∀ k, w1.heap.size ≤ k → True ∧ some k ≠ (Value.slice O done.length co).ownBlock := fun k hk => ⟨trivial, fun e => by have := Kd.N_lt HN1.out k e.symm; omega⟩
      refine Kd.N_append_step k64 (w0 := w) w.heap.size (by rfl) (.tmp 27) (.tmp 36) 26 64 (.agg #[.int .i64 0, .slice none 0 0]) 32 rfl Tryz.underlying26 info64 rfl (by decide) (by decide) (.slice O done.length co) done (⟨x.f0, (sortI (x.f1 ++ y.f1))⟩ : S64) [.int .i64 x.f0, .slice sA (sortI (x.f1 ++ y.f1)).length sc] (fun _ => True) (fun k => w1.heap.size ≤ k) rfl rfl (z1b _ _ (⟨x.f0, (sortI (x.f1 ++ y.f1))⟩ : S64) (Kd.R_reads' hsv).2.1 (Kd.R_F (Kd.R_mono (Kd.R_bound hsv) (fun k hk => hk.2.1)))) hok2 (fun _ _ => trivial) hN2 hW2 hW2.size HBD.out ?_
      intro v1 w9 hv1 hb1 hg1 hat1
      have hS2 := And.intro (cellB hcb2 (Nat.le_refl _) hS0.1) (And.intro (cellB hcb2 (Nat.le_refl _) hS0.2.1) (And.intro (cellB hcb2 (Nat.le_refl _) hS0.2.2.1) (cellB hcb2 (Nat.le_refl _) hS0.2.2.2)))
      refine hK.out _ _ (⟨cell_grown hg1 hS2.1 HNa.out, cell_grown hg1 hS2.2.1 HNa.out, cell_grown hg1 hS2.2.2.1 HNb.out, cell_grown hg1 hS2.2.2.2 HNb.out⟩) (fun hS => ?_)
      clear hK K
      try simp only [Act.put, List.getElem_toArray, List.getElem_cons_succ, List.getElem_cons_zero, List.setIfInBounds_toArray, List.set_cons_zero, List.set_cons_succ]
      refine z0b (i := 15) 9 (v1) rfl rfl (by kernel_rfl) (by kernel_rfl) (by kernel_rfl) (fun _ _ _ h => h) (Or.inl ⟨by rfl, fun W hW => by go_simp⟩) hS ?_
      try simp only [List.setIfInBounds_toArray, List.set_cons_zero, List.set_cons_succ]
      refine z0b (i := 16) 0 (.slice A2 l.length (ca - 1)) rfl rfl (by kernel_rfl) (by kernel_rfl) (by kernel_rfl) (fun _ _ _ h => h) (Or.inl ⟨by rfl, fun W hW => by go_simp⟩) hS ?_
      try simp only [List.setIfInBounds_toArray, List.set_cons_zero, List.set_cons_succ]
      refine z0b (i := 17) 1 (.slice B2 m.length (cb - 1)) rfl rfl (by kernel_rfl) (by kernel_rfl) (by kernel_rfl) (fun _ _ _ h => h) (Or.inl ⟨by rfl, fun W hW => by go_simp⟩) hS ?_
      try simp only [List.setIfInBounds_toArray, List.set_cons_zero, List.set_cons_succ]
      refine wpAnyH_done (by kernel_rfl) ?_ _
      clear hS
      go_wp2
      go_roundw
      case rel => exact ⟨A2, ca - 1, B2, cb - 1, l, m, _, rfl, (by simp at hca; omega), hA', rfl, (by simp at hcb; omega), hB', hv1, hb1, by rw [HM.out, z18 l m HEQ.out, List.append_assoc]; rfl, (by have := HL.out; simp at this ⊢; omega), (by simp at hl ⊢; omega), (by simp at hm ⊢; omega), (by have := HPL.out; rw [show x :: l = [x] ++ l from rfl, z0y, List.length_append] at this; omega), (by have := HPM.out; rw [show y :: m = [y] ++ m from rfl, z0y, List.length_append] at this; omega)⟩
      case measure => (simp [lenV] <;> omega)
theorem set_self {α : Type} (l : List α) (k : Nat) (x : α) (h : l[k]? = some x) : l.set k x = l := by
 apply List.ext_getElem?
 intro i
 by_cases e : i = k
 ·subst e
  rw [List.getElem?_set_self (List.getElem?_eq_some_iff.1 h).1, h]
 ·rw [List.getElem?_set_ne (Ne.symm e)]
theorem z6a (a b : List S64) : (pagesOf (mergeL a b)).length = (pagesOf a).length + (pagesOf b).length := by
 have one : ∀ (x : S64) (l : List S64), (pagesOf (x :: l)).length = x.f1.length + (pagesOf l).length := fun x l => by
  rw [show x :: l = [x] ++ l from rfl, z0y, List.length_append, z02]
 induction a generalizing b with
 | nil => rw [z1v]; simp [pagesOf, flat]
 | cons x a ih =>
  induction b with
  | nil => rw [z1q]; simp [pagesOf, flat]
  | cons y b ihb =>
   rcases Int.lt_trichotomy x.f0 y.f0 with h | h | h
   ·rw [z17 a b h, one, ih, one, one]; omega
   ·rw [z18 a b h, one, ih, one, one]; simp [z2c]; omega
   ·rw [z1w a b h, one, ihb, one, one]; omega
end Go.Proofs.YtpnhelcemodnmaaGreat
namespace Go.Proofs.YtpnhelcemodnmaaGreat
open Go.RowKit Go.Shelf Go.Proofs.YtpnhelcemodnmaaGreatW.PrintWords Go.Proofs.YtpnhelcemodnmaaGreatW.PrintLast Go.Proofs.YtpnhelcemodnmaaGreatW.PrintMore PA
set_option linter.unusedVariables false
set_option linter.unusedSimpArgs false
attribute [local go_sem] Oper.semAt_some
attribute [local go_sem] z1c z1d z1e z1f z1i z1j z1k z1l
def cutL : Nat → List S64 → List S64 × List S64
 | _, [] => ([], [])
 | r, f :: t => if r < 12 then ([], f :: t) else if (r - 8) / 4 < f.f1.length then ([⟨f.f0, f.f1.take ((r - 8) / 4)⟩], ⟨f.f0, f.f1.drop ((r - 8) / 4)⟩ :: t)
  else (f :: (cutL (r - (8 + 4 * f.f1.length)) t).1, (cutL (r - (8 + 4 * f.f1.length)) t).2)
theorem z2s {r : Nat} {f : S64} {t : List S64} (h : r < 12) : cutL r (f :: t) = ([], f :: t) := by rw [cutL, if_pos h]
theorem z3e {r : Nat} {f : S64} {t : List S64} (h : ¬ r < 12) (h2 : (r - 8) / 4 < f.f1.length) : cutL r (f :: t) = ([⟨f.f0, f.f1.take ((r - 8) / 4)⟩], ⟨f.f0, f.f1.drop ((r - 8) / 4)⟩ :: t) := by rw [cutL, if_neg h, if_pos h2]
theorem z3f {r : Nat} {f : S64} {t : List S64} (h : ¬ r < 12) (h2 : ¬ (r - 8) / 4 < f.f1.length) : cutL r (f :: t) = (f :: (cutL (r - (8 + 4 * f.f1.length)) t).1, (cutL (r - (8 + 4 * f.f1.length)) t).2) := by rw [cutL, if_neg h, if_neg h2]
theorem size3 : (Tryz.prog.info? 3).map (·.size) = some 1 := by kernel_rfl
theorem F_drop {W : World} {ok : Nat → Prop} {ad : Addr} {l : List S64} {c m : Nat} (h : Kd.F k64 W ok (some ad) l.length l) (hm : m ≤ l.length) (hc : l.length ≤ c) (hmc : m < c) : Kd.F k64 W ok (some (ad.add (m * 2))) (l.length - m) (l.drop m) := by
 refine Kd.F_imp h fun W' hC => ?_
 have := Kd.C_drop (m := m) hC hm hc
 rw [if_neg (by omega), List.length_drop] at this
 exact this
theorem F_rest {W : World} {ok : Nat → Prop} {A : Option Addr} {xs : List Int} {c m : Nat} (h : Kd.F (Kd.int .i64) W ok A xs.length xs) (hm : m ≤ xs.length) (hc : xs.length ≤ c) : Kd.F (Kd.int .i64) W ok (if c = m then A else A.map (·.add (m * 1))) (xs.drop m).length (xs.drop m) :=
 Kd.F_imp h fun W' hC => Kd.C_drop (m := m) hC hm hc
theorem z2f {W : World} {ok : Nat → Prop} {A : Option Addr} {l : List S64} (h : Kd.F k64 W ok A l.length l) (k : Nat) (hk : k < l.length) : ∃ ad A1 c1, A = some ad ∧ W.cell? (ad.add (k * 2)) = some (.int .i64 (rd_T64 l (k : Int)).f0) ∧ W.cell? ⟨(ad.add (k * 2)).block, (ad.add (k * 2)).off + 1, none⟩ = some (.slice A1 (rd_T64 l (k : Int)).f1.length c1) ∧ (rd_T64 l (k : Int)).f1.length ≤ c1 ∧
  Kd.F (Kd.int .i64) W ok A1 (rd_T64 l (k : Int)).f1.length (rd_T64 l (k : Int)).f1 := by
 obtain ⟨ad, c, rfl, hcl, hFK, hcc⟩ := ReadsRow.get_ (Kd.F_rows h) z64 (k : Int) (by omega) (by omega)
 obtain ⟨A1, c1, rfl, hl1, hF1⟩ := z2n hFK
 rw [Int.toNat_natCast] at hcc
 exact ⟨ad, A1, c1, rfl, hcc 0 _ rfl, by rw [← z2y _ _ 1 (by omega)]; exact hcc 1 _ rfl, hl1, hF1⟩
theorem N_one {W : World} {base n : Nat} {ok okp : Nat → Prop} {C : Array Value} {x : S64} (hb : W.heap[n]? = some (.cells C 64 (0, 0))) (hC : C.size = 2) (hF : Kd.FK k64 W okp x C.toList) (hn : base ≤ n) (hok : ok n) (hokp : ∀ k, okp k → ok k ∧ k ≠ n) : Kd.N k64 64 W base ok (.slice (some ⟨n, 0, none⟩) 1 1) [x] := by
 have hrow : W.ownsRow base 64 2 (.slice (some ⟨n, 0, none⟩) 1 1) 1 C.toList := ⟨by simp [hC], .inr ⟨n, 1, C, rfl, hn, hb, Nat.le_refl _, by unfold maxLen; omega, by rw [hC], by rw [Nat.one_mul, List.take_of_length_le (by simp [hC])]⟩⟩
 have hreps : Reps ((Kd.raw 2).M W base (fun k => (some k = (Value.slice (some ⟨n, 0, none⟩) 1 1).ownBlock) ∧ some k ≠ (Value.slice (some ⟨n, 0, none⟩) 1 1).ownBlock)) 2 [C.toList] C.toList := by
  refine ⟨by simp [hC], fun j p hj => ?_⟩
  cases j with
  | zero =>
   obtain rfl : C.toList = p := by simpa using hj
   rw [Nat.zero_mul, List.drop_zero, List.take_of_length_le (by simp [hC])]
   exact ⟨rfl, by simp [hC], k64.K_one (Kd.FK_now hF)⟩
  | succ j => simp at hj
 refine ⟨fun k hk => ?_, [C.toList], rfl, ⟨fun k hk => hk.symm, C.toList, hrow, hreps⟩, fun j y c hy hc => ?_⟩
 ·have : n = k := by simpa [Value.ownBlock] using hk
  exact this ▸ hok
 ·cases j with
  | zero =>
   obtain rfl : x = y := by simpa using hy
   obtain rfl : C.toList = c := by simpa using hc
   exact Kd.FK_mono hF fun k hk => ⟨(hokp k hk).1, fun e => (hokp k hk).2 (by simpa [Value.ownBlock] using e)⟩
  | succ j => simp at hy
set_option maxRecDepth 100000 in
set_option maxHeartbeats 4000000 in
theorem z8r (l : List S64) (A : Option Addr) (c : Nat) (w : World) (okp : Nat → Prop) (hF : Kd.F k64 w okp A l.length l) (hc : l.length ≤ c) (hn : ∀ f ∈ l, f.f1 ≠ []) (hs : l.length ≤ 3000000) :
  Calls Tryz.prog 122 #[.slice A l.length c] w fun e w' => ∃ p q, e = .returned (.tuple #[p, q]) ∧ k64.R 64 w' w.heap.size (fun _ => True) p (cutL 490 l).1 ∧ Kd.N k64 64 w' w.heap.size (fun k => okp k ∨ w.heap.size ≤ k) q (cutL 490 l).2 ∧ Below w.heap.size w w' := by
 have hC := Kd.F_now hF
 have HF := Aside0.mk hF
 clear hF
 go_enter Tryz.func122, Tryz.ntmps122
 go_wp2
 go_loopw [2, 3, 4, 10] (fun p q r i wr => ∃ (k r' : Nat), k ≤ l.length ∧ q = .slice none 0 0 ∧ i = .int .i64 k ∧ r = .int .i64 r' ∧ r' ≤ 490 ∧ Hid (cutL 490 l = (l.take k ++ (cutL r' (l.drop k)).1, (cutL r' (l.drop k)).2)) ∧ Aside0 (k64.R 64 wr w.heap.size (fun _ => True) p (l.take k)) ∧ Aside0 (Below w.heap.size w wr))
  (fun _ _ _ i _ => l.length - (intOf i).toNat)
 case atStart => exact ⟨0, 490, Nat.zero_le _, rfl, rfl, rfl, Nat.le_refl _, Lib.hid rfl, ⟨Kd.R_nil _ _ _ _ _⟩, ⟨Below.refl _ _⟩⟩
 case round =>
  obtain ⟨k, r, hk, rfl, rfl, rfl, hr, HL, HR, HB⟩ := hrel
  by_cases hlt : k < l.length
  ·obtain ⟨ad, A1, c1, rfl, hx0, hx1, hl1, hFI⟩ := z2f HF.out k hlt
   have hC1 := Kd.F_now (Kd.F_below hFI HB.out)
   replace hx0 := cellB HB.out (Nat.le_refl _) hx0
   replace hx1 := cellB HB.out (Nat.le_refl _) hx1
   have hel : rd_T64 l (k : Int) ∈ l := by rw [z05 l k hlt]; exact List.getElem_mem hlt
   have hdr : l.drop k = rd_T64 l (k : Int) :: l.drop (k + 1) := by rw [z05 l k hlt]; exact List.drop_eq_getElem_cons hlt
   have hpos := hn _ hel
   have HT := Lib.hid (z2d l k hlt)
   have hk1 : k < l.length := hlt
   obtain ⟨x, hx⟩ : ∃ x, rd_T64 l (k : Int) = x := ⟨_, rfl⟩
   rw [hx] at hx0 hx1 hl1 hC1 hpos HT hdr hFI
   have HFI := Aside0.mk (Kd.F_bound hFI)
   have HX := Lib.hid hx
   have HD := Lib.hid hdr
   have hp1 : 0 < x.f1.length := List.length_pos_iff.2 hpos
   clear hx hdr hel hpos hFI
   have hfb := z0l wr (.cells #[.int .i64 x.f0, .slice A1 x.f1.length c1] 64)
   have HCX := Aside0.mk (Kd.C_alloc hC1 (.cells #[.int .i64 x.f0, .slice A1 x.f1.length c1] 64))
   have HRX := Aside0.mk (Kd.R_below HR.out (z0i wr (.cells #[.int .i64 x.f0, .slice A1 x.f1.length c1] 64)))
   have HBA := Aside0.mk (HB.out.alloc HB.out.size (.cells #[.int .i64 x.f0, .slice A1 x.f1.length c1] 64))
   have hno : ∀ k : Nat, okp k → (okp k ∨ w.heap.size ≤ k) ∧ some k ≠ (Value.slice none 0 0).ownBlock := fun k hk => ⟨.inl hk, by simp [Value.ownBlock]⟩
   have HNO := Aside0.mk hno
   clear hno
   by_cases hr12 : r < 12
   ·by_cases hmn : (x.f1.length : Int) < ((r : Int) - 8).tdiv 4
    all_goals
     have HFD := Aside0.mk (F_drop (Kd.F_below HF.out HBA.out) hk hc (by omega))
     have HND := Aside0.mk (Kd.N_nil k64 64 (wr.alloc (.cells #[.int .i64 x.f0, .slice A1 x.f1.length c1] 64)) w.heap.size (fun k => okp k ∨ w.heap.size ≤ k))
     have HBD := Aside0.mk (show (([] : List S64).length + (l.length - k)) * 32 ≤ 140737488355328 by simp; omega)
     clear hC hfb
     go_wp2_with (at_builtin; refine Kd.N_append_rows k64 (w0 := w) w.heap.size rfl (.tmp 29) (.tmp 32) 26 64 (.agg #[.int .i64 0, .slice none 0 0]) 32 rfl Tryz.underlying26 info64 rfl (by decide) (by decide) (.slice none 0 0) [] (l.drop k) _ _ _ (fun q => okp q ∨ w.heap.size ≤ q) okp rfl rfl HND.out HFD.out HNO.out (fun q hq => .inr (Nat.le_trans HBA.out.size hq)) HBA.out HBA.out.size HBD.out ?_; intro q1 w9 hq1 hb1 hg1 hat1)
     go_ret2
     refine ⟨_, _, rfl, ?_, ?_, hb1⟩
     ·rw [HL.out, HD.out, z2s hr12, List.append_nil]
      exact Kd.R_grown HRX.out hg1 (fun _ _ => by simp [Value.ownBlock])
     ·rw [HL.out, HD.out, z2s hr12, ← HD.out]
      simpa using hq1
   ·have hr3 : decide ((r : Int) < 12) = false := decide_eq_false (by omega)
    by_cases hn1 : (r - 8) / 4 < x.f1.length
    ·obtain ⟨g, hg⟩ : ∃ g, x.f1.take ((r - 8) / 4) = g := ⟨_, rfl⟩
     have hgl0 : g.length = (r - 8) / 4 := by rw [← hg, List.length_take]; omega
     have GC : (Kd.int .i64).C wr A1 g.length g := by rw [← hg]; exact Kd.C_take hC1 (by omega)
     have HGE := Lib.hid hg
     have HCUT := Lib.hid (z3e (t := l.drop (k + 1)) hr12 hn1)
     have hmn : ((r : Int) - 8) / 4 < (x.f1.length : Int) := by omega
     have hnn : ((r : Int) - 8) / 4 = (g.length : Int) := by omega
     have hd1 : decide ((g.length : Int) < 1) = false := decide_eq_false (by omega)
     have hg1 : g.length < x.f1.length := by omega
     have hcle : g.length ≤ c1 := by omega
     have hr8 : 8 + 4 * g.length ≤ r := by omega
     have HGL := Lib.hid hgl0
     clear hgl0 hg
     go_upto_region 8 with (fail)
     clear hnn
     have hC1g : (Kd.int .i64).C wr A1 g.length g := GC
     have hgc : g.length ≤ c1 := hcle
     obtain ⟨W0, hW0⟩ : ∃ W0, wr.alloc (.cells #[.int .i64 x.f0, .slice A1 x.f1.length c1] 64) = W0 := ⟨_, rfl⟩
     have hsz0 : W0.heap.size = wr.heap.size + 1 := by rw [← hW0]; simp
     have HCA := Aside0.mk (Kd.C_below hC1g (z0i wr (.cells #[.int .i64 x.f0, .slice A1 x.f1.length c1] 64)))
     rw [hW0] at HCX HRX HBA hfb HCA ⊢
     obtain ⟨Bf, hBf⟩ : ∃ Bf, wr.heap.size = Bf := ⟨_, rfl⟩
     have hne : some Bf ≠ Value.ownBlock u2 := fun e => by have := Kd.R_lt HR.out _ e.symm; omega
     have HNE := Aside0.mk hne
     rw [hBf] at hsz0 hfb ⊢
     have HRA := Aside0.mk (Kd.R_mono (ok' := fun k => True ∧ some k ≠ (Value.slice none 0 0).ownBlock) HRX.out (fun q _ => ⟨trivial, by simp [Value.ownBlock]⟩))
     have HG8 := Aside0.mk (show g.length * 8 ≤ 140737488355328 by omega)
     have HRL := Aside0.mk (show ((l.take k).length + 1) * 32 ≤ 140737488355328 by rw [List.length_take]; omega)
     have HBF := Aside0.mk hBf
     clear hne hW0 hx0 hx1 hC1 hC1g hBf hC
     refine wp_region_held_drew (S := fun W => W.heap[Bf]? = some (.cells #[.int .i64 x.f0, .slice A1 x.f1.length c1] 64 (0, 0))) (by kernel_rfl) (hfb) (fun hS => ?_)
     simp only [List.size_toArray, List.length_cons, List.length_nil, Nat.reduceAdd, Array.replicate_succ, Array.replicate_zero, List.push_toArray, List.nil_append, List.cons_append]
     refine z0b (i := 0) 34 (u2) rfl rfl (by kernel_rfl) (by kernel_rfl) (by kernel_rfl) (fun _ _ _ h => h) (Or.inl ⟨by rfl, fun W hW => by go_simp⟩) hS ?_
     try simp only [List.setIfInBounds_toArray, List.set_cons_zero, List.set_cons_succ]
     refine z0b (i := 1) 35 (.pointer (some ⟨Bf, 0, none⟩)) rfl rfl (by kernel_rfl) (by kernel_rfl) (by kernel_rfl) (fun _ _ _ h => h) (Or.inl ⟨by rfl, fun W hW => by go_simp⟩) hS ?_
     try simp only [List.setIfInBounds_toArray, List.set_cons_zero, List.set_cons_succ]
     refine z0b (i := 2) 36 (.int .i64 x.f0) rfl rfl (by kernel_rfl) (by kernel_rfl) (by kernel_rfl) (fun _ _ _ h => h) (Or.inl ⟨by rfl, fun W hW => by have h0 : W.cell? ⟨Bf, 0, none⟩ = some (.int .i64 x.f0) := (z0a hW 0).trans rfl; go_simp⟩) hS ?_
     try simp only [List.setIfInBounds_toArray, List.set_cons_zero, List.set_cons_succ]
     refine z0b (i := 3) 37 (.pointer (some ⟨Bf, 1, none⟩)) rfl rfl (by kernel_rfl) (by kernel_rfl) (by kernel_rfl) (fun _ _ _ h => h) (Or.inl ⟨by rfl, fun W hW => by go_simp⟩) hS ?_
     try simp only [List.setIfInBounds_toArray, List.set_cons_zero, List.set_cons_succ]
     refine z0b (i := 4) 38 (.slice A1 x.f1.length c1) rfl rfl (by kernel_rfl) (by kernel_rfl) (by kernel_rfl) (fun _ _ _ h => h) (Or.inl ⟨by rfl, fun W hW => by have h0 : W.cell? ⟨Bf, 1, none⟩ = some (.slice A1 x.f1.length c1) := (z0a hW 1).trans rfl; go_simp⟩) hS ?_
     try simp only [List.setIfInBounds_toArray, List.set_cons_zero, List.set_cons_succ]
     refine z0b (i := 5) 39 (.int .i64 (g.length : Int)) rfl rfl (by kernel_rfl) (by kernel_rfl) (by kernel_rfl) (fun _ _ _ h => h) (Or.inl ⟨by rfl, fun W hW => by go_simp⟩) hS ?_
     try simp only [List.setIfInBounds_toArray, List.set_cons_zero, List.set_cons_succ]
     refine z0b (i := 6) 40 (.slice A1 g.length c1) rfl rfl (by kernel_rfl) (by kernel_rfl) (by kernel_rfl) (fun _ _ _ h => h) (Or.inl ⟨by rfl, fun W hW => z4u _ 23 3 1 (.tmp 38) (.tmp 39) rfl A1 x.f1.length c1 g.length rfl rfl Tryz.underlying23 size3 hgc⟩) hS ?_
     try simp only [List.setIfInBounds_toArray, List.set_cons_zero, List.set_cons_succ]
     refine wpAnyH_ready (rs := [7]) (by kernel_rfl) (by simp) ?_
     refine AllReadyH.cons rfl (fun K hK => ?_) AllReadyH.nil
     go_simp
     refine (cloneInt g A1 c1 _ (Kd.C_drew HCA.out) HG8.out).mono ?_
     rintro e w1 ⟨cv, rfl, hcv, hcb⟩
     obtain ⟨cA, cc, rfl⟩ := Kd.R_slice hcv
     refine hK.out _ _ (z0g hS hcb) (fun hS => ?_)
     clear hK K
     try simp only [Act.put, List.getElem_toArray, List.getElem_cons_succ, List.getElem_cons_zero, List.setIfInBounds_toArray, List.set_cons_zero, List.set_cons_succ]
     refine z0b (i := 8) 42 (.agg #[.int .i64 x.f0, .slice cA g.length cc]) rfl rfl (by kernel_rfl) (by kernel_rfl) (by kernel_rfl) (fun _ _ _ h => h) (Or.inl ⟨by rfl, fun W hW => by have h0 := build64 x.f0 cA g.length cc W; go_simp⟩) hS ?_
     try simp only [List.setIfInBounds_toArray, List.set_cons_zero, List.set_cons_succ]
     refine wpAnyH_ready (rs := [9]) (by kernel_rfl) (by simp) ?_
     refine AllReadyH.cons rfl (fun K hK => ?_) AllReadyH.nil
     rw [if_pos (by rfl)]
     refine z15 (.tmp 42) rfl rfl (build26 x.f0 cA g.length cc _) ?_
     refine hK.out _ _ (z0j hS _) (fun hS => ?_)
     clear hK K
     try simp only [Act.put, List.getElem_toArray, List.getElem_cons_succ, List.getElem_cons_zero, List.setIfInBounds_toArray, List.set_cons_zero, List.set_cons_succ]
     refine wpAnyH_ready (rs := [10]) (by kernel_rfl) (by simp) ?_
     refine AllReadyH.cons rfl (fun K hK => ?_) AllReadyH.nil
     obtain ⟨q1, q2, q3, q4, q5, q6⟩ := z4t (w := w) (W0 := W0.drew) (v := x.f0) (Kd.R_nil (Kd.int .i64) 3 W0.drew w.heap.size (fun _ => True)) (Kd.R_drew HRA.out) HBA.out.drew hcv hcb
     refine Kd.R_append_rows_step k64 (w0 := w) w.heap.size (by rfl) (.tmp 34) (.tmp 43) 26 64 (.agg #[.int .i64 0, .slice none 0 0]) 32 rfl Tryz.underlying26 info64 rfl (by decide) (by decide) u2 (l.take k) [⟨x.f0, g⟩] _ 1 1 (fun k => True ∧ some k ≠ (Value.slice none 0 0).ownBlock) (fun k => W0.drew.heap.size ≤ k) rfl rfl q1 q2 (fun _ _ h => h) q3 q4 q5 q5.size HRL.out ?_
     intro p1 w9 hp1 hb1 hg1 hat1
     refine hK.out _ _ (z1t hS hg1 HNE.out) (fun hS => ?_)
     clear hK K
     try simp only [Act.put, List.getElem_toArray, List.getElem_cons_succ, List.getElem_cons_zero, List.setIfInBounds_toArray, List.set_cons_zero, List.set_cons_succ]
     refine z0b (i := 11) 2 (p1) rfl rfl (by kernel_rfl) (by kernel_rfl) (by kernel_rfl) (fun _ _ _ h => h) (Or.inl ⟨by rfl, fun W hW => by go_simp⟩) hS ?_
     try simp only [List.setIfInBounds_toArray, List.set_cons_zero, List.set_cons_succ]
     refine wpAnyH_done (by kernel_rfl) ?_ _
     have hfb9 := hS
     clear hS
     have hcc1 : w9.cell? ⟨Bf, 1, none⟩ = some (.slice A1 x.f1.length c1) := (z0a hfb9 1).trans rfl
     have hcc0 : w9.cell? ⟨Bf, 0, none⟩ = some (.int .i64 x.f0) := (z0a hfb9 0).trans rfl
     have hq0 : (0 : Int) ≤ (r : Int) - (8 + 4 * (g.length : Int)) := by omega
     obtain ⟨A3, hA3⟩ : ∃ A3, (if c1 = g.length then A1 else A1.map (·.add (g.length * 1))) = A3 := ⟨_, rfl⟩
     have hF3 := F_rest (m := g.length) HFI.out (by omega) hl1
     rw [hA3] at hF3
     have HF3 := Aside0.mk hF3
     have HA3 := Lib.hid hA3
     have hgl : g.length ≤ x.f1.length := by omega
     clear hA3 hF3
     go_upto_region 11 with (fail)
     refine wp_region_held_drew (S := fun W => W.heap[Bf]? = some (.cells #[.int .i64 x.f0, .slice A1 x.f1.length c1] 64 (0, 0))) (by kernel_rfl) (hfb9) (fun hS => ?_)
     simp only [List.size_toArray, List.length_cons, List.length_nil, Nat.reduceAdd, Array.replicate_succ, Array.replicate_zero, List.push_toArray, List.nil_append, List.cons_append]
     refine z0b (i := 0) 55 (.pointer (some ⟨Bf, 0, none⟩)) rfl rfl (by kernel_rfl) (by kernel_rfl) (by kernel_rfl) (fun _ _ _ h => h) (Or.inl ⟨by rfl, fun W hW => by go_simp⟩) hS ?_
     try simp only [List.setIfInBounds_toArray, List.set_cons_zero, List.set_cons_succ]
     refine z0b (i := 1) 56 (.int .i64 x.f0) rfl rfl (by kernel_rfl) (by kernel_rfl) (by kernel_rfl) (fun _ _ _ h => h) (Or.inl ⟨by rfl, fun W hW => by have h0 : W.cell? ⟨Bf, 0, none⟩ = some (.int .i64 x.f0) := (z0a hW 0).trans rfl; go_simp⟩) hS ?_
     try simp only [List.setIfInBounds_toArray, List.set_cons_zero, List.set_cons_succ]
     refine z0b (i := 2) 57 (.pointer (some ⟨Bf, 1, none⟩)) rfl rfl (by kernel_rfl) (by kernel_rfl) (by kernel_rfl) (fun _ _ _ h => h) (Or.inl ⟨by rfl, fun W hW => by go_simp⟩) hS ?_
     try simp only [List.setIfInBounds_toArray, List.set_cons_zero, List.set_cons_succ]
     refine z0b (i := 3) 58 (.slice A1 x.f1.length c1) rfl rfl (by kernel_rfl) (by kernel_rfl) (by kernel_rfl) (fun _ _ _ h => h) (Or.inl ⟨by rfl, fun W hW => by have h0 : W.cell? ⟨Bf, 1, none⟩ = some (.slice A1 x.f1.length c1) := (z0a hW 1).trans rfl; go_simp⟩) hS ?_
     try simp only [List.setIfInBounds_toArray, List.set_cons_zero, List.set_cons_succ]
     refine z0b (i := 4) 59 (.int .i64 (g.length : Int)) rfl rfl (by kernel_rfl) (by kernel_rfl) (by kernel_rfl) (fun _ _ _ h => h) (Or.inl ⟨by rfl, fun W hW => by go_simp⟩) hS ?_
     try simp only [List.setIfInBounds_toArray, List.set_cons_zero, List.set_cons_succ]
     refine z0b (i := 5) 60 (.slice A3 (x.f1.length - g.length) (c1 - g.length)) rfl rfl (by kernel_rfl) (by kernel_rfl) (by kernel_rfl) (fun _ _ _ h => h) (Or.inl ⟨by rfl, fun W hW => (z2q _ 23 3 1 (.tmp 58) (.tmp 59) rfl A1 x.f1.length c1 g.length rfl rfl Tryz.underlying23 size3 hgl).trans (by rw [HA3.out])⟩) hS ?_
     try simp only [List.setIfInBounds_toArray, List.set_cons_zero, List.set_cons_succ]
     refine z0b (i := 6) 61 (.agg #[.int .i64 x.f0, .slice A3 (x.f1.length - g.length) (c1 - g.length)]) rfl rfl (by kernel_rfl) (by kernel_rfl) (by kernel_rfl) (fun _ _ _ h => h) (Or.inl ⟨by rfl, fun W hW => by have h0 := build64 x.f0 A3 (x.f1.length - g.length) (c1 - g.length) W; go_simp⟩) hS ?_
     try simp only [List.setIfInBounds_toArray, List.set_cons_zero, List.set_cons_succ]
     refine wpAnyH_ready (rs := [7]) (by kernel_rfl) (by simp) ?_
     refine AllReadyH.cons rfl (fun K hK => ?_) AllReadyH.nil
     rw [if_pos (by rfl)]
     refine z15 (.tmp 61) rfl rfl (build26 x.f0 A3 (x.f1.length - g.length) (c1 - g.length) _) ?_
     refine hK.out _ _ (z0j hS _) (fun hS => ?_)
     clear hK K
     try simp only [Act.put, List.getElem_toArray, List.getElem_cons_succ, List.getElem_cons_zero, List.setIfInBounds_toArray, List.set_cons_zero, List.set_cons_succ]
     refine z0b (i := 8) 3 (.slice (some ⟨w9.drew.heap.size, 0, none⟩) 1 1) rfl rfl (by kernel_rfl) (by kernel_rfl) (by kernel_rfl) (fun _ _ _ h => h) (Or.inl ⟨by rfl, fun W hW => by go_simp⟩) hS ?_
     try simp only [List.setIfInBounds_toArray, List.set_cons_zero, List.set_cons_succ]
     refine wpAnyH_done (by kernel_rfl) ?_ _
     obtain ⟨W5, hW5⟩ : ∃ W5, w9.drew.alloc (.cells #[.int .i64 x.f0, .slice A3 (x.f1.length - g.length) (c1 - g.length)] 64) = W5 := ⟨_, rfl⟩
     have hnb : W5.heap[w9.heap.size]? = some (.cells #[.int .i64 x.f0, .slice A3 (x.f1.length - g.length) (c1 - g.length)] 64 (0, 0)) := by rw [← hW5]; exact z0l w9.drew _
     have hsW := hb1.size
     have hB5 : Below w.heap.size w W5 := by rw [← hW5]; exact hb1.drew.alloc (by exact hb1.size) _
     have hp5 : k64.R 64 W5 w.heap.size (fun k => k < w9.heap.size) p1 (l.take k ++ [⟨x.f0, g⟩]) := by rw [← hW5]; exact Kd.R_below (Kd.R_drew (Kd.R_mono (Kd.R_bound hp1) (fun q hq => hq.2.2.1))) (z0i w9.drew _)
     have hplt := Kd.R_lt hp1
     have hfk : Kd.FK k64 W5 (fun q => okp q ∧ q < w.heap.size) (⟨x.f0, x.f1.drop g.length⟩ : S64) [.int .i64 x.f0, .slice A3 (x.f1.length - g.length) (c1 - g.length)] := by
      have := z1b W5 _ (⟨x.f0, x.f1.drop g.length⟩ : S64) (A1 := A3) (c1 := c1 - g.length) (by rw [List.length_drop]; omega) (Kd.F_below HF3.out hB5)
      rw [List.length_drop] at this
      exact this
     have HN5 := Aside0.mk (N_one (base := w.heap.size) (ok := fun q => okp q ∨ w.heap.size ≤ q) hnb rfl hfk hsW (.inr hsW) (fun q hq => ⟨.inl hq.1, by have := hq.2; omega⟩))
     have HB5 := Aside0.mk hB5
     have HP5 := Aside0.mk hp5
     have HNB := Aside0.mk hnb
     have hpne : ∀ q, Value.ownBlock p1 = some q → some q ≠ (Value.slice (some ⟨w9.heap.size, 0, none⟩) 1 1).ownBlock := fun q hq e => by have := hplt q hq; simp [Value.ownBlock] at e; omega
     have HPN := Aside0.mk hpne
     rw [show w9.drew.heap.size = w9.heap.size from rfl, hW5]
     obtain ⟨n5, hn5⟩ : ∃ n, w9.heap.size = n := ⟨_, rfl⟩
     rw [hn5] at HN5 HPN HP5 ⊢
     have HN5S := Lib.hid hn5
     have hnw : w.heap.size ≤ n5 := hn5 ▸ hsW
     have HNO5 := Aside0.mk (show ∀ q, (okp q ∧ q < w.heap.size) → (okp q ∨ w.heap.size ≤ q) ∧ some q ≠ (Value.slice (some ⟨n5, 0, none⟩) 1 1).ownBlock from fun q hq => ⟨.inl hq.1, fun e => by have := hq.2; simp [Value.ownBlock] at e; omega⟩)
     clear hW5 hnb hB5 hp5 hfk hpne hn5 hp1 hb1 hfb9 hcc0 hcc1 hplt hsW hS
     have hbd5 : (([⟨x.f0, x.f1.drop g.length⟩] : List S64).length + (l.length - (k + 1))) * 32 ≤ 140737488355328 := by simp; omega
     have HBD5 := Aside0.mk hbd5
     clear hbd5
     by_cases hck : c = k + 1
     ·have HRD : Aside0 (Kd.F k64 W5 (fun q => okp q ∧ q < w.heap.size) (some ad) 0 (l.drop (k + 1))) := ⟨fun W2 hW2 => ⟨by rw [List.length_drop]; omega, by omega, fun h => absurd h (Nat.lt_irrefl 0)⟩⟩
      have hbd0 : (([⟨x.f0, x.f1.drop g.length⟩] : List S64).length + 0) * 32 ≤ 140737488355328 := by simp
      have HBD0 := Aside0.mk hbd0
      subst hck
      go_wp2_with (at_builtin; refine Kd.N_append_rows k64 (w0 := w) w.heap.size rfl (.tmp 64) (.tmp 68) 26 64 (.agg #[.int .i64 0, .slice none 0 0]) 32 rfl Tryz.underlying26 info64 rfl (by decide) (by decide) _ _ (l.drop (k + 1)) _ _ _ (fun q => okp q ∨ w.heap.size ≤ q) (fun q => okp q ∧ q < w.heap.size) rfl rfl HN5.out HRD.out HNO5.out (fun q hq => .inr (Nat.le_trans HB5.out.size hq)) HB5.out HB5.out.size HBD0.out ?_; intro q1 w6 hq1 hb6 hg6 hat6)
      go_ret2
      exact ⟨_, _, rfl, by rw [HL.out, HD.out, HCUT.out, HGE.out]; exact Kd.R_mono (Kd.R_grown HP5.out hg6 (fun q hq e => by have h2 : q < n5 := hq; have e2 : some q = some n5 := e; injection e2 with e2; omega)) (fun _ _ => trivial), by rw [HL.out, HD.out, HCUT.out, ← HGL.out]; exact hq1, hb6⟩
     ·have HRD : Aside0 (Kd.F k64 W5 (fun q => okp q ∧ q < w.heap.size) (some (ad.add ((k + 1) * 2))) (l.length - (k + 1)) (l.drop (k + 1))) := ⟨F_drop (Kd.F_below (Kd.F_bound HF.out) HB5.out) hk1 hc (by omega)⟩
      go_wp2_with (at_builtin; refine Kd.N_append_rows k64 (w0 := w) w.heap.size rfl (.tmp 64) (.tmp 68) 26 64 (.agg #[.int .i64 0, .slice none 0 0]) 32 rfl Tryz.underlying26 info64 rfl (by decide) (by decide) _ _ (l.drop (k + 1)) _ _ _ (fun q => okp q ∨ w.heap.size ≤ q) (fun q => okp q ∧ q < w.heap.size) rfl rfl HN5.out HRD.out HNO5.out (fun q hq => .inr (Nat.le_trans HB5.out.size hq)) HB5.out HB5.out.size HBD5.out ?_; intro q1 w6 hq1 hb6 hg6 hat6)
      go_ret2
      exact ⟨_, _, rfl, by rw [HL.out, HD.out, HCUT.out, HGE.out]; exact Kd.R_mono (Kd.R_grown HP5.out hg6 (fun q hq e => by have h2 : q < n5 := hq; have e2 : some q = some n5 := e; injection e2 with e2; omega)) (fun _ _ => trivial), by rw [HL.out, HD.out, HCUT.out, ← HGL.out]; exact hq1, hb6⟩
    ·obtain ⟨g, hg⟩ : ∃ g, x.f1 = g := ⟨_, rfl⟩
     have GC : (Kd.int .i64).C wr A1 g.length g := hg ▸ hC1
     have HCUT := Lib.hid (z3f (t := l.drop (k + 1)) hr12 hn1)
     have hmin : (if (x.f1.length : Int) < ((r : Int) - 8) / 4 then (x.f1.length : Int) else ((r : Int) - 8) / 4) = (g.length : Int) := by rw [← hg]; split <;> omega
     have hd1 : decide ((g.length : Int) < 1) = false := decide_eq_false (by rw [← hg]; omega)
     have HGE := Lib.hid hg
     have hg1 : x.f1.length ≤ g.length := by rw [hg]; exact Nat.le_refl _
     have hcle : g.length ≤ c1 := by rw [← hg]; exact hl1
     have hr8 : 8 + 4 * g.length ≤ r := by rw [← hg]; omega
     clear hg
     go_upto_region 8 with (fail)
     clear hmin
     have hC1g : (Kd.int .i64).C wr A1 g.length g := GC
     have hgc : g.length ≤ c1 := hcle
     obtain ⟨W0, hW0⟩ : ∃ W0, wr.alloc (.cells #[.int .i64 x.f0, .slice A1 x.f1.length c1] 64) = W0 := ⟨_, rfl⟩
     have hsz0 : W0.heap.size = wr.heap.size + 1 := by rw [← hW0]; simp
     have HCA := Aside0.mk (Kd.C_below hC1g (z0i wr (.cells #[.int .i64 x.f0, .slice A1 x.f1.length c1] 64)))
     rw [hW0] at HCX HRX HBA hfb HCA ⊢
     obtain ⟨Bf, hBf⟩ : ∃ Bf, wr.heap.size = Bf := ⟨_, rfl⟩
     have hne : some Bf ≠ Value.ownBlock u2 := fun e => by have := Kd.R_lt HR.out _ e.symm; omega
     have HNE := Aside0.mk hne
     rw [hBf] at hsz0 hfb ⊢
     have HRA := Aside0.mk (Kd.R_mono (ok' := fun k => True ∧ some k ≠ (Value.slice none 0 0).ownBlock) HRX.out (fun q _ => ⟨trivial, by simp [Value.ownBlock]⟩))
     have HG8 := Aside0.mk (show g.length * 8 ≤ 140737488355328 by omega)
     have HRL := Aside0.mk (show ((l.take k).length + 1) * 32 ≤ 140737488355328 by rw [List.length_take]; omega)
     have HBF := Aside0.mk hBf
     clear hne hW0 hx0 hx1 hC1 hC1g hBf hC
     refine wp_region_held_drew (S := fun W => W.heap[Bf]? = some (.cells #[.int .i64 x.f0, .slice A1 x.f1.length c1] 64 (0, 0))) (by kernel_rfl) (hfb) (fun hS => ?_)
     simp only [List.size_toArray, List.length_cons, List.length_nil, Nat.reduceAdd, Array.replicate_succ, Array.replicate_zero, List.push_toArray, List.nil_append, List.cons_append]
     refine z0b (i := 0) 34 (u2) rfl rfl (by kernel_rfl) (by kernel_rfl) (by kernel_rfl) (fun _ _ _ h => h) (Or.inl ⟨by rfl, fun W hW => by go_simp⟩) hS ?_
     try simp only [List.setIfInBounds_toArray, List.set_cons_zero, List.set_cons_succ]
     refine z0b (i := 1) 35 (.pointer (some ⟨Bf, 0, none⟩)) rfl rfl (by kernel_rfl) (by kernel_rfl) (by kernel_rfl) (fun _ _ _ h => h) (Or.inl ⟨by rfl, fun W hW => by go_simp⟩) hS ?_
     try simp only [List.setIfInBounds_toArray, List.set_cons_zero, List.set_cons_succ]
     refine z0b (i := 2) 36 (.int .i64 x.f0) rfl rfl (by kernel_rfl) (by kernel_rfl) (by kernel_rfl) (fun _ _ _ h => h) (Or.inl ⟨by rfl, fun W hW => by have h0 : W.cell? ⟨Bf, 0, none⟩ = some (.int .i64 x.f0) := (z0a hW 0).trans rfl; go_simp⟩) hS ?_
     try simp only [List.setIfInBounds_toArray, List.set_cons_zero, List.set_cons_succ]
     refine z0b (i := 3) 37 (.pointer (some ⟨Bf, 1, none⟩)) rfl rfl (by kernel_rfl) (by kernel_rfl) (by kernel_rfl) (fun _ _ _ h => h) (Or.inl ⟨by rfl, fun W hW => by go_simp⟩) hS ?_
     try simp only [List.setIfInBounds_toArray, List.set_cons_zero, List.set_cons_succ]
     refine z0b (i := 4) 38 (.slice A1 x.f1.length c1) rfl rfl (by kernel_rfl) (by kernel_rfl) (by kernel_rfl) (fun _ _ _ h => h) (Or.inl ⟨by rfl, fun W hW => by have h0 : W.cell? ⟨Bf, 1, none⟩ = some (.slice A1 x.f1.length c1) := (z0a hW 1).trans rfl; go_simp⟩) hS ?_
     try simp only [List.setIfInBounds_toArray, List.set_cons_zero, List.set_cons_succ]
     refine z0b (i := 5) 39 (.int .i64 (g.length : Int)) rfl rfl (by kernel_rfl) (by kernel_rfl) (by kernel_rfl) (fun _ _ _ h => h) (Or.inl ⟨by rfl, fun W hW => by go_simp⟩) hS ?_
     try simp only [List.setIfInBounds_toArray, List.set_cons_zero, List.set_cons_succ]
     refine z0b (i := 6) 40 (.slice A1 g.length c1) rfl rfl (by kernel_rfl) (by kernel_rfl) (by kernel_rfl) (fun _ _ _ h => h) (Or.inl ⟨by rfl, fun W hW => z4u _ 23 3 1 (.tmp 38) (.tmp 39) rfl A1 x.f1.length c1 g.length rfl rfl Tryz.underlying23 size3 hgc⟩) hS ?_
     try simp only [List.setIfInBounds_toArray, List.set_cons_zero, List.set_cons_succ]
     refine wpAnyH_ready (rs := [7]) (by kernel_rfl) (by simp) ?_
     refine AllReadyH.cons rfl (fun K hK => ?_) AllReadyH.nil
     go_simp
     refine (cloneInt g A1 c1 _ (Kd.C_drew HCA.out) HG8.out).mono ?_
     rintro e w1 ⟨cv, rfl, hcv, hcb⟩
     obtain ⟨cA, cc, rfl⟩ := Kd.R_slice hcv
     refine hK.out _ _ (z0g hS hcb) (fun hS => ?_)
     clear hK K
     try simp only [Act.put, List.getElem_toArray, List.getElem_cons_succ, List.getElem_cons_zero, List.setIfInBounds_toArray, List.set_cons_zero, List.set_cons_succ]
     refine z0b (i := 8) 42 (.agg #[.int .i64 x.f0, .slice cA g.length cc]) rfl rfl (by kernel_rfl) (by kernel_rfl) (by kernel_rfl) (fun _ _ _ h => h) (Or.inl ⟨by rfl, fun W hW => by have h0 := build64 x.f0 cA g.length cc W; go_simp⟩) hS ?_
     try simp only [List.setIfInBounds_toArray, List.set_cons_zero, List.set_cons_succ]
     refine wpAnyH_ready (rs := [9]) (by kernel_rfl) (by simp) ?_
     refine AllReadyH.cons rfl (fun K hK => ?_) AllReadyH.nil
     rw [if_pos (by rfl)]
     refine z15 (.tmp 42) rfl rfl (build26 x.f0 cA g.length cc _) ?_
     refine hK.out _ _ (z0j hS _) (fun hS => ?_)
     clear hK K
     try simp only [Act.put, List.getElem_toArray, List.getElem_cons_succ, List.getElem_cons_zero, List.setIfInBounds_toArray, List.set_cons_zero, List.set_cons_succ]
     refine wpAnyH_ready (rs := [10]) (by kernel_rfl) (by simp) ?_
     refine AllReadyH.cons rfl (fun K hK => ?_) AllReadyH.nil
     obtain ⟨q1, q2, q3, q4, q5, q6⟩ := z4t (w := w) (W0 := W0.drew) (v := x.f0) (Kd.R_nil (Kd.int .i64) 3 W0.drew w.heap.size (fun _ => True)) (Kd.R_drew HRA.out) HBA.out.drew hcv hcb
     refine Kd.R_append_rows_step k64 (w0 := w) w.heap.size (by rfl) (.tmp 34) (.tmp 43) 26 64 (.agg #[.int .i64 0, .slice none 0 0]) 32 rfl Tryz.underlying26 info64 rfl (by decide) (by decide) u2 (l.take k) [⟨x.f0, g⟩] _ 1 1 (fun k => True ∧ some k ≠ (Value.slice none 0 0).ownBlock) (fun k => W0.drew.heap.size ≤ k) rfl rfl q1 q2 (fun _ _ h => h) q3 q4 q5 q5.size HRL.out ?_
     intro p1 w9 hp1 hb1 hg1 hat1
     refine hK.out _ _ (z1t hS hg1 HNE.out) (fun hS => ?_)
     clear hK K
     try simp only [Act.put, List.getElem_toArray, List.getElem_cons_succ, List.getElem_cons_zero, List.setIfInBounds_toArray, List.set_cons_zero, List.set_cons_succ]
     refine z0b (i := 11) 2 (p1) rfl rfl (by kernel_rfl) (by kernel_rfl) (by kernel_rfl) (fun _ _ _ h => h) (Or.inl ⟨by rfl, fun W hW => by go_simp⟩) hS ?_
     try simp only [List.setIfInBounds_toArray, List.set_cons_zero, List.set_cons_succ]
     refine wpAnyH_done (by kernel_rfl) ?_ _
     have hfb9 := hS
     clear hS
     have hcc1 : w9.cell? ⟨Bf, 1, none⟩ = some (.slice A1 x.f1.length c1) := (z0a hfb9 1).trans rfl
     have hq0 : (0 : Int) ≤ (r : Int) - (8 + 4 * (g.length : Int)) := by omega
     go_wp2
     go_roundw
     case rel => exact ⟨k + 1, r - (8 + 4 * g.length), by omega, rfl, by go_num, by go_num, by omega, Lib.hid (by rw [HL.out, HD.out, HCUT.out, HT.out, HGE.out, List.append_assoc]; rfl), ⟨by rw [HT.out, show x = ⟨x.f0, g⟩ by rw [← HGE.out]]; exact Kd.R_mono hp1 (fun _ _ => trivial)⟩, ⟨hb1⟩⟩
     case measure => simp [intOf]; omega
  ·obtain rfl : k = l.length := by omega
   have hE : cutL 490 l = (l, []) := by
    have := HL.out
    rw [List.take_length, List.drop_length, cutL, List.append_nil] at this
    exact this
   have HE := Lib.hid hE
   have HR2 := HR
   rw [List.take_length] at HR2
   clear hE HL HR
   go_wp2_with fail
   go_ret2
   exact ⟨_, _, rfl, by rw [HE.out]; exact HR2.out, by rw [HE.out]; exact Kd.N_nil _ _ _ _ _, HB.out⟩
end Go.Proofs.YtpnhelcemodnmaaGreat
namespace Go.Proofs.YtpnhelcemodnmaaGreat
open Go.RowKit Go.Shelf Go.Proofs.YtpnhelcemodnmaaGreatW.PrintWords Go.Proofs.YtpnhelcemodnmaaGreatW.PrintLast Go.Proofs.YtpnhelcemodnmaaGreatW.PrintMore PA
set_option linter.unusedVariables false
set_option linter.unusedSimpArgs false
attribute [local go_sem] Oper.semAt_some
def partsL : Nat → List S64 → List (List S64)
 | 0, _ => []
 | _ + 1, [] => []
 | n + 1, f :: t => (cutL 490 (f :: t)).1 :: partsL n (cutL 490 (f :: t)).2
def partsOf (l : List S64) : List (List S64) := partsL ((pagesOf l).length + 1) l
def fullL (l : List S64) : Prop := ∀ f ∈ l, f.f1 ≠ []
theorem z1h (x : S64) (l : List S64) : (pagesOf (x :: l)).length = x.f1.length + (pagesOf l).length := by
 rw [show x :: l = [x] ++ l from rfl, z0y, List.length_append, z02]
theorem z3g (r : Nat) (l : List S64) (h : fullL l) : fullL (cutL r l).2 ∧ (pagesOf (cutL r l).2).length ≤ (pagesOf l).length ∧ (cutL r l).2.length ≤ l.length := by
 induction l generalizing r with
 | nil => rw [cutL]; exact ⟨h, Nat.le_refl _, Nat.le_refl _⟩
 | cons f t ih =>
  have ht : fullL t := fun x hx => h x (List.mem_cons_of_mem _ hx)
  by_cases h1 : r < 12
  ·rw [z2s h1]; exact ⟨h, Nat.le_refl _, Nat.le_refl _⟩
  ·by_cases h2 : (r - 8) / 4 < f.f1.length
   ·rw [z3e h1 h2]
    refine ⟨fun x hx => ?_, ?_, Nat.le_refl _⟩
    ·rcases List.mem_cons.1 hx with rfl | hx
     ·show f.f1.drop _ ≠ []
      rw [← List.length_pos_iff, List.length_drop]; omega
     ·exact ht x hx
    ·show (pagesOf (_ :: t)).length ≤ _
     rw [z1h, z1h]
     show (f.f1.drop _).length + _ ≤ _
     rw [List.length_drop]; omega
   ·rw [z3f h1 h2]
    obtain ⟨i1, i2, i3⟩ := ih (r - (8 + 4 * f.f1.length)) ht
    exact ⟨i1, by rw [z1h]; show (pagesOf (cutL _ t).2).length ≤ _; omega, by show (cutL _ t).2.length ≤ _; simp; omega⟩
theorem z4w (f : S64) (t : List S64) (h : fullL (f :: t)) : (pagesOf (cutL 490 (f :: t)).2).length < (pagesOf (f :: t)).length := by
 have ht : fullL t := fun x hx => h x (List.mem_cons_of_mem _ hx)
 have hf := List.length_pos_iff.2 (h f List.mem_cons_self)
 by_cases h2 : (490 - 8) / 4 < f.f1.length
 ·rw [z3e (by omega) h2, z1h, z1h]
  show (f.f1.drop _).length + _ < _
  rw [List.length_drop]; omega
 ·rw [z3f (by omega) h2, z1h]
  have := (z3g (490 - (8 + 4 * f.f1.length)) t ht).2.1
  show (pagesOf (cutL _ t).2).length < _
  omega
theorem z8s (n : Nat) : ∀ (m : Nat) (l : List S64), fullL l → (pagesOf l).length < n → (pagesOf l).length < m → partsL n l = partsL m l := by
 induction n with
 | zero => intro m l _ h; omega
 | succ n ih =>
  intro m l hl h1 h2
  cases m with
  | zero => omega
  | succ m =>
   cases l with
   | nil => rfl
   | cons f t =>
    rw [partsL, partsL]
    have hc := z4w f t hl
    rw [ih m _ (z3g 490 _ hl).1 (by omega) (by omega)]
set_option maxHeartbeats 1000000 in
theorem z6b (A : Option Addr) (n c : Nat) (w : World) : Calls Tryz.prog 121 #[.slice A n c] w fun e w' => e = .returned (.bool (decide (0 < n))) ∧ w = w' := by
 go_enter Tryz.func121, Tryz.ntmps121
 go_wp2
 go_ret
 exact ⟨by simp, rfl⟩
theorem FK_slice {W : World} {ok : Nat → Prop} {A : Option Addr} {l : List S64} {c : Nat} (h : Kd.F k64 W ok A l.length l) (hc : l.length ≤ c) : Kd.FK (Kd.slice 64 k64) W ok l [.slice A l.length c] := fun W' hW => ⟨A, c, rfl, hc, h W' hW⟩
set_option maxRecDepth 100000 in
set_option maxHeartbeats 4000000 in
theorem z8t (l : List S64) (A : Option Addr) (c : Nat) (w : World) (okp : Nat → Prop) (hF : Kd.F k64 w okp A l.length l) (hc : l.length ≤ c) (hn : fullL l) (hs : smallL l) :
  Calls Tryz.prog 120 #[.slice A l.length c, .func (.func 121) #[] #[], .func (.func 122) #[] #[]] w fun e w' => ∃ v, e = .returned v ∧ Kd.N (Kd.slice 64 k64) 26 w' w.heap.size (fun q => w.heap.size ≤ q) v (partsOf l) ∧ Below w.heap.size w w' := by
 obtain ⟨K, hK⟩ : ∃ K, (pagesOf l).length + 1 = K := ⟨_, rfl⟩
 have HK := Lib.hid hK
 have hpl : (pagesOf l).length < K := by omega
 have hKb : K ≤ 1000001 := by have := hs.2; omega
 unfold partsOf
 rw [hK]
 have hll := hs.1
 clear hK hs
 go_enter Tryz.func120, Tryz.ntmps120
 go_wp2
 go_loopg [0, 7] K (fun kq r o wr => ∃ (A : Option Addr) (c : Nat) (l' : List S64) (done : List (List S64)), r = .slice A l'.length c ∧ l'.length ≤ c ∧ fullL l' ∧ l'.length ≤ 1000000 ∧ (pagesOf l').length < kq ∧ Hid (partsL K l = done ++ partsL kq l') ∧ done.length + kq = K ∧
  Aside0 (Kd.N (Kd.slice 64 k64) 26 wr w.heap.size (fun q => w.heap.size ≤ q) o done) ∧ Aside0 (Kd.F k64 wr (fun q => some q ≠ o.ownBlock) A l'.length l') ∧ Aside0 (Below w.heap.size w wr))
 case atStart => exact ⟨A, c, l, [], rfl, hc, hn, hll, hpl, Lib.hid rfl, by simp, ⟨Kd.N_nil _ _ _ _ _⟩, ⟨Kd.F_mono hF (fun q _ => by simp [Value.ownBlock])⟩, ⟨Below.refl _ _⟩⟩
 case round =>
  obtain ⟨A, c, l', done, rfl, hc, hn, hll, hpk, HP, hdk, HN, HF, HB⟩ := hrel
  cases gk with
  | zero => omega
  | succ kq =>
   cases l' with
   | nil =>
    have HE := Lib.hid (show partsL K l = done by rw [HP.out]; cases kq <;> simp [partsL])
    go_wp2_with (go_at_call 121; (with_reducible refine (z6b _ _ _ _).mono ?_); rintro e w' ⟨rfl, rfl⟩)
    go_ret
    exact ⟨_, rfl, by rw [HE.out]; exact HN.out, HB.out⟩
   | cons f t =>
    have HC := Lib.hid (z8r (f :: t) A c wr _ HF.out hc hn (by simp at hll ⊢; omega))
    have HX := Lib.hid (z3g 490 (f :: t) hn)
    have HY := Lib.hid (z4w f t hn)
    have HPP := Lib.hid (show partsL (kq + 1) (f :: t) = (cutL 490 (f :: t)).1 :: partsL kq (cutL 490 (f :: t)).2 from rfl)
    obtain ⟨P, hP⟩ : ∃ P, cutL 490 (f :: t) = P := ⟨_, rfl⟩
    rw [hP] at HC HX HY HPP
    obtain ⟨PA, PB⟩ := P
    clear hP
    have hlt0 := Kd.N_lt HN.out
    have HLT := Aside0.mk hlt0
    have HOK := Aside0.mk (show ∀ q, wr.heap.size ≤ q → w.heap.size ≤ q ∧ some q ≠ Value.ownBlock u7 from fun q hq => ⟨Nat.le_trans HB.out.size hq, fun e => by have := hlt0 q e.symm; omega⟩)
    have HBD := Aside0.mk (show (done.length + 1) * 24 ≤ 140737488355328 by omega)
    clear hlt0
    go_wp2_with (first
     | (go_at_call 121; (with_reducible refine (z6b _ _ _ _).mono ?_); rintro e w' ⟨rfl, rfl⟩)
     | (go_at_call 122; (refine HC.out.mono ?_); rintro e w1 ⟨pv, qv, rfl, hp, hq, hb1⟩; obtain ⟨pA, pc, rfl⟩ := Kd.R_slice hp; obtain ⟨qA, qc, rfl⟩ := Kd.N_slice hq; have HPV := Aside0.mk hp; have HQV := Aside0.mk hq; have HB1 := Aside0.mk hb1; clear hp hq hb1; have HN1 := Aside0.mk (Kd.N_below HN.out HB1.out); have HBW := Aside0.mk (HB.out.trans (HB1.out.mono HB.out.size)); have HFP := Aside0.mk (FK_slice (Kd.R_F (Kd.R_mono (Kd.R_bound HPV.out) (fun q hq => hq.2.1))) (Kd.R_reads' HPV.out).2.1); have HFQ := Aside0.mk (Kd.F_mono (ok' := fun q => True ∧ some q ≠ Value.ownBlock u7) (Kd.N_F HQV.out) (fun q hq => ⟨trivial, fun e => hq.elim (fun h => h e) (fun h => by have := HLT.out q e.symm; omega)⟩)); have HQC := Aside0.mk (Kd.N_reads' HQV.out).2.1)
     | (at_builtin; refine Kd.N_append (Kd.slice 64 k64) (w0 := w) w.heap.size rfl (.tmp 19) (.tmp 21) 90 26 (.slice none 0 0) 24 rfl Tryz.underlying90 info26 rfl (by decide) (by decide) _ done PA [.slice pA PA.length pc] (fun q => w.heap.size ≤ q) (fun q => wr.heap.size ≤ q) rfl rfl HFP.out HOK.out (fun q hq => Nat.le_trans HBW.out.size hq) HN1.out HBW.out HBW.out.size HBD.out ?_; intro v1 w2 hv1 hb2 hg2 hat2))
    go_roundg kq
    case measure => omega
    case rel => exact ⟨qA, qc, PB, done ++ [PA], rfl, HQC.out, HX.out.1, by have h7 : PB.length ≤ (f :: t).length := HX.out.2.2; omega, by have h7 : (pagesOf PB).length < (pagesOf (f :: t)).length := HY.out; omega, Lib.hid (by rw [HP.out, HPP.out, List.append_assoc]; rfl), by rw [List.length_append]; simp; omega, ⟨hv1⟩, ⟨Kd.F_mono (Kd.F_after HFQ.out hg2 hat2) (fun q hq => hq.2)⟩, ⟨hb2⟩⟩
set_option maxHeartbeats 1000000 in
theorem z6c (l : List S64) (A : Option Addr) (c : Nat) (w : World) (hC : k64.C w A l.length l) (hc : l.length ≤ c) (hn : fullL l) (hs : smallL l) :
  Calls Tryz.prog 76 #[.slice A l.length c] w fun e w' => ∃ v, e = .returned v ∧ Kd.N (Kd.slice 64 k64) 26 w' w.heap.size (fun q => w.heap.size ≤ q) v (partsOf l) ∧ Below w.heap.size w w' := by
 have HD := Lib.hid (z8t l A c w _ (Kd.C_F z2m hC) hc hn hs)
 clear hC hn hs
 go_enter Tryz.func76, Tryz.ntmps76
 go_wp2_with (go_at_call 120; (refine HD.out.mono ?_); rintro e w1 ⟨v, rfl, hv, hb⟩)
 go_ret
 exact ⟨_, rfl, hv, hb⟩
theorem z2t (a b c : Int) : page_within.f a b c = some (decide (b ≤ a ∧ a ≤ c)) := by
 unfold page_within.f
 by_cases h : b ≤ a <;> simp [h]
theorem z6d (a : Int) : page_numbered.f a = some (decide (2 ≤ a ∧ a ≤ 4095)) := by
 unfold page_numbered.f
 rw [z2t]; rfl
theorem freed_l1 (l : List S64) (i : Nat) (v : Int) (xs : List Int) (hlm : xs.length ≤ 9223372036854775806) (d : Nat) : ∀ (k q : Nat), q ≤ xs.length → xs.length - q = d → incP 4096 (xs.take q) →
  page_freed.l1 (d + 1 + k) l l (l.length : Int) (i : Int) xs (xs.length : Int) (q : Int) v xs = if incP 4096 xs then page_freed.l0 k l l (l.length : Int) (wrap64 ((i : Int) + 1)) else some false := by
 induction d with
 | zero =>
  intro k q h1 h2 h3
  obtain rfl : q = xs.length := by omega
  rw [List.take_length] at h3
  rw [if_pos h3, show 0 + 1 + k = k + 1 by omega]
  simp only [page_freed.l1]
  rw [if_neg (by omega)]
 | succ d ih =>
  intro k q h1 h2 h3
  have hlt : q < xs.length := by omega
  have hT := z3b 4096 xs q hlt
  rw [show d + 1 + 1 + k = (d + 1 + k) + 1 by omega]
  simp only [page_freed.l1]
  rw [if_pos (by omega), if_pos (by omega), if_pos (by omega), z0u xs q hlt, z6d]
  simp only [Option.bind_some]
  by_cases c1 : 2 ≤ xs[q] ∧ xs[q] ≤ 4095
  ·rw [if_pos (by simpa using c1)]
   cases q with
   | zero =>
    rw [if_neg (by simp), wrapp 0 (by omega)]
    exact ih k 1 (by omega) (by omega) (hT.2 ⟨h3, by omega, fun j hj => by omega⟩)
   | succ j =>
    have hj : j < xs.length := by omega
    rw [if_pos (by omega), wrapn _ (by omega), show ((j + 1 : Nat) : Int) - 1 = (j : Int) by omega, if_pos (by omega), if_pos (by omega), z0u xs j hj]
    by_cases c2 : xs[j] ≥ xs[j + 1]
    ·rw [if_pos c2, if_neg]
     intro h
     have := (hT.1 (z2o 4096 xs _ h)).2.2 j rfl hj
     omega
    ·rw [if_neg c2, wrapp _ (by omega)]
     refine ih k (j + 1 + 1) (by omega) (by omega) (hT.2 ⟨h3, by omega, fun j' hj' hl' => ?_⟩)
     obtain rfl : j = j' := by omega
     omega
  ·rw [if_neg (by simpa using c1), if_neg]
   intro h
   have := (hT.1 (z2o 4096 xs _ h)).2.1
   omega
theorem z32 {p : Int} {l : List S64} {i : Nat} (h : i < l.length) (hn : ¬ okAt p l i) : decide (formP p l) = false := decide_eq_false fun hf => hn ((z1u p l i h).1 (z3d p l (i + 1) hf)).2
theorem freed_l0 (l : List S64) (hlm : l.length ≤ 9223372036854775806) (hm : ∀ f ∈ l, f.f1.length ≤ 9223372036854775806) (d : Nat) : ∀ (i : Nat), i ≤ l.length → l.length - i = d → formP 4096 (l.take i) → ∃ K, page_freed.l0 K l l (l.length : Int) (i : Int) = some (decide (formP 4096 l)) := by
 induction d with
 | zero =>
  intro i h1 h2 h3
  obtain rfl : i = l.length := by omega
  rw [List.take_length] at h3
  refine ⟨1, ?_⟩
  simp only [page_freed.l0]
  rw [if_neg (by omega)]
  simp [h3]
 | succ d ih =>
  intro i h1 h2 h3
  have hlt : i < l.length := by omega
  have hT := z1u 4096 l i hlt
  have hml : (rd_T64 l (i : Int)).f1.length ≤ 9223372036854775806 := by rw [z05 l i hlt]; exact hm _ (List.getElem_mem hlt)
  by_cases c1 : 0 ≤ (rd_T64 l (i : Int)).f0 ∧ (rd_T64 l (i : Int)).f0 ≤ 1099511627776
  ·by_cases c2 : (rd_T64 l (i : Int)).f1 = []
   ·refine ⟨2, ?_⟩
    simp only [page_freed.l0]
    rw [if_pos (by omega), if_pos (by omega), if_pos (by omega), z2t]
    simp only [Option.bind_some]
    rw [if_pos (by simpa using c1), if_pos (by rw [c2]; rfl)]
    simp only [page_freed.j1]
    rw [if_pos trivial, z32 hlt fun h => h.2.2.1 c2]
   ·have hp1 : 0 < (rd_T64 l (i : Int)).f1.length := List.length_pos_iff.2 c2
    by_cases c3 : ∀ j, i = j + 1 → (rd_T64 l (j : Int)).f0 < (rd_T64 l (i : Int)).f0
    ·have hstep : ∀ K, page_freed.l0 ((rd_T64 l (i : Int)).f1.length + 1 + K + 1 + 1) l l (l.length : Int) (i : Int) = if incP 4096 (rd_T64 l (i : Int)).f1 then page_freed.l0 K l l (l.length : Int) (wrap64 ((i : Int) + 1)) else some false := by
      intro K
      simp only [page_freed.l0]
      rw [if_pos (by omega), if_pos (by omega), if_pos (by omega), z2t]
      simp only [Option.bind_some]
      rw [if_pos (by simpa using c1), if_neg (by omega)]
      have hj1 : page_freed.j1 ((rd_T64 l (i : Int)).f1.length + 1 + K + 1) l l (l.length : Int) (i : Int) false (rd_T64 l (i : Int)).f0 (rd_T64 l (i : Int)).f1 = if incP 4096 (rd_T64 l (i : Int)).f1 then page_freed.l0 K l l (l.length : Int) (wrap64 ((i : Int) + 1)) else some false := by
       simp only [page_freed.j1]
       rw [if_neg (by simp)]
       exact freed_l1 l i _ _ hml _ K 0 (by omega) (by omega) ⟨by simp, by simp⟩
      cases i with
      | zero => rw [if_neg (by simp)]; exact hj1
      | succ j =>
       have := c3 j rfl
       rw [if_pos (by omega), wrapn _ (by omega), show ((j + 1 : Nat) : Int) - 1 = (j : Int) by omega, if_pos (by omega), if_pos (by omega)]
       rw [show decide ((rd_T64 l (j : Int)).f0 ≥ (rd_T64 l ((j + 1 : Nat) : Int)).f0) = false from decide_eq_false (by omega)]
       exact hj1
     by_cases c4 : incP 4096 (rd_T64 l (i : Int)).f1
     ·obtain ⟨K, hK⟩ := ih (i + 1) (by omega) (by omega) (hT.2 ⟨h3, c1, c3, c2, c4⟩)
      refine ⟨_, (hstep K).trans ?_⟩
      rw [if_pos c4, wrapp i (by omega)]
      exact hK
     ·refine ⟨_, (hstep 0).trans ?_⟩
      rw [if_neg c4, z32 hlt fun h => c4 h.2.2.2]
    ·refine ⟨2, ?_⟩
     simp only [page_freed.l0]
     rw [if_pos (by omega), if_pos (by omega), if_pos (by omega), z2t]
     simp only [Option.bind_some]
     rw [if_pos (by simpa using c1), if_neg (by omega)]
     cases i with
     | zero => exact absurd (fun j hj => by omega) c3
     | succ j =>
      have c5 : (rd_T64 l (j : Int)).f0 ≥ (rd_T64 l ((j + 1 : Nat) : Int)).f0 := by
       by_cases h : (rd_T64 l (j : Int)).f0 < (rd_T64 l ((j + 1 : Nat) : Int)).f0
       ·exact absurd (by intro j' hj'; obtain rfl : j = j' := (by omega); exact h) c3
       ·omega
      rw [if_pos (by omega), wrapn _ (by omega), show ((j + 1 : Nat) : Int) - 1 = (j : Int) by omega, if_pos (by omega), if_pos (by omega)]
      rw [show decide ((rd_T64 l (j : Int)).f0 ≥ (rd_T64 l ((j + 1 : Nat) : Int)).f0) = true from decide_eq_true c5]
      simp only [page_freed.j1]
      rw [if_pos trivial, z32 hlt fun h => absurd (h.2.1 j rfl) (by omega)]
  ·refine ⟨2, ?_⟩
   simp only [page_freed.l0]
   rw [if_pos (by omega), if_pos (by omega), if_pos (by omega), z2t]
   simp only [Option.bind_some]
   rw [if_neg (by simpa using c1)]
   simp only [page_freed.j1]
   rw [if_pos trivial, z32 hlt fun h => c1 h.1]
theorem z6e (l : List S64) (A : Option Addr) (c : Nat) (w : World) (hC : k64.C w A l.length l) (hc : l.length ≤ c) (hs : smallL l) :
  Calls Tryz.prog 75 #[.slice A l.length c] w fun e w' => e = .returned (.bool (decide (formP 4096 l))) ∧ Below w.heap.size w w' := by
 obtain ⟨K, hK⟩ := freed_l0 l (by have := hs.1; omega) (fun f hf => by have := z16 hs f hf; omega) _ 0 (Nat.zero_le _) rfl ⟨by simp, by simp⟩
 exact page_freed.calls K A c l _ w hC hc hK
theorem z1r {p : Int} {l : List S64} (h : formP p l) : fullL l := fun f hf => (h.1 f hf).2.2.1
set_option maxHeartbeats 1000000 in
theorem needs_yes (l : List S64) (A : Option Addr) (c : Nat) (w : World) (hC : k64.C w A l.length l) (hc : l.length ≤ c) (hs : smallL l) (hf : formP 4096 l) :
  Calls Tryz.prog 33 #[.slice A l.length c] w fun e w' => e = .returned (.tuple #[.int .i64 (partsOf l).length, .int .i64 0]) ∧ Below w.heap.size w w' := by
 have HF := Lib.hid (z6e l A c w hC hc hs)
 rw [decide_eq_true hf] at HF
 have HP := Lib.hid (fun (w1 : World) (hb : Below w.heap.size w w1) => z6c l A c w1 (Kd.C_below hC hb) hc (z1r hf) hs)
 clear hC hs hf
 go_enter Tryz.func33, Tryz.ntmps33
 go_wp2_with (first | (go_at_call 75; (refine HF.out.mono ?_); rintro e w2 ⟨rfl, hb2⟩) | (go_at_call 76; (refine (HP.out _ hb2).mono ?_); rintro e w3 ⟨v, rfl, hv, hb3⟩; obtain ⟨pA, pc, rfl⟩ := Kd.N_slice hv))
 go_ret2
 exact ⟨rfl, hb2.trans (hb3.mono hb2.size)⟩
theorem z8u (d : Array Int) (m : Nat) : (Lib.compactUpTo d m).length ≤ m := by
 induction m with
 | zero => simp [Lib.compactUpTo]
 | succ m ih => rw [Lib.compactUpTo_succ, List.length_append]; split <;> simp <;> omega
theorem z8v (d : Array Int) (m j : Nat) (hj : j < m) (hk : Lib.keeps d j = false) : (Lib.compactUpTo d m).length < m := by
 induction m with
 | zero => omega
 | succ m ih =>
  rw [Lib.compactUpTo_succ, List.length_append]
  have := z8u d m
  by_cases h : j = m
  ·subst h; rw [hk]; simp; omega
  ·have := ih (by omega)
   split <;> simp <;> omega
theorem z8w {zs : List Int} (hs : zs.Pairwise (· ≤ ·)) : (Lib.compact zs).length = zs.length ↔ zs.Nodup := by
 constructor
 ·intro h
  have hk : ∀ j, j < zs.length → Lib.keeps zs.toArray j = true := by
   intro j hj
   by_cases hn : Lib.keeps zs.toArray j = true
   ·exact hn
   ·have := z8v zs.toArray zs.length j hj (by simpa using hn)
    unfold Lib.compact at h
    omega
  rw [List.Nodup, List.pairwise_iff_getElem]
  have hadj : ∀ j, (hj : j + 1 < zs.length) → zs[j] < zs[j + 1] := by
   intro j hj
   have h1 := hk (j + 1) hj
   have h2 := List.pairwise_iff_getElem.1 hs j (j + 1) (by omega) hj (by omega)
   simp [Lib.keeps, hj, show j < zs.length by omega] at h1
   omega
  have hlt : ∀ n i, (hi : i + n + 1 < zs.length) → zs[i]'(by omega) < zs[i + n + 1] := by
   intro n
   induction n with
   | zero => intro i hi; exact hadj i hi
   | succ n ih => intro i hi; exact Int.lt_trans (ih i (by omega)) (hadj (i + n + 1) hi)
  intro i j hi hj hij
  obtain ⟨n, rfl⟩ : ∃ n, j = i + n + 1 := ⟨j - i - 1, by omega⟩
  have := hlt n i hj
  omega
 ·intro h
  rw [Lib.compact_all]
  intro j hj
  cases j with
  | zero => simp [Lib.keeps]
  | succ j =>
   have := (List.pairwise_iff_getElem.1 h) j (j + 1) (by omega) hj (by omega)
   simp [Lib.keeps, hj, show j < zs.length by omega]
   omega
theorem z2u (l : List Int) : (sortI l).Perm l := List.mergeSort_perm l _
theorem z33 (l : List Int) : (sortI l).Pairwise (· ≤ ·) := by
 have := List.pairwise_mergeSort (le := fun x y : Int => decide (x ≤ y)) (by intro a b c h1 h2; simp at *; omega) (by intro a b; simp; omega) l
 exact this.imp (by simp)
theorem z8x (l : List Int) : (Lib.compact (sortI l)).length = l.length ↔ l.Nodup := by
 have := z8w (z33 l)
 rw [z2c] at this
 rw [this]
 exact (z2u l).nodup_iff
theorem compact_R {w : World} {base : Nat} {ok : Nat → Prop} {v : Value} {l : List Int} (h : (Kd.int .i64).R 3 w base ok v l) (hl : l.length < 4611686018427387904) :
  Calls Tryz.prog 141 #[v] w fun e w' => (∃ A c, e = .returned (.slice A (Lib.compact l).length c)) ∧ Below base w w' := by
 have ho := Kd.own_of_R h
 by_cases hv : v = .slice none 0 0
 ·subst hv
  have hl0 : l = [] := by
   rcases ho.2 with ⟨_, e⟩ | ⟨g, cap, cur, e, _⟩
   ·cases l with
    | nil => rfl
    | cons a t => simp [encs] at e
   ·cases e
  subst hl0
  refine (Tryz.slices_Compact_int_empty none 0 w).mono ?_
  rintro e w' ⟨rfl, rfl⟩
  exact ⟨⟨none, 0, rfl⟩, Below.refl _ _⟩
 ·obtain ⟨g, cap, rfl, hbg, hlt, hn, hm, hzl, hH⟩ := Lib.holds_of_ownsRow ho hv
  refine (Tryz.slices_Compact_int g 0 cap l w hH (by omega) hn).mono ?_
  rintro e w' ⟨rfl, n, rfl⟩
  exact ⟨⟨_, _, rfl⟩, Lib.below_putRow (Below.refl base w) hbg⟩
def idxI (P : Int → Bool) : List Int → Int
 | [] => -1
 | x :: t => if P x = true then 0 else if idxI P t = -1 then -1 else idxI P t + 1
theorem z6f (P : Int → Bool) (l : List Int) (h : ∀ x ∈ l, P x = false) : idxI P l = -1 := by
 induction l with
 | nil => rfl
 | cons x t ih => rw [idxI, if_neg (by rw [h x List.mem_cons_self]; simp), if_pos (ih fun y hy => h y (List.mem_cons_of_mem _ hy))]
theorem idxI_at (P : Int → Bool) (l : List Int) (k : Nat) (hk : k < l.length) (h : ∀ x ∈ l.take k, P x = false) (hp : P l[k] = true) : idxI P l = k := by
 induction l generalizing k with
 | nil => simp at hk
 | cons x t ih =>
  cases k with
  | zero => rw [idxI, if_pos (by simpa using hp)]; rfl
  | succ k =>
   have := ih k (by simpa using hk) (fun y hy => h y (by simp [hy])) (by simpa using hp)
   rw [idxI, if_neg (by rw [h x (by simp)]; simp), this, if_neg (by omega)]
   omega
def noNum (n : Int) : Bool := !decide (2 ≤ n ∧ n ≤ 4095)
set_option maxHeartbeats 1000000 in
theorem nonum_any (n : Int) (w : World) : Calls Tryz.prog 143 #[.int .i64 n] w fun e w' => e = .returned (.bool (noNum n)) ∧ Drawn0 w w' := by
 have HN := Lib.hid (page_numbered.calls n _ w (z6d n))
 unfold noNum
 obtain ⟨b, hb⟩ : ∃ b, decide (2 ≤ n ∧ n ≤ 4095) = b := ⟨_, rfl⟩
 rw [hb] at HN ⊢
 clear hb
 have hnot : ∀ (x : Bool) (w : World), (Op.unary .not (.bool x)).run Tryz.prog w = .ok (.bool (!x)) w := fun _ _ => rfl
 go_enter Tryz.func143, Tryz.ntmps143
 go_wp2_with (go_at_call 119; (refine HN.out.mono ?_); rintro e w' ⟨rfl, ⟨nd, rfl⟩⟩)
 go_ret
 exact ⟨rfl, ⟨nd, rfl⟩⟩
set_option maxRecDepth 100000 in
set_option maxHeartbeats 1000000 in
theorem z8y (l : List Int) (A : Option Addr) (c : Nat) (w : World) (hC : (Kd.int .i64).C w A l.length l) (hc : l.length ≤ c) (hl : l.length ≤ 1000000) :
  Calls Tryz.prog 140 #[.slice A l.length c, .func (.func 143) #[] #[]] w fun e w' => e = .returned (.int .i64 (idxI noNum l)) ∧ Below w.heap.size w w' := by
 go_enter Tryz.func140, Tryz.ntmps140
 go_wp2
 go_loopw [8] (fun i wr => ∃ k : Nat, k ≤ l.length ∧ i = .int .i64 k ∧ (∀ x ∈ l.take k, noNum x = false) ∧ Aside0 (Below w.heap.size w wr))
  (fun i _ => l.length - (intOf i).toNat)
 case atStart => exact ⟨0, Nat.zero_le _, rfl, by simp, ⟨Below.refl _ _⟩⟩
 case round =>
  obtain ⟨k, hk, rfl, hno, HB⟩ := hrel
  have HNO := Lib.hid hno
  clear hno
  by_cases hlt : k < l.length
  ·obtain ⟨ad, rfl, hx⟩ := Kd.at_int (Kd.C_below hC HB.out) (k : Int) (by omega) (by omega)
   rw [Int.toNat_natCast, z0u l k hlt] at hx
   obtain ⟨x, hxx⟩ : ∃ x, l[k] = x := ⟨_, rfl⟩
   rw [hxx] at hx
   have HC := Lib.hid (nonum_any x wr)
   have HT := Lib.hid (show l.take (k + 1) = l.take k ++ [x] by rw [List.take_succ_eq_append_getElem hlt, hxx])
   by_cases hb : noNum x = true
   ·have HE := Lib.hid (idxI_at noNum l k hlt HNO.out (by rw [hxx]; exact hb))
    rw [hb] at HC
    clear hxx hC hb
    go_wp2_with (go_at_call 143; (refine HC.out.mono ?_); rintro e w' ⟨rfl, ⟨nd, rfl⟩⟩)
    go_ret
    exact ⟨by rw [HE.out]; rfl, z0c HB.out nd⟩
   ·have hb2 : noNum x = false := by simpa using hb
    rw [hb2] at HC
    have HB2 := Lib.hid hb2
    clear hxx hC hb hb2
    go_wp2_with (go_at_call 143; (refine HC.out.mono ?_); rintro e w' ⟨rfl, ⟨nd, rfl⟩⟩)
    go_roundw
    case rel => exact ⟨k + 1, by omega, by go_num, by rw [HT.out]; intro y hy; rcases List.mem_append.1 hy with h | h; exact HNO.out y h; rw [List.mem_singleton.1 h]; exact HB2.out, ⟨z0c HB.out nd⟩⟩
    case measure => simp [intOf]; omega
  ·obtain rfl : k = l.length := by omega
   have HE := Lib.hid (z6f noNum l (by have := HNO.out; rwa [List.take_length] at this))
   go_wp2
   go_ret
   exact ⟨by rw [HE.out]; rfl, HB.out⟩
theorem idx_ge (l : List Int) : decide (idxI noNum l ≥ 0) = !decide (∀ x ∈ l, 2 ≤ x ∧ x ≤ 4095) := by
 by_cases h : ∀ x ∈ l, 2 ≤ x ∧ x ≤ 4095
 ·rw [z6f noNum l (fun x hx => by simp [noNum, h x hx]), decide_eq_true h]; rfl
 ·rw [decide_eq_false h]
  have h2 : 0 ≤ idxI noNum l := by
   induction l with
   | nil => exact absurd (by simp) h
   | cons x t ih =>
    rw [idxI]
    by_cases hx : noNum x = true
    ·rw [if_pos hx]; omega
    ·rw [if_neg hx]
     have hx2 : 2 ≤ x ∧ x ≤ 4095 := by simpa [noNum] using hx
     have := ih fun h3 => h fun y hy => by rcases List.mem_cons.1 hy with rfl | hy; exact hx2; exact h3 y hy
     rw [if_neg (by omega)]; omega
  simpa using h2
set_option maxHeartbeats 1000000 in
theorem z8z (l : List Int) (A : Option Addr) (c : Nat) (w : World) (hC : (Kd.int .i64).C w A l.length l) (hc : l.length ≤ c) (hl : l.length ≤ 1000000) :
  Calls Tryz.prog 142 #[.slice A l.length c, .func (.func 143) #[] #[]] w fun e w' => e = .returned (.bool (!decide (∀ x ∈ l, 2 ≤ x ∧ x ≤ 4095))) ∧ Below w.heap.size w w' := by
 have HI := Lib.hid (z8y l A c w hC hc hl)
 have HE := Lib.hid (idx_ge l)
 clear hC
 go_enter Tryz.func142, Tryz.ntmps142
 go_wp2_with (go_at_call 140; (refine HI.out.mono ?_); rintro e w' ⟨rfl, hb⟩)
 go_ret
 exact ⟨by rw [HE.out]; rfl, hb⟩
def numB (l : List Int) (v : Int) : Bool := decide (l.Nodup ∧ (∀ x ∈ l, 2 ≤ x ∧ x ≤ 4095) ∧ 0 ≤ v ∧ v ≤ 1099511627776)
theorem len_eq (l : List Int) : (((Lib.compact (sortI l)).length : Int) == (l.length : Int)) = decide l.Nodup := by
 have := z8x l
 by_cases h : l.Nodup
 ·rw [decide_eq_true h, this.2 h]; simp
 ·rw [decide_eq_false h]
  have h2 : ¬ (Lib.compact (sortI l)).length = l.length := fun e => h (this.1 e)
  simp; omega
set_option maxRecDepth 100000 in
set_option maxHeartbeats 1000000 in
theorem z80 (l : List Int) (v : Int) (A : Option Addr) (c : Nat) (w : World) (hC : (Kd.int .i64).C w A l.length l) (hc : l.length ≤ c) (hl : l.length ≤ 1000000) :
  Calls Tryz.prog 100 #[.slice A l.length c, .int .i64 v] w fun e w' => e = .returned (.bool (numB l v)) ∧ Below w.heap.size w w' := by
 have HL := Lib.hid (cloneInt l A c w hC (by omega))
 have HK := Lib.hid (fun (w1 : World) (hb : Below w.heap.size w w1) => z8z l A c w1 (Kd.C_below hC hb) hc hl)
 have HE := Lib.hid (len_eq l)
 obtain ⟨b1, hb1⟩ : ∃ b, decide l.Nodup = b := ⟨_, rfl⟩
 obtain ⟨b2, hb2⟩ : ∃ b, decide (∀ x ∈ l, 2 ≤ x ∧ x ≤ 4095) = b := ⟨_, rfl⟩
 obtain ⟨b3, hb3⟩ : ∃ b, decide (0 ≤ v ∧ v ≤ 1099511627776) = b := ⟨_, rfl⟩
 have hN : numB l v = (b1 && (b2 && b3)) := by rw [← hb1, ← hb2, ← hb3, numB]; simp
 rw [hN]
 have HW := Lib.hid (fun (w1 : World) => page_within.calls v 0 1099511627776 _ w1 (z2t v 0 1099511627776))
 rw [hb2] at HK
 rw [hb1] at HE
 rw [hb3] at HW
 have HS := Lib.hid (show (sortI l).length = l.length from z2c l)
 clear hb1 hb2 hb3 hN hC
 have hnot : ∀ (x : Bool) (w : World), (Op.unary .not (.bool x)).run Tryz.prog w = .ok (.bool (!x)) w := fun _ _ => rfl
 have hll : l.length < 4611686018427387904 := by omega
 have HLL := Aside0.mk hll
 clear hll
 obtain ⟨m, hm⟩ : ∃ m, (Lib.compact (sortI l)).length = m := ⟨_, rfl⟩
 rw [hm] at HE
 have HM := Lib.hid hm
 clear hm
 go_enter Tryz.func100, Tryz.ntmps100
 cases b1 <;> cases b2
 all_goals
  have hE := HE.out
  go_wp2_with (first
   | (go_at_call 96; (refine HL.out.mono ?_); rintro e w1 ⟨u, rfl, hu, hb1⟩; obtain ⟨uA, uc, rfl⟩ := Kd.R_slice hu)
   | (go_at_call 73; (refine (sort_R hu HLL.out).mono ?_); rintro e w2 ⟨rfl, hs, hkp, hb2⟩)
   | (go_at_call 141; (refine (compact_R hs (by rw [HS.out]; exact HLL.out)).mono ?_); rintro e w3 ⟨⟨dA, dc, rfl⟩, hb3⟩; rw [HM.out])
   | (go_at_call 142; (refine (HK.out _ (hb1.trans (hb2.trans hb3))).mono ?_); rintro e w4 ⟨rfl, hb4⟩)
   | (go_at_call 118; (refine (HW.out _).mono ?_); rintro e w5 ⟨rfl, ⟨nd, rfl⟩⟩))
  go_ret
  refine ⟨rfl, ?_⟩
  first | exact z0c ((hb1.trans (hb2.trans hb3)).trans (hb4.mono (hb1.trans (hb2.trans hb3)).size)) nd | exact (hb1.trans (hb2.trans hb3)).trans (hb4.mono (hb1.trans (hb2.trans hb3)).size) | exact hb1.trans (hb2.trans hb3)
structure S89 where
 kind : Int
 no : Int
 ver : Int
 tree : Int
 level : Int
 top : Bool
 ent : Option Addr × Nat × Nat
 next : Int
 data : ByteArray
 freed : List S64
def z89 : S89 := ⟨0, 0, 0, 0, 0, false, (none, 0, 0), 0, ⟨#[]⟩, []⟩
def kHead : Kd (Option Addr × Nat × Nat) := Kd.scalar (fun x => Value.slice x.1 x.2.1 x.2.2) (fun _ => rfl)
def k89 : Kd S89 := Kd.iso (Kd.pair (Kd.int .i64) (Kd.pair (Kd.int .i64) (Kd.pair (Kd.int .i64) (Kd.pair (Kd.int .i64) (Kd.pair (Kd.int .i64) (Kd.pair Kd.bool (Kd.pair kHead (Kd.pair (Kd.int .i64) (Kd.pair Kd.string (Kd.slice 64 k64))))))))))
 (fun x : S89 => (x.kind, x.no, x.ver, x.tree, x.level, x.top, x.ent, x.next, x.data, x.freed))
theorem z6g : Kd.Heap k89 := Kd.heap_iso _ (Kd.heap_pair (Kd.heap_int _) (Kd.heap_pair (Kd.heap_int _) (Kd.heap_pair (Kd.heap_int _) (Kd.heap_pair (Kd.heap_int _) (Kd.heap_pair (Kd.heap_int _) (Kd.heap_pair Kd.heap_bool (Kd.heap_pair Kd.heap_scalar (Kd.heap_pair (Kd.heap_int _) (Kd.heap_pair Kd.heap_string (Kd.heap_slice 64 z2m))))))))))
theorem z1x : k89.sz = 10 := rfl
def cells89 (x : S89) (A : Option Addr) (c : Nat) : List Value := [.int .i64 x.kind, .int .i64 x.no, .int .i64 x.ver, .int .i64 x.tree, .int .i64 x.level, .bool x.top, .slice x.ent.1 x.ent.2.1 x.ent.2.2, .int .i64 x.next, .string x.data, .slice A x.freed.length c]
theorem z34 {w : World} {x : S89} {cs : List Value} (h : k89.K w x cs) : ∃ A c, cs = cells89 x A c ∧ x.freed.length ≤ c ∧ k64.C w A x.freed.length x.freed := by
 obtain ⟨_, _, rfl, rfl, _, _, rfl, rfl, _, _, rfl, rfl, _, _, rfl, rfl, _, _, rfl, rfl, _, _, rfl, rfl, _, _, rfl, rfl, _, _, rfl, rfl, _, _, rfl, rfl, ⟨A, c, rfl, l1, g1⟩⟩ := h
 exact ⟨A, c, rfl, l1, g1⟩
theorem k89_mk (w : World) (x : S89) {A : Option Addr} {c : Nat} (l1 : x.freed.length ≤ c) (g1 : k64.C w A x.freed.length x.freed) : k89.K w x (cells89 x A c) :=
 ⟨[_], _, rfl, rfl, [_], _, rfl, rfl, [_], _, rfl, rfl, [_], _, rfl, rfl, [_], _, rfl, rfl, [_], _, rfl, rfl, [_], _, rfl, rfl, [_], _, rfl, rfl, [_], _, rfl, rfl, ⟨A, c, rfl, l1, g1⟩⟩
theorem z1s {W : World} {ok : Nat → Prop} {x : S89} {cs : List Value} (h : Kd.FK k89 W ok x cs) : ∃ A c, cs = cells89 x A c ∧ x.freed.length ≤ c ∧ Kd.F k64 W ok A x.freed.length x.freed := by
 obtain ⟨A, c, rfl, l1, _⟩ := z34 (Kd.FK_now h)
 refine ⟨A, c, rfl, l1, fun W' hW => ?_⟩
 obtain ⟨A', c', he, l', g'⟩ := z34 (h W' hW)
 injection (Option.some.inj (show some (Value.slice A x.freed.length c) = some (Value.slice A' x.freed.length c') from congrArg (fun l => l[9]?) he)) with ha _ _
 rw [ha]
 exact g'
theorem z2g (W : World) (ok : Nat → Prop) (x : S89) {A : Option Addr} {c : Nat} (l1 : x.freed.length ≤ c) (g1 : Kd.F k64 W ok A x.freed.length x.freed) : Kd.FK k89 W ok x (cells89 x A c) := fun W2 hW => k89_mk W2 x l1 (g1 W2 hW)
theorem info89 : (Tryz.prog.info? 89).map (fun i => (i.zero, i.size, i.bytes)) = some (some (.agg (cells89 z89 none 0).toArray), 10, 120) := by kernel_rfl
theorem zero89F {W : World} {ok : Nat → Prop} : Kd.FK k89 W ok z89 (cells89 z89 none 0) := z2g W ok z89 (Nat.le_refl _) (Kd.F_nil _ _ _)
def pg (l : List S89) (i : Nat) : S89 := l.getD i z89
def chP (n : Nat) (no : List Int) (kind v : Int) (i : Nat) (p : S89) : S89 := { p with kind := kind, no := rd no (i : Int), ver := v, next := if i + 1 < n then rd no ((i + 1 : Nat) : Int) else p.next }
def chTo (k : Nat) (l : List S89) (no : List Int) (kind v : Int) : List S89 := l.mapIdx fun i p => if i < k then chP l.length no kind v i p else p
theorem z3h (k : Nat) (l : List S89) (no : List Int) (kind v : Int) : (chTo k l no kind v).length = l.length := by simp [chTo]
theorem chTo_zero (l : List S89) (no : List Int) (kind v : Int) : chTo 0 l no kind v = l := by
 refine List.ext_getElem (by simp [chTo]) fun i h1 h2 => ?_
 simp [chTo]
theorem chTo_at (k : Nat) (l : List S89) (no : List Int) (kind v : Int) (h : k < l.length) : (chTo k l no kind v).getD k z89 = pg l k := by
 simp [chTo, pg, h]
theorem z6h (k : Nat) (l : List S89) (no : List Int) (kind v : Int) (h : k < l.length) : (chTo k l no kind v).set k (chP l.length no kind v k (pg l k)) = chTo (k + 1) l no kind v := by
 refine List.ext_getElem (by simp [chTo]) fun i h1 h2 => ?_
 simp only [List.getElem_set, chTo, List.getElem_mapIdx]
 by_cases e : k = i
 ·subst e
  rw [if_pos rfl, if_pos (by omega)]
  simp [pg, h]
 ·rw [if_neg e]
  by_cases e2 : i < k
  ·rw [if_pos e2, if_pos (by omega)]
  ·rw [if_neg e2, if_neg (by omega)]
theorem set_at (l : List S89) (k : Nat) (x : S89) (h : k < l.length) : (l.set k x).getD k z89 = x := by simp [h]
set_option maxRecDepth 100000 in
set_option maxHeartbeats 600000 in
theorem z81 (l : List S89) (no : List Int) (kind v : Int) (V : Value) (B : Option Addr) (cb : Nat) (base : Nat) (ok : Nat → Prop) (w : World) (hN : Kd.N k89 89 w base ok V l) (hF : Kd.F (Kd.int .i64) w (fun q => some q ≠ V.ownBlock) B no.length no) (hcb : no.length ≤ cb) (hl : l.length = no.length) (hm : l.length ≤ 1000000) :
  Calls Tryz.prog 101 #[V, .slice B no.length cb, .int .i64 kind, .int .i64 v] w fun e w' => e = .returned V ∧ Kd.N k89 89 w' base ok V (chTo l.length l no kind v) ∧ Kept w w' (fun q => some q = V.ownBlock) ∧ Below base w w' := by
 obtain ⟨VA, vc, rfl⟩ := Kd.N_slice hN
 have hbase := Kd.N_base hN
 have HBASE := Aside0.mk hbase
 have hcv := (Kd.N_reads' hN).2.1
 have HL := Lib.hid hl
 clear hbase hl
 go_enter Tryz.func101, Tryz.ntmps101
 go_wp2
 go_loopw [9, 12] (fun i0 i wr => ∃ k : Nat, k ≤ l.length ∧ i = .int .i64 k ∧ Aside0 (Kd.N k89 89 wr base ok (.slice VA l.length vc) (chTo k l no kind v)) ∧ Aside0 (Kept w wr (fun q => some q = (Value.slice VA l.length vc).ownBlock)) ∧ Aside0 (Below base w wr))
  (fun _ i _ => l.length - (intOf i).toNat)
 case atStart => exact ⟨0, Nat.zero_le _, rfl, ⟨by rw [chTo_zero]; exact hN⟩, ⟨Kept.refl _ _⟩, ⟨Below.refl _ _⟩⟩
 case round =>
  obtain ⟨k, hk, rfl, HN, HK, HB⟩ := hrel
  by_cases hlt : k < l.length
  ·have hkno : k < no.length := by have := HL.out; omega
   obtain ⟨g, vc', hVe, hbg, hgs, _⟩ := Kd.N_form HN.out (by rw [z3h]; omega)
   rw [z3h] at hVe
   injection hVe with h1 _ h2
   subst h1 h2
   obtain ⟨cs, hcl, hFK, hcc, hfr⟩ := Kd.N_elem HN.out z89 (k : Int) (by omega) (by omega)
   rw [Int.toNat_natCast, chTo_at k l no kind v hlt] at hFK
   obtain ⟨A9, c9, rfl, hl9, hF9⟩ := z1s hFK
   have hF2 := Kd.F_kept hF HK.out (fun q hq h => hq h)
   obtain ⟨bd, rfl, hx⟩ := Kd.at_int (Kd.F_now hF2) (k : Int) (by omega) (by omega)
   rw [Int.toNat_natCast] at hx
   obtain ⟨p, hp⟩ : ∃ p, pg l k = p := ⟨_, rfl⟩
   rw [hp] at hcc
   obtain ⟨a, ha⟩ : ∃ a, rd no (k : Int) = a := ⟨_, rfl⟩
   rw [ha] at hx
   have hc0 := hcc 0 _ rfl
   have hc1 := hcc 1 _ rfl
   have hc2 := hcc 2 _ rfl
   have hc7 := hcc 7 _ rfl
   have hz0 := hfr 0
   have hz1 := hfr 1
   have hz2 := hfr 2
   have hz7 := hfr 7
   simp only [Int.toNat_natCast, z1x, Nat.add_zero] at hc0 hc1 hc2 hc7 hz0 hz1 hz2 hz7
   clear hfr
   go_upto_region 5 with (fail)
   obtain ⟨hN1, hG1⟩ := Kd.N_seg HN.out (k : Int) (by omega) (by omega) (c := cells89 p A9 c9) (seg := [.int .i64 kind, .int .i64 a, .int .i64 v]) (j := 0) hcl hcc (by show 0 + 3 ≤ 10; omega) (x' := { p with kind := kind, no := a, ver := v }) (z2g wr _ { p with kind := kind, no := a, ver := v } (by rw [← hp]; exact hl9) (by rw [← hp]; exact hF9)) (fun q hq => hq)
   rw [Int.toNat_natCast, z1x, Nat.add_zero] at hN1 hG1
   have hB1 : Below base w (wr.setCells g (k * 10) [.int .i64 kind, .int .i64 a, .int .i64 v]) := ((HB.out.setCell (p := ⟨g, k * 10, none⟩) hbg _).setCell (p := ⟨g, k * 10 + 1, none⟩) hbg _).setCell (p := ⟨g, k * 10 + 1 + 1, none⟩) hbg _
   rw [show ((wr.setCell ⟨g, k * 10, none⟩ (.int .i64 kind)).setCell ⟨g, k * 10 + 1, none⟩ (.int .i64 a)).setCell ⟨g, k * 10 + 2, none⟩ (.int .i64 v) = wr.setCells g (k * 10) [.int .i64 kind, .int .i64 a, .int .i64 v] from rfl]
   obtain ⟨W1, hW1⟩ : ∃ W1, wr.setCells g (k * 10) [.int .i64 kind, .int .i64 a, .int .i64 v] = W1 := ⟨_, rfl⟩
   rw [hW1] at hN1 hG1 hB1 ⊢
   clear hW1 hc0 hc1 hc2 hc7 hz0 hz1 hz2 hz7 hx
   have hK1 : Kept w W1 (fun q => some q = (Value.slice (some ⟨g, 0, none⟩) l.length vc).ownBlock) := ⟨Nat.le_trans HK.out.1 hG1.size, fun q hq hn => by rw [hG1.block q (by have := HK.out.1; omega) (fun e => hn (by simpa [Value.ownBlock] using e)), HK.out.2 q hq hn]⟩
   have HN1 := Aside0.mk hN1
   have HK1 := Aside0.mk hK1
   have HB1 := Aside0.mk hB1
   have HP := Lib.hid hp
   have HA := Lib.hid ha
   have hgn : (chTo k l no kind v).set k { p with kind := kind, no := a, ver := v } = (chTo k l no kind v).set k { p with kind := kind, no := a, ver := v } := rfl
   by_cases hk1 : k + 1 < l.length
   ·have hkno1 : k + 1 < no.length := by have := HL.out; omega
    obtain ⟨bd', hbe, hx1⟩ := Kd.at_int (Kd.F_now (Kd.F_kept hF hK1 (fun q hq h => hq h))) ((k : Int) + 1) (by omega) (by omega)
    injection hbe with hbe
    subst hbe
    rw [show ((k : Int) + 1).toNat = k + 1 by omega] at hx1
    obtain ⟨b, hb⟩ : ∃ b, rd no ((k : Int) + 1) = b := ⟨_, rfl⟩
    rw [hb, Addr.add, if_neg (Nat.succ_ne_zero k)] at hx1
    obtain ⟨cs, hcl2, hFK2, hcc2, hfr2⟩ := Kd.N_elem hN1 z89 (k : Int) (by omega) (by omega)
    rw [Int.toNat_natCast, set_at _ k _ (by rw [z3h]; exact hlt)] at hFK2
    obtain ⟨A8, c8, rfl, hl8, hF8⟩ := z1s hFK2
    have hc7 := hcc2 7 _ rfl
    have hz7 := hfr2 7
    simp only [Int.toNat_natCast, z1x] at hc7 hz7
    have HC2 := Aside0.mk hcc2
    have HL8 := Aside0.mk hl8
    have HF8 := Aside0.mk hF8
    have HBV := Lib.hid hb
    have hkn : (k : Int) + 1 < (l.length : Int) := by omega
    clear hp ha hb hN1 hG1 hB1 hK1 hcc hcc2 hN hF hF2 hF8 hF9 hFK hFK2 hgn
    go_upto_region 7 with (fail)
    obtain ⟨hN3, hG3⟩ := Kd.N_seg HN1.out (k : Int) (by omega) (by omega) (c := cells89 { p with kind := kind, no := a, ver := v } A8 c8) (seg := [.int .i64 b]) (j := 7) hcl2 HC2.out (by show 7 + 1 ≤ 10; omega) (x' := { p with kind := kind, no := a, ver := v, next := b }) (z2g W1 _ { p with kind := kind, no := a, ver := v, next := b } HL8.out HF8.out) (fun q hq => hq)
    rw [Int.toNat_natCast, z1x, List.set_set] at hN3
    rw [Int.toNat_natCast, z1x] at hG3
    have HN3 := Aside0.mk hN3
    have HB3 := Aside0.mk (HB1.out.setCell (p := ⟨g, k * 10 + 7, none⟩) hbg (.int .i64 b))
    have HK3 := Aside0.mk (show Kept w (W1.setCell ⟨g, k * 10 + 7, none⟩ (.int .i64 b)) (fun q => some q = (Value.slice (some ⟨g, 0, none⟩) l.length vc).ownBlock) from ⟨Nat.le_trans HK1.out.1 hG3.size, fun q hq hn => by rw [show W1.setCell ⟨g, k * 10 + 7, none⟩ (.int .i64 b) = W1.setCells g (k * 10 + 7) [.int .i64 b] from rfl, hG3.block q (by have := HK1.out.1; omega) (fun e => hn (by simpa [Value.ownBlock] using e)), HK1.out.2 q hq hn]⟩)
    clear hN3 hG3 hc7 hz7 hx1
    go_wp2
    go_roundw
    case rel => exact ⟨k + 1, by omega, by go_num, ⟨by rw [← z6h k l no kind v hlt, chP, if_pos hk1, HP.out, HA.out, show ((k + 1 : Nat) : Int) = (k : Int) + 1 by omega, HBV.out]; exact HN3.out⟩, ⟨HK3.out⟩, ⟨HB3.out⟩⟩
    case measure => simp [intOf]; omega
   ·have hkn : ¬ (k : Int) + 1 < (l.length : Int) := by omega
    clear hp ha hN1 hG1 hB1 hK1 hcc hN hF hF2 hF9 hFK hgn
    go_wp2
    go_roundw
    case rel => exact ⟨k + 1, by omega, by go_num, ⟨by rw [← z6h k l no kind v hlt, chP, if_neg hk1, HP.out, HA.out]; exact HN1.out⟩, ⟨HK1.out⟩, ⟨HB1.out⟩⟩
    case measure => simp [intOf]; omega
  ·obtain rfl : k = l.length := by omega
   go_wp2
   go_ret
   exact ⟨rfl, HN.out, HK.out, HB.out⟩
def fillTo (k n : Nat) (parts : List (List S64)) : List S89 := (List.range n).map fun i => if i < k then { z89 with freed := rd_L3 parts (i : Int) } else z89
theorem z1y (k n : Nat) (parts : List (List S64)) : (fillTo k n parts).length = n := by simp [fillTo]
theorem z82 (n : Nat) (parts : List (List S64)) : fillTo 0 n parts = List.replicate n z89 := by
 refine List.ext_getElem (by simp [fillTo]) fun i h1 h2 => ?_
 simp [fillTo]
theorem fillTo_at (k n : Nat) (parts : List (List S64)) (h : k < n) : (fillTo k n parts).getD k z89 = z89 := by
 simp [fillTo, h]
theorem z84 (k n : Nat) (parts : List (List S64)) (h : k < n) : (fillTo k n parts).set k { z89 with freed := rd_L3 parts (k : Int) } = fillTo (k + 1) n parts := by
 refine List.ext_getElem (by simp [fillTo]) fun i h1 h2 => ?_
 simp only [List.getElem_set, fillTo, List.getElem_map, List.getElem_range]
 by_cases e : k = i
 ·subst e
  rw [if_pos rfl, if_pos (by omega)]
 ·rw [if_neg e]
  by_cases e2 : i < k
  ·rw [if_pos e2, if_pos (by omega)]
  ·rw [if_neg e2, if_neg (by omega)]
def listPg (l : List S64) (no : List Int) (v : Int) : List S89 := chTo no.length (fillTo (partsOf l).length no.length (partsOf l)) no 4 v
set_option maxRecDepth 100000 in
set_option maxHeartbeats 1000000 in
theorem pages_yes (l : List S64) (no : List Int) (v : Int) (A B : Option Addr) (c cb : Nat) (w : World) (hC : k64.C w A l.length l) (hc : l.length ≤ c) (hs : smallL l) (hf : formP 4096 l) (hB : (Kd.int .i64).C w B no.length no) (hcb : no.length ≤ cb) (hno : no.length ≤ 1000000)
  (hlen : (partsOf l).length ≤ no.length) (hn : numB no v = true) :
  Calls Tryz.prog 55 #[.slice A l.length c, .slice B no.length cb, .int .i64 v] w fun e w' => ∃ u, e = .returned (.tuple #[u, .int .i64 0]) ∧ Kd.N k89 89 w' w.heap.size (fun q => w.heap.size ≤ q) u (listPg l no v) ∧ Below w.heap.size w w' := by
 have HF := Lib.hid (z6e l A c w hC hc hs)
 rw [decide_eq_true hf] at HF
 have HP := Lib.hid (fun (w1 : World) (hb : Below w.heap.size w w1) => z6c l A c w1 (Kd.C_below hC hb) hc (z1r hf) hs)
 have HU := Lib.hid (fun (w1 : World) (hb : Below w.heap.size w w1) => z80 no v B cb w1 (Kd.C_below hB hb) hcb hno)
 rw [hn] at HU
 have HBF := Aside0.mk (Kd.C_F (Kd.heap_int .i64) hB)
 unfold listPg
 obtain ⟨parts, hp⟩ : ∃ p, partsOf l = p := ⟨_, rfl⟩
 rw [hp] at hlen ⊢
 obtain ⟨m, hm⟩ : ∃ m, parts.length = m := ⟨_, rfl⟩
 have HM := Lib.hid hm
 have HPA := Lib.hid hp
 rw [hm] at hlen ⊢
 clear hC hs hf hB hm hp hn
 have hlt2 : ¬ (no.length : Int) < (m : Int) := by omega
 have hnot : ∀ (x : Bool) (w : World), (Op.unary .not (.bool x)).run Tryz.prog w = .ok (.bool (!x)) w := fun _ _ => rfl
 go_enter Tryz.func55, Tryz.ntmps55
 go_upto_region 6 with (first | (go_at_call 75; (refine HF.out.mono ?_); rintro e w2 ⟨rfl, hb2⟩) | (go_at_call 76; (refine (HP.out _ hb2).mono ?_); rintro e w3 ⟨u, rfl, hu, hb3⟩; rw [HPA.out] at hu; obtain ⟨pA, pc, rfl⟩ := Kd.N_slice hu; rw [HM.out]) | (go_at_call 100; (refine (HU.out _ (hb2.trans (hb3.mono hb2.size))).mono ?_); rintro e w4 ⟨rfl, hb4⟩))
 have hB4 : Below w.heap.size w w4 := (hb2.trans (hb3.mono hb2.size)).trans (hb4.mono (hb2.trans (hb3.mono hb2.size)).size)
 have HU4 := Aside0.mk (Kd.N_mono (Kd.N_bound (Kd.N_lower (Kd.N_below hu hb4) hb2.size)) (fun q hq => (⟨Nat.le_trans hb2.size hq.1, hq.2⟩ : w.heap.size ≤ q ∧ q < w4.heap.size)))
 have HB4 := Aside0.mk hB4
 clear hu hb2 hb3 hb4 hB4 hlt2
 have hn120 : (no.length : Int).toNat * 120 ≤ 281474976710656 := by omega
 have HN120 := Aside0.mk hn120
 clear hn120
 go_upto_region 7 with (at_make; refine Kd.N_make k89 (w0 := w) w.heap.size 89 rfl (N' := 30) rfl 22 _ _ rfl (no.length : Int) rfl rfl Tryz.underlying22 (.agg (cells89 z89 none 0).toArray) 120 info89 rfl (by decide) (by decide) z89 (ok := fun q => w.heap.size ≤ q) (okp := fun _ => False) zero89F (fun _ h => h.elim) HB4.out.size (by omega) HN120.out HB4.out HB4.out.size ?_; intro ov w5 ho hb5 hg5 hat5)
 obtain ⟨S, hS⟩ : ∃ S, w4.heap.size = S := ⟨_, rfl⟩
 obtain ⟨gb, hgb, hgs⟩ := hat5
 rw [hS] at hgs
 have hu5 := Kd.N_grown HU4.out hg5 (fun _ _ => by simp)
 rw [hS, HM.out] at hu5
 have hnn : (no.length : Int).toNat = no.length := by omega
 rw [hnn, ← z82 _ parts] at ho
 have hSw : w.heap.size ≤ S := hS ▸ HB4.out.size
 clear hnn hS hg5
 go_upto_region 8 with (fail)
 go_loopw [10, 11, 33] (fun i0 i1 i wr => ∃ k : Nat, k ≤ m ∧ i = .int .i64 k ∧ Aside0 (Kd.N k89 89 wr w.heap.size (fun q => w.heap.size ≤ q) ov (fillTo k no.length parts)) ∧ Aside0 (Kd.N (Kd.slice 64 k64) 26 wr w.heap.size (fun q => w.heap.size ≤ q ∧ q < S) (.slice pA m pc) parts) ∧ Aside0 (Below w.heap.size w wr))
  (fun _ _ i _ => m - (intOf i).toNat)
 case atStart => exact ⟨0, Nat.zero_le _, rfl, ⟨ho⟩, ⟨hu5⟩, ⟨hb5⟩⟩
 case round =>
  clear ho hu5 hb5
  obtain ⟨k, hk, rfl, HO, HV, HB⟩ := hrel
  by_cases hlt : k < m
  ·have hkn : k < no.length := by omega
   have hml := HM.out
   obtain ⟨g, vc, hov, hbg, hgz, _⟩ := Kd.N_form HO.out (by rw [z1y]; omega)
   rw [z1y] at hov
   subst hov
   obtain rfl : g = gb := by simpa [Value.ownBlock] using hgb
   obtain ⟨g', vc', hVe, _, _, _⟩ := Kd.N_form HV.out (by omega)
   injection hVe with h1 h2 h3
   subst h1 h3
   obtain ⟨c1, hcl1, hFK1, hcc1, _⟩ := Kd.N_elem HV.out ([] : List S64) (k : Int) (by omega) (by omega)
   obtain ⟨A1, c2, rfl, hl2, hF2⟩ := Kd.FK_slice_open hFK1
   have hx := hcc1 0 _ rfl
   obtain ⟨c9, hcl, hFK, hcc, hfr⟩ := Kd.N_elem HO.out z89 (k : Int) (by omega) (by omega)
   rw [Int.toNat_natCast, fillTo_at k _ parts hkn] at hFK
   obtain ⟨A9, c9', rfl, hl9, hF9⟩ := z1s hFK
   have hc9 := hcc 9 _ rfl
   have hz9 := hfr 9
   have hsz1 : (Kd.slice 64 k64).sz = 1 := rfl
   simp only [Int.toNat_natCast, z1x, hsz1, Nat.mul_one, Nat.add_zero] at hx hc9 hz9
   rw [Int.toNat_natCast] at hl2 hF2
   obtain ⟨q, hq⟩ : ∃ q, parts.getD k [] = q := ⟨_, rfl⟩
   rw [hq] at hl2 hF2 hx
   have HQ := Lib.hid (show rd_L3 parts (k : Int) = q by rw [← hq]; rfl)
   have HL2 := Aside0.mk hl2
   have HF2 := Aside0.mk hF2
   have HCL := Aside0.mk hcl
   have HCC := Aside0.mk hcc
   clear hml h2 hcl1 hFK1 hcc1 hFK hl9 hF9 hfr hcc hcl hgb hq hl2 hF2
   go_upto_region 11 with (fail)
   obtain ⟨hN1, hG1⟩ := Kd.N_seg HO.out (k : Int) (by omega) (by omega) (c := cells89 z89 A9 c9') (seg := [.slice A1 q.length c2]) (j := 9) HCL.out HCC.out (by show 9 + 1 ≤ 10; omega) (x' := { z89 with freed := q }) (z2g wr _ { z89 with freed := q } HL2.out HF2.out) (fun y hy => ⟨hy.1.1, by have := hy.1.2; omega⟩)
   rw [Int.toNat_natCast, z1x] at hN1 hG1
   have HO1 := Aside0.mk hN1
   have HV1 := Aside0.mk (Kd.N_grown HV.out hG1 (fun y hy => by have := hy.2; intro e; injection e with e; omega))
   have HB1 := Aside0.mk (HB.out.setCell (p := ⟨g, k * 10 + 9, none⟩) hbg (.slice A1 q.length c2))
   clear hN1 hG1 hx hc9 hz9
   go_wp2
   go_roundw
   case rel => exact ⟨k + 1, by omega, by go_num, ⟨by rw [← z84 k _ parts hkn, HQ.out]; exact HO1.out⟩, ⟨HV1.out⟩, ⟨HB1.out⟩⟩
   case measure => simp [intOf]; omega
  ·obtain rfl : k = m := by omega
   have HFN := Aside0.mk (Kd.F_mono (ok' := fun q => some q ≠ ov.ownBlock) (Kd.F_below HBF.out HB.out) (fun q hq => by rw [hgb]; intro e; injection e with e; omega))
   have HCH := Lib.hid (z81 (fillTo k no.length parts) no 4 v ov B cb w.heap.size (fun q => w.heap.size ≤ q) wr HO.out HFN.out hcb (z1y _ _ _) (by rw [z1y]; exact hno))
   clear hgb
   go_wp2_with (go_at_call 101; (refine HCH.out.mono ?_); rintro e w9 ⟨rfl, hn9, hk9, hb9⟩)
   go_ret2
   rw [z1y] at hn9
   exact ⟨_, rfl, hn9, HB.out.trans hb9⟩
theorem N_tight {α : Type} {d : Kd α} {e : Nat} {W : World} {base g n cap : Nat} {ok ok' : Nat → Prop} {xs : List α} (z : α) (h : Kd.N d e W base ok (.slice (some ⟨g, 0, none⟩) n cap) xs) (hg : ok' g)
  (hf : ∀ j, j < xs.length → ∀ c : List Value, c.length = d.sz → (∀ i u, c[i]? = some u → W.cell? ⟨g, j * d.sz + i, none⟩ = some u) → Kd.FK d W (fun k => ok' k ∧ k ≠ g) (xs.getD j z) c) : Kd.N d e W base ok' (.slice (some ⟨g, 0, none⟩) n cap) xs := by
 have hn := (Kd.N_reads' h).1
 obtain ⟨h0, rows, hl, hR, _⟩ := h
 refine ⟨fun k hk => ?_, rows, hl, hR, fun j x c hx hc => ?_⟩
 ·have : g = k := by simpa [Value.ownBlock] using hk
  exact this ▸ hg
 ·have hj : j < xs.length := (List.getElem?_eq_some_iff.1 hx).1
  obtain ⟨c', hcl, hM, hcc, _⟩ := Kd.R_elem hR [] (j : Int) (by omega) (by omega)
  rw [Int.toNat_natCast] at hM hcc
  have hcr : c' = c := by
   have h2 := hM.1
   rw [List.getD_eq_getElem?_getD, hc] at h2
   exact h2
  subst hcr
  have := hf j hj c' hcl hcc
  rw [List.getD_eq_getElem?_getD, hx] at this
  exact Kd.FK_mono this fun k hk => ⟨hk.1, fun e => hk.2 (by simpa [Value.ownBlock] using e)⟩
def NewTo (W : World) (g base k : Nat) (ms : List S64) : Prop := ∀ j, j < k → ∀ c : List Value, c.length = 2 → (∀ i u, c[i]? = some u → W.cell? ⟨g, j * 2 + i, none⟩ = some u) → Kd.FK k64 W (fun q => base ≤ q ∧ q ≠ g) (ms.getD j z64) c
theorem NewTo.below {W W1 : World} {g base k : Nat} {ms : List S64} (h : NewTo W g base k ms) (hg : g < W.heap.size) (hb : Below W.heap.size W W1) : NewTo W1 g base k ms := by
 intro j hj c hcl hcc
 refine Kd.FK_below (h j hj c hcl fun i u hu => ?_) hb
 have := hcc i u hu
 unfold World.cell? at this ⊢
 rw [hb.block g hg] at this
 exact this
theorem NewTo.store {W : World} {g base k : Nat} {ms : List S64} {A : Option Addr} {c : Nat} (h : NewTo W g base k ms) (hk : k < ms.length) (hN : Kd.FK k64 W (fun q => base ≤ q ∧ q ≠ g) (rd_T64 ms (k : Int)) [.int .i64 (rd_T64 ms (k : Int)).f0, .slice A (rd_T64 ms (k : Int)).f1.length c])
  (h0 : W.cell? ⟨g, k * 2, none⟩ = some (.int .i64 (rd_T64 ms (k : Int)).f0)) (h1 : ∃ u, W.cell? ⟨g, k * 2 + 1, none⟩ = some u) (hz : W.frozen? ⟨g, k * 2 + 1, none⟩ = false) : NewTo (W.setCell ⟨g, k * 2 + 1, none⟩ (.slice A (rd_T64 ms (k : Int)).f1.length c)) g base (k + 1) ms := by
 have hgr : ∀ q, (base ≤ q ∧ q ≠ g) → q < W.heap.size → (W.setCell ⟨g, k * 2 + 1, none⟩ (.slice A (rd_T64 ms (k : Int)).f1.length c)).heap[q]? = W.heap[q]? := fun q hq _ => Below.heap_setCell W ⟨g, k * 2 + 1, none⟩ _ q hq.2
 intro j hj c' hcl hcc
 by_cases e : j = k
 ·subst e
  have e0 := hcc 0
  have e1 := hcc 1
  match c', hcl with
  | [a, b], _ =>
   have a0 := e0 a rfl
   have a1 := e1 b rfl
   rw [World.cell?_setCell_other (h := by simp), Nat.add_zero, h0] at a0
   obtain ⟨u, hu⟩ := h1
   rw [World.cell?_setCell_same (h := hu)] at a1
   injection a0 with a0
   injection a1 with a1
   subst a0 a1
   exact Kd.FK_step hN hgr
 ·refine Kd.FK_step (h j (by omega) c' hcl fun i u hu => ?_) hgr
  have := hcc i u hu
  have hi : i < 2 := by rw [← hcl]; exact (List.getElem?_eq_some_iff.1 hu).1
  rwa [World.cell?_setCell_other (h := by intro e2; injection e2 with _ e2 _; omega)] at this
set_option maxRecDepth 100000 in
set_option maxHeartbeats 4000000 in
theorem z6i (la lb : List S64) (A : Option Addr) (ca : Nat) (B : Option Addr) (cb : Nat) (w : World) (hA : k64.C w A la.length la) (hca : la.length ≤ ca) (hB : k64.C w B lb.length lb) (hcb : lb.length ≤ cb) (ha : smallL la) (hb : smallL lb) :
  Calls Tryz.prog 56 #[.slice A la.length ca, .slice B lb.length cb] w fun e w' => ∃ v, e = .returned v ∧ Kd.N k64 64 w' w.heap.size (fun q => w.heap.size ≤ q) v (mergeL la lb) ∧ Below w.heap.size w w' := by
 have HMM := Aside0.mk (z8q la lb A ca B cb w hA hca hB hcb ha hb)
 have hpg : (pagesOf (mergeL la lb)).length ≤ 2000000 := by rw [z6a]; have := ha.2; have := hb.2; omega
 have hln := z58 la lb
 obtain ⟨ms, hms⟩ : ∃ ms, mergeL la lb = ms := ⟨_, rfl⟩
 rw [hms] at HMM hpg hln ⊢
 clear hms hA hB
 have hml : ms.length ≤ 2000000 := by have := ha.1; have := hb.1; omega
 clear hln
 go_enter Tryz.func56, Tryz.ntmps56
 go_wp2_with (go_at_call 102; (with_reducible refine HMM.out.mono ?_); rintro e w1 ⟨v, rfl, hv, hb1⟩; obtain ⟨O, co, rfl⟩ := Kd.N_slice hv)
 have HV := Aside0.mk hv
 have HW := Aside0.mk hb1
 clear hv hb1
 go_loopw [12] (fun i wr => ∃ k : Nat, k ≤ ms.length ∧ i = .int .i64 k ∧ Aside0 (Kd.N k64 64 wr w.heap.size (fun _ => True) (.slice O ms.length co) ms) ∧ Aside0 (∀ g, (Value.slice O ms.length co).ownBlock = some g → NewTo wr g w.heap.size k ms) ∧ Aside0 (Below w.heap.size w wr))
  (fun i _ => ms.length - (intOf i).toNat)
 case atStart => exact ⟨0, Nat.zero_le _, rfl, HV, ⟨fun g _ j hj => absurd hj (Nat.not_lt_zero j)⟩, HW⟩
 case round =>
  obtain ⟨k, hk, rfl, HN, HT, HB⟩ := hrel
  clear HV HW
  by_cases hlt : k < ms.length
  ·obtain ⟨g, cap, e, hg1, hg2, -⟩ := Kd.N_form HN.out (by omega)
   injection e with e1 e2 e3
   subst e1 e3
   have HT1 := Aside0.mk (HT.out g (by simp [Value.ownBlock]))
   have HG2 := Aside0.mk hg2
   clear HT
   obtain ⟨cs, hcl, hFK, hcc, hff⟩ := Kd.N_elem HN.out z64 (k : Int) (by omega) (by omega)
   rw [show ms.getD (k : Int).toNat z64 = rd_T64 ms (k : Int) from rfl] at hFK
   obtain ⟨A1, c1, rfl, hl1, hF1⟩ := z2n hFK
   have hx1 : wr.cell? ⟨g, k * 2 + 1, none⟩ = some (.slice A1 (rd_T64 ms (k : Int)).f1.length c1) := hcc 1 _ rfl
   have hel : ms[k]? = some (rd_T64 ms (k : Int)) := by rw [z05 ms k hlt]; exact List.getElem?_eq_getElem hlt
   have hgl : (rd_T64 ms (k : Int)).f1.length ≤ 2000000 := by
    have h1 := z3z ms (k + 1)
    rw [z2d ms k hlt, z0y, List.length_append, z02] at h1
    omega
   obtain ⟨x, hx⟩ : ∃ x, rd_T64 ms (k : Int) = x := ⟨_, rfl⟩
   rw [hx] at hFK hx1 hel hgl hF1 hcc hl1
   have HEL := Lib.hid hel
   have HXX := Lib.hid hx
   have HCC := Aside0.mk hcc
   have HFF := Aside0.mk hff
   have HX := Aside0.mk (cloneInt x.f1 A1 c1 wr (Kd.F_now hF1) (by omega))
   clear hx hel hFK hF1 hcc
   have h23 : (Tryz.prog.info? 23).map (·.size) = some 1 := by kernel_rfl
   have hk0 : (0 : Int) ≤ (k : Int) := by omega
   have hk1 : (k : Int) < (ms.length : Int) := by omega
   have hz1 := hff 1
   have HZ1 := Aside0.mk hff
   go_upto_region 6 with (go_at_call 96; (with_reducible refine HX.out.mono ?_); rintro e w2 ⟨cv, rfl, hcv, hcb2⟩; obtain ⟨cA, cc, rfl⟩ := Kd.R_slice hcv; have HCV := Aside0.mk hcv; have HN2 := Aside0.mk (Kd.N_below HN.out hcb2); have HB2 := Aside0.mk (HB.out.trans (hcb2.mono HB.out.size)); have HC2 := Aside0.mk (fun j u h => cellB hcb2 (Nat.le_refl _) (HCC.out j u h)); have HT2 := Aside0.mk (HT1.out.below HG2.out hcb2); clear hcv hcb2; have hx2 : w2.cell? ⟨g, k * 2 + 1, none⟩ = some (.slice A1 x.f1.length c1) := HC2.out 1 _ rfl; have hz2 : w2.frozen? ⟨g, k * 2 + 1, none⟩ = false := (by obtain ⟨_, _, _, _, hz⟩ := Kd.N_elem HN2.out z64 (k : Int) hk0 hk1; exact hz 1))
   obtain ⟨hN3, hG3⟩ := Kd.N_seg HN2.out (k : Int) hk0 hk1 (c := [.int .i64 x.f0, .slice A1 x.f1.length c1]) (seg := [.slice cA x.f1.length cc]) (j := 1) rfl HC2.out (Nat.le_refl 2) (x' := x) (z1b w2 _ x (Kd.R_reads' HCV.out).2.1 (Kd.R_F (Kd.R_mono (Kd.R_bound HCV.out) (fun q hq => hq.2.1)))) (fun q hq => ⟨trivial, fun e => by have h3 : wr.heap.size ≤ q := hq; have := HG2.out; omega⟩)
   rw [Int.toNat_natCast, set_self ms k x HEL.out] at hN3
   have hN4 : Kd.N k64 64 (w2.setCell ⟨g, k * 2 + 1, none⟩ (.slice cA x.f1.length cc)) w.heap.size (fun _ => True) (.slice (some ⟨g, 0, none⟩) ms.length co) ms := hN3
   have hT4 := HT2.out.store (A := cA) (c := cc) hlt (by rw [HXX.out]; exact z1b w2 _ x (Kd.R_reads' HCV.out).2.1 (Kd.F_mono (Kd.R_F (Kd.R_mono (Kd.R_bound HCV.out) (fun q hq => hq.2.1))) (fun q hq => ⟨Nat.le_trans HB.out.size hq, fun e => by have := HG2.out; omega⟩))) (by rw [HXX.out]; exact HC2.out 0 _ rfl) ⟨_, hx2⟩ hz2
   rw [HXX.out] at hT4
   have HN4 := Aside0.mk hN4
   have HT4 := Aside0.mk hT4
   have HB4 := Aside0.mk (HB2.out.setCell (p := ⟨g, k * 2 + 1, none⟩) hg1 (.slice cA x.f1.length cc))
   clear hN3 hG3 hN4 hT4 hx2 hz2 hx1 hz1
   go_wp2
   go_roundw
   case rel => exact ⟨k + 1, by omega, by go_num, ⟨HN4.out⟩, ⟨fun g' hg' => by obtain rfl : g = g' := (by simpa [Value.ownBlock] using hg'); exact HT4.out⟩, ⟨HB4.out⟩⟩
   case measure => simp [intOf]; omega
  ·obtain rfl : k = ms.length := by omega
   go_wp2
   go_ret
   refine ⟨_, rfl, ?_, HB.out⟩
   by_cases h0 : 0 < ms.length
   ·obtain ⟨g, cap, e, hg1, hg2, -⟩ := Kd.N_form HN.out h0
    injection e with e1 e2 e3
    subst e1 e3
    exact N_tight z64 HN.out hg1 fun j hj c hcl hcc => HT.out g (by simp [Value.ownBlock]) j hj c hcl hcc
   ·have hm0 : ms = [] := List.length_eq_zero_iff.1 (by omega)
    obtain ⟨h1, rows, h2, h3, h4⟩ := HN.out
    subst hm0
    refine ⟨fun q hq => Kd.N_base HN.out q hq, rows, h2, h3, fun j x c hx => by simp at hx⟩
structure Turned (g : Nat) (w w' : World) : Prop where
 below : Below g w w'
 keep : KeepBut w w' g none
theorem Turned.of_below {g : Nat} {w w' : World} (h : Below w.heap.size w w') (hg : g < w.heap.size) : Turned g w w' := ⟨h.mono (Nat.le_of_lt hg), ⟨h.size, fun i hi _ _ => h.block i hi⟩⟩
theorem Turned.refl (g : Nat) (w : World) : Turned g w w := ⟨Below.refl _ _, ⟨Nat.le_refl _, fun _ _ _ _ => rfl⟩⟩
theorem Turned.size {g : Nat} {w w' : World} (h : Turned g w w') : w.heap.size ≤ w'.heap.size := h.keep.1
theorem Turned.trans {g : Nat} {w w1 w2 : World} (h : Turned g w w1) (h2 : Turned g w1 w2) : Turned g w w2 :=
 ⟨h.below.trans h2.below, ⟨Nat.le_trans h.keep.1 h2.keep.1, fun i hi hn hr => by rw [h2.keep.2 i (by have := h.keep.1; omega) hn hr, h.keep.2 i hi hn hr]⟩⟩
theorem Turned.set {g : Nat} {w w' : World} (h : Turned g w w') (j : Nat) (u : Value) : Turned g w (w'.setCell ⟨g, j, none⟩ u) :=
 h.trans ⟨(Below.refl g w').setCell (p := ⟨g, j, none⟩) (Nat.le_refl _) u, ⟨by simp, fun i hi hn _ => Below.heap_setCell w' ⟨g, j, none⟩ u i hn⟩⟩
theorem Turned.F {α : Type} {d : Kd α} {g : Nat} {ok : Nat → Prop} {w w' : World} {A : Option Addr} {n : Nat} {xs : List α} (h : Turned g w w') (hok : ∀ k, ok k → k ≠ g) (hF : Kd.F d w ok A n xs) : Kd.F d w' ok A n xs :=
 Kd.F_step hF fun k hk hlt => h.keep.2 k hlt (hok k hk) (by simp)
theorem Turned.N {α : Type} {d : Kd α} {g e base : Nat} {ok : Nat → Prop} {w w' : World} {v : Value} {xs : List α} (h : Turned g w w') (hok : ∀ k, ok k → k ≠ g) (hN : Kd.N d e w base ok v xs) : Kd.N d e w' base ok v xs :=
 Kd.N_step hN fun k hk hlt => h.keep.2 k hlt (hok k hk) (by simp)
def okA (g : Nat) (P : Value) (k : Nat) : Prop := k ≠ g ∧ some k ≠ P.ownBlock
theorem Turned.blk {g h : Nat} {w w' : World} {o : Obj} (ht : Turned g w w') (hn : h ≠ g) (hb : w.heap[h]? = some o) : w'.heap[h]? = some o := (ht.keep.2 h (z0w hb) hn (by simp)).trans hb
def AccL (w : World) (g : Nat) (P : Value) (l : List S64) : Prop := ∃ A c, w.heap[g]? = some (.cells #[P, .slice A l.length c] 102 (0, 0)) ∧ l.length ≤ c ∧ Kd.F k64 w (okA g P) A l.length l
theorem AccL.below {w w' : World} {g : Nat} {P : Value} {l : List S64} (h : AccL w g P l) (hb : Below w.heap.size w w') : AccL w' g P l := by
 obtain ⟨A, c, h1, h2, h3⟩ := h
 exact ⟨A, c, z0g h1 hb, h2, Kd.F_below h3 hb⟩
theorem AccL.lt {w : World} {g : Nat} {P : Value} {l : List S64} (h : AccL w g P l) : g < w.heap.size := by
 obtain ⟨A, c, h1, _⟩ := h
 exact z0w h1
theorem AccL.put {w : World} {g : Nat} {P : Value} {l l' : List S64} {A : Option Addr} {c base : Nat} {ok : Nat → Prop} (h : AccL w g P l) (hN : Kd.N k64 64 w base ok (.slice A l'.length c) l') (hok : ∀ k, ok k → okA g P k) : AccL (w.setCell ⟨g, 1, none⟩ (.slice A l'.length c)) g P l' := by
 obtain ⟨A0, c0, h1, _, _⟩ := h
 have hF := Kd.N_F hN
 exact ⟨A, c, z0k h1 1 _ rfl, (Kd.N_reads' hN).2.1, Kd.F_far (Kd.F_mono hF hok) (fun k hk => hk.1) _⟩
set_option maxRecDepth 100000 in
set_option maxHeartbeats 1000000 in
theorem cloneFreedF (l : List S64) (A : Option Addr) (c : Nat) (w : World) (ok : Nat → Prop) (hF : Kd.F k64 w ok A l.length l) (hg : ∀ k, w.heap.size ≤ k → ok k) (hn : l.length * 32 ≤ 140737488355328) :
  Calls Tryz.prog 98 #[.slice A l.length c] w fun e w' => ∃ v, e = .returned v ∧ Kd.N k64 64 w' w.heap.size ok v l ∧ Below w.heap.size w w' := by
 cases A with
 | none =>
  obtain rfl := z4s (Kd.F_now hF)
  refine (Tryz.slices_Clone98_nil _ _ w).mono ?_
  rintro e w' ⟨rfl, rfl⟩
  exact ⟨_, rfl, Kd.N_nil _ _ _ _ _, Below.refl _ _⟩
 | some ad =>
  have hF2 := Kd.F_below (Kd.F_bound hF) (z0i w (.cells #[] 64))
  have hz := Kd.R_N (Kd.R_mono (ok' := ok) (Kd.R_bound (R_z k64 64 w)) (fun k hk => hg k hk.2.1))
  have hne : ∀ k, (ok k ∧ k < w.heap.size) → ok k ∧ some k ≠ (Value.slice (some ⟨w.heap.size, 0, none⟩) 0 0).ownBlock := fun k hk => ⟨hk.1, fun e => by have := hk.2; simp [Value.ownBlock] at e; omega⟩
  have hsz : w.heap.size ≤ (w.alloc (.cells #[] 64)).heap.size := by simp
  have hfr : ∀ k, (w.alloc (.cells #[] 64)).heap.size ≤ k → ok k := fun k hk => hg k (by simp at hk; omega)
  have hn2 : (([] : List S64).length + l.length) * 32 ≤ 140737488355328 := by simpa using hn
  have q : ∀ (w : World) (n c : Nat), (binOp .eql 26 (.slice (some ad) n c) (.slice none 0 0)).run Tryz.prog w = .ok (.bool false) w := fun w n c => Lib.run_eql_slice_nil w 26 64 (some ad) n c 0 0 Tryz.underlying26
  go_enter Tryz.func98, Tryz.ntmps98
  go_wp2_with (at_builtin; go_loud (refine Kd.N_append_rows k64 (w0 := w) w.heap.size rfl _ _ 26 64 (.agg #[.int .i64 0, .slice none 0 0]) 32 rfl Tryz.underlying26 info64 rfl (by decide) (by decide) _ _ l (some ad) l.length c ok (fun k => ok k ∧ k < w.heap.size) rfl rfl hz hF2 hne hfr (z0i w _) hsz hn2 ?_))
  intro v1 w1 hN hb hg hat
  go_wp2
  go_ret
  exact ⟨_, rfl, hN, hb⟩
set_option maxRecDepth 100000 in
set_option maxHeartbeats 1000000 in
theorem z6j (l : List S64) (g : Nat) (P : Value) (w : World) (hA : AccL w g P l) (h0 : l = [] ∨ (rd_T64 l 0).f0 ≠ 0) :
  Calls Tryz.prog 99 #[.pointer (some ⟨g, 1, none⟩)] w fun e w' => e = .returned (.tuple #[.int .i64 0, .bool false]) ∧ w = w' := by
 obtain ⟨A, c, hb, hc, hF⟩ := hA
 have hx0 : w.cell? ⟨g, 1, none⟩ = some (.slice A l.length c) := (z0a hb 1).trans rfl
 cases l with
 | nil =>
  clear hF
  go_enter Tryz.func99, Tryz.ntmps99
  go_wp2
  go_ret2
  exact ⟨rfl, rfl⟩
 | cons x t =>
  have hne : (rd_T64 (x :: t) 0).f0 ≠ 0 := h0.resolve_left (by simp)
  obtain ⟨ad, A1, c1, rfl, hx1, hx2, hl1, hC1⟩ := z0n (Kd.F_now hF) 0 (by omega) (by simp)
  rw [show ad.add ((0 : Int).toNat * 2) = ad from z09 ad] at hx1
  obtain ⟨v, hv⟩ : ∃ v, (rd_T64 (x :: t) 0).f0 = v := ⟨_, rfl⟩
  rw [hv] at hx1 hne
  have hn2 : (v != 0) = true := bne_iff_ne.2 hne
  have hp : 0 < (x :: t).length := by simp
  obtain ⟨n, hn⟩ : ∃ n, (x :: t).length = n := ⟨_, rfl⟩
  rw [hn] at hx0 hp hc
  have hp2 : ((n : Int) == 0) = false := by simp; omega
  clear hF hC1 h0 hne hx2 hn hv hb
  go_enter Tryz.func99, Tryz.ntmps99
  go_wp2
  go_ret2
  exact ⟨rfl, rfl⟩
theorem Turned.far {g h : Nat} {w w' : World} (ht : Turned g w w') (hh : w.heap.size ≤ h) (hg : g < w.heap.size) (j : Nat) (u : Value) : Turned g w (w'.setCell ⟨h, j, none⟩ u) :=
 ⟨ht.below.setCell (p := ⟨h, j, none⟩) (by show g ≤ h; omega) u, ⟨by rw [World.size_setCell]; exact ht.keep.1, fun i hi hn hr => by rw [Below.heap_setCell w' ⟨h, j, none⟩ u i (by show i ≠ h; omega)]; exact ht.keep.2 i hi hn hr⟩⟩
theorem Turned.drew {g : Nat} {w w' : World} (ht : Turned g w w') : Turned g w w'.drew := ⟨z0e ht.below, ht.keep⟩
def restL (ps : List Int) (t : List S64) : List S64 := if ps = [] then t else ⟨0, ps⟩ :: t
def failE (e : Int) : PanicEntry := { v := .iface 166 (.agg #[.int .i64 e]), recovered := false }
theorem z3i (e : Int) (w : World) : Calls Tryz.prog 45 #[.bool true, .int .i64 e] w fun r w' => r = .returned (.tuple #[]) ∧ w = w' := by
 go_enter Tryz.func45, Tryz.ntmps45
 go_wp2
 go_end0
 simp
theorem z19 (e : Int) (w : World) : Calls Tryz.prog 45 #[.bool false, .int .i64 e] w fun r w' => r = .panicked [failE e] ∧ w = w' := by
 go_enter Tryz.func45, Tryz.ntmps45
 go_wp2
 exact ⟨rfl, rfl, rfl⟩
theorem z3j (w : World) : Calls Tryz.prog 53 #[.int .i64 0] w fun r w' => r = .returned (.tuple #[]) ∧ w = w' := by
 go_enter Tryz.func53, Tryz.ntmps53
 go_wp2
 go_end0
 simp
theorem z35 (p : Addr) (f : Fn) (first cap : Array Value) (w : World) :
  CallsD Tryz.prog 43 #[.pointer (some p), .func f first cap] .returning w fun e u' w' => e = .returned (.tuple #[]) ∧ u' = .returning ∧ w' = w := by
 refine callsD_of_wpS Tryz.func43 rfl fun c₀ cs hu => ?_
 apply wpS_seq
 apply wpS_region
 simp [wpOpsS, go_sem, recoverD, hu, Tryz.ntmps43, Exit.thenS]
 apply wpS_seq
 apply wpS_region
 simp [wpOpsS, go_sem, hu, Tryz.ntmps43, Exit.thenS]
 refine wpS_cond (t := false) (by simp [Act.eval, Array.replicate]) ?_
 simp only [Bool.false_eq_true, if_false]
 refine wpS_of_wp (wp_skip ?_)
 cases c₀
 simp_all [bodyPostS, results, Tryz.results43]
theorem assert43 (v : Value) (w : World) : (Instr.typeAssert (.iface 166 v) 20 166 true).run Tryz.prog w = .ok (.tuple #[v, .bool true]) w := by kernel_rfl
theorem fr43 (a b x t u : Value) : #[a, b] ++ ((((Array.replicate 22 u).setIfInBounds 5 x).setIfInBounds 2 x).setIfInBounds 6 x).setIfInBounds 7 t = #[a, b, u, u, x, u, u, x, x, t, u, u, u, u, u, u, u, u, u, u, u, u, u, u] := by kernel_rfl
set_option maxHeartbeats 2000000 in
theorem caught_93 (p : Addr) (q0 : Addr) (n x : Int) (older : List PanicEntry) (w : World) (Q : World → Prop)
  (hR : Calls Tryz.prog 93 #[.pointer (some q0)] (w.alloc (.cells #[.int .i64 n] 166)) fun e w' => e = .returned (.tuple #[]) ∧ w'.cell? ⟨w.heap.size, 0, none⟩ = some (.int .i64 n) ∧ w'.cell? p = some (.int .i64 x) ∧ w'.frozen? p = false ∧ Q (w'.setCell p (.int .i64 n))) :
  CallsD Tryz.prog 43 #[.pointer (some p), .func (.func 93) #[] #[.pointer (some q0)]] (.panicking (failE n :: older)) w fun e u' w' => e = .returned (.tuple #[]) ∧ u' = .panicking ({ failE n with recovered := true } :: older) ∧ Q w' := by
 have HR := Lib.hid hR
 clear hR
 refine callsD_of_wpS Tryz.func43 rfl fun c₀ cs hu => ?_
 unfold failE at hu ⊢
 apply wpS_seq
 apply wpS_region
 simp [wpOpsS, go_sem, recoverD, hu, Tryz.ntmps43, Exit.thenS]
 apply wpS_seq
 apply wpS_region
 simp [wpOpsS, go_sem, hu, Tryz.ntmps43, Exit.thenS]
 refine wpS_cond (t := true) (by simp [Act.eval, Array.replicate]) ?_
 simp only [if_true]
 apply wpS_of_wp
 refine Code.wp_mono (Q := fun e a w' => e = Exit.normal ∧ a.defers = [] ∧ Q w') ?_ ?_
 ·rintro e a w' ⟨rfl, ha, hq⟩
  refine ⟨ha, _, rfl, .tuple #[], ?_, rfl, rfl, hq⟩
  simp [results, Tryz.results43]
 clear hu
 rw [fr43]
 obtain ⟨u, hu⟩ : ∃ u, undef = u := ⟨_, rfl⟩
 rw [hu]
 clear hu
 have hta := assert43
 go_upto_region 5 with (fail)
 clear hta
 go_wp2_with (go_at_call 93; refine HR.out.mono ?_; rintro e w' ⟨rfl, hc, hp, hz, hq⟩)
 exact hq
set_option maxHeartbeats 2000000 in
theorem caught_44 (p : Addr) (q0 q1 q2 : Addr) (n x : Int) (older : List PanicEntry) (w : World) (Q : World → Prop)
  (hR : Calls Tryz.prog 44 #[.pointer (some q0), .pointer (some q1), .pointer (some q2)] (w.alloc (.cells #[.int .i64 n] 166)) fun e w' => e = .returned (.tuple #[]) ∧ w'.cell? ⟨w.heap.size, 0, none⟩ = some (.int .i64 n) ∧ w'.cell? p = some (.int .i64 x) ∧ w'.frozen? p = false ∧ Q (w'.setCell p (.int .i64 n))) :
  CallsD Tryz.prog 43 #[.pointer (some p), .func (.func 44) #[] #[.pointer (some q0), .pointer (some q1), .pointer (some q2)]] (.panicking (failE n :: older)) w fun e u' w' => e = .returned (.tuple #[]) ∧ u' = .panicking ({ failE n with recovered := true } :: older) ∧ Q w' := by
 have HR := Lib.hid hR
 clear hR
 refine callsD_of_wpS Tryz.func43 rfl fun c₀ cs hu => ?_
 unfold failE at hu ⊢
 apply wpS_seq
 apply wpS_region
 simp [wpOpsS, go_sem, recoverD, hu, Tryz.ntmps43, Exit.thenS]
 apply wpS_seq
 apply wpS_region
 simp [wpOpsS, go_sem, hu, Tryz.ntmps43, Exit.thenS]
 refine wpS_cond (t := true) (by simp [Act.eval, Array.replicate]) ?_
 simp only [if_true]
 apply wpS_of_wp
 refine Code.wp_mono (Q := fun e a w' => e = Exit.normal ∧ a.defers = [] ∧ Q w') ?_ ?_
 ·rintro e a w' ⟨rfl, ha, hq⟩
  refine ⟨ha, _, rfl, .tuple #[], ?_, rfl, rfl, hq⟩
  simp [results, Tryz.results43]
 clear hu
 rw [fr43]
 obtain ⟨u, hu⟩ : ∃ u, undef = u := ⟨_, rfl⟩
 rw [hu]
 clear hu
 have hta := assert43
 go_upto_region 5 with (fail)
 clear hta
 go_wp2_with (go_at_call 44; refine HR.out.mono ?_; rintro e w' ⟨rfl, hc, hp, hz, hq⟩)
 exact hq
structure TurnedP (g base : Nat) (P P' : Value) (w w' : World) : Prop where
 below : Below base w w'
 keep : w.heap.size ≤ w'.heap.size ∧ ∀ i, i < w.heap.size → okA g P i → w'.heap[i]? = w.heap[i]?
 own : P'.ownBlock = P.ownBlock ∨ ∃ b, P'.ownBlock = some b ∧ w.heap.size ≤ b
theorem Turned.P {g base : Nat} {P : Value} {w w' : World} (h : Turned g w w') (hb : base ≤ g) : TurnedP g base P P w w' :=
 ⟨h.below.mono hb, ⟨h.keep.1, fun i hi hk => h.keep.2 i hi hk.1 (by simp)⟩, .inl rfl⟩
set_option maxRecDepth 100000 in
set_option maxHeartbeats 400000 in
theorem take_full (l : List S64) (g : Nat) (P : Value) (pg : List S89) (base : Nat) (w : World) (hA : AccL w g P l) (h0 : l = [] ∨ (rd_T64 l 0).f0 ≠ 0) (hN : Kd.N k89 89 w base (fun k => k ≠ g) P pg) (hm : ¬ pg.length < 4096) (hm2 : pg.length ≤ 1000000) :
  Calls Tryz.prog 54 #[.pointer (some ⟨g, 0, none⟩)] w fun e w' => e = .panicked [failE 7] ∧ w = w' := by
 have HL := Lib.hid (z6j l g P w hA h0)
 obtain ⟨PA, pc, rfl⟩ := Kd.N_slice hN
 obtain ⟨A, c, hb, hc, hF⟩ := hA
 have hx0 : w.cell? ⟨g, 0, none⟩ = some (.slice PA pg.length pc) := (z0a hb 0).trans rfl
 have HD := Lib.hid (show decide ((pg.length : Int) < 4096) = false from decide_eq_false (by omega))
 clear hF hN hb h0
 go_enter Tryz.func54, Tryz.ntmps54
 go_wp2_with (first | (go_at_call 99; (refine HL.out.mono ?_); rintro e w1 ⟨rfl, rfl⟩) | (go_at_call 45; rw [HD.out]; refine (z19 _ _).mono ?_; rintro e w' ⟨rfl, rfl⟩))
 exact ⟨rfl, rfl, rfl⟩
end Go.Proofs.YtpnhelcemodnmaaGreat
namespace Go.Proofs.YtpnhelcemodnmaaGreat
open Go.RowKit Go.Shelf Go.Proofs.YtpnhelcemodnmaaGreatW.PrintWords Go.Proofs.YtpnhelcemodnmaaGreatW.PrintLast Go.Proofs.YtpnhelcemodnmaaGreatW.PrintMore PA
set_option linter.unusedVariables false
set_option linter.unusedSimpArgs false
attribute [local go_sem] Oper.semAt_some
def okX (X : Nat → Prop) (g : Nat) (P : Value) (k : Nat) : Prop := okA g P k ∧ X k
def AccX (X : Nat → Prop) (w : World) (g : Nat) (P : Value) (l : List S64) : Prop := ∃ A c, w.heap[g]? = some (.cells #[P, .slice A l.length c] 102 (0, 0)) ∧ l.length ≤ c ∧ Kd.F k64 w (okX X g P) A l.length l
theorem AccX.acc {X : Nat → Prop} {w : World} {g : Nat} {P : Value} {l : List S64} (h : AccX X w g P l) : AccL w g P l := by
 obtain ⟨A, c, h1, h2, h3⟩ := h
 exact ⟨A, c, h1, h2, Kd.F_mono h3 (fun k hk => hk.1)⟩
theorem AccL.x {X : Nat → Prop} {w : World} {g : Nat} {P : Value} {l : List S64} (h : AccL w g P l) (hX : ∀ k, k < w.heap.size → X k) : AccX X w g P l := by
 obtain ⟨A, c, h1, h2, h3⟩ := h
 exact ⟨A, c, h1, h2, Kd.F_mono (Kd.F_bound h3) (fun k hk => ⟨hk.1, hX k hk.2⟩)⟩
theorem AccX.below {X : Nat → Prop} {w w' : World} {g : Nat} {P : Value} {l : List S64} (h : AccX X w g P l) (hb : Below w.heap.size w w') : AccX X w' g P l := by
 obtain ⟨A, c, h1, h2, h3⟩ := h
 exact ⟨A, c, z0g h1 hb, h2, Kd.F_below h3 hb⟩
theorem AccX.lt {X : Nat → Prop} {w : World} {g : Nat} {P : Value} {l : List S64} (h : AccX X w g P l) : g < w.heap.size := h.acc.lt
theorem AccX.put {X : Nat → Prop} {w : World} {g : Nat} {P : Value} {l l' : List S64} {A : Option Addr} {c base : Nat} {ok : Nat → Prop} (h : AccX X w g P l) (hN : Kd.N k64 64 w base ok (.slice A l'.length c) l') (hok : ∀ k, ok k → okX X g P k) : AccX X (w.setCell ⟨g, 1, none⟩ (.slice A l'.length c)) g P l' := by
 obtain ⟨A0, c0, h1, _, _⟩ := h
 have hF := Kd.N_F hN
 exact ⟨A, c, z0k h1 1 _ rfl, (Kd.N_reads' hN).2.1, Kd.F_far (Kd.F_mono hF hok) (fun k hk => hk.1.1) _⟩
set_option maxRecDepth 100000 in
set_option maxHeartbeats 2000000 in
theorem z85 (p : Int) (ps : List Int) (t : List S64) (g : Nat) (P : Value) (w : World) (X : Nat → Prop) (hX : ∀ k, w.heap.size ≤ k → X k) (hA : AccX X w g P (⟨0, p :: ps⟩ :: t)) (hP : ∀ k, P.ownBlock = some k → k < w.heap.size) (hs : smallL (⟨0, p :: ps⟩ :: t)) :
  Calls Tryz.prog 99 #[.pointer (some ⟨g, 1, none⟩)] w fun e w' => e = .returned (.tuple #[.int .i64 p, .bool true]) ∧ AccX X w' g P (restL ps t) ∧ Turned g w w' := by
 have hglt := hA.lt
 have HAC := Aside0.mk hA
 obtain ⟨A, c, hb, hc, hF⟩ := hA
 obtain ⟨l, hl⟩ : ∃ l, (⟨0, p :: ps⟩ :: t : List S64) = l := ⟨_, rfl⟩
 have hr0 : rd_T64 l 0 = ⟨0, p :: ps⟩ := by rw [← hl]; rfl
 have hpos : 0 < l.length := by rw [← hl]; simp
 rw [hl] at hb hc hF hs HAC
 have hx0 : w.cell? ⟨g, 1, none⟩ = some (.slice A l.length c) := (z0a hb 1).trans rfl
 have hz0 := z0d hb 1
 obtain ⟨ad, A1, c1, rfl, hx1, hx2, hl1, hC1⟩ := z0n (Kd.F_now hF) 0 (by omega) (by omega)
 rw [show ad.add ((0 : Int).toNat * 2) = ad from z09 ad] at hx1 hx2
 rw [hr0] at hx1 hx2 hl1 hC1
 obtain ⟨bd, rfl, hx3⟩ := Kd.at_int hC1 0 (by omega) (by simp)
 rw [show bd.add (0 : Int).toNat = bd from z09 bd] at hx3
 replace hx3 : w.cell? bd = some (.int .i64 p) := hx3
 replace hx1 : w.cell? ad = some (.int .i64 0) := hx1
 obtain ⟨m, hm⟩ : ∃ m, (p :: ps).length = m := ⟨_, rfl⟩
 have hmp : 0 < m := by rw [← hm]; simp
 have HCL := Lib.hid (fun (w1 : World) (hb1 : Below w.heap.size w w1) => cloneFreedF l (some ad) c w1 (okX X g P) (Kd.F_below hF hb1) (fun k hk => ⟨⟨fun e => by have := hb1.size; omega, fun e => by have := hP k e.symm; have := hb1.size; omega⟩, hX k (by have := hb1.size; omega)⟩) (by have := hs.1; omega))
 rw [show ((⟨0, p :: ps⟩ : S64).f1.length) = m from hm] at hx2
 have hn0 : ((l.length : Int) == 0) = false := beq_eq_false_iff_ne.2 (by omega)
 have HG := Aside0.mk hglt
 have HLL := Lib.hid hl
 have HR0 := Lib.hid hr0
 have HMM := Lib.hid hm
 clear hC1 hl1 hr0 hm hF hs hb hl
 obtain ⟨n, hn⟩ : ∃ n, l.length = n := ⟨_, rfl⟩
 have HNN := Lib.hid hn
 rw [hn] at hc hpos hx0 HCL hn0
 clear hn
 go_enter Tryz.func99, Tryz.ntmps99
 go_upto_region 5 with (go_at_call 98; (refine (HCL.out _ (Below.refl _ _)).mono ?_); rintro e w1 ⟨v, rfl, hv, hb1⟩; obtain ⟨vA, vc, rfl⟩ := Kd.N_slice hv; have HV := Aside0.mk hv; have HB1 := Aside0.mk hb1; have HA1 := Aside0.mk (HAC.out.below hb1); have hx4 := cellB hb1 (Nat.le_refl _) hx0; have hz4 : w1.frozen? ⟨g, 1, none⟩ = false := (by obtain ⟨A9, c9, hb9, _⟩ := HAC.out.below hb1; exact z0d hb9 1); clear hv hb1)
 rw [HNN.out] at HV
 obtain ⟨h, vc', hve, hbh, hhs, _⟩ := Kd.N_form HV.out (by rw [HNN.out]; exact hpos)
 rw [HNN.out] at hve ⊢
 injection hve with e1 _ e2
 subst e1 e2
 have hhg : h ≠ g := by have := HG.out; omega
 have hb2 : (w1.setCell ⟨g, 1, none⟩ (.slice (some ⟨h, 0, none⟩) n vc)).heap[g]? = some (.cells #[P, .slice (some ⟨h, 0, none⟩) n vc] 102 (0, 0)) := by
  obtain ⟨A9, c9, hb9, _⟩ := HA1.out
  exact z0k hb9 1 _ rfl
 have HV2 := Aside0.mk (Kd.N_far HV.out (p := ⟨g, 1, none⟩) (fun k hk => hk.1.1) (.slice (some ⟨h, 0, none⟩) n vc))
 have HA2 := Aside0.mk (AccX.put HA1.out (by rw [HNN.out]; exact HV.out) (fun k hk => hk))
 have HT2 := Aside0.mk ((Turned.of_below HB1.out HG.out).set 1 (.slice (some ⟨h, 0, none⟩) n vc))
 have hy0 : (w1.setCell ⟨g, 1, none⟩ (.slice (some ⟨h, 0, none⟩) n vc)).cell? ⟨g, 1, none⟩ = some (.slice (some ⟨h, 0, none⟩) n vc) := World.cell?_setCell_same _ _ _ hx4
 obtain ⟨W2, hW2⟩ : ∃ W2, w1.setCell ⟨g, 1, none⟩ (.slice (some ⟨h, 0, none⟩) n vc) = W2 := ⟨_, rfl⟩
 rw [HNN.out] at HA2
 rw [hW2] at HV2 HA2 HT2 hy0 hb2 ⊢
 obtain ⟨cs, hcl, hFK, hcc, hfr⟩ := Kd.N_elem HV2.out z64 (0 : Int) (by omega) (by omega)
 rw [show l.getD (0 : Int).toNat z64 = rd_T64 l 0 from rfl, HR0.out] at hFK
 obtain ⟨A5, c5, rfl, hl5, hF5⟩ := z2n hFK
 have hy1 : W2.cell? ⟨h, 1, none⟩ = some (.slice A5 m c5) := HMM.out ▸ hcc 1 _ rfl
 have hz5 : W2.frozen? ⟨h, 1, none⟩ = false := hfr 1
 have hmc : m ≤ c5 := HMM.out ▸ hl5
 have h1m : (1 : Int) ≤ (m : Int) := by omega
 have h0n : (0 : Int) < (n : Int) := by omega
 have HCC := Aside0.mk hcc
 have HL5 := Aside0.mk hl5
 have HF5 := Aside0.mk hF5
 clear hcl hFK hcc hfr hl5 hF5 hx0 hx1 hx2 hx3 hx4 hz4 hz0 hW2
 go_region
 have hA6 : (if c5 = 1 then A5 else Option.map (fun x : Addr => (⟨x.block, x.off + 1, none⟩ : Addr)) A5) = (if c5 = 1 then A5 else A5.map (·.add (1 * 1))) := rfl
 have hF6 := F_rest (m := 1) HF5.out (by simp) HL5.out
 rw [← hA6] at hF6
 obtain ⟨A6, hA6e⟩ : ∃ A6, (if c5 = 1 then A5 else Option.map (fun x : Addr => (⟨x.block, x.off + 1, none⟩ : Addr)) A5) = A6 := ⟨_, rfl⟩
 rw [hA6e] at hF6 ⊢
 clear hA6 hA6e
 have hml : m - 1 = ps.length := by rw [← HMM.out]; simp
 rw [hml]
 obtain ⟨hN3, hG3⟩ := Kd.N_seg HV2.out (0 : Int) (by omega) h0n (c := [.int .i64 0, .slice A5 (p :: ps).length c5]) (seg := [.slice A6 ps.length (c5 - 1)]) (j := 1) rfl HCC.out (Nat.le_refl 2) (x' := (⟨0, ps⟩ : S64)) (z1b W2 _ (⟨0, ps⟩ : S64) (by show ps.length ≤ c5 - 1; omega) hF6) (fun k hk => hk)
 have hls : l.set (0 : Int).toNat (⟨0, ps⟩ : S64) = ⟨0, ps⟩ :: t := by rw [← HLL.out]; rfl
 rw [hls] at hN3
 have hN4 : Kd.N k64 64 (W2.setCell ⟨h, 1, none⟩ (.slice A6 ps.length (c5 - 1))).drew w.heap.size (okX X g P) (.slice (some ⟨h, 0, none⟩) n vc) (⟨0, ps⟩ :: t) := Kd.N_drew hN3
 have hy0' : (W2.setCell ⟨h, 1, none⟩ (.slice A6 ps.length (c5 - 1))).drew.cell? ⟨g, 1, none⟩ = some (.slice (some ⟨h, 0, none⟩) n vc) := by
  have := World.cell?_setCell_other W2 ⟨h, 1, none⟩ ⟨g, 1, none⟩ (.slice A6 ps.length (c5 - 1)) (by simp [hhg])
  exact this.trans hy0
 have hy1' : (W2.setCell ⟨h, 1, none⟩ (.slice A6 ps.length (c5 - 1))).drew.cell? ⟨h, 1, none⟩ = some (.slice A6 ps.length (c5 - 1)) := World.cell?_setCell_same _ _ _ hy1
 have hz6 : (W2.setCell ⟨h, 1, none⟩ (.slice A6 ps.length (c5 - 1))).drew.frozen? ⟨g, 1, none⟩ = false := z0d (z0x (z0v hb2 (p := ⟨h, 1, none⟩) (Ne.symm hhg) _)) 1
 have hb3 := z0x (z0v hb2 (p := ⟨h, 1, none⟩) (Ne.symm hhg) (.slice A6 ps.length (c5 - 1)))
 have hT3 := (HT2.out.far hbh HG.out 1 (.slice A6 ps.length (c5 - 1))).drew
 obtain ⟨W3, hW3⟩ : ∃ W3, (W2.setCell ⟨h, 1, none⟩ (.slice A6 ps.length (c5 - 1))).drew = W3 := ⟨_, rfl⟩
 rw [hW3] at hN4 hy0' hy1' hz6 hb3 hT3 ⊢
 have hnl : n = (⟨0, ps⟩ :: t : List S64).length := (Kd.N_reads' hN4).1
 have hnv := (Kd.N_reads' hN4).2.1
 have HN4 := Aside0.mk hN4
 have HB3 := Aside0.mk hb3
 have HT3 := Aside0.mk hT3
 have HNL := Lib.hid hnl
 clear hN3 hG3 hls hW3 hml hN4 hb3 hT3 hnl hy0 hy1 hb2 hF6 h1m
 have hy1b : W3.cell? ⟨h, 1, none⟩ = some (.slice A6 ps.length (c5 - 1)) := hy1'
 by_cases h0 : ps = []
 ·have hr : restL ps t = t := if_pos h0
  have HR := Lib.hid hr
  have hp0 : ((ps.length : Int) == 0) = true := by rw [h0]; rfl
  have h1n : 1 ≤ n := hpos
  have h1v : 1 ≤ vc := by omega
  clear hr h0
  have htl : n - 1 = t.length := by rw [HNL.out]; simp
  have HTL := Lib.hid htl
  by_cases hv1 : vc = 1
  ·have hnn : n = 1 := by omega
   have htn : t = [] := List.length_eq_zero_iff.1 (by omega)
   have HTN := Lib.hid htn
   subst hv1 hnn
   clear htl htn
   go_wp2
   go_ret2
   rw [HR.out]
   have hb4 := z0k HB3.out 1 (.slice (some ⟨h, 0, none⟩) 0 0) rfl
   refine ⟨rfl, ⟨some ⟨h, 0, none⟩, 0, ?_, ?_, ?_⟩, HT3.out.set 1 _⟩
   ·rw [HTN.out]; exact hb4
   ·rw [HTN.out]; simp
   ·rw [HTN.out]; exact fun W2 hW2 => ⟨rfl, Nat.zero_le _, fun h => absurd h (Nat.lt_irrefl 0)⟩
  ·clear htl
   go_wp2
   go_ret2
   rw [HR.out, HTL.out]
   have hb4 := z0k HB3.out 1 (.slice (some ⟨h, 2, none⟩) t.length (vc - 1)) rfl
   have hF4 := Kd.N_F HN4.out
   rw [HNL.out] at hF4
   have hF5 := F_drop (m := 1) hF4 (by simp) (by rw [← HNL.out]; exact hnv) (by omega)
   refine ⟨rfl, ⟨_, _, hb4, by rw [← HTL.out]; omega, ?_⟩, HT3.out.set 1 _⟩
   exact Kd.F_far (show Kd.F k64 W3 (okX X g P) (some ⟨h, 2, none⟩) t.length t from hF5) (fun k hk => hk.1.1) _
 ·have hr : restL ps t = ⟨0, ps⟩ :: t := if_neg h0
  have HR := Lib.hid hr
  have hlp : 0 < ps.length := List.length_pos_iff.2 h0
  have hp0 : ((ps.length : Int) == 0) = false := beq_eq_false_iff_ne.2 (by omega)
  clear hr h0
  go_wp2
  go_ret2
  rw [HR.out]
  exact ⟨rfl, ⟨_, _, HNL.out ▸ HB3.out, by rw [← HNL.out]; exact hnv, by have := Kd.N_F HN4.out; rw [HNL.out] at this; exact this⟩, HT3.out⟩
set_option maxRecDepth 100000 in
set_option maxHeartbeats 400000 in
theorem takeX_yes (p : Int) (ps : List Int) (t : List S64) (g : Nat) (P : Value) (w : World) (X : Nat → Prop) (hX : ∀ k, w.heap.size ≤ k → X k) (hA : AccX X w g P (⟨0, p :: ps⟩ :: t)) (hP : ∀ k, P.ownBlock = some k → k < w.heap.size) (hs : smallL (⟨0, p :: ps⟩ :: t)) :
  Calls Tryz.prog 54 #[.pointer (some ⟨g, 0, none⟩)] w fun e w' => e = .returned (.int .i64 p) ∧ AccX X w' g P (restL ps t) ∧ Turned g w w' := by
 have HL := Lib.hid (z85 p ps t g P w X hX hA hP hs)
 clear hA
 go_enter Tryz.func54, Tryz.ntmps54
 go_wp2_with (go_at_call 99; (refine HL.out.mono ?_); rintro e w1 ⟨rfl, ha, ht⟩)
 go_ret
 exact ⟨rfl, ha, ht⟩
set_option maxRecDepth 100000 in
set_option maxHeartbeats 400000 in
theorem takeX_new (l : List S64) (g : Nat) (P : Value) (pg : List S89) (base : Nat) (w : World) (X : Nat → Prop) (hX : ∀ k, w.heap.size ≤ k → X k) (hA : AccX X w g P l) (h0 : l = [] ∨ (rd_T64 l 0).f0 ≠ 0) (hN : Kd.N k89 89 w base (fun k => k ≠ g ∧ X k) P pg) (hm : pg.length < 4096) (hbg : base ≤ g) :
  Calls Tryz.prog 54 #[.pointer (some ⟨g, 0, none⟩)] w fun e w' => e = .returned (.int .i64 pg.length) ∧ ∃ P', AccX X w' g P' l ∧ Kd.N k89 89 w' base (fun k => k ≠ g ∧ X k) P' (pg ++ [z89]) ∧ TurnedP g base P P' w w' := by
 have HL := Lib.hid (z6j l g P w hA.acc h0)
 have hglt := hA.lt
 obtain ⟨PA, pc, rfl⟩ := Kd.N_slice hN
 have HAC := Aside0.mk hA
 have HN := Aside0.mk hN
 obtain ⟨A, c, hb, hc, hF⟩ := hA
 have hx0 : w.cell? ⟨g, 0, none⟩ = some (.slice PA pg.length pc) := (z0a hb 0).trans rfl
 have HD := Lib.hid (show decide ((pg.length : Int) < 4096) = true from decide_eq_true (by omega))
 have HG := Aside0.mk hglt
 have HLE := Lib.hid (show (pg ++ [z89]).length = pg.length + 1 by simp)
 have HNE := Aside0.mk (show some g ≠ (Value.slice PA pg.length pc).ownBlock from fun e => (hN.1 g e.symm).1 rfl)
 have HBK := Aside0.mk hb
 have HF := Aside0.mk hF
 have HCC := Aside0.mk hc
 have HFR := Aside0.mk (show ∀ k, w.heap.size ≤ k → k ≠ g ∧ X k from fun k hk => ⟨fun e => by omega, hX k hk⟩)
 have HBB := Aside0.mk (Below.refl base w)
 have HBS := Aside0.mk (show base ≤ w.heap.size by omega)
 have HLN := Aside0.mk (show (pg.length + 1) * 120 ≤ 140737488355328 by omega)
 clear hF hN hb h0
 go_enter Tryz.func54, Tryz.ntmps54
 go_upto_region 5 with (first | (go_at_call 99; (refine HL.out.mono ?_); rintro e w1 ⟨rfl, rfl⟩) | (go_at_call 45; rw [HD.out]; refine (z3i _ _).mono ?_; rintro e w' ⟨rfl, rfl⟩))
 go_wp2_with (at_builtin; refine Kd.N_append k89 (w0 := w) base rfl (.tmp 25) (.tmp 27) 22 89 (.agg (cells89 z89 none 0).toArray) 120 rfl Tryz.underlying22 info89 rfl (by decide) (by decide) (.slice PA pg.length pc) pg z89 [.int .i64 0, .int .i64 0, .int .i64 0, .int .i64 0, .int .i64 0, .bool false, .slice none 0 0, .int .i64 0, .string ⟨#[]⟩, .slice none 0 0] (fun k => k ≠ g ∧ X k) (fun _ => False) rfl rfl zero89F (fun _ h => h.elim) (fun k hk => HFR.out k hk) HN.out HBB.out HBS.out HLN.out ?_; intro P1 w1 hp1 hb1 hg1 hat1; obtain ⟨QA, qc, rfl⟩ := Kd.N_slice hp1; rw [HLE.out] at hp1 hat1 ⊢; have hk1 := (hg1.block g HG.out HNE.out).trans HBK.out; have hy0 := z0a hk1 0; have hz0 := z0d hk1 0)
 go_ret
 refine ⟨by simp, .slice QA (pg.length + 1) qc, ⟨A, c, z0k hk1 0 _ rfl, HCC.out, Kd.F_mono (Kd.F_far (Kd.F_after (Kd.F_mono (ok' := fun k => (k ≠ g ∧ X k) ∧ some k ≠ (Value.slice PA pg.length pc).ownBlock) HF.out (fun k hk => ⟨⟨hk.1.1, hk.2⟩, hk.1.2⟩)) hg1 hat1) (fun k hk => hk.1.1) _) (fun k hk => ⟨⟨hk.1.1, hk.2⟩, hk.1.2⟩)⟩, Kd.N_far hp1 (fun k hk => hk.1) _, ⟨hb1.setCell (p := ⟨g, 0, none⟩) hbg _, ⟨by rw [World.size_setCell]; exact hg1.size, fun i hi hk => by rw [Below.heap_setCell w1 ⟨g, 0, none⟩ _ i hk.1, hg1.block i hi hk.2]⟩, hat1⟩⟩
end Go.Proofs.YtpnhelcemodnmaaGreat
namespace Go.Proofs
open Go.Shelf
def Tryz.laysN10_ren : Go.Shelf.Ren := ⟨fun | 10 => 95 | 6 => 140 | n => n, fun | 22 => 23 | 23 => 3 | 25 => 110 | n => n, fun | n => n⟩
theorem Tryz.laysN10 : Go.Proofs.SlLaysH.n10 Tryz.prog Tryz.laysN10_ren := {
 mixed := by kernel_rfl
 f6 := ⟨Tryz.f140.name, by decide, Tryz.func140.trans (congrArg some (by kernel_rfl))⟩
 f10 := ⟨Tryz.f95.name, by decide, Tryz.func95.trans (congrArg some (by kernel_rfl))⟩
 t0 := Tryz.underlying0
 a0 := Tryz.isAgg0
 z0 := Tryz.sizeOf0
 v0 := Tryz.zeroValue0
 t3 := Tryz.underlying3
 a3 := Tryz.isAgg3
 z3 := Tryz.sizeOf3
 v3 := Tryz.zeroValue3
 t4 := Tryz.underlying4
 a4 := Tryz.isAgg4
 z4 := Tryz.sizeOf4
 v4 := Tryz.zeroValue4
 t22 := Tryz.underlying23
 a22 := Tryz.isAgg23
 z22 := Tryz.sizeOf23
 v22 := Tryz.zeroValue23
 a23 := Tryz.isAgg3
 z23 := Tryz.sizeOf3
 t25 := Tryz.underlying110
 a25 := Tryz.isAgg110
 z25 := Tryz.sizeOf110
 v25 := Tryz.zeroValue110 }
end Go.Proofs
namespace Go.Proofs.YtpnhelcemodnmaaGreat
open Go.RowKit Go.Shelf Go.Proofs.YtpnhelcemodnmaaGreatW.PrintWords Go.Proofs.YtpnhelcemodnmaaGreatW.PrintLast Go.Proofs.YtpnhelcemodnmaaGreatW.PrintMore PA
set_option linter.unusedVariables false
set_option linter.unusedSimpArgs false
attribute [local go_sem] Oper.semAt_some
theorem ge97 (q : Addr) (n x : Int) (w : World) (hq : w.cell? q = some (.int .i64 n)) : FnGives Tryz.prog 97 #[.pointer (some q)] #[.int .i64 x] (.bool (decide (x ≥ n))) w := by
 show Calls Tryz.prog 97 #[.int .i64 x, .pointer (some q)] w _
 go_enter Tryz.func97, Tryz.ntmps97
 go_wp2
 go_ret
 exact ⟨rfl, 0, rfl⟩
theorem delete_R {w : World} {base : Nat} {ok : Nat → Prop} {v : Value} {l : List Int} (q : Addr) (n : Int) (h : (Kd.int .i64).R 3 w base ok v l) (hl : 0 < l.length) (hl2 : l.length ≤ 1000000) (hq : w.cell? q = some (.int .i64 n)) (hqv : some q.block ≠ v.ownBlock) :
  Calls Tryz.prog 95 #[v, .func (.func 97) #[] #[.pointer (some q)]] w fun e w' => ∃ v', e = .returned v' ∧ v'.ownBlock = v.ownBlock ∧ (Kd.int .i64).R 3 w' base ok v' (l.filter fun x => decide (x < n)) ∧ Kept w w' (fun k => some k = v.ownBlock) ∧ Below base w w' := by
 have ho := Kd.own_of_R h
 have hok := h.1
 have hv : v ≠ .slice none 0 0 := by
  rintro rfl
  rcases ho.2 with ⟨_, e⟩ | ⟨g, cap, cur, e, _⟩
  ·cases l with
   | nil => simp at hl
   | cons a t => simp [encs] at e
  ·cases e
 obtain ⟨g, cap, rfl, hbg, hlt, hn, hm, hzl, hH⟩ := Lib.holds_of_ownsRow ho hv
 have hqg : q.block ≠ g := fun e => hqv (by rw [e]; simp [Value.ownBlock])
 have hqs : q.block < w.heap.size := World.block_lt_of_cell? w q hq
 have eg : ∀ args w, (callFunc 97 args).run Tryz.prog w = .ok (.enter 97 args) w := by
  intro args w
  kernel_rfl
 have hflt : (l.toArray.toList.filter fun x => !decide (x ≥ n)) = l.filter fun x => decide (x < n) := by
  refine List.filter_congr fun x _ => ?_
  by_cases hx : x < n <;> simp [hx] <;> omega
 refine (AnyE.slices_DeleteFunc Tryz.laysN10 (Value.int .i64) (fun _ => rfl) (fun x => decide (x ≥ n)) 97 #[.pointer (some q)] eg (0 : Int) (fun w => Tryz.zeroValue3 w) g 0 cap l.toArray w (fun W x hb => ge97 q n x W (hb.cell hqs |>.trans hq)) (fun m os dk x hs => ge97 q n x _ ((cell?_sortWorld_other _ _ _ _ _ _ _ q hqg hqs).trans hq)) hH (by simp; omega) (by simpa using hn)).mono ?_
 rw [hflt]
 rintro e w' ⟨rfl, m, rfl⟩
 obtain ⟨f, hf⟩ : ∃ f, (l.filter fun x => decide (x < n)) = f := ⟨_, rfl⟩
 have hfl : f.length ≤ l.length := by rw [← hf]; exact List.length_filter_le _ _
 rw [hf, show l.toArray.size = l.length from rfl]
 have hup := Lib.ownsRow_putRow (q := m) (k := f.length) (ys := f ++ List.replicate (l.length - f.length) (0 : Int)) ho (by rw [List.length_append, List.length_replicate]; omega) hfl
 rw [List.take_left] at hup
 refine ⟨_, rfl, rfl, Kd.R_of_own hup hok, ⟨?_, fun k hk hne => ?_⟩, Lib.below_putRow (Below.refl base w) hbg⟩
 ·simp [Sort.putRow, Sort.mapBlock, Sort.ahead]
 ·have : g ≠ k := fun e => hne (by subst e; rfl)
  simp [Sort.putRow, Sort.mapBlock, Sort.ahead, Array.getElem?_modify, this]
def keepL (k : Int) (ps : List Int) (t : List S64) : List S64 := restL (ps.filter fun x => decide (x < k)) t
set_option maxRecDepth 100000 in
set_option maxHeartbeats 1000000 in
theorem z6k (l : List S64) (g : Nat) (P : Value) (ver : Int) (ps : List Int) (B : Option Addr) (cb : Nat) (w : World) (X : Nat → Prop) (hX : ∀ k, w.heap.size ≤ k → X k) (hA : AccX X w g P l) (hP : ∀ k, P.ownBlock = some k → k < w.heap.size) (hB : (Kd.int .i64).C w B ps.length ps) (hcb : ps.length ≤ cb) (hs : smallL l) (hp : ps.length ≤ 1000000) :
  Calls Tryz.prog 50 #[.pointer (some ⟨g, 1, none⟩), .int .i64 ver, .slice B ps.length cb] w fun e w' => e = .returned (.tuple #[]) ∧ AccX X w' g P (if ps = [] then l else mergeL l [⟨ver, ps⟩]) ∧ Turned g w w' := by
 by_cases h0 : ps = []
 ·subst h0
  rw [if_pos rfl]
  go_enter Tryz.func50, Tryz.ntmps50
  go_wp2
  go_end0
  exact ⟨rfl, hA, Turned.refl _ _⟩
 ·rw [if_neg h0]
  have hpos : 0 < ps.length := List.length_pos_iff.2 h0
  have hpg : smallL [(⟨ver, ps⟩ : S64)] := ⟨by simp, by rw [z02]; exact hp⟩
  have hglt := hA.lt
  have HAC := Aside0.mk hA
  obtain ⟨A, c, hb, hc, hF⟩ := hA
  have hx0 : w.cell? ⟨g, 1, none⟩ = some (.slice A l.length c) := (z0a hb 1).trans rfl
  have hz0 := z0d hb 1
  obtain ⟨W0, hW0⟩ : ∃ W0, w.alloc (.cells #[.int .i64 ver, .slice B ps.length cb] 64) = W0 := ⟨_, rfl⟩
  have hbl0 : Below w.heap.size w W0 := by rw [← hW0]; exact z0i w _
  have hnb : W0.heap[w.heap.size]? = some (.cells #[.int .i64 ver, .slice B ps.length cb] 64 (0, 0)) := by rw [← hW0]; exact z0l w _
  have hC2 : k64.C W0 (some ⟨w.heap.size, 0, none⟩) [(⟨ver, ps⟩ : S64)].length [⟨ver, ps⟩] := one_row hnb rfl (k64_mk W0 (⟨ver, ps⟩ : S64) hcb (Kd.C_below hB hbl0))
  have HT := Lib.hid (z6i l [⟨ver, ps⟩] A c (some ⟨w.heap.size, 0, none⟩) 1 W0 (Kd.F_now (Kd.F_below hF hbl0)) hc hC2 (by simp) hs hpg)
  have HAW := Aside0.mk (AccX.below HAC.out hbl0)
  have HBL := Aside0.mk hbl0
  have HG := Aside0.mk hglt
  have hl1 : [(⟨ver, ps⟩ : S64)].length = 1 := rfl
  rw [hl1, ← hW0] at HT
  rw [← hW0] at HAW HBL
  clear hW0 hbl0 hnb hC2 hb hF hB hs hpg hglt hl1 h0
  go_enter Tryz.func50, Tryz.ntmps50
  go_wp2_with (go_at_call 56; (refine HT.out.mono ?_); rintro e w1 ⟨v, rfl, hv, hb1⟩; obtain ⟨vA, vc, rfl⟩ := Kd.N_slice hv; have hx1 := cellB (HBL.out.trans (hb1.mono HBL.out.size)) (Nat.le_refl _) hx0; have hz1 : w1.frozen? ⟨g, 1, none⟩ = false := by (obtain ⟨A9, c9, hb9, _⟩ := AccX.below HAW.out hb1; exact z0d hb9 1))
  go_end0
  have hw1 := HBL.out.trans (hb1.mono HBL.out.size)
  exact ⟨rfl, AccX.put (AccX.below HAW.out hb1) hv (fun k hk => ⟨⟨fun e => by have h1 := HG.out; have h2 := HBL.out.size; have h3 : _ ≤ k := hk; omega, fun e => by have h1 := hP k e.symm; have h2 := HBL.out.size; have h3 : _ ≤ k := hk; omega⟩, hX k (by have h2 := HBL.out.size; have h3 : _ ≤ k := hk; omega)⟩), (Turned.of_below hw1 HG.out).set 1 _⟩
set_option maxRecDepth 100000 in
set_option maxHeartbeats 1000000 in
theorem z6l (l : List S64) (g : Nat) (P : Value) (k : Int) (w : World) (X : Nat → Prop) (hX : ∀ k, w.heap.size ≤ k → X k) (hA : AccX X w g P l) (h0 : l = [] ∨ (rd_T64 l 0).f0 ≠ 0) :
  Calls Tryz.prog 52 #[.pointer (some ⟨g, 1, none⟩), .int .i64 k] w fun e w' => e = .returned (.tuple #[]) ∧ AccX X w' g P l ∧ Turned g w w' := by
 have hglt := hA.lt
 have hb0 := z0i w (.cells #[.int .i64 k] 3)
 have HA := Aside0.mk (hA.below hb0)
 have HT := Aside0.mk (Turned.of_below hb0 hglt)
 obtain ⟨A, c, hb, hc, hF⟩ := hA
 have hx0 : w.cell? ⟨g, 1, none⟩ = some (.slice A l.length c) := (z0a hb 1).trans rfl
 replace hx0 := cellB hb0 (Nat.le_refl _) hx0
 cases l with
 | nil =>
  clear hF hb0 hb h0
  go_enter Tryz.func52, Tryz.ntmps52
  go_wp2
  refine bodyPost_ret (results_none rfl _ _ _) rfl ?_
  exact ⟨rfl, HA.out, HT.out⟩
 | cons x t =>
  have hne : (rd_T64 (x :: t) 0).f0 ≠ 0 := h0.resolve_left (by simp)
  obtain ⟨ad, A1, c1, rfl, hx1, hx2, hl1, hC1⟩ := z0n (Kd.C_below (Kd.F_now hF) hb0) 0 (by omega) (by simp)
  rw [show ad.add ((0 : Int).toNat * 2) = ad from z09 ad] at hx1
  obtain ⟨v, hv⟩ : ∃ v, (rd_T64 (x :: t) 0).f0 = v := ⟨_, rfl⟩
  rw [hv] at hx1 hne
  have hn2 : (v != 0) = true := bne_iff_ne.2 hne
  have hp : 0 < (x :: t).length := by simp
  obtain ⟨n, hn⟩ : ∃ n, (x :: t).length = n := ⟨_, rfl⟩
  rw [hn] at hx0 hp hc
  have hp2 : ((n : Int) == 0) = false := by simp; omega
  clear hF hC1 h0 hne hx2 hn hv hb hb0
  go_enter Tryz.func52, Tryz.ntmps52
  go_wp2
  refine bodyPost_ret (results_none rfl _ _ _) rfl ?_
  exact ⟨rfl, HA.out, HT.out⟩
set_option maxRecDepth 100000 in
set_option maxHeartbeats 1000000 in
theorem keepX_yes (ps : List Int) (t : List S64) (g : Nat) (P : Value) (k : Int) (w : World) (X : Nat → Prop) (hX : ∀ k, w.heap.size ≤ k → X k) (hA : AccX X w g P (⟨0, ps⟩ :: t)) (hps : ps ≠ []) (hP : ∀ q, P.ownBlock = some q → q < w.heap.size) (hs : smallL (⟨0, ps⟩ :: t)) :
  Calls Tryz.prog 52 #[.pointer (some ⟨g, 1, none⟩), .int .i64 k] w fun e w' => e = .returned (.tuple #[]) ∧ AccX X w' g P (keepL k ps t) ∧ Turned g w w' := by
 have hglt := hA.lt
 have hb0 := z0i w (.cells #[.int .i64 k] 3)
 have HK := Aside0.mk (show (w.alloc (.cells #[.int .i64 k] 3)).cell? ⟨w.heap.size, 0, none⟩ = some (.int .i64 k) from z0a (z0l w _) 0)
 obtain ⟨W, hW⟩ : ∃ W, w.alloc (.cells #[.int .i64 k] 3) = W := ⟨_, rfl⟩
 rw [hW] at hb0 HK
 have hsW : W.heap.size = w.heap.size + 1 := by rw [← hW]; simp
 have HB0 := Aside0.mk hb0
 have HAC := Aside0.mk (hA.below hb0)
 obtain ⟨A, c, hb, hc, hF⟩ := hA.below hb0
 obtain ⟨l, hl⟩ : ∃ l, (⟨0, ps⟩ :: t : List S64) = l := ⟨_, rfl⟩
 have hr0 : rd_T64 l 0 = ⟨0, ps⟩ := by rw [← hl]; rfl
 have hpos : 0 < l.length := by rw [← hl]; simp
 have hpl : ps.length ≤ 1000000 := by have := hs.2; rw [z1h] at this; have e : (⟨0, ps⟩ : S64).f1 = ps := rfl; rw [e] at this; omega
 rw [hl] at hb hc hF hs HAC
 have hx0 : W.cell? ⟨g, 1, none⟩ = some (.slice A l.length c) := (z0a hb 1).trans rfl
 have hz0 := z0d hb 1
 obtain ⟨ad, A1, c1, rfl, hx1, hx2, hl1, hC1⟩ := z0n (Kd.F_now hF) 0 (by omega) (by omega)
 rw [show ad.add ((0 : Int).toNat * 2) = ad from z09 ad] at hx1 hx2
 rw [hr0] at hx1 hx2 hl1 hC1
 replace hx1 : W.cell? ad = some (.int .i64 0) := hx1
 replace hC1 : (Kd.int .i64).C W A1 ps.length ps := hC1
 replace hx2 : W.cell? ⟨ad.block, ad.off + 1, none⟩ = some (.slice A1 ps.length c1) := hx2
 have hlps : 0 < ps.length := List.length_pos_iff.2 hps
 have HCI := Lib.hid (fun (w1 : World) (hb1 : Below W.heap.size W w1) => cloneInt ps A1 c1 w1 (Kd.C_below hC1 hb1) (by omega))
 have HCL := Lib.hid (fun (w1 : World) (hb1 : Below W.heap.size W w1) => cloneFreedF l (some ad) c w1 (okX X g P) (Kd.F_below hF hb1) (fun q hq => ⟨⟨fun e => by have := hb1.size; omega, fun e => by have := hP q e.symm; have := hb1.size; omega⟩, hX q (by have := hb1.size; omega)⟩) (by have := hs.1; omega))
 have hn0 : ((l.length : Int) == 0) = false := beq_eq_false_iff_ne.2 (by omega)
 have HG := Aside0.mk hglt
 have HLL := Lib.hid hl
 have HR0 := Lib.hid hr0
 have HSW := Lib.hid hsW
 have HLP := Aside0.mk hlps
 have HPL := Aside0.mk hpl
 have HP := Aside0.mk hP
 have hmf : ∀ (fn : Fn) (first cap : Array Value) (w : World), (Instr.makeFunc fn first cap).run Tryz.prog w = .ok (.func fn first cap) w := fun _ _ _ _ => rfl
 clear hC1 hl1 hr0 hF hs hb hl hA hps hP hb0 hpl hlps hsW
 obtain ⟨n, hn⟩ : ∃ n, l.length = n := ⟨_, rfl⟩
 have HNN := Lib.hid hn
 rw [hn] at hc hpos hx0 HCL hn0
 clear hn
 obtain ⟨f, hf⟩ : ∃ f, (ps.filter fun x => decide (x < k)) = f := ⟨_, rfl⟩
 have HFF := Lib.hid hf
 clear hf
 go_enter Tryz.func52, Tryz.ntmps52
 go_upto_region 1 with (fail)
 clear hW
 go_upto_region 3 with (first
  | (go_at_call 96; (refine (HCI.out _ (Below.refl _ _)).mono ?_); rintro e w1 ⟨v, rfl, hv, hb1⟩; obtain ⟨vA, vc, rfl⟩ := Kd.R_slice hv; have HV := Aside0.mk hv; have HB1 := Aside0.mk hb1; have hKc := cellB hb1 (Nat.le_refl _) HK.out; clear hv hb1))
 have hh : some (⟨w.heap.size, 0, none⟩ : Addr).block ≠ (Value.slice vA ps.length vc).ownBlock := fun e => by
  have := Kd.R_base HV.out _ e.symm
  have h2 := HSW.out
  simp at this
  omega
 refine (delete_R ⟨w.heap.size, 0, none⟩ k HV.out HLP.out HPL.out hKc hh).mono ?_
 rintro e w2 ⟨v2, rfl, hv2o, hv2, hk2, hb2⟩
 rw [HFF.out] at hv2
 obtain ⟨fA, fc, rfl⟩ := Kd.R_slice hv2
 have HV2 := Aside0.mk hv2
 have HB2 := Aside0.mk (HB1.out.trans hb2)
 clear hv2 hb2 hk2 hv2o
 have hx6 := cellB HB2.out (Nat.le_refl _) hx0
 go_upto_region 4 with (go_at_call 98; (refine (HCL.out _ HB2.out).mono ?_); rintro e w3 ⟨v, rfl, hv, hb3⟩; obtain ⟨xA, xc, rfl⟩ := Kd.N_slice hv; have HV3 := Aside0.mk hv; have HB3 := Aside0.mk hb3; have HA3 := Aside0.mk ((HAC.out.below HB2.out).below hb3); have hx4 := cellB hb3 (Nat.le_refl _) hx6; have hz4 : w3.frozen? ⟨g, 1, none⟩ = false := (by obtain ⟨A9, c9, hb9, _⟩ := (HAC.out.below HB2.out).below hb3; exact z0d hb9 1); clear hv hb3)
 have hb03 : Below w.heap.size w w3 := (HB0.out.trans (HB2.out.mono HB0.out.size)).trans (HB3.out.mono (HB0.out.trans (HB2.out.mono HB0.out.size)).size)
 have hF3 := Kd.F_below (Kd.F_bound (Kd.R_F (Kd.R_mono (Kd.R_bound HV2.out) (fun q hq => hq.2.1)))) HB3.out
 rw [HNN.out] at HV3
 obtain ⟨h, vc', hve, hbh, hhs, _⟩ := Kd.N_form HV3.out (by rw [HNN.out]; exact hpos)
 rw [HNN.out] at hve ⊢
 injection hve with e1 _ e2
 subst e1 e2
 have hw2 := HB0.out.trans (HB2.out.mono HB0.out.size)
 have hwh : w.heap.size ≤ h := Nat.le_trans hw2.size hbh
 have hhg : h ≠ g := by have := HG.out; omega
 have hb2 : (w3.setCell ⟨g, 1, none⟩ (.slice (some ⟨h, 0, none⟩) n xc)).heap[g]? = some (.cells #[P, .slice (some ⟨h, 0, none⟩) n xc] 102 (0, 0)) := by
  obtain ⟨A9, c9, hb9, _⟩ := HA3.out
  exact z0k hb9 1 _ rfl
 have HN2 := Aside0.mk (Kd.N_far HV3.out (p := ⟨g, 1, none⟩) (fun q hq => hq.1.1) (.slice (some ⟨h, 0, none⟩) n xc))
 have HT2 := Aside0.mk ((Turned.of_below hb03 HG.out).set 1 (.slice (some ⟨h, 0, none⟩) n xc))
 have hy0 : (w3.setCell ⟨g, 1, none⟩ (.slice (some ⟨h, 0, none⟩) n xc)).cell? ⟨g, 1, none⟩ = some (.slice (some ⟨h, 0, none⟩) n xc) := World.cell?_setCell_same _ _ _ hx4
 have hgw := HG.out
 have hsw := HSW.out
 have HF2 := Aside0.mk (Kd.F_mono (ok' := fun q => okX X g P q ∧ q ≠ h) (Kd.F_far hF3 (p := ⟨g, 1, none⟩) (fun q hq e => by have h1 : W.heap.size ≤ q := hq.1; have e2 : q = g := e; omega) (.slice (some ⟨h, 0, none⟩) n xc)) (fun q hq => ⟨⟨⟨fun e => by have h1 : W.heap.size ≤ q := hq.1; omega, fun e => by have h1 : W.heap.size ≤ q := hq.1; have := HP.out q e.symm; omega⟩, hX q (by have h1 : W.heap.size ≤ q := hq.1; omega)⟩, fun e => by have h2 : q < w2.heap.size := hq.2; omega⟩))
 obtain ⟨W2, hW2⟩ : ∃ W2, w3.setCell ⟨g, 1, none⟩ (.slice (some ⟨h, 0, none⟩) n xc) = W2 := ⟨_, rfl⟩
 rw [hW2] at HN2 HT2 hy0 hb2 HF2 ⊢
 obtain ⟨cs, hcl, hFK, hcc, hfr⟩ := Kd.N_elem HN2.out z64 (0 : Int) (by omega) (by omega)
 rw [show l.getD (0 : Int).toNat z64 = rd_T64 l 0 from rfl, HR0.out] at hFK
 obtain ⟨A5, c5, rfl, hl5, hF5⟩ := z2n hFK
 have hy1 : W2.cell? ⟨h, 1, none⟩ = some (.slice A5 ps.length c5) := hcc 1 _ rfl
 have hz5 : W2.frozen? ⟨h, 1, none⟩ = false := hfr 1
 have h0n : (0 : Int) < (n : Int) := by omega
 have HCC := Aside0.mk hcc
 have HWH := Aside0.mk hwh
 clear hcl hFK hcc hfr hl5 hF5 hx0 hx1 hx2 hx4 hx6 hz4 hz0 hW2 hF3 hb03 hw2 hgw hsw hKc hh
 go_upto_region 5 with (fail)
 have hfc : f.length ≤ fc := (Kd.R_reads' HV2.out).2.1
 obtain ⟨hN3, hG3⟩ := Kd.N_seg HN2.out (0 : Int) (by omega) h0n (c := [.int .i64 0, .slice A5 ps.length c5]) (seg := [.slice fA f.length fc]) (j := 1) rfl HCC.out (Nat.le_refl 2) (x' := (⟨0, f⟩ : S64)) (z1b W2 _ (⟨0, f⟩ : S64) hfc HF2.out) (fun q hq => hq)
 have hls : l.set (0 : Int).toNat (⟨0, f⟩ : S64) = ⟨0, f⟩ :: t := by rw [← HLL.out]; rfl
 rw [hls] at hN3
 have hN4 : Kd.N k64 64 (W2.setCell ⟨h, 1, none⟩ (.slice fA f.length fc)) w2.heap.size (okX X g P) (.slice (some ⟨h, 0, none⟩) n xc) (⟨0, f⟩ :: t) := hN3
 have hy0' : (W2.setCell ⟨h, 1, none⟩ (.slice fA f.length fc)).cell? ⟨g, 1, none⟩ = some (.slice (some ⟨h, 0, none⟩) n xc) := by
  have := World.cell?_setCell_other W2 ⟨h, 1, none⟩ ⟨g, 1, none⟩ (.slice fA f.length fc) (by simp [hhg])
  exact this.trans hy0
 have hb4 := z0v hb2 (p := ⟨h, 1, none⟩) (Ne.symm hhg) (.slice fA f.length fc)
 have hz6 : (W2.setCell ⟨h, 1, none⟩ (.slice fA f.length fc)).frozen? ⟨g, 1, none⟩ = false := z0d hb4 1
 have hT3 := HT2.out.far HWH.out HG.out 1 (.slice fA f.length fc)
 obtain ⟨W3, hW3⟩ : ∃ W3, W2.setCell ⟨h, 1, none⟩ (.slice fA f.length fc) = W3 := ⟨_, rfl⟩
 rw [hW3] at hN4 hy0' hz6 hb4 hT3 ⊢
 have hnl : n = (⟨0, f⟩ :: t : List S64).length := (Kd.N_reads' hN4).1
 have hnv := (Kd.N_reads' hN4).2.1
 have HN4 := Aside0.mk hN4
 have HB4 := Aside0.mk hb4
 have HT3 := Aside0.mk hT3
 have HNL := Lib.hid hnl
 clear hN3 hG3 hls hW3 hN4 hb4 hT3 hnl hy0 hy1 hb2 hz5
 by_cases h0 : f = []
 ·have hr : keepL k ps t = t := by rw [keepL, HFF.out]; exact if_pos h0
  have HR := Lib.hid hr
  have hp0 : ((f.length : Int) == 0) = true := by rw [h0]; rfl
  have h1n : 1 ≤ n := hpos
  have h1v : 1 ≤ xc := by omega
  clear hr h0
  have htl : n - 1 = t.length := by rw [HNL.out]; simp
  have HTL := Lib.hid htl
  by_cases hv1 : xc = 1
  ·have hnn : n = 1 := by omega
   have htn : t = [] := List.length_eq_zero_iff.1 (by omega)
   have HTN := Lib.hid htn
   subst hv1 hnn
   clear htl htn
   go_wp2
   go_end0
   rw [HR.out]
   have hb5 := z0k HB4.out 1 (.slice (some ⟨h, 0, none⟩) 0 0) rfl
   refine ⟨rfl, ⟨some ⟨h, 0, none⟩, 0, ?_, ?_, ?_⟩, HT3.out.set 1 _⟩
   ·rw [HTN.out]; exact hb5
   ·rw [HTN.out]; simp
   ·rw [HTN.out]; exact fun W2 hW2 => ⟨rfl, Nat.zero_le _, fun h => absurd h (Nat.lt_irrefl 0)⟩
  ·clear htl
   go_wp2
   go_end0
   rw [HR.out, HTL.out]
   have hb5 := z0k HB4.out 1 (.slice (some ⟨h, 2, none⟩) t.length (xc - 1)) rfl
   have hF4 := Kd.N_F HN4.out
   rw [HNL.out] at hF4
   have hF6 := F_drop (m := 1) hF4 (by simp) (by rw [← HNL.out]; exact hnv) (by omega)
   refine ⟨rfl, ⟨_, _, hb5, by rw [← HTL.out]; omega, ?_⟩, HT3.out.set 1 _⟩
   exact Kd.F_far (show Kd.F k64 W3 (okX X g P) (some ⟨h, 2, none⟩) t.length t from hF6) (fun q hq => hq.1.1) _
 ·have hr : keepL k ps t = ⟨0, f⟩ :: t := by rw [keepL, HFF.out]; exact if_neg h0
  have HR := Lib.hid hr
  have hlp : 0 < f.length := List.length_pos_iff.2 h0
  have hp0 : ((f.length : Int) == 0) = false := beq_eq_false_iff_ne.2 (by omega)
  clear hr h0
  go_wp2
  go_end0
  rw [HR.out]
  exact ⟨rfl, ⟨_, _, HNL.out ▸ HB4.out, by rw [← HNL.out]; exact hnv, by have := Kd.N_F HN4.out; rw [HNL.out] at this; exact this⟩, HT3.out⟩
set_option maxRecDepth 100000 in
set_option maxHeartbeats 1000000 in
theorem clonePages (l : List S89) (A : Option Addr) (c : Nat) (w : World) (ok : Nat → Prop) (hF : Kd.F k89 w ok A l.length l) (hg : ∀ k, w.heap.size ≤ k → ok k) (hn : l.length * 120 ≤ 140737488355328) :
  Calls Tryz.prog 49 #[.slice A l.length c] w fun e w' => ∃ v, e = .returned v ∧ Kd.N k89 89 w' w.heap.size ok v l ∧ Below w.heap.size w w' := by
 cases A with
 | none =>
  obtain rfl := z4s (Kd.F_now hF)
  refine (Tryz.slices_Clone49_nil _ _ w).mono ?_
  rintro e w' ⟨rfl, rfl⟩
  exact ⟨_, rfl, Kd.N_nil _ _ _ _ _, Below.refl _ _⟩
 | some ad =>
  have hF2 := Kd.F_below (Kd.F_bound hF) (z0i w (.cells #[] 89))
  have hz := Kd.R_N (Kd.R_mono (ok' := ok) (Kd.R_bound (R_z k89 89 w)) (fun k hk => hg k hk.2.1))
  have hne : ∀ k, (ok k ∧ k < w.heap.size) → ok k ∧ some k ≠ (Value.slice (some ⟨w.heap.size, 0, none⟩) 0 0).ownBlock := fun k hk => ⟨hk.1, fun e => by have := hk.2; simp [Value.ownBlock] at e; omega⟩
  have hsz : w.heap.size ≤ (w.alloc (.cells #[] 89)).heap.size := by simp
  have hfr : ∀ k, (w.alloc (.cells #[] 89)).heap.size ≤ k → ok k := fun k hk => hg k (by simp at hk; omega)
  have hn2 : (([] : List S89).length + l.length) * 120 ≤ 140737488355328 := by simpa using hn
  have q : ∀ (w : World) (n c : Nat), (binOp .eql 22 (.slice (some ad) n c) (.slice none 0 0)).run Tryz.prog w = .ok (.bool false) w := fun w n c => Lib.run_eql_slice_nil w 22 89 (some ad) n c 0 0 Tryz.underlying22
  go_enter Tryz.func49, Tryz.ntmps49
  go_wp2_with (at_builtin; go_loud (refine Kd.N_append_rows k89 (w0 := w) w.heap.size rfl _ _ 22 89 (.agg (cells89 z89 none 0).toArray) 120 rfl Tryz.underlying22 info89 rfl (by decide) (by decide) _ _ l (some ad) l.length c ok (fun k => ok k ∧ k < w.heap.size) rfl rfl hz hF2 hne hfr (z0i w _) hsz hn2 ?_))
  intro v1 w1 hN hb hg hat
  go_wp2
  go_ret
  exact ⟨_, rfl, hN, hb⟩
def putL (ver : Int) (ps : List Int) (l : List S64) : List S64 := if ps = [] then l else mergeL l [⟨ver, ps⟩]
theorem z2h (ver : Int) (ps : List Int) (l : List S64) : (putL ver ps l).length ≤ l.length + 1 ∧ (pagesOf (putL ver ps l)).length = (pagesOf l).length + ps.length := by
 unfold putL
 by_cases h : ps = []
 ·rw [if_pos h, h]; simp
 ·rw [if_neg h, z6a, z02]
  have := z58 l [(⟨ver, ps⟩ : S64)]
  simp at this ⊢
  omega
theorem z6m {ver : Int} {ps : List Int} {l : List S64} (h1 : l.length ≤ 10000) (h2 : (pagesOf l).length ≤ 10000) (h3 : ps.length ≤ 1000) : smallL (putL ver ps l) := by
 have := z2h ver ps l
 exact ⟨by omega, by omega⟩
def zeroAll (free : List Int) (pg : List S89) : List S89 := free.foldl (fun p n => p.set n.toNat z89) pg
def zeroTo (k : Nat) (free : List Int) (pg : List S89) : List S89 := zeroAll (free.take k) pg
theorem z2a (free : List Int) (pg : List S89) : (zeroAll free pg).length = pg.length := by
 induction free generalizing pg with
 | nil => rfl
 | cons n t ih => show (zeroAll t (pg.set n.toNat z89)).length = _; rw [ih, List.length_set]
theorem z6n (k : Nat) (free : List Int) (pg : List S89) (h : k < free.length) : zeroTo (k + 1) free pg = (zeroTo k free pg).set (free[k]).toNat z89 := by
 unfold zeroTo zeroAll
 rw [List.take_succ_eq_append_getElem h, List.foldl_append]
 rfl
def EndC (W : World) (b : Nat) (sp : Array Value) : Prop :=
 W.heap[b]? = some (.cells sp 25 (0, 0)) ∧ W.heap[b + 1]? = some (.cells #[.slice none 0 0, .slice none 0 0, .slice none 0 0, .slice none 0 0, .int .i64 0, .int .i64 0] 25 (0, 0)) ∧ W.heap[b + 2]? = some (.cells #[.int .i64 0] 3 (0, 0)) ∧ W.heap[b + 3]? = some (.cells #[.slice none 0 0] 26 (0, 0)) ∧ W.heap[b + 4]? = some (.cells #[.int .i64 0] 30 (0, 0))
theorem EndC.keep {W W' : World} {b : Nat} {sp : Array Value} (h : EndC W b sp) (hk : ∀ k, b ≤ k → k < b + 5 → k < W.heap.size → W'.heap[k]? = W.heap[k]?) : EndC W' b sp := by
 obtain ⟨h0, h1, h2, h3, h4⟩ := h
 exact ⟨(hk _ (by omega) (by omega) (z0w h0)).trans h0, (hk _ (by omega) (by omega) (z0w h1)).trans h1, (hk _ (by omega) (by omega) (z0w h2)).trans h2, (hk _ (by omega) (by omega) (z0w h3)).trans h3, (hk _ (by omega) (by omega) (z0w h4)).trans h4⟩
theorem EndC.below {W W' : World} {b : Nat} {sp : Array Value} (h : EndC W b sp) (hb : Below W.heap.size W W') : EndC W' b sp := h.keep fun k _ _ hk => hb.block k hk
theorem EndC.turned {W W' : World} {b g : Nat} {sp : Array Value} (h : EndC W b sp) (ht : Turned g W W') (hg : b + 5 ≤ g) : EndC W' b sp := h.keep fun k _ h5 hk => ht.keep.2 k hk (by omega) (by simp)
theorem EndC.cells {W : World} {b : Nat} {a0 a1 a2 a3 a4 a5 : Value} (h : EndC W b #[a0, a1, a2, a3, a4, a5]) : W.cell? ⟨b, 0, none⟩ = some a0 ∧ W.cell? ⟨b, 1, none⟩ = some a1 ∧ W.cell? ⟨b, 3, none⟩ = some a3 ∧ W.cell? ⟨b, 4, none⟩ = some a4 ∧ W.cell? ⟨b, 5, none⟩ = some a5 :=
 ⟨z0a h.1 0, z0a h.1 1, z0a h.1 3, z0a h.1 4, z0a h.1 5⟩
theorem Drawn0.below {w w' : World} (h : Drawn0 w w') : Below w.heap.size w w' := by
 obtain ⟨n, rfl⟩ := h.out
 exact z0c (Below.refl _ _) n
def takeStep : List S64 → Nat → Option (Int × List S64 × Nat)
 | [], n => if n < 4096 then some ((n : Int), [], n + 1) else none
 | ⟨v, []⟩ :: t, n => if v = 0 then none else if n < 4096 then some ((n : Int), ⟨v, []⟩ :: t, n + 1) else none
 | ⟨v, p :: ps⟩ :: t, n => if v = 0 then some (p, restL ps t, n) else if n < 4096 then some ((n : Int), ⟨v, p :: ps⟩ :: t, n + 1) else none
def takeRun : Nat → List S64 → Nat → List Int → Option (List S64 × Nat × List Int)
 | 0, _, _, _ => none
 | k + 1, l, n, own => if (partsOf l).length ≤ own.length then some (l, n, own) else
  match takeStep l n with
  | some (p, l', n') => takeRun k l' n' (own ++ [p])
  | none => none
theorem rest_form {p v : Int} {q : Int} {qs : List Int} {t : List S64} (h : formP p (⟨v, q :: qs⟩ :: t)) (hv : v = 0) : formP p (restL qs t) := by
 obtain ⟨h1, h2⟩ := h
 rw [List.map_cons, List.pairwise_cons] at h2
 have hx := h1 _ (List.mem_cons_self)
 unfold restL
 split
 ·exact ⟨fun f hf => h1 f (List.mem_cons_of_mem _ hf), h2.2⟩
 ·next hne =>
  refine ⟨fun f hf => ?_, ?_⟩
  ·rcases List.mem_cons.1 hf with rfl | hf
   ·refine ⟨by show (0 : Int) ≤ 0; omega, by show (0 : Int) ≤ _; omega, hne, fun n hn => hx.2.2.2.1 n (List.mem_cons_of_mem _ hn), (List.pairwise_cons.1 hx.2.2.2.2).2⟩
   ·exact h1 f (List.mem_cons_of_mem _ hf)
  ·rw [List.map_cons, List.pairwise_cons]
   exact ⟨fun a ha => by have := h2.1 a ha; subst hv; exact this, h2.2⟩
theorem z86 {q v : Int} {qs : List Int} {t : List S64} (h : smallL (⟨v, q :: qs⟩ :: t)) : smallL (restL qs t) := by
 unfold smallL at *
 unfold restL
 have e1 : ∀ (z : S64) (l : List S64), pagesOf (z :: l) = z.f1 ++ pagesOf l := fun z l => by rw [← List.singleton_append, z0y, z02]
 rw [e1] at h
 simp at h
 split
 ·omega
 ·rw [e1]; simp; omega
def layAll (ps pg : List S89) : List S89 := ps.foldl (fun q p => q.set p.no.toNat p) pg
def layTo (k : Nat) (ps pg : List S89) : List S89 := layAll (ps.take k) pg
theorem z36 (ps pg : List S89) : (layAll ps pg).length = pg.length := by
 induction ps generalizing pg with
 | nil => rfl
 | cons n t ih => show (layAll t (pg.set n.no.toNat n)).length = _; rw [ih, List.length_set]
theorem z6o (k : Nat) (ps pg : List S89) (h : k < ps.length) : layTo (k + 1) ps pg = (layTo k ps pg).set (ps[k]).no.toNat ps[k] := by
 unfold layTo layAll
 rw [List.take_succ_eq_append_getElem h, List.foldl_append]
 rfl
def keepAll (k : Int) : List S64 → List S64
 | [] => []
 | f :: t => if f.f0 = 0 then keepL k f.f1 t else f :: t
theorem keep_any (l : List S64) (g : Nat) (P : Value) (k : Int) (w : World) (X : Nat → Prop) (hX : ∀ k, w.heap.size ≤ k → X k) (hA : AccX X w g P l) (hf : fullL l) (hP : ∀ q, P.ownBlock = some q → q < w.heap.size) (hs : smallL l) :
  Calls Tryz.prog 52 #[.pointer (some ⟨g, 1, none⟩), .int .i64 k] w fun e w' => e = .returned (.tuple #[]) ∧ AccX X w' g P (keepAll k l) ∧ Turned g w w' := by
 cases l with
 | nil => exact z6l [] g P k w X hX hA (.inl rfl)
 | cons f t =>
  obtain ⟨v, ps⟩ := f
  by_cases h : v = 0
  ·subst h
   have e : keepAll k (⟨0, ps⟩ :: t) = keepL k ps t := by rw [keepAll]; exact if_pos rfl
   rw [e]
   exact keepX_yes ps t g P k w X hX hA (hf ⟨0, ps⟩ (by simp)) hP hs
  ·have e : keepAll k (⟨v, ps⟩ :: t) = ⟨v, ps⟩ :: t := by rw [keepAll]; exact if_neg h
   rw [e]
   exact z6l _ g P k w X hX hA (.inr h)
theorem tailL_le (l : List Int) : ∀ p : Int, (∀ x ∈ l, 2 ≤ x) → 2 ≤ p → 2 ≤ tailL l p ∧ tailL l p ≤ p := by
 induction l with
 | nil => intro p _ h; exact ⟨h, Int.le_refl p⟩
 | cons x t ih =>
  intro p hx h
  rw [tailL]
  split
  ·next e => have := ih (p - 1) (fun y hy => hx y (by simp [hy])) (by have := hx x (by simp); omega); omega
  ·omega
theorem z4x (l : List S64) (p : Int) (h : formP p l) (h2 : 2 ≤ p) : 2 ≤ tailN l p ∧ tailN l p ≤ p := by
 cases l with
 | nil => exact ⟨h2, Int.le_refl p⟩
 | cons f t =>
  unfold tailN
  dsimp only
  split
  ·exact tailL_le _ p (fun x hx => ((h.1 f (by simp)).2.2.2.1 x (by simpa using hx)).1) h2
  ·omega
theorem AccX.pages {X : Nat → Prop} {w : World} {g : Nat} {P P' : Value} {l : List S64} (h : AccX X w g P l) (hP : P'.ownBlock = P.ownBlock) : AccX X (w.setCell ⟨g, 0, none⟩ P') g P' l := by
 obtain ⟨A, c, h1, h2, h3⟩ := h
 exact ⟨A, c, z0k h1 0 _ rfl, h2, Kd.F_mono (Kd.F_far (p := ⟨g, 0, none⟩) h3 (fun k hk => hk.1.1) _) (fun k hk => ⟨⟨hk.1.1, by rw [hP]; exact hk.1.2⟩, hk.2⟩)⟩
def off5 (b q : Nat) : Prop := q < b ∨ b + 5 ≤ q
def EndM (w0 : World) (b g : Nat) (sp : Array Value) (pg : List S89) (l : List S64) (X : Nat → Prop) (wr : World) : Prop :=
 ∃ P, Kd.N k89 89 wr b (fun q => q ≠ g ∧ X q) P pg ∧ AccX X wr g P l ∧ EndC wr b sp ∧ Below b w0 wr ∧ g + 1 ≤ wr.heap.size ∧ ∀ q, P.ownBlock = some q → b + 5 ≤ q
def offV (t : Value) (q : Nat) : Prop := some q ≠ t.ownBlock
def offT (b : Nat) (t : Value) (q : Nat) : Prop := offV t q ∧ off5 b q
theorem EndM.below {w0 w w' : World} {b g : Nat} {sp : Array Value} {pg : List S89} {l : List S64} {X : Nat → Prop} (h : EndM w0 b g sp pg l X w) (hg : b ≤ g) (hb : Below w.heap.size w w') : EndM w0 b g sp pg l X w' := by
 obtain ⟨P, hN, hA, hE, hB, hS, hq⟩ := h
 exact ⟨P, Kd.N_below hN hb, hA.below hb, hE.below hb, hB.trans (hb.mono (by omega)), Nat.le_trans hS hb.size, hq⟩
theorem EndM.x {w0 w : World} {b g : Nat} {sp : Array Value} {pg : List S89} {l : List S64} {X X' : Nat → Prop} (h : EndM w0 b g sp pg l X w) (hX : ∀ k, X k → k < w.heap.size → X' k) : EndM w0 b g sp pg l X' w := by
 obtain ⟨P, hN, hA, hE, hB, hS, hq⟩ := h
 obtain ⟨A, c, h1, h2, h3⟩ := hA
 exact ⟨P, Kd.N_mono (Kd.N_bound hN) (fun k hk => ⟨hk.1.1, hX k hk.1.2 hk.2⟩), ⟨A, c, h1, h2, Kd.F_mono (Kd.F_bound h3) (fun k hk => ⟨hk.1.1, hX k hk.1.2 hk.2⟩)⟩, hE, hB, hS, hq⟩
theorem EndM.grown {w0 w w' : World} {b g : Nat} {sp : Array Value} {pg : List S89} {l : List S64} {t t' : Value} (h : EndM w0 b g sp pg l (offT b t) w) (hbg : b + 5 ≤ g) (ht : ∀ k, t.ownBlock = some k → b + 5 ≤ k ∧ k ≠ g) (hg : w.grownBy w' t.ownBlock) (hat : t'.ownBlock = t.ownBlock ∨ ∃ b, t'.ownBlock = some b ∧ w.heap.size ≤ b) (hbw : Below (b + 5) w w') : EndM w0 b g sp pg l (offT b t') w' := by
 obtain ⟨P, hN, hA, hE, hB, hS, hq⟩ := h
 obtain ⟨A, c, h1, h2, h3⟩ := hA
 refine ⟨P, Kd.N_mono (Kd.N_after (ok := fun k => k ≠ g ∧ off5 b k) (Kd.N_mono hN (fun k hk => ⟨⟨hk.1, hk.2.2⟩, hk.2.1⟩)) hg hat) (fun k hk => ⟨hk.1.1, hk.2, hk.1.2⟩), ⟨A, c, (hg.block g (by omega) (fun e => (ht g e.symm).2 rfl)).trans h1, h2, Kd.F_mono (Kd.F_after (ok := fun k => okA g P k ∧ off5 b k) (Kd.F_mono h3 (fun k hk => ⟨⟨hk.1, hk.2.2⟩, hk.2.1⟩)) hg hat) (fun k hk => ⟨hk.1.1, hk.2, hk.1.2⟩)⟩, hE.keep (fun k _ hk hlt => hg.block k hlt (fun e => by have := (ht k e.symm).1; omega)), hB.trans (hbw.mono (by omega)), Nat.le_trans hS hg.size, hq⟩
theorem z3k {l l' : List S64} {n n' : Nat} {p : Int} (h : takeStep l n = some (p, l', n')) : (∃ q qs t, l = ⟨0, q :: qs⟩ :: t ∧ p = q ∧ l' = restL qs t ∧ n' = n) ∨ ((l = [] ∨ (rd_T64 l 0).f0 ≠ 0) ∧ n < 4096 ∧ p = n ∧ l' = l ∧ n' = n + 1) := by
 rcases l with _ | ⟨⟨v, _ | ⟨q, qs⟩⟩, t⟩
 ·rw [takeStep] at h
  split at h
  ·next hm =>
   obtain ⟨rfl, rfl, rfl⟩ : (n : Int) = p ∧ [] = l' ∧ n + 1 = n' := by simpa using h
   exact .inr ⟨.inl rfl, hm, rfl, rfl, rfl⟩
  ·simp at h
 ·rw [takeStep] at h
  split at h
  ·simp at h
  ·next hv =>
   split at h
   ·next hm =>
    obtain ⟨rfl, rfl, rfl⟩ : (n : Int) = p ∧ ⟨v, []⟩ :: t = l' ∧ n + 1 = n' := by simpa using h
    exact .inr ⟨.inr hv, hm, rfl, rfl, rfl⟩
   ·simp at h
 ·rw [takeStep] at h
  split at h
  ·next hv =>
   obtain ⟨rfl, rfl, rfl⟩ : q = p ∧ restL qs t = l' ∧ n = n' := by simpa using h
   exact .inl ⟨q, qs, t, by rw [hv], rfl, rfl, rfl⟩
  ·next hv =>
   split at h
   ·next hm =>
    obtain ⟨rfl, rfl, rfl⟩ : (n : Int) = p ∧ ⟨v, q :: qs⟩ :: t = l' ∧ n + 1 = n' := by simpa using h
    exact .inr ⟨.inr hv, hm, rfl, rfl, rfl⟩
   ·simp at h
theorem z4y {l l' : List S64} {n n' : Nat} {p : Int} (h : takeStep l n = some (p, l', n')) (hf : formP 4096 l) (hs : smallL l) : formP 4096 l' ∧ smallL l' ∧ n ≤ n' ∧ (n ≤ 4096 → n' ≤ 4096) := by
 rcases z3k h with ⟨q, qs, t, rfl, rfl, rfl, rfl⟩ | ⟨_, hm, rfl, rfl, rfl⟩
 ·exact ⟨rest_form hf rfl, z86 hs, Nat.le_refl _, id⟩
 ·exact ⟨hf, hs, by omega, fun _ => by omega⟩
theorem z4z {pg : List S89} {n n' : Nat} (h : pg.length ≤ n) (h2 : n ≤ n') : (pg ++ List.replicate (n - pg.length) z89).length = n ∧ (pg ++ List.replicate (n - pg.length) z89) ++ List.replicate (n' - n) z89 = pg ++ List.replicate (n' - pg.length) z89 := by
 refine ⟨by simp; omega, ?_⟩
 rw [List.append_assoc, List.replicate_append_replicate]
 congr 2
 omega
theorem R_off {w w' : World} {base g : Nat} {v : Value} {l : List Int} (h : (Kd.int .i64).R 3 w base (fun q => q ≠ g) v l) (hk : ∀ k, k < w.heap.size → k ≠ g → ¬ offV v k → w'.heap[k]? = w.heap[k]?) : (Kd.int .i64).R 3 w' base (fun q => q ≠ g) v l := by
 have h0 := h.1
 refine Kd.R_mono (Kd.R_step (Kd.R_tight rfl h) (fun k ho hlt => hk k hlt (h0 k ho.symm) (fun hx => hx ho))) (fun k ho => h0 k ho.symm)
theorem take_any {w0 : World} {b g : Nat} {sp : Array Value} {pg : List S89} {l l' : List S64} {X : Nat → Prop} {p : Int} {n' : Nat} (w : World) (h : EndM w0 b g sp pg l X w) (hbg : b + 5 ≤ g) (hX : ∀ k, w.heap.size ≤ k → X k) (hst : takeStep l pg.length = some (p, l', n')) (hf : fullL l) (hs : smallL l) :
  Calls Tryz.prog 54 #[.pointer (some ⟨g, 0, none⟩)] w fun e w' => e = .returned (.int .i64 p) ∧ EndM w0 b g sp (pg ++ List.replicate (n' - pg.length) z89) l' X w' ∧ (∀ k, k < w.heap.size → k ≠ g → ¬ X k → w'.heap[k]? = w.heap[k]?) ∧ w.heap.size ≤ w'.heap.size := by
 obtain ⟨P, hN, hA, hE, hB, hS, hq⟩ := h
 have hP : ∀ k, P.ownBlock = some k → k < w.heap.size := Kd.N_lt hN
 have hPX : ∀ k, P.ownBlock = some k → X k := fun k hk => (hN.1 k hk).2
 have new : ∀ (h0 : l = [] ∨ (rd_T64 l 0).f0 ≠ 0) (hm : pg.length < 4096), Calls Tryz.prog 54 #[.pointer (some ⟨g, 0, none⟩)] w fun e w' => e = .returned (.int .i64 pg.length) ∧ EndM w0 b g sp (pg ++ [z89]) l X w' ∧ (∀ k, k < w.heap.size → k ≠ g → ¬ X k → w'.heap[k]? = w.heap[k]?) ∧ w.heap.size ≤ w'.heap.size := by
  intro h0 hm
  refine (takeX_new l g P pg b w X hX hA h0 hN hm (by omega)).mono ?_
  rintro e w' ⟨rfl, P', ha, hn, ht⟩
  refine ⟨rfl, ⟨P', hn, ha, hE.keep (fun k hb5 hk hlt => ht.keep.2 k hlt ⟨by omega, fun e => by have := hq k e.symm; omega⟩), hB.trans ht.below, Nat.le_trans hS ht.keep.1, fun q e => ?_⟩, fun k hk hkg hkX => ht.keep.2 k hk ⟨hkg, fun e => hkX (hPX k e.symm)⟩, ht.keep.1⟩
  rcases ht.own with ho | ⟨c, ho, hle⟩
  ·exact hq q (ho ▸ e)
  ·rw [ho] at e; injection e with e; subst e; omega
 have hnew : pg.length < 4096 → pg ++ List.replicate (pg.length + 1 - pg.length) z89 = pg ++ [z89] := fun _ => by rw [show pg.length + 1 - pg.length = 1 by omega]; rfl
 rcases z3k hst with ⟨q, qs, t, rfl, rfl, rfl, rfl⟩ | ⟨h0, hm, rfl, rfl, rfl⟩
 ·refine (takeX_yes p qs t g P w X hX hA hP hs).mono ?_
  rintro e w' ⟨rfl, ha, ht⟩
  refine ⟨rfl, ⟨P, ?_, ha, hE.turned ht hbg, hB.trans (ht.below.mono (by omega)), Nat.le_trans hS ht.size, hq⟩, fun k hk hkg _ => ht.keep.2 k hk hkg (by simp), ht.size⟩
  rw [Nat.sub_self, List.replicate_zero, List.append_nil]
  exact ht.N (fun k hk => hk.1) hN
 ·rw [hnew hm]
  exact new h0 hm
def EndR (w : World) (ver tree first : Int) (pg : List S89) (l : List S64) (e : Ending) (w' : World) : Prop := ∃ PV LA lc, e = .returned (.tuple #[.agg #[PV, .slice none 0 0, .slice none 0 0, .slice none 0 0, .int .i64 ver, .int .i64 tree], .int .i64 first, .slice LA l.length lc, .int .i64 0]) ∧ Kd.N k89 89 w' w.heap.size (fun _ => True) PV pg ∧ Kd.N k64 64 w' w.heap.size (fun _ => True) (.slice LA l.length lc) l ∧ Below w.heap.size w w'
theorem z1z {w : World} {b : Nat} {v : Value} {t : TypeId} (h : w.heap[b]? = some (.cells #[v] t (0, 0))) : Below w.heap.size w (w.setCell ⟨b, 0, none⟩ v) := by
 refine ⟨rfl, rfl, rfl, by simp, fun k hk => ?_⟩
 by_cases e : k = b
 ·subst e
  exact (z0k h 0 v rfl).trans h.symm
 ·exact Below.heap_setCell w ⟨b, 0, none⟩ v k e
theorem z6p {P : Program} {o : Oper} {a : Act} {Q : Exit → Act → World → Prop} {Kc : Act → World → Prop} {α : Type} (d : Kd α) {w0 W : World} (base : Nat) (hN : o.dst = none) (t : TypeId) (p x : Operand) (ho : o.op = .store t p x) (e : TypeId) {g n cap o' : Nat} (i : Int) (j : Nat) (xs : List α) (x' : α) (u : Value) (seg c : List Value) (ok okp : Nat → Prop)
  (haddr : a.eval p = .pointer (some ⟨g, o', none⟩)) (hoff : o' = i.toNat * d.sz + j) (hx : a.eval x = u) (hu : u.cells.toList = seg) (ht : (P.info? t).map (·.size) = some seg.length) (h1 : ∀ q ∈ seg, q.oneCell' = true)
  (HO : Kd.N d e W base ok (.slice (some ⟨g, 0, none⟩) n cap) xs) (h0 : 0 ≤ i) (hi : i < n) (hcl : c.length = d.sz) (hcc : ∀ j u, c[j]? = some u → W.cell? ⟨g, i.toNat * d.sz + j, none⟩ = some u)
  (hj : j + seg.length ≤ d.sz) (hM : Kd.FK d W okp x' (c.take j ++ seg ++ c.drop (j + seg.length))) (hokp : ∀ k, okp k → ok k ∧ k ≠ g) (HB : Below base w0 W)
  (h : ∀ w1, Kd.N d e w1 base ok (.slice (some ⟨g, 0, none⟩) n cap) (xs.set i.toNat x') → Below base w0 w1 → W.grownBy w1 (some g) → Kc a w1) : Oper.wp P o a W Kc Q := by
 subst hoff
 obtain ⟨hrow, hg⟩ := Kd.N_seg HO i h0 hi hcl hcc hj hM hokp
 have hbg : base ≤ g := Kd.N_base HO g (by simp [Value.ownBlock])
 have hnx : n = xs.length := (Kd.N_reads' HO).1
 obtain ⟨_, rows, hl, hR, _⟩ := HO
 obtain ⟨_, inner, hown, hr⟩ := hR
 have hil : i.toNat < n := by omega
 have hB : Below base w0 (W.setCells g (i.toNat * d.sz + j) seg) := HB.trans ⟨hg.os, hg.tape, hg.output, hg.size, fun k hk => by
  have hlt : k < W.heap.size ∨ W.heap.size ≤ k := Nat.lt_or_ge _ _
  rcases hlt with hlt | hge
  ·exact hg.block k hlt (fun he => by injection he with he; omega)
  ·exact z20 seg _ k (by omega)⟩
 have hrun : (Instr.storeAt t (.pointer (some ⟨g, i.toNat * d.sz + j, none⟩)) u).run P W = .ok () (W.setCells g (i.toNat * d.sz + j) seg) := by
  rcases hown.2 with ⟨hv, _⟩ | ⟨g', cap', cur, hv, hb, hh, hnc, hcm, hcs, _⟩
  ·cases hv
  injection hv with ha _ hc
  injection ha with ha
  injection ha with hg'
  subst hg'; subst hc
  refine z5h t u seg hh hu ht ?_ h1
  have h2 : i.toNat * d.sz + d.sz ≤ n * d.sz := by rw [← Nat.succ_mul]; exact Nat.mul_le_mul_right _ hil
  have h3 : n * d.sz ≤ cap * d.sz := Nat.mul_le_mul_right _ (by omega)
  have hcs2 : cur.size = cap * d.sz := hcs
  omega
 unfold Oper.wp execOp
 simp only [ho, haddr, hx, Sem.run_bind, Sem.run_pure, Result.andThen_ok, hrun]
 show Kc (a.put o.dst undef) _
 rw [hN]
 exact h _ hrow hB hg
end Go.Proofs.YtpnhelcemodnmaaGreat

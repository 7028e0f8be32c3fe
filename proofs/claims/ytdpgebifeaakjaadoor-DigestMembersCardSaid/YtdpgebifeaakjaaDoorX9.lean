/- Texts put together for one claim: part 9. -/
import Derived.Test.YtdpgebifeaakjaaDoorProg
import Derived.WalkKit
import Derived.WalkSpells
import Derived.WalkLawsBesides
import Derived.ChangeKeysEq
import Derived.Deep.RegionHeld3
import Derived.BigQuiet
import Derived.Deep.QuietTactic
import Derived.Deep.MidRow
import Derived.StillTailTactics
import Derived.Laws.AppendOwn
import Derived.Lib.ConvBytes
import Derived.Shelf.Spec.TrailingZeros
import Derived.Laws.FloatArith
import Derived.Laws.CopyOwn
import Derived.BigRegion
import Derived.Deep.Cut
import Derived.ArgAppend
import Derived.Shelf.Strconv.Itoa0
import Derived.RangeFuncNested
import Derived.RangeFuncBound
import Derived.RangeFuncCalls
import Derived.RangeFuncLeaves
import Derived.Shelf.Abstract
import Derived.OwnWalkIn
import Derived.TacticsInMore
import Derived.LoopNIn
import Derived.LoopIn
import Derived.RangeFuncBox
import Derived.Maps.AppendAt
import Derived.Laws.OwnMore
import Derived.Laws.StructEq
import Derived.Deep.RegionHeld
import Derived.Laws.BitsLemmas
import Derived.OwnWalk
import Derived.StillTactics
import Derived.Deep.AppendLies
import Derived.Test.YtdpgebifeaakjaaDoorRows
import Derived.ProofKit
import Derived.LaidMore
import Derived.OpenShut
import Derived.Stop.Joined
import Derived.Carry
import Derived.SevenTiedAt
import Derived.Deep.Slices
import Derived.Laws.AppendOwnNone
import Derived.Defers
import Derived.Recover
import Derived.Test.YtdpgebifeaakjaaDoorX8
/- collide, walked. -/
namespace Go.Proofs.YtdpgebifeaakjaaDoor
set_option linter.unusedSimpArgs false
set_option linter.unusedVariables false
open Go.RowKit
/-- Two strings of a list that differ and have the same digest. -/
def Pair (ls : List (List (BitVec 8))) (i k : Nat) : Prop := ls.getD i [] ≠ ls.getD k [] ∧ eqRow 16 (sha (ls.getD i [])) (sha (ls.getD k [])) = true
theorem eqRow_symm {f g : Nat → BitVec 8} (h : eqRow 16 f g = true) : eqRow 16 g f = true := (eqRow_iff _ _ _).2 fun i hi => ((eqRow_iff _ _ _).1 h i hi).symm
theorem Coll.pair {ls : List (List (BitVec 8))} (h : Coll ls) : ∃ i k, k < i ∧ i < ls.length ∧ Pair ls i k := by
  obtain ⟨x, hx, y, hy, hne, he⟩ := h
  obtain ⟨i, hi, rfl⟩ := List.getElem_of_mem hx
  obtain ⟨k, hk, rfl⟩ := List.getElem_of_mem hy
  have ei : ls.getD i [] = ls[i] := by simp [List.getD, hi]
  have ek : ls.getD k [] = ls[k] := by simp [List.getD, hk]
  rcases Nat.lt_trichotomy i k with h | h | h
  · exact ⟨k, i, h, hk, by rw [ei, ek]; exact fun e => hne e.symm, by rw [ei, ek]; exact eqRow_symm he⟩
  · subst h; exact absurd rfl hne
  · exact ⟨i, k, h, hi, by rw [ei, ek]; exact hne, by rw [ei, ek]; exact he⟩
set_option maxRecDepth 20000 in
set_option maxHeartbeats 4000000 in
theorem collide_any (ls : List (List (BitVec 8))) (v : Value) (w : World) (hs : Sees w 1 v ls.length (strCells ls)) (hl : ∀ x, x ∈ ls → x.length ≤ 1000) (hlen0 : ls.length ≤ 1000000) (hC : Coll ls) (hKK : KAt w) :
    Calls Tryd.prog 95 #[v] w fun e w' => e = .returned (.bool true) ∧ Below w.heap.size w w' := by
  obtain ⟨p, c, rfl, hc, _, hcell⟩ := hs
  have hp := hC.pair
  obtain ⟨n, hn⟩ : ∃ n, ls.length = n := ⟨_, rfl⟩
  have hpos : 0 < ls.length := by obtain ⟨i, k, h1, h2, _⟩ := hp; omega
  obtain ⟨g, o, rfl, hcell2⟩ := hcell hpos
  have hq : ∀ i, i < ls.length → w.cell? ⟨g, o + i, none⟩ = some (.string (strOf (ls.getD i []))) := fun i hi => hcell2 i _ (by simp [strCells, List.getD, hi])
  have hlen : ∀ i, (strOf (ls.getD i [])).size ≤ 1099511627776 := fun i => by
    rw [size_strOf]
    by_cases hi : i < ls.length
    · have : ls.getD i [] = ls[i] := by simp [List.getD, hi]
      rw [this]
      have := hl _ (List.getElem_mem hi)
      omega
    · have : ls.getD i [] = [] := by simp [List.getD, Nat.le_of_not_lt hi]
      rw [this]
      exact Nat.zero_le _
  rw [hn] at hc hp hpos hq hlen0 ⊢
  have HP := hide hp
  have HQ := hide hq
  have HL := hide hlen
  clear hp hq hlen hcell hcell2 hC hl hn
  have hB := Below.refl w.heap.size w
  go_enter Tryd.func95, Tryd.ntmps95
  go_wp2_with fail
  go_loopw [3] (fun s3 W => ∃ i : Nat, i ≤ n ∧ s3 = .int .i64 (i : Int) ∧ Hid (∀ i', i' < i → ∀ k', k' < i' → ¬ Pair ls i' k') ∧ Below w.heap.size w W) (fun s3 _ => n - (intOf s3).toNat)
  case atStart => exact ⟨0, by omega, rfl, hide (fun j hj => by omega), hB⟩
  case round =>
    clear hB
    obtain ⟨i, hi, rfl, HP1, hB⟩ := hrel
    by_cases hlt : i < n
    · have hlt1 : (i : Int) < (n : Int) := by omega
      have hp1 : (0 : Int) ≤ (i : Int) := by omega
      have hp2 : ¬ (n : Int) ≤ (i : Int) := by omega
      go_wp2_with fail
      obtain ⟨wo, hwo⟩ : ∃ wo : World, wo = wr := ⟨_, rfl⟩
      subst hwo
      go_loopw [4] (fun s4 W => ∃ k : Nat, k ≤ i ∧ s4 = .int .i64 (k : Int) ∧ Hid (∀ k', k' < k → ¬ Pair ls i k') ∧ Below w.heap.size w W) (fun s4 _ => i - (intOf s4).toNat)
      case atStart => exact ⟨0, by omega, rfl, hide (fun j hj => by omega), hB⟩
      case round =>
        clear hB
        obtain ⟨k, hk, rfl, HP2, hB⟩ := hrel
        by_cases hlt2 : k < i
        · have hlt3 : (k : Int) < (i : Int) := by omega
          have hp3 : (0 : Int) ≤ (k : Int) := by omega
          have hp4 : (k : Int) < (n : Int) := by omega
          have q1 := cell_below (HQ.out i (by omega)) hB
          have q2 := cell_below (HQ.out k (by omega)) hB
          by_cases he : ls.getD i [] = ls.getD k []
          · have HE : Hid (¬ Pair ls i k) := hide (fun h => h.1 he)
            rw [he] at q1
            clear he
            obtain ⟨t, ht⟩ : ∃ t, strOf (ls.getD k []) = t := ⟨_, rfl⟩
            rw [ht] at q1 q2
            clear ht
            go_wp2_with fail
            refine wp_region_held_drew (S := fun w' => Below w.heap.size w w' ∧ w'.cell? ⟨g, o + i, none⟩ = some (.string t) ∧ w'.cell? ⟨g, o + k, none⟩ = some (.string t)) (by kernel_rfl) (⟨hB.drew, q1, q2⟩) (fun hS => ?_)
            simp only [List.size_toArray, List.length_cons, List.length_nil, Nat.reduceAdd, Array.replicate_succ, Array.replicate_zero, List.push_toArray, List.nil_append, List.cons_append]
            refine take_at (i := 0) 16 (.slice (some ⟨g, o, none⟩) n c) rfl rfl (by kernel_rfl) (by kernel_rfl) (by kernel_rfl) (fun _ _ _ h => h) (Or.inl ⟨by rfl, fun W hW => by go_simp⟩) hS ?_
            try simp only [List.setIfInBounds_toArray, List.set_cons_zero, List.set_cons_succ]
            refine take_at (i := 1) 17 (.int .i64 (i : Int)) rfl rfl (by kernel_rfl) (by kernel_rfl) (by kernel_rfl) (fun _ _ _ h => h) (Or.inl ⟨by rfl, fun W hW => by go_simp⟩) hS ?_
            try simp only [List.setIfInBounds_toArray, List.set_cons_zero, List.set_cons_succ]
            refine take_at (i := 2) 18 (.pointer (some ⟨g, o + i, none⟩)) rfl rfl (by kernel_rfl) (by kernel_rfl) (by kernel_rfl) (fun _ _ _ h => h) (Or.inl ⟨by rfl, fun W hW => by go_simp⟩) hS ?_
            try simp only [List.setIfInBounds_toArray, List.set_cons_zero, List.set_cons_succ]
            refine take_at (i := 3) 19 (.string t) rfl rfl (by kernel_rfl) (by kernel_rfl) (by kernel_rfl) (fun _ _ _ h => h) (Or.inl ⟨by rfl, fun W hW => by have hc := hW.2.1; go_simp⟩) hS ?_
            try simp only [List.setIfInBounds_toArray, List.set_cons_zero, List.set_cons_succ]
            refine take_at (i := 4) 20 (.slice (some ⟨g, o, none⟩) n c) rfl rfl (by kernel_rfl) (by kernel_rfl) (by kernel_rfl) (fun _ _ _ h => h) (Or.inl ⟨by rfl, fun W hW => by go_simp⟩) hS ?_
            try simp only [List.setIfInBounds_toArray, List.set_cons_zero, List.set_cons_succ]
            refine take_at (i := 5) 21 (.int .i64 (k : Int)) rfl rfl (by kernel_rfl) (by kernel_rfl) (by kernel_rfl) (fun _ _ _ h => h) (Or.inl ⟨by rfl, fun W hW => by go_simp⟩) hS ?_
            try simp only [List.setIfInBounds_toArray, List.set_cons_zero, List.set_cons_succ]
            refine take_at (i := 6) 22 (.pointer (some ⟨g, o + k, none⟩)) rfl rfl (by kernel_rfl) (by kernel_rfl) (by kernel_rfl) (fun _ _ _ h => h) (Or.inl ⟨by rfl, fun W hW => by go_simp⟩) hS ?_
            try simp only [List.setIfInBounds_toArray, List.set_cons_zero, List.set_cons_succ]
            refine take_at (i := 7) 23 (.string t) rfl rfl (by kernel_rfl) (by kernel_rfl) (by kernel_rfl) (fun _ _ _ h => h) (Or.inl ⟨by rfl, fun W hW => by have hc := hW.2.2; go_simp⟩) hS ?_
            try simp only [List.setIfInBounds_toArray, List.set_cons_zero, List.set_cons_succ]
            refine take_at (i := 8) 24 (.bool false) rfl rfl (by kernel_rfl) (by kernel_rfl) (by kernel_rfl) (fun _ _ _ h => h) (Or.inl ⟨by rfl, fun W hW => by go_simp⟩) hS ?_
            try simp only [List.setIfInBounds_toArray, List.set_cons_zero, List.set_cons_succ]
            refine take_at (i := 9) 25 (.bool false) rfl rfl (by kernel_rfl) (by kernel_rfl) (by kernel_rfl) (fun _ _ _ h => h) (Or.inl ⟨by rfl, fun W hW => by go_simp⟩) hS ?_
            try simp only [List.setIfInBounds_toArray, List.set_cons_zero, List.set_cons_succ]
            refine take_at (i := 10) 26 (undef) rfl rfl (by kernel_rfl) (by kernel_rfl) (by kernel_rfl) (fun _ _ _ h => h) (Or.inr ⟨by rfl, rfl⟩) hS ?_
            try simp only [List.setIfInBounds_toArray, List.set_cons_zero, List.set_cons_succ]
            refine take_at (i := 11) 27 (undef) rfl rfl (by kernel_rfl) (by kernel_rfl) (by kernel_rfl) (fun _ _ _ h => h) (Or.inr ⟨by rfl, rfl⟩) hS ?_
            try simp only [List.setIfInBounds_toArray, List.set_cons_zero, List.set_cons_succ]
            refine take_at (i := 12) 28 (undef) rfl rfl (by kernel_rfl) (by kernel_rfl) (by kernel_rfl) (fun _ _ _ h => h) (Or.inr ⟨by rfl, rfl⟩) hS ?_
            try simp only [List.setIfInBounds_toArray, List.set_cons_zero, List.set_cons_succ]
            refine take_at (i := 13) 29 (undef) rfl rfl (by kernel_rfl) (by kernel_rfl) (by kernel_rfl) (fun _ _ _ h => h) (Or.inr ⟨by rfl, rfl⟩) hS ?_
            try simp only [List.setIfInBounds_toArray, List.set_cons_zero, List.set_cons_succ]
            refine take_at (i := 14) 30 (undef) rfl rfl (by kernel_rfl) (by kernel_rfl) (by kernel_rfl) (fun _ _ _ h => h) (Or.inr ⟨by rfl, rfl⟩) hS ?_
            try simp only [List.setIfInBounds_toArray, List.set_cons_zero, List.set_cons_succ]
            refine take_at (i := 15) 31 (undef) rfl rfl (by kernel_rfl) (by kernel_rfl) (by kernel_rfl) (fun _ _ _ h => h) (Or.inr ⟨by rfl, rfl⟩) hS ?_
            try simp only [List.setIfInBounds_toArray, List.set_cons_zero, List.set_cons_succ]
            refine take_at (i := 16) 32 (undef) rfl rfl (by kernel_rfl) (by kernel_rfl) (by kernel_rfl) (fun _ _ _ h => h) (Or.inr ⟨by rfl, rfl⟩) hS ?_
            try simp only [List.setIfInBounds_toArray, List.set_cons_zero, List.set_cons_succ]
            refine take_at (i := 17) 33 (undef) rfl rfl (by kernel_rfl) (by kernel_rfl) (by kernel_rfl) (fun _ _ _ h => h) (Or.inr ⟨by rfl, rfl⟩) hS ?_
            try simp only [List.setIfInBounds_toArray, List.set_cons_zero, List.set_cons_succ]
            refine take_at (i := 18) 34 (undef) rfl rfl (by kernel_rfl) (by kernel_rfl) (by kernel_rfl) (fun _ _ _ h => h) (Or.inr ⟨by rfl, rfl⟩) hS ?_
            try simp only [List.setIfInBounds_toArray, List.set_cons_zero, List.set_cons_succ]
            refine take_at (i := 19) 35 (undef) rfl rfl (by kernel_rfl) (by kernel_rfl) (by kernel_rfl) (fun _ _ _ h => h) (Or.inr ⟨by rfl, rfl⟩) hS ?_
            try simp only [List.setIfInBounds_toArray, List.set_cons_zero, List.set_cons_succ]
            refine take_at (i := 20) 36 (undef) rfl rfl (by kernel_rfl) (by kernel_rfl) (by kernel_rfl) (fun _ _ _ h => h) (Or.inr ⟨by rfl, rfl⟩) hS ?_
            try simp only [List.setIfInBounds_toArray, List.set_cons_zero, List.set_cons_succ]
            refine take_at (i := 21) 37 (.bool false) rfl rfl (by kernel_rfl) (by kernel_rfl) (by kernel_rfl) (fun _ _ _ h => h) (Or.inl ⟨by rfl, fun W hW => by go_simp⟩) hS ?_
            try simp only [List.setIfInBounds_toArray, List.set_cons_zero, List.set_cons_succ]
            refine wpAnyH_done (by kernel_rfl) ?_ _
            go_wp2_with fail
            exact ⟨⟨k + 1, by omega, by go_num, hide (fun k' hk' => if h : k' < k then HP2.out k' h else (by obtain rfl : k' = k := (by omega); exact HE.out)), hS.1⟩, by simp [intOf]; omega⟩
          · have hst : ¬ strOf (ls.getD i []) = strOf (ls.getD k []) := fun h => he (strOf_inj h)
            have c1 := fun W hK => rsum_any (strOf (ls.getD i [])) (HL.out i) W hK
            have c2 := fun W hK => rsum_any (strOf (ls.getD k [])) (HL.out k) W hK
            rw [bts_strOf] at c1 c2
            have HE : Hid (eqRow 16 (sha (ls.getD i [])) (sha (ls.getD k [])) = false → ¬ Pair ls i k) := hide (fun hr h => by rw [h.2] at hr; cases hr)
            clear he
            generalize sha (ls.getD i []) = y at c1 HE
            generalize sha (ls.getD k []) = z at c2 HE
            generalize strOf (ls.getD i []) = s at c1 q1 hst
            generalize strOf (ls.getD k []) = t at c2 q2 hst
            have C1 := hide c1; have C2 := hide c2
            clear c1 c2
            have hst2 := str_ne hst
            obtain ⟨r, hr⟩ : ∃ r, eqRow 16 y z = r := ⟨_, rfl⟩
            rw [hr] at HE
            have E1 := hide hr
            clear hr
            go_wp2_with fail
            refine wp_region_held_drew (S := fun w' => Below w.heap.size w w' ∧ w'.cell? ⟨g, o + i, none⟩ = some (.string s) ∧ w'.cell? ⟨g, o + k, none⟩ = some (.string t)) (by kernel_rfl) (⟨hB.drew, q1, q2⟩) (fun hS => ?_)
            simp only [List.size_toArray, List.length_cons, List.length_nil, Nat.reduceAdd, Array.replicate_succ, Array.replicate_zero, List.push_toArray, List.nil_append, List.cons_append]
            refine take_at (i := 0) 16 (.slice (some ⟨g, o, none⟩) n c) rfl rfl (by kernel_rfl) (by kernel_rfl) (by kernel_rfl) (fun _ _ _ h => h) (Or.inl ⟨by rfl, fun W hW => by go_simp⟩) hS ?_
            try simp only [List.setIfInBounds_toArray, List.set_cons_zero, List.set_cons_succ]
            refine take_at (i := 1) 17 (.int .i64 (i : Int)) rfl rfl (by kernel_rfl) (by kernel_rfl) (by kernel_rfl) (fun _ _ _ h => h) (Or.inl ⟨by rfl, fun W hW => by go_simp⟩) hS ?_
            try simp only [List.setIfInBounds_toArray, List.set_cons_zero, List.set_cons_succ]
            refine take_at (i := 2) 18 (.pointer (some ⟨g, o + i, none⟩)) rfl rfl (by kernel_rfl) (by kernel_rfl) (by kernel_rfl) (fun _ _ _ h => h) (Or.inl ⟨by rfl, fun W hW => by go_simp⟩) hS ?_
            try simp only [List.setIfInBounds_toArray, List.set_cons_zero, List.set_cons_succ]
            refine take_at (i := 3) 19 (.string s) rfl rfl (by kernel_rfl) (by kernel_rfl) (by kernel_rfl) (fun _ _ _ h => h) (Or.inl ⟨by rfl, fun W hW => by have hc := hW.2.1; go_simp⟩) hS ?_
            try simp only [List.setIfInBounds_toArray, List.set_cons_zero, List.set_cons_succ]
            refine take_at (i := 4) 20 (.slice (some ⟨g, o, none⟩) n c) rfl rfl (by kernel_rfl) (by kernel_rfl) (by kernel_rfl) (fun _ _ _ h => h) (Or.inl ⟨by rfl, fun W hW => by go_simp⟩) hS ?_
            try simp only [List.setIfInBounds_toArray, List.set_cons_zero, List.set_cons_succ]
            refine take_at (i := 5) 21 (.int .i64 (k : Int)) rfl rfl (by kernel_rfl) (by kernel_rfl) (by kernel_rfl) (fun _ _ _ h => h) (Or.inl ⟨by rfl, fun W hW => by go_simp⟩) hS ?_
            try simp only [List.setIfInBounds_toArray, List.set_cons_zero, List.set_cons_succ]
            refine take_at (i := 6) 22 (.pointer (some ⟨g, o + k, none⟩)) rfl rfl (by kernel_rfl) (by kernel_rfl) (by kernel_rfl) (fun _ _ _ h => h) (Or.inl ⟨by rfl, fun W hW => by go_simp⟩) hS ?_
            try simp only [List.setIfInBounds_toArray, List.set_cons_zero, List.set_cons_succ]
            refine take_at (i := 7) 23 (.string t) rfl rfl (by kernel_rfl) (by kernel_rfl) (by kernel_rfl) (fun _ _ _ h => h) (Or.inl ⟨by rfl, fun W hW => by have hc := hW.2.2; go_simp⟩) hS ?_
            try simp only [List.setIfInBounds_toArray, List.set_cons_zero, List.set_cons_succ]
            refine take_at (i := 8) 24 (.bool true) rfl rfl (by kernel_rfl) (by kernel_rfl) (by kernel_rfl) (fun _ _ _ h => h) (Or.inl ⟨by rfl, fun W hW => by go_simp⟩) hS ?_
            try simp only [List.setIfInBounds_toArray, List.set_cons_zero, List.set_cons_succ]
            refine take_at (i := 9) 25 (.bool true) rfl rfl (by kernel_rfl) (by kernel_rfl) (by kernel_rfl) (fun _ _ _ h => h) (Or.inl ⟨by rfl, fun W hW => by go_simp⟩) hS ?_
            try simp only [List.setIfInBounds_toArray, List.set_cons_zero, List.set_cons_succ]
            refine take_at (i := 10) 26 (.slice (some ⟨g, o, none⟩) n c) rfl rfl (by kernel_rfl) (by kernel_rfl) (by kernel_rfl) (fun _ _ _ h => h) (Or.inl ⟨by rfl, fun W hW => by go_simp⟩) hS ?_
            try simp only [List.setIfInBounds_toArray, List.set_cons_zero, List.set_cons_succ]
            refine take_at (i := 11) 27 (.int .i64 (i : Int)) rfl rfl (by kernel_rfl) (by kernel_rfl) (by kernel_rfl) (fun _ _ _ h => h) (Or.inl ⟨by rfl, fun W hW => by go_simp⟩) hS ?_
            try simp only [List.setIfInBounds_toArray, List.set_cons_zero, List.set_cons_succ]
            refine take_at (i := 12) 28 (.pointer (some ⟨g, o + i, none⟩)) rfl rfl (by kernel_rfl) (by kernel_rfl) (by kernel_rfl) (fun _ _ _ h => h) (Or.inl ⟨by rfl, fun W hW => by go_simp⟩) hS ?_
            try simp only [List.setIfInBounds_toArray, List.set_cons_zero, List.set_cons_succ]
            refine take_at (i := 13) 29 (.string s) rfl rfl (by kernel_rfl) (by kernel_rfl) (by kernel_rfl) (fun _ _ _ h => h) (Or.inl ⟨by rfl, fun W hW => by have hc := hW.2.1; go_simp⟩) hS ?_
            try simp only [List.setIfInBounds_toArray, List.set_cons_zero, List.set_cons_succ]
            refine take_at (i := 15) 31 (.slice (some ⟨g, o, none⟩) n c) rfl rfl (by kernel_rfl) (by kernel_rfl) (by kernel_rfl) (fun _ _ _ h => h) (Or.inl ⟨by rfl, fun W hW => by go_simp⟩) hS ?_
            try simp only [List.setIfInBounds_toArray, List.set_cons_zero, List.set_cons_succ]
            refine take_at (i := 16) 32 (.int .i64 (k : Int)) rfl rfl (by kernel_rfl) (by kernel_rfl) (by kernel_rfl) (fun _ _ _ h => h) (Or.inl ⟨by rfl, fun W hW => by go_simp⟩) hS ?_
            try simp only [List.setIfInBounds_toArray, List.set_cons_zero, List.set_cons_succ]
            refine take_at (i := 17) 33 (.pointer (some ⟨g, o + k, none⟩)) rfl rfl (by kernel_rfl) (by kernel_rfl) (by kernel_rfl) (fun _ _ _ h => h) (Or.inl ⟨by rfl, fun W hW => by go_simp⟩) hS ?_
            try simp only [List.setIfInBounds_toArray, List.set_cons_zero, List.set_cons_succ]
            refine take_at (i := 18) 34 (.string t) rfl rfl (by kernel_rfl) (by kernel_rfl) (by kernel_rfl) (fun _ _ _ h => h) (Or.inl ⟨by rfl, fun W hW => by have hc := hW.2.2; go_simp⟩) hS ?_
            try simp only [List.setIfInBounds_toArray, List.set_cons_zero, List.set_cons_succ]
            refine wpAnyH_ready (rs := [14]) (by kernel_rfl) (by simp) ?_
            refine AllReadyH.cons rfl (fun K hK => ?_) AllReadyH.nil
            rw [if_pos (by rfl)]
            go_simp
            refine (C1.out _ (hKK.below hKK.pos hS.1)).mono ?_
            rintro e X1 ⟨rfl, hb⟩
            refine hK.out _ _ (⟨hS.1.trans (hb.mono hS.1.size), cell_below hS.2.1 hb, cell_below hS.2.2 hb⟩) (fun hS => ?_)
            clear hK K
            clear hb
            try simp only [Act.put, List.getElem_toArray, List.getElem_cons_succ, List.getElem_cons_zero, List.setIfInBounds_toArray, List.set_cons_zero, List.set_cons_succ]
            refine wpAnyH_ready (rs := [19]) (by kernel_rfl) (by simp) ?_
            refine AllReadyH.cons rfl (fun K hK => ?_) AllReadyH.nil
            rw [if_pos (by rfl)]
            go_simp
            refine (C2.out _ (hKK.below hKK.pos hS.1)).mono ?_
            rintro e X2 ⟨rfl, hb⟩
            refine hK.out _ _ (⟨hS.1.trans (hb.mono hS.1.size), cell_below hS.2.1 hb, cell_below hS.2.2 hb⟩) (fun hS => ?_)
            clear hK K
            clear hb
            try simp only [Act.put, List.getElem_toArray, List.getElem_cons_succ, List.getElem_cons_zero, List.setIfInBounds_toArray, List.set_cons_zero, List.set_cons_succ]
            refine take_at (i := 20) 36 (.bool r) rfl rfl (by kernel_rfl) (by kernel_rfl) (by kernel_rfl) (fun _ _ _ h => h) (Or.inl ⟨by rfl, fun W hW => exec_eql23b _ _ _ rfl E1.out rfl rfl⟩) hS ?_
            try simp only [List.setIfInBounds_toArray, List.set_cons_zero, List.set_cons_succ]
            refine take_at (i := 21) 37 (.bool r) rfl rfl (by kernel_rfl) (by kernel_rfl) (by kernel_rfl) (fun _ _ _ h => h) (Or.inl ⟨by rfl, fun W hW => by go_simp⟩) hS ?_
            try simp only [List.setIfInBounds_toArray, List.set_cons_zero, List.set_cons_succ]
            refine wpAnyH_done (by kernel_rfl) ?_ _
            cases r with
            | true =>
              go_wp2_with fail
              go_ret
              exact ⟨rfl, hS.1⟩
            | false =>
              go_wp2_with fail
              exact ⟨⟨k + 1, by omega, by go_num, hide (fun k' hk' => if h : k' < k then HP2.out k' h else (by obtain rfl : k' = k := (by omega); exact HE.out rfl)), hS.1⟩, by simp [intOf]; omega⟩
        · have hlt3 : ¬ (k : Int) < (i : Int) := by omega
          obtain rfl : k = i := by omega
          go_wp2_with fail
          exact ⟨⟨k + 1, by omega, by go_num, hide (fun i' hi' k' hk' => if h : i' < k then HP1.out i' h k' hk' else (by obtain rfl : i' = k := (by omega); exact HP2.out k' hk')), hB⟩, by simp [intOf]; omega⟩
    · obtain ⟨i0, k0, h1, h2, h3⟩ := HP.out
      exact absurd h3 (HP1.out i0 (by omega) k0 h1)
end Go.Proofs.YtdpgebifeaakjaaDoor

/- Same of any lists, walked. -/
namespace Go.Proofs.YtdpgebifeaakjaaDoor
set_option linter.unusedSimpArgs false
set_option linter.unusedVariables false
open Go.RowKit
set_option maxRecDepth 20000 in
set_option maxHeartbeats 2000000 in
theorem same_gen (n m : Nat) (D E : Nat → Nat → BitVec 8) (u v : Value) (w : World) (hn : n ≤ 1099511627776) (hu : Digs w u n D) (hv : Digs w v m E) :
    Calls Tryd.prog 50 #[u, v] w fun e w' => e = .returned (.bool (sameB n m D E)) ∧ Below w.heap.size w w' := by
  obtain ⟨p, cap, rfl, hcap, hu⟩ := hu
  obtain ⟨q, cap2, rfl, hcap2, hv⟩ := hv
  have hB := Below.refl w.heap.size w
  by_cases hnm : n = m
  rotate_left
  · have hnm2 : ¬ (n : Int) = (m : Int) := by omega
    clear hu hv
    go_enter Tryd.func50, Tryd.ntmps50
    go_wp2_with fail
    go_ret
    exact ⟨by rw [Bool.eq_false_iff.2 fun h => hnm (sameB_iff.1 h).1]; rfl, hB⟩
  subst hnm
  go_enter Tryd.func50, Tryd.ntmps50
  go_wp2_with fail
  go_loopw [5] (fun s5 W => ∃ i : Nat, i ≤ n ∧ s5 = .int .i64 (i : Int) ∧ Hid (∀ j, j < i → eqRow 16 (D j) (E j) = true) ∧ Below w.heap.size w W) (fun s5 _ => n - (intOf s5).toNat)
  case atStart => exact ⟨0, by omega, rfl, hide (fun j hj => by omega), hB⟩
  case round =>
    clear hB
    obtain ⟨i, hi, rfl, HI, hB⟩ := hrel
    by_cases hlt : i < n
    · have hlt1 : (i : Int) < (n : Int) := by omega
      obtain ⟨g, o, rfl, r1⟩ := hu i hlt
      obtain ⟨g2, o2, rfl, r2⟩ := hv i hlt
      have hp : (0 : Int) ≤ (i : Int) := by omega
      by_cases he : eqRow 16 (D i) (E i) = true
      · have E1 : Hid ((!eqRow 16 (D i) (E i)) = false) := hide (by rw [he]; rfl)
        have HE := hide he
        clear he
        obtain ⟨d, hd⟩ : ∃ d, D i = d := ⟨_, rfl⟩
        obtain ⟨f, hf⟩ : ∃ f, E i = f := ⟨_, rfl⟩
        rw [hd] at r1 E1
        rw [hf] at r2 E1
        clear hd hf
        replace r1 := rangeAt_below r1 hB.drew
        replace r2 := rangeAt_below r2 hB.drew
        go_wp2_with fail
        refine wp_region_held_drew (S := fun w' => Below w.heap.size w w' ∧ w'.rangeAt g (o + i * 16) (A8 16 d).toList ∧ w'.rangeAt g2 (o2 + i * 16) (A8 16 f).toList) (by kernel_rfl) (⟨hB.drew, r1, r2⟩) (fun hS => ?_)
        simp only [List.size_toArray, List.length_cons, List.length_nil, Nat.reduceAdd, Array.replicate_succ, Array.replicate_zero, List.push_toArray, List.nil_append, List.cons_append]
        refine take_at (i := 0) 17 (.slice (some ⟨g, o, none⟩) n cap) rfl rfl (by kernel_rfl) (by kernel_rfl) (by kernel_rfl) (fun _ _ _ h => h) (Or.inl ⟨by rfl, fun W hW => by go_simp⟩) hS ?_
        try simp only [List.setIfInBounds_toArray, List.set_cons_zero, List.set_cons_succ]
        refine take_at (i := 1) 18 (.int .i64 (i : Int)) rfl rfl (by kernel_rfl) (by kernel_rfl) (by kernel_rfl) (fun _ _ _ h => h) (Or.inl ⟨by rfl, fun W hW => by go_simp⟩) hS ?_
        try simp only [List.setIfInBounds_toArray, List.set_cons_zero, List.set_cons_succ]
        refine take_at (i := 2) 19 (.pointer (some ⟨g, o + i * 16, none⟩)) rfl rfl (by kernel_rfl) (by kernel_rfl) (by kernel_rfl) (fun _ _ _ h => h) (Or.inl ⟨by rfl, fun W hW => by go_simp⟩) hS ?_
        try simp only [List.setIfInBounds_toArray, List.set_cons_zero, List.set_cons_succ]
        refine take_at (i := 3) 20 (.agg (A8 16 d)) rfl rfl (by kernel_rfl) (by kernel_rfl) (by kernel_rfl) (fun _ _ _ h => h) (Or.inl ⟨by rfl, fun W hW => exec_load_range _ 23 _ rfl g (o + i * 16) rfl hW.2.1 Tryd.underlying23 rfl size23 (A8.size _ _)⟩) hS ?_
        try simp only [List.setIfInBounds_toArray, List.set_cons_zero, List.set_cons_succ]
        refine take_at (i := 4) 21 (.slice (some ⟨g2, o2, none⟩) n cap2) rfl rfl (by kernel_rfl) (by kernel_rfl) (by kernel_rfl) (fun _ _ _ h => h) (Or.inl ⟨by rfl, fun W hW => by go_simp⟩) hS ?_
        try simp only [List.setIfInBounds_toArray, List.set_cons_zero, List.set_cons_succ]
        refine take_at (i := 5) 22 (.int .i64 (i : Int)) rfl rfl (by kernel_rfl) (by kernel_rfl) (by kernel_rfl) (fun _ _ _ h => h) (Or.inl ⟨by rfl, fun W hW => by go_simp⟩) hS ?_
        try simp only [List.setIfInBounds_toArray, List.set_cons_zero, List.set_cons_succ]
        refine take_at (i := 6) 23 (.pointer (some ⟨g2, o2 + i * 16, none⟩)) rfl rfl (by kernel_rfl) (by kernel_rfl) (by kernel_rfl) (fun _ _ _ h => h) (Or.inl ⟨by rfl, fun W hW => by go_simp⟩) hS ?_
        try simp only [List.setIfInBounds_toArray, List.set_cons_zero, List.set_cons_succ]
        refine take_at (i := 7) 24 (.agg (A8 16 f)) rfl rfl (by kernel_rfl) (by kernel_rfl) (by kernel_rfl) (fun _ _ _ h => h) (Or.inl ⟨by rfl, fun W hW => exec_load_range _ 23 _ rfl g2 (o2 + i * 16) rfl hW.2.2 Tryd.underlying23 rfl size23 (A8.size _ _)⟩) hS ?_
        try simp only [List.setIfInBounds_toArray, List.set_cons_zero, List.set_cons_succ]
        refine take_at (i := 8) 25 (.bool false) rfl rfl (by kernel_rfl) (by kernel_rfl) (by kernel_rfl) (fun _ _ _ h => h) (Or.inl ⟨by rfl, fun W hW => exec_neq23b _ _ _ rfl E1.out rfl rfl⟩) hS ?_
        try simp only [List.setIfInBounds_toArray, List.set_cons_zero, List.set_cons_succ]
        refine wpAnyH_done (by kernel_rfl) ?_ _
        go_wp2_with fail
        exact ⟨⟨i + 1, by omega, by go_num, hide (fun j hj => if h : j < i then HI.out j h else (by obtain rfl : j = i := (by omega); exact HE.out)), hS.1⟩, by simp [intOf]; omega⟩
      · have E1 : Hid ((!eqRow 16 (D i) (E i)) = true) := hide (by rw [Bool.eq_false_iff.2 he]; rfl)
        have HE := hide he
        clear he
        obtain ⟨d, hd⟩ : ∃ d, D i = d := ⟨_, rfl⟩
        obtain ⟨f, hf⟩ : ∃ f, E i = f := ⟨_, rfl⟩
        rw [hd] at r1 E1
        rw [hf] at r2 E1
        clear hd hf
        replace r1 := rangeAt_below r1 hB.drew
        replace r2 := rangeAt_below r2 hB.drew
        go_wp2_with fail
        refine wp_region_held_drew (S := fun w' => Below w.heap.size w w' ∧ w'.rangeAt g (o + i * 16) (A8 16 d).toList ∧ w'.rangeAt g2 (o2 + i * 16) (A8 16 f).toList) (by kernel_rfl) (⟨hB.drew, r1, r2⟩) (fun hS => ?_)
        simp only [List.size_toArray, List.length_cons, List.length_nil, Nat.reduceAdd, Array.replicate_succ, Array.replicate_zero, List.push_toArray, List.nil_append, List.cons_append]
        refine take_at (i := 0) 17 (.slice (some ⟨g, o, none⟩) n cap) rfl rfl (by kernel_rfl) (by kernel_rfl) (by kernel_rfl) (fun _ _ _ h => h) (Or.inl ⟨by rfl, fun W hW => by go_simp⟩) hS ?_
        try simp only [List.setIfInBounds_toArray, List.set_cons_zero, List.set_cons_succ]
        refine take_at (i := 1) 18 (.int .i64 (i : Int)) rfl rfl (by kernel_rfl) (by kernel_rfl) (by kernel_rfl) (fun _ _ _ h => h) (Or.inl ⟨by rfl, fun W hW => by go_simp⟩) hS ?_
        try simp only [List.setIfInBounds_toArray, List.set_cons_zero, List.set_cons_succ]
        refine take_at (i := 2) 19 (.pointer (some ⟨g, o + i * 16, none⟩)) rfl rfl (by kernel_rfl) (by kernel_rfl) (by kernel_rfl) (fun _ _ _ h => h) (Or.inl ⟨by rfl, fun W hW => by go_simp⟩) hS ?_
        try simp only [List.setIfInBounds_toArray, List.set_cons_zero, List.set_cons_succ]
        refine take_at (i := 3) 20 (.agg (A8 16 d)) rfl rfl (by kernel_rfl) (by kernel_rfl) (by kernel_rfl) (fun _ _ _ h => h) (Or.inl ⟨by rfl, fun W hW => exec_load_range _ 23 _ rfl g (o + i * 16) rfl hW.2.1 Tryd.underlying23 rfl size23 (A8.size _ _)⟩) hS ?_
        try simp only [List.setIfInBounds_toArray, List.set_cons_zero, List.set_cons_succ]
        refine take_at (i := 4) 21 (.slice (some ⟨g2, o2, none⟩) n cap2) rfl rfl (by kernel_rfl) (by kernel_rfl) (by kernel_rfl) (fun _ _ _ h => h) (Or.inl ⟨by rfl, fun W hW => by go_simp⟩) hS ?_
        try simp only [List.setIfInBounds_toArray, List.set_cons_zero, List.set_cons_succ]
        refine take_at (i := 5) 22 (.int .i64 (i : Int)) rfl rfl (by kernel_rfl) (by kernel_rfl) (by kernel_rfl) (fun _ _ _ h => h) (Or.inl ⟨by rfl, fun W hW => by go_simp⟩) hS ?_
        try simp only [List.setIfInBounds_toArray, List.set_cons_zero, List.set_cons_succ]
        refine take_at (i := 6) 23 (.pointer (some ⟨g2, o2 + i * 16, none⟩)) rfl rfl (by kernel_rfl) (by kernel_rfl) (by kernel_rfl) (fun _ _ _ h => h) (Or.inl ⟨by rfl, fun W hW => by go_simp⟩) hS ?_
        try simp only [List.setIfInBounds_toArray, List.set_cons_zero, List.set_cons_succ]
        refine take_at (i := 7) 24 (.agg (A8 16 f)) rfl rfl (by kernel_rfl) (by kernel_rfl) (by kernel_rfl) (fun _ _ _ h => h) (Or.inl ⟨by rfl, fun W hW => exec_load_range _ 23 _ rfl g2 (o2 + i * 16) rfl hW.2.2 Tryd.underlying23 rfl size23 (A8.size _ _)⟩) hS ?_
        try simp only [List.setIfInBounds_toArray, List.set_cons_zero, List.set_cons_succ]
        refine take_at (i := 8) 25 (.bool true) rfl rfl (by kernel_rfl) (by kernel_rfl) (by kernel_rfl) (fun _ _ _ h => h) (Or.inl ⟨by rfl, fun W hW => exec_neq23b _ _ _ rfl E1.out rfl rfl⟩) hS ?_
        try simp only [List.setIfInBounds_toArray, List.set_cons_zero, List.set_cons_succ]
        refine wpAnyH_done (by kernel_rfl) ?_ _
        go_wp2_with fail
        go_ret
        exact ⟨by rw [Bool.eq_false_iff.2 fun h => HE.out ((sameB_iff.1 h).2 i hlt)]; rfl, hS.1⟩
    · have hlt1 : ¬ (i : Int) < (n : Int) := by omega
      obtain rfl : i = n := by omega
      go_wp2_with fail
      go_ret
      exact ⟨by rw [sameB_iff.2 ⟨rfl, HI.out⟩]; rfl, hB⟩
end Go.Proofs.YtdpgebifeaakjaaDoor

/- Hashed, walked. -/
namespace Go.Proofs.YtdpgebifeaakjaaDoor
set_option linter.unusedSimpArgs false
set_option linter.unusedVariables false
open Go.RowKit
theorem strOf_leaf (d : Nat → BitVec 8) : (⟨#[0]⟩ : ByteArray) ++ strOf (dl d) = strOf (0#8 :: dl d) := bts_inj (by rw [bts_append, bts_strOf, bts_strOf]; rfl)
theorem strOf_node (d f : Nat → BitVec 8) : (⟨#[1]⟩ : ByteArray) ++ strOf (dl d) ++ strOf (dl f) = strOf (1#8 :: (dl d ++ dl f)) := bts_inj (by rw [bts_append, bts_append, bts_strOf, bts_strOf, bts_strOf, List.append_assoc]; rfl)
theorem blk_keep {w w' : World} {base e size k : Nat} {v : Value} {xs : List Value} (hv : w.ownsRow base e size v k xs) (hg : w.grownBy w' v.ownBlock) {g : Nat} {C : Array Value} {t : TypeId} (hb : Blk w g C t) (ht : t ≠ e) : Blk w' g C t := by
  refine (hg.block g hb.lt fun e => ?_).trans hb
  rcases ownsRow_other hv hb ht with h | h
  · rw [h] at e; cases e
  · exact h e.symm
theorem exec_sliceFromQ {o : Oper} {W : World} (ρ : Operand → Value) (ty e : TypeId) (s : Nat) (x y : Operand) (ho : o.op = .slice ty x (some y) none none) (p q : Option Addr) (k c lo : Nat) (hx : ρ x = .slice p k c) (hy : ρ y = .int .i64 (lo : Int))
    (hu : Tryd.prog.underlying ty = some (.slice e)) (hs : (Tryd.prog.info? e).map (·.size) = some s) (hk : lo ≤ k) (hq : (if c = lo then p else p.map (·.add (lo * s))) = q) :
    (execOp ρ o).run Tryd.prog W = .ok (.value (.slice q (k - lo) (c - lo))) W := by
  rw [← hq]
  exact exec_sliceFrom ρ ty e s x y ho p k c lo hx hy hu hs hk
theorem conv_at {W : World} {g o : Nat} {d : Nat → BitVec 8} (k : W.rangeAt g o (A8 16 d).toList) : (convert 43 9 (.slice (some ⟨g, o, none⟩) 16 16)).run Tryd.prog W = .ok (.string (strOf (dl d))) W :=
  run_bytes_str W 43 9 5 g o 16 _ 16 (dl_length d) Tryd.underlying43 Tryd.underlying5 Tryd.underlying9 fun j hj => by
    have hj' : j < 16 := by rw [dl_length] at hj; exact hj
    have := k j (U8 (d j)) (by rw [Array.getElem?_toList, A8.get _ hj'])
    rw [this]
    simp [dl]
theorem wp_sliceFromP {ops : Array Oper} {rest : List Oper} {o : Oper} {a : Act} {w : World} {Q : Exit → Act → World → Prop} (hgd : o.guard = none) (ty e : TypeId) (s : Nat) (x y : Operand) (ho : o.op = .slice ty x (some y) none none) {p q : Option Addr} {k c lo : Nat} (hx : a.eval x = .slice p k c) (hy : a.eval y = .int .i64 (lo : Int))
    (hu : Tryd.prog.underlying ty = some (.slice e)) (hs : (Tryd.prog.info? e).map (·.size) = some s) (hk : lo ≤ k) (hq : (if c = lo then p else p.map (·.add (lo * s))) = q) (h : wpList Tryd.prog ops Q rest (a.put o.dst (.slice q (k - lo) (c - lo))) w) : wpList Tryd.prog ops Q (o :: rest) a w :=
  wp_sliceFrom hgd ty e s x y ho hx hy hu hs hk (by rw [hq]; exact h)
set_option maxRecDepth 20000 in
set_option maxHeartbeats 4000000 in
theorem hashed_any : ∀ (f n : Nat) (D : Nat → Nat → BitVec 8) (v : Value) (w : World), n ≤ f → n ≤ 1000 → Digs w v n D → KAt w →
    Calls Tryd.prog 94 #[v] w fun e w' => ∃ r, e = .returned r ∧ w'.ownsRow w.heap.size 9 1 r (hashF f n D).length (strCells (hashF f n D)) ∧ Below w.heap.size w w' := by
  intro f
  induction f with
  | zero =>
    intro n D v w hf hn hD hKK
    obtain ⟨p, cap, rfl, hcap, hD⟩ := hD
    obtain rfl : n = 0 := by omega
    go_enter Tryd.func94, Tryd.ntmps94
    go_wp2_with fail
    go_ret
    exact ⟨_, rfl, owns_one w w.heap.size 9 1 #[.string ⟨#[]⟩] rfl (Nat.le_refl _), (Below.refl _ _).alloc (Nat.le_refl _) _⟩
  | succ f ih =>
    intro n D v w hf hn hD hKK
    have hDD := hD
    obtain ⟨p, cap, rfl, hcap, hD⟩ := hD
    have hB := Below.refl w.heap.size w
    by_cases h0 : n = 0
    · subst h0
      go_enter Tryd.func94, Tryd.ntmps94
      go_wp2_with fail
      go_ret
      exact ⟨_, rfl, owns_one w w.heap.size 9 1 #[.string ⟨#[]⟩] rfl (Nat.le_refl _), (Below.refl _ _).alloc (Nat.le_refl _) _⟩
    · by_cases h1 : n = 1
      · subst h1
        obtain ⟨g, o, rfl, hr⟩ := hD 0 (by omega)
        rw [Nat.zero_mul, Nat.add_zero] at hr
        have hcv := conv_at hr
        have hsum := run_string_add_sum (P := Tryd.prog) w ⟨#[0]⟩ (strOf (dl (D 0))) (by rw [size_strOf, dl_length]; decide)
        have HT := hide (show hashF (f + 1) 1 D = [0#8 :: dl (D 0)] from rfl)
        have HZ := hide (strOf_leaf (D 0))
        generalize strOf (dl (D 0)) = X at hcv hsum HZ
        generalize (⟨#[0]⟩ : ByteArray) ++ X = Y at hsum HZ
        clear hr hD hDD ih
        go_enter Tryd.func94, Tryd.ntmps94
        go_wp2_with fail
        go_ret
        have h9 := owns_one w w.heap.size 9 1 #[.string Y] rfl (Nat.le_refl _)
        exact ⟨_, rfl, by rw [HT.out, strCells, List.map_cons, List.map_nil, ← HZ.out]; exact h9, (Below.refl _ _).alloc (Nat.le_refl _) _⟩
      · obtain ⟨m1, m2, m3⟩ := halfN_facts n (by omega) (by omega)
        have ch := rhalf_any n (by omega) (by omega)
        have HT0 := hashF_step f n D h0 h1
        have hl1 := hashF_len f (halfN n) D (by omega) (by omega)
        have hl2 := hashF_len f (n - halfN n) (fun j => D (halfN n + j)) (by omega) (by omega)
        obtain ⟨g, o, rfl, _⟩ := hD 0 (by omega)
        generalize halfN n = m at m1 m2 m3 ch HT0 hl1 hl2
        have d1 := Digs.left hDD m (by omega)
        have d2 := Digs.right hDD m (by omega)
        have ca := fun (W : World) (hB : Below w.heap.size w W) => ih m D _ W (by omega) (by omega) (d1.below hB) (hKK.below hKK.pos hB)
        have cb := fun (W : World) (hB : Below w.heap.size w W) => ih (n - m) (fun j => D (m + j)) _ W (by omega) (by omega) (d2.below hB) (hKK.below hKK.pos hB)
        have ta := fun (W : World) (hB : Below w.heap.size w W) => rtree_any f m D _ W (by omega) (by omega) (d1.below hB) (hKK.below hKK.pos hB)
        have tb := fun (W : World) (hB : Below w.heap.size w W) => rtree_any f (n - m) (fun j => D (m + j)) _ W (by omega) (by omega) (d2.below hB) (hKK.below hKK.pos hB)
        generalize treeF f m D = T1 at ta HT0
        generalize (treeF f (n - m) fun j => D (m + j)) = T2 at tb HT0
        generalize hashF f m D = H1 at ca HT0 hl1
        generalize (hashF f (n - m) fun j => D (m + j)) = H2 at cb HT0 hl2
        have HT := hide HT0
        have CA := hide ca; have CB := hide cb; have TA := hide ta; have TB := hide tb
        clear HT0 ca cb ta tb ih hD hDD d1 d2
        have hmc : m ≤ cap := by omega
        have hmn : m ≤ n := by omega
        have hcm : ¬ cap = m := by omega
        have HSQ : Hid ((if cap = m then some (⟨g, o, none⟩ : Addr) else (some (⟨g, o, none⟩ : Addr)).map (·.add (m * 16))) = some ⟨g, o + m * 16, none⟩) := hide (by rw [if_neg hcm]; simp [Addr.add_lit])
        have e0 : ((n : Int) == 0) = false := by simp; omega
        have e1 : ((n : Int) == 1) = false := by simp; omega
        have e2 : ¬ (n : Int) = 0 := by omega
        have e3 : ¬ (n : Int) = 1 := by omega
        go_enter Tryd.func94, Tryd.ntmps94
        go_wp2_with fail
        refine (ch _).mono ?_
        rintro e w' ⟨rfl, rfl⟩
        clear ch
        go_wp2_with (refine wp_sliceTo rfl 80 23 16 _ _ rfl rfl rfl Tryd.underlying80 size23 hmc ?_)
        refine (TA.out _ hB).mono ?_
        rintro e W1 ⟨rfl, hb⟩
        replace hB := hB.trans hb
        clear hb TA
        have n4 := Blk.new W1 (A8 16 fun _ => 0#8) 23
        go_wp2_with (first | (refine wp_storeRow (C' := A8 16 T1) rfl 23 _ _ rfl _ rfl rfl n4 size23 (A8.size _ _) (A8.size _ _) (A8.one _) rfl ?_; intro W2 hu k4) | (refine wp_sliceFromP rfl 80 23 16 _ _ rfl rfl rfl Tryd.underlying80 size23 hmn HSQ.out ?_))
        have hb4 : Below W1.heap.size W1 W2 := hu.below ((Below.refl _ _).alloc (Nat.le_refl _) _) (Nat.le_refl _)
        have l4 := hB.size
        replace hB := hB.trans (hb4.mono hB.size)
        clear hb4 hu n4
        generalize W1.heap.size = b4 at k4 l4 ⊢
        refine (TB.out _ hB).mono ?_
        rintro e W3 ⟨rfl, hb⟩
        replace k4 := k4.below hb k4.lt
        replace hB := hB.trans (hb.mono hB.size)
        clear hb TB
        have n5 := Blk.new W3 (A8 16 fun _ => 0#8) 23
        go_wp2_with (refine wp_storeRow (C' := A8 16 T2) rfl 23 _ _ rfl _ rfl rfl n5 size23 (A8.size _ _) (A8.size _ _) (A8.one _) rfl ?_; intro W6 hu k5)
        have hb4 : Below W3.heap.size W3 W6 := hu.below ((Below.refl _ _).alloc (Nat.le_refl _) _) (Nat.le_refl _)
        have l5 := hB.size
        replace k4 := k4.below hb4 k4.lt
        replace hB := hB.trans (hb4.mono hB.size)
        clear hb4 hu n5
        generalize W3.heap.size = b5 at k5 l5 ⊢
        have hc1 := fun (W : World) (k : Blk W b4 (A8 16 T1) 23) => conv_dl k
        have hc2 := fun (W : World) (k : Blk W b5 (A8 16 T2) 23) => conv_dl k
        have hsum := fun w : World => run_string_add_sum (P := Tryd.prog) w ⟨#[1]⟩ (strOf (dl T1)) (by rw [size_strOf, dl_length]; decide)
        have hsum2 := fun w : World => run_string_add_sum (P := Tryd.prog) w (⟨#[1]⟩ ++ strOf (dl T1)) (strOf (dl T2)) (by rw [ByteArray.size_append, size_strOf, size_strOf, dl_length, dl_length]; decide)
        have hz := strOf_node T1 T2
        generalize strOf (dl T1) = X1 at hc1 hsum hsum2 hz
        generalize strOf (dl T2) = X2 at hc2 hsum2 hz
        generalize (⟨#[1]⟩ : ByteArray) ++ X1 = Y1 at hsum hsum2 hz
        generalize Y1 ++ X2 = Z at hsum2 hz
        have HC1 := hide hc1; have HC2 := hide hc2; have HS1 := hide hsum; have HS2 := hide hsum2
        have hfin : ∀ (W : World) (r : Value), W.ownsRow w.heap.size 9 1 r (H1.length + H2.length + 1) (strCells H1 ++ strCells H2 ++ (#[Value.string Z] : Array Value).toList) → W.ownsRow w.heap.size 9 1 r (hashF (f + 1) n D).length (strCells (hashF (f + 1) n D)) := fun W r h => by
          rw [HT.out, strCells_append, strCells_append, List.length_append, List.length_append]
          rw [hz] at h
          exact h
        clear hc1 hc2 hsum hsum2 hz e0 e1 e2 e3
        refine wp_region_held_drew (S := fun w' => Below w.heap.size w w' ∧ Blk w' b4 (A8 16 T1) 23 ∧ Blk w' b5 (A8 16 T2) 23) (by kernel_rfl) (⟨hB.drew, k4.drew, k5.drew⟩) (fun hS => ?_)
        simp only [List.size_toArray, List.length_cons, List.length_nil, Nat.reduceAdd, Array.replicate_succ, Array.replicate_zero, List.push_toArray, List.nil_append, List.cons_append]
        refine take_at (i := 0) 30 (.slice (some ⟨g, o, none⟩) n cap) rfl rfl (by kernel_rfl) (by kernel_rfl) (by kernel_rfl) (fun _ _ _ h => h) (Or.inl ⟨by rfl, fun W hW => by go_simp⟩) hS ?_
        try simp only [List.setIfInBounds_toArray, List.set_cons_zero, List.set_cons_succ]
        refine take_at (i := 1) 31 (.int .i64 (m : Int)) rfl rfl (by kernel_rfl) (by kernel_rfl) (by kernel_rfl) (fun _ _ _ h => h) (Or.inl ⟨by rfl, fun W hW => by go_simp⟩) hS ?_
        try simp only [List.setIfInBounds_toArray, List.set_cons_zero, List.set_cons_succ]
        refine take_at (i := 2) 32 (.slice (some ⟨g, o, none⟩) m cap) rfl rfl (by kernel_rfl) (by kernel_rfl) (by kernel_rfl) (fun _ _ _ h => h) (Or.inl ⟨by rfl, fun W hW => exec_sliceTo _ 80 23 16 _ _ rfl _ n cap m rfl rfl Tryd.underlying80 size23 hmc⟩) hS ?_
        try simp only [List.setIfInBounds_toArray, List.set_cons_zero, List.set_cons_succ]
        refine take_at (i := 4) 34 (.slice (some ⟨g, o, none⟩) n cap) rfl rfl (by kernel_rfl) (by kernel_rfl) (by kernel_rfl) (fun _ _ _ h => h) (Or.inl ⟨by rfl, fun W hW => by go_simp⟩) hS ?_
        try simp only [List.setIfInBounds_toArray, List.set_cons_zero, List.set_cons_succ]
        refine take_at (i := 5) 35 (.int .i64 (m : Int)) rfl rfl (by kernel_rfl) (by kernel_rfl) (by kernel_rfl) (fun _ _ _ h => h) (Or.inl ⟨by rfl, fun W hW => by go_simp⟩) hS ?_
        try simp only [List.setIfInBounds_toArray, List.set_cons_zero, List.set_cons_succ]
        refine take_at (i := 6) 36 (.slice (some ⟨g, o + m * 16, none⟩) (n - m) (cap - m)) rfl rfl (by kernel_rfl) (by kernel_rfl) (by kernel_rfl) (fun _ _ _ h => h) (Or.inl ⟨by rfl, fun W hW => exec_sliceFromQ _ 80 23 16 _ _ rfl _ _ n cap m rfl rfl Tryd.underlying80 size23 hmn HSQ.out⟩) hS ?_
        try simp only [List.setIfInBounds_toArray, List.set_cons_zero, List.set_cons_succ]
        refine take_at (i := 9) 39 (.slice (some ⟨b4, 0, none⟩) 16 16) rfl rfl (by kernel_rfl) (by kernel_rfl) (by kernel_rfl) (fun _ _ _ h => h) (Or.inl ⟨by rfl, fun W hW => by go_simp⟩) hS ?_
        try simp only [List.setIfInBounds_toArray, List.set_cons_zero, List.set_cons_succ]
        refine take_at (i := 10) 40 (.string X1) rfl rfl (by kernel_rfl) (by kernel_rfl) (by kernel_rfl) (fun _ _ _ h => h) (Or.inl ⟨by rfl, fun W hW => by have hcv := HC1.out W hW.2.1; go_simp⟩) hS ?_
        try simp only [List.setIfInBounds_toArray, List.set_cons_zero, List.set_cons_succ]
        refine take_at (i := 11) 41 (.string Y1) rfl rfl (by kernel_rfl) (by kernel_rfl) (by kernel_rfl) (fun _ _ _ h => h) (Or.inl ⟨by rfl, fun W hW => by have hsm := HS1.out W; go_simp⟩) hS ?_
        try simp only [List.setIfInBounds_toArray, List.set_cons_zero, List.set_cons_succ]
        refine take_at (i := 12) 42 (.slice (some ⟨b5, 0, none⟩) 16 16) rfl rfl (by kernel_rfl) (by kernel_rfl) (by kernel_rfl) (fun _ _ _ h => h) (Or.inl ⟨by rfl, fun W hW => by go_simp⟩) hS ?_
        try simp only [List.setIfInBounds_toArray, List.set_cons_zero, List.set_cons_succ]
        refine take_at (i := 13) 43 (.string X2) rfl rfl (by kernel_rfl) (by kernel_rfl) (by kernel_rfl) (fun _ _ _ h => h) (Or.inl ⟨by rfl, fun W hW => by have hcv := HC2.out W hW.2.2; go_simp⟩) hS ?_
        try simp only [List.setIfInBounds_toArray, List.set_cons_zero, List.set_cons_succ]
        refine take_at (i := 14) 44 (.string Z) rfl rfl (by kernel_rfl) (by kernel_rfl) (by kernel_rfl) (fun _ _ _ h => h) (Or.inl ⟨by rfl, fun W hW => by have hsm := HS2.out W; go_simp⟩) hS ?_
        try simp only [List.setIfInBounds_toArray, List.set_cons_zero, List.set_cons_succ]
        refine wpAnyH_ready (rs := [3, 15]) (by kernel_rfl) (by simp) ?_
        refine AllReadyH.cons rfl (fun K hK => ?_) ?_
        · skip
          go_simp
          refine (CA.out _ hS.1).mono ?_
          rintro e X3 ⟨ra, rfl, o33, hb⟩
          try have hd2 := fun q e => Nat.lt_of_lt_of_le (z45.lt zq rfl).2 (o33.lt q e).1
          replace o33 := ownsRow_base o33 hS.1.size
          try replace o37 := ownsRow_below o37 hb
          try replace z45 := ownsRow_below z45 hb
          refine hK.out _ _ (⟨hS.1.trans (hb.mono hS.1.size), hS.2.1.below hb hS.2.1.lt, hS.2.2.below hb hS.2.2.lt⟩) (fun hS => ?_)
          clear hK K
          clear hb
          try simp only [Act.put, List.getElem_toArray, List.getElem_cons_succ, List.getElem_cons_zero, List.setIfInBounds_toArray, List.set_cons_zero, List.set_cons_succ]
          refine wpAnyH_ready (rs := [7, 15]) (by kernel_rfl) (by simp) ?_
          refine AllReadyH.cons rfl (fun K hK => ?_) ?_
          · skip
            go_simp
            refine (CB.out _ hS.1).mono ?_
            rintro e X7 ⟨rb, rfl, o37, hb⟩
            skip
            replace o37 := ownsRow_base o37 hS.1.size
            try replace o33 := ownsRow_below o33 hb
            try replace z45 := ownsRow_below z45 hb
            refine hK.out _ _ (⟨hS.1.trans (hb.mono hS.1.size), hS.2.1.below hb hS.2.1.lt, hS.2.2.below hb hS.2.2.lt⟩) (fun hS => ?_)
            clear hK K
            clear hb
            try simp only [Act.put, List.getElem_toArray, List.getElem_cons_succ, List.getElem_cons_zero, List.setIfInBounds_toArray, List.set_cons_zero, List.set_cons_succ]
            refine wpAnyH_ready (rs := [8, 15]) (by kernel_rfl) (by simp) ?_
            refine AllReadyH.cons rfl (fun K hK => ?_) ?_
            · skip
              rw [if_pos (by rfl)]
              refine oper_append elem148 _ _ rfl rfl o33 rfl (Sees.of_owns o37) (strCells_one _) (by omega) hS.1.size ?_
              intro vc Y8 o38 hg
              try replace z45 := z45.kept hg (.inr (fun e => by first | exact absurd (hd1 _ e.symm) (Nat.lt_irrefl _) | exact absurd (hd2 _ e.symm) (Nat.lt_irrefl _)))
              refine hK.out _ _ (⟨hS.1.trans (grown_below o33 hg hS.1.size), blk_keep o33 hg hS.2.1 (by decide), blk_keep o33 hg hS.2.2 (by decide)⟩) (fun hS => ?_)
              clear hK K
              clear hg
              try simp only [Act.put, List.getElem_toArray, List.getElem_cons_succ, List.getElem_cons_zero, List.setIfInBounds_toArray, List.set_cons_zero, List.set_cons_succ]
              refine wpAnyH_ready (rs := [15]) (by kernel_rfl) (by simp) ?_
              refine AllReadyH.cons rfl (fun K hK => ?_) AllReadyH.nil
              rw [if_pos (by rfl)]
              refine oper_build1 (.tmp 44) rfl (u := .string Z) (C := #[.string Z]) rfl (build148 _ _) ?_
              have z45 := owns_one Y8 w.heap.size 9 1 #[.string Z] rfl hS.1.size
              have hb := (Below.refl Y8.heap.size Y8).alloc (Nat.le_refl _) (.cells #[.string Z] 9)
              try have hd1 := fun q e => (o33.lt q e).2
              try replace o33 := ownsRow_below o33 hb
              try replace o37 := ownsRow_below o37 hb
              try replace o38 := ownsRow_below o38 hb
              replace hS : Below w.heap.size w Y8 ∧ Blk Y8 b4 (A8 16 T1) 23 ∧ Blk Y8 b5 (A8 16 T2) 23 := hS
              have hS5 := (⟨hS.1.trans (hb.mono hS.1.size), hS.2.1.below hb hS.2.1.lt, hS.2.2.below hb hS.2.2.lt⟩ : Below w.heap.size w (Y8.alloc (.cells #[.string Z] 9)) ∧ Blk (Y8.alloc (.cells #[.string Z] 9)) b4 (A8 16 T1) 23 ∧ Blk (Y8.alloc (.cells #[.string Z] 9)) b5 (A8 16 T2) 23)
              clear hb
              obtain ⟨V15, hV⟩ : ∃ V, Y8.alloc (.cells #[.string Z] 9) = V := ⟨_, rfl⟩
              rw [hV] at z45 hS5 ⊢
              try rw [hV] at o33
              try rw [hV] at o37
              try rw [hV] at o38
              obtain ⟨zq, hzq⟩ : ∃ z, Y8.heap.size = z := ⟨_, rfl⟩
              rw [hzq] at z45 ⊢
              try rw [hzq] at hd1
              clear hV hzq
              refine hK.out _ _ (hS5) (fun hS => ?_)
              clear hK K
              clear hS5
              try simp only [Act.put, List.getElem_toArray, List.getElem_cons_succ, List.getElem_cons_zero, List.setIfInBounds_toArray, List.set_cons_zero, List.set_cons_succ]
              refine wpAnyH_ready (rs := [16]) (by kernel_rfl) (by simp) ?_
              refine AllReadyH.cons rfl (fun K hK => ?_) AllReadyH.nil
              rw [if_pos (by rfl)]
              refine oper_append elem148 _ _ rfl rfl o38 rfl (Sees.of_owns z45) (by simp [Value.oneCell']) (by omega) hS.1.size ?_
              intro vd Y16 o46 hg
              refine hK.out _ _ (⟨hS.1.trans (grown_below o38 hg hS.1.size), blk_keep o38 hg hS.2.1 (by decide), blk_keep o38 hg hS.2.2 (by decide)⟩) (fun hS => ?_)
              clear hK K
              try simp only [Act.put, List.getElem_toArray, List.getElem_cons_succ, List.getElem_cons_zero, List.setIfInBounds_toArray, List.set_cons_zero, List.set_cons_succ]
              refine take_at (i := 17) 2 (vd) rfl rfl (by kernel_rfl) (by kernel_rfl) (by kernel_rfl) (fun _ _ _ h => h) (Or.inl ⟨by rfl, fun W hW => by go_simp⟩) hS ?_
              try simp only [List.setIfInBounds_toArray, List.set_cons_zero, List.set_cons_succ]
              refine wpAnyH_done (by kernel_rfl) ?_ _
              go_wp2_with fail
              go_ret
              exact ⟨_, rfl, hfin _ _ o46, hS.1⟩
            refine AllReadyH.cons rfl (fun K hK => ?_) AllReadyH.nil
            rw [if_pos (by rfl)]
            refine oper_build1 (.tmp 44) rfl (u := .string Z) (C := #[.string Z]) rfl (build148 _ _) ?_
            have z45 := owns_one X7 w.heap.size 9 1 #[.string Z] rfl hS.1.size
            have hb := (Below.refl X7.heap.size X7).alloc (Nat.le_refl _) (.cells #[.string Z] 9)
            try have hd1 := fun q e => (o33.lt q e).2
            try replace o33 := ownsRow_below o33 hb
            try replace o37 := ownsRow_below o37 hb
            try replace o38 := ownsRow_below o38 hb
            replace hS : Below w.heap.size w X7 ∧ Blk X7 b4 (A8 16 T1) 23 ∧ Blk X7 b5 (A8 16 T2) 23 := hS
            have hS5 := (⟨hS.1.trans (hb.mono hS.1.size), hS.2.1.below hb hS.2.1.lt, hS.2.2.below hb hS.2.2.lt⟩ : Below w.heap.size w (X7.alloc (.cells #[.string Z] 9)) ∧ Blk (X7.alloc (.cells #[.string Z] 9)) b4 (A8 16 T1) 23 ∧ Blk (X7.alloc (.cells #[.string Z] 9)) b5 (A8 16 T2) 23)
            clear hb
            obtain ⟨V15, hV⟩ : ∃ V, X7.alloc (.cells #[.string Z] 9) = V := ⟨_, rfl⟩
            rw [hV] at z45 hS5 ⊢
            try rw [hV] at o33
            try rw [hV] at o37
            try rw [hV] at o38
            obtain ⟨zq, hzq⟩ : ∃ z, X7.heap.size = z := ⟨_, rfl⟩
            rw [hzq] at z45 ⊢
            try rw [hzq] at hd1
            clear hV hzq
            refine hK.out _ _ (hS5) (fun hS => ?_)
            clear hK K
            clear hS5
            try simp only [Act.put, List.getElem_toArray, List.getElem_cons_succ, List.getElem_cons_zero, List.setIfInBounds_toArray, List.set_cons_zero, List.set_cons_succ]
            refine wpAnyH_ready (rs := [8]) (by kernel_rfl) (by simp) ?_
            refine AllReadyH.cons rfl (fun K hK => ?_) AllReadyH.nil
            rw [if_pos (by rfl)]
            refine oper_append elem148 _ _ rfl rfl o33 rfl (Sees.of_owns o37) (strCells_one _) (by omega) hS.1.size ?_
            intro vc Y8 o38 hg
            try replace z45 := z45.kept hg (.inr (fun e => by first | exact absurd (hd1 _ e.symm) (Nat.lt_irrefl _) | exact absurd (hd2 _ e.symm) (Nat.lt_irrefl _)))
            refine hK.out _ _ (⟨hS.1.trans (grown_below o33 hg hS.1.size), blk_keep o33 hg hS.2.1 (by decide), blk_keep o33 hg hS.2.2 (by decide)⟩) (fun hS => ?_)
            clear hK K
            clear hg
            try simp only [Act.put, List.getElem_toArray, List.getElem_cons_succ, List.getElem_cons_zero, List.setIfInBounds_toArray, List.set_cons_zero, List.set_cons_succ]
            refine wpAnyH_ready (rs := [16]) (by kernel_rfl) (by simp) ?_
            refine AllReadyH.cons rfl (fun K hK => ?_) AllReadyH.nil
            rw [if_pos (by rfl)]
            refine oper_append elem148 _ _ rfl rfl o38 rfl (Sees.of_owns z45) (by simp [Value.oneCell']) (by omega) hS.1.size ?_
            intro vd Y16 o46 hg
            refine hK.out _ _ (⟨hS.1.trans (grown_below o38 hg hS.1.size), blk_keep o38 hg hS.2.1 (by decide), blk_keep o38 hg hS.2.2 (by decide)⟩) (fun hS => ?_)
            clear hK K
            try simp only [Act.put, List.getElem_toArray, List.getElem_cons_succ, List.getElem_cons_zero, List.setIfInBounds_toArray, List.set_cons_zero, List.set_cons_succ]
            refine take_at (i := 17) 2 (vd) rfl rfl (by kernel_rfl) (by kernel_rfl) (by kernel_rfl) (fun _ _ _ h => h) (Or.inl ⟨by rfl, fun W hW => by go_simp⟩) hS ?_
            try simp only [List.setIfInBounds_toArray, List.set_cons_zero, List.set_cons_succ]
            refine wpAnyH_done (by kernel_rfl) ?_ _
            go_wp2_with fail
            go_ret
            exact ⟨_, rfl, hfin _ _ o46, hS.1⟩
          refine AllReadyH.cons rfl (fun K hK => ?_) AllReadyH.nil
          rw [if_pos (by rfl)]
          refine oper_build1 (.tmp 44) rfl (u := .string Z) (C := #[.string Z]) rfl (build148 _ _) ?_
          have z45 := owns_one X3 w.heap.size 9 1 #[.string Z] rfl hS.1.size
          have hb := (Below.refl X3.heap.size X3).alloc (Nat.le_refl _) (.cells #[.string Z] 9)
          try have hd1 := fun q e => (o33.lt q e).2
          try replace o33 := ownsRow_below o33 hb
          try replace o37 := ownsRow_below o37 hb
          try replace o38 := ownsRow_below o38 hb
          replace hS : Below w.heap.size w X3 ∧ Blk X3 b4 (A8 16 T1) 23 ∧ Blk X3 b5 (A8 16 T2) 23 := hS
          have hS5 := (⟨hS.1.trans (hb.mono hS.1.size), hS.2.1.below hb hS.2.1.lt, hS.2.2.below hb hS.2.2.lt⟩ : Below w.heap.size w (X3.alloc (.cells #[.string Z] 9)) ∧ Blk (X3.alloc (.cells #[.string Z] 9)) b4 (A8 16 T1) 23 ∧ Blk (X3.alloc (.cells #[.string Z] 9)) b5 (A8 16 T2) 23)
          clear hb
          obtain ⟨V15, hV⟩ : ∃ V, X3.alloc (.cells #[.string Z] 9) = V := ⟨_, rfl⟩
          rw [hV] at z45 hS5 ⊢
          try rw [hV] at o33
          try rw [hV] at o37
          try rw [hV] at o38
          obtain ⟨zq, hzq⟩ : ∃ z, X3.heap.size = z := ⟨_, rfl⟩
          rw [hzq] at z45 ⊢
          try rw [hzq] at hd1
          clear hV hzq
          refine hK.out _ _ (hS5) (fun hS => ?_)
          clear hK K
          clear hS5
          try simp only [Act.put, List.getElem_toArray, List.getElem_cons_succ, List.getElem_cons_zero, List.setIfInBounds_toArray, List.set_cons_zero, List.set_cons_succ]
          refine wpAnyH_ready (rs := [7]) (by kernel_rfl) (by simp) ?_
          refine AllReadyH.cons rfl (fun K hK => ?_) AllReadyH.nil
          go_simp
          refine (CB.out _ hS.1).mono ?_
          rintro e X7 ⟨rb, rfl, o37, hb⟩
          skip
          replace o37 := ownsRow_base o37 hS.1.size
          try replace o33 := ownsRow_below o33 hb
          try replace z45 := ownsRow_below z45 hb
          refine hK.out _ _ (⟨hS.1.trans (hb.mono hS.1.size), hS.2.1.below hb hS.2.1.lt, hS.2.2.below hb hS.2.2.lt⟩) (fun hS => ?_)
          clear hK K
          clear hb
          try simp only [Act.put, List.getElem_toArray, List.getElem_cons_succ, List.getElem_cons_zero, List.setIfInBounds_toArray, List.set_cons_zero, List.set_cons_succ]
          refine wpAnyH_ready (rs := [8]) (by kernel_rfl) (by simp) ?_
          refine AllReadyH.cons rfl (fun K hK => ?_) AllReadyH.nil
          rw [if_pos (by rfl)]
          refine oper_append elem148 _ _ rfl rfl o33 rfl (Sees.of_owns o37) (strCells_one _) (by omega) hS.1.size ?_
          intro vc Y8 o38 hg
          try replace z45 := z45.kept hg (.inr (fun e => by first | exact absurd (hd1 _ e.symm) (Nat.lt_irrefl _) | exact absurd (hd2 _ e.symm) (Nat.lt_irrefl _)))
          refine hK.out _ _ (⟨hS.1.trans (grown_below o33 hg hS.1.size), blk_keep o33 hg hS.2.1 (by decide), blk_keep o33 hg hS.2.2 (by decide)⟩) (fun hS => ?_)
          clear hK K
          clear hg
          try simp only [Act.put, List.getElem_toArray, List.getElem_cons_succ, List.getElem_cons_zero, List.setIfInBounds_toArray, List.set_cons_zero, List.set_cons_succ]
          refine wpAnyH_ready (rs := [16]) (by kernel_rfl) (by simp) ?_
          refine AllReadyH.cons rfl (fun K hK => ?_) AllReadyH.nil
          rw [if_pos (by rfl)]
          refine oper_append elem148 _ _ rfl rfl o38 rfl (Sees.of_owns z45) (by simp [Value.oneCell']) (by omega) hS.1.size ?_
          intro vd Y16 o46 hg
          refine hK.out _ _ (⟨hS.1.trans (grown_below o38 hg hS.1.size), blk_keep o38 hg hS.2.1 (by decide), blk_keep o38 hg hS.2.2 (by decide)⟩) (fun hS => ?_)
          clear hK K
          try simp only [Act.put, List.getElem_toArray, List.getElem_cons_succ, List.getElem_cons_zero, List.setIfInBounds_toArray, List.set_cons_zero, List.set_cons_succ]
          refine take_at (i := 17) 2 (vd) rfl rfl (by kernel_rfl) (by kernel_rfl) (by kernel_rfl) (fun _ _ _ h => h) (Or.inl ⟨by rfl, fun W hW => by go_simp⟩) hS ?_
          try simp only [List.setIfInBounds_toArray, List.set_cons_zero, List.set_cons_succ]
          refine wpAnyH_done (by kernel_rfl) ?_ _
          go_wp2_with fail
          go_ret
          exact ⟨_, rfl, hfin _ _ o46, hS.1⟩
        refine AllReadyH.cons rfl (fun K hK => ?_) AllReadyH.nil
        rw [if_pos (by rfl)]
        refine oper_build1 (.tmp 44) rfl (u := .string Z) (C := #[.string Z]) rfl (build148 _ _) ?_
        have z45 := owns_one W6.drew w.heap.size 9 1 #[.string Z] rfl hS.1.size
        have hb := (Below.refl W6.drew.heap.size W6.drew).alloc (Nat.le_refl _) (.cells #[.string Z] 9)
        try have hd1 := fun q e => (o33.lt q e).2
        try replace o33 := ownsRow_below o33 hb
        try replace o37 := ownsRow_below o37 hb
        try replace o38 := ownsRow_below o38 hb
        replace hS : Below w.heap.size w W6.drew ∧ Blk W6.drew b4 (A8 16 T1) 23 ∧ Blk W6.drew b5 (A8 16 T2) 23 := hS
        have hS5 := (⟨hS.1.trans (hb.mono hS.1.size), hS.2.1.below hb hS.2.1.lt, hS.2.2.below hb hS.2.2.lt⟩ : Below w.heap.size w (W6.drew.alloc (.cells #[.string Z] 9)) ∧ Blk (W6.drew.alloc (.cells #[.string Z] 9)) b4 (A8 16 T1) 23 ∧ Blk (W6.drew.alloc (.cells #[.string Z] 9)) b5 (A8 16 T2) 23)
        clear hb
        obtain ⟨V15, hV⟩ : ∃ V, W6.drew.alloc (.cells #[.string Z] 9) = V := ⟨_, rfl⟩
        rw [hV] at z45 hS5 ⊢
        try rw [hV] at o33
        try rw [hV] at o37
        try rw [hV] at o38
        obtain ⟨zq, hzq⟩ : ∃ z, W6.drew.heap.size = z := ⟨_, rfl⟩
        rw [hzq] at z45 ⊢
        try rw [hzq] at hd1
        clear hV hzq
        refine hK.out _ _ (hS5) (fun hS => ?_)
        clear hK K
        clear hS5
        try simp only [Act.put, List.getElem_toArray, List.getElem_cons_succ, List.getElem_cons_zero, List.setIfInBounds_toArray, List.set_cons_zero, List.set_cons_succ]
        refine wpAnyH_ready (rs := [3]) (by kernel_rfl) (by simp) ?_
        refine AllReadyH.cons rfl (fun K hK => ?_) AllReadyH.nil
        go_simp
        refine (CA.out _ hS.1).mono ?_
        rintro e X3 ⟨ra, rfl, o33, hb⟩
        try have hd2 := fun q e => Nat.lt_of_lt_of_le (z45.lt zq rfl).2 (o33.lt q e).1
        replace o33 := ownsRow_base o33 hS.1.size
        try replace o37 := ownsRow_below o37 hb
        try replace z45 := ownsRow_below z45 hb
        refine hK.out _ _ (⟨hS.1.trans (hb.mono hS.1.size), hS.2.1.below hb hS.2.1.lt, hS.2.2.below hb hS.2.2.lt⟩) (fun hS => ?_)
        clear hK K
        clear hb
        try simp only [Act.put, List.getElem_toArray, List.getElem_cons_succ, List.getElem_cons_zero, List.setIfInBounds_toArray, List.set_cons_zero, List.set_cons_succ]
        refine wpAnyH_ready (rs := [7]) (by kernel_rfl) (by simp) ?_
        refine AllReadyH.cons rfl (fun K hK => ?_) AllReadyH.nil
        go_simp
        refine (CB.out _ hS.1).mono ?_
        rintro e X7 ⟨rb, rfl, o37, hb⟩
        skip
        replace o37 := ownsRow_base o37 hS.1.size
        try replace o33 := ownsRow_below o33 hb
        try replace z45 := ownsRow_below z45 hb
        refine hK.out _ _ (⟨hS.1.trans (hb.mono hS.1.size), hS.2.1.below hb hS.2.1.lt, hS.2.2.below hb hS.2.2.lt⟩) (fun hS => ?_)
        clear hK K
        clear hb
        try simp only [Act.put, List.getElem_toArray, List.getElem_cons_succ, List.getElem_cons_zero, List.setIfInBounds_toArray, List.set_cons_zero, List.set_cons_succ]
        refine wpAnyH_ready (rs := [8]) (by kernel_rfl) (by simp) ?_
        refine AllReadyH.cons rfl (fun K hK => ?_) AllReadyH.nil
        rw [if_pos (by rfl)]
        refine oper_append elem148 _ _ rfl rfl o33 rfl (Sees.of_owns o37) (strCells_one _) (by omega) hS.1.size ?_
        intro vc Y8 o38 hg
        try replace z45 := z45.kept hg (.inr (fun e => by first | exact absurd (hd1 _ e.symm) (Nat.lt_irrefl _) | exact absurd (hd2 _ e.symm) (Nat.lt_irrefl _)))
        refine hK.out _ _ (⟨hS.1.trans (grown_below o33 hg hS.1.size), blk_keep o33 hg hS.2.1 (by decide), blk_keep o33 hg hS.2.2 (by decide)⟩) (fun hS => ?_)
        clear hK K
        clear hg
        try simp only [Act.put, List.getElem_toArray, List.getElem_cons_succ, List.getElem_cons_zero, List.setIfInBounds_toArray, List.set_cons_zero, List.set_cons_succ]
        refine wpAnyH_ready (rs := [16]) (by kernel_rfl) (by simp) ?_
        refine AllReadyH.cons rfl (fun K hK => ?_) AllReadyH.nil
        rw [if_pos (by rfl)]
        refine oper_append elem148 _ _ rfl rfl o38 rfl (Sees.of_owns z45) (by simp [Value.oneCell']) (by omega) hS.1.size ?_
        intro vd Y16 o46 hg
        refine hK.out _ _ (⟨hS.1.trans (grown_below o38 hg hS.1.size), blk_keep o38 hg hS.2.1 (by decide), blk_keep o38 hg hS.2.2 (by decide)⟩) (fun hS => ?_)
        clear hK K
        try simp only [Act.put, List.getElem_toArray, List.getElem_cons_succ, List.getElem_cons_zero, List.setIfInBounds_toArray, List.set_cons_zero, List.set_cons_succ]
        refine take_at (i := 17) 2 (vd) rfl rfl (by kernel_rfl) (by kernel_rfl) (by kernel_rfl) (fun _ _ _ h => h) (Or.inl ⟨by rfl, fun W hW => by go_simp⟩) hS ?_
        try simp only [List.setIfInBounds_toArray, List.set_cons_zero, List.set_cons_succ]
        refine wpAnyH_done (by kernel_rfl) ?_ _
        go_wp2_with fail
        go_ret
        exact ⟨_, rfl, hfin _ _ o46, hS.1⟩
end Go.Proofs.YtdpgebifeaakjaaDoor

/- ways, walked. -/
namespace Go.Proofs.YtdpgebifeaakjaaDoor
set_option linter.unusedSimpArgs false
set_option linter.unusedVariables false
open Go.RowKit
/-- A digest, and three slices behind it. -/
def wayC (d : Nat → BitVec 8) (t u v : Value) : Array Value := Row 19 fun i => if i < 16 then U8 (d i) else if i = 16 then t else if i = 17 then u else v
theorem wayC.size (d : Nat → BitVec 8) (t u v : Value) : (wayC d t u v).size = 19 := Row.size _ _
theorem wayC.one (d : Nat → BitVec 8) (t u v : Value) (ht : t.oneCell' = true) (hu : u.oneCell' = true) (hv : v.oneCell' = true) : (wayC d t u v).all (·.oneCell') = true := Row.all fun i hi => by
  split
  · rfl
  · split
    · exact ht
    · split
      · exact hu
      · exact hv
theorem size177 : (Tryd.prog.info? 177).map (·.size) = some 19 := by kernel_rfl
theorem build177 (d : Nat → BitVec 8) (p : Option Addr) (k c : Nat) (q : Option Addr) (l e : Nat) (r : Option Addr) (m f : Nat) (w : World) : (Instr.build 177 #[(0, .agg (A8 16 d)), (1, .slice p k c), (2, .slice q l e), (3, .slice r m f)]).run Tryd.prog w = .ok (.agg (wayC d (.slice p k c) (.slice q l e) (.slice r m f))) w := by kernel_rfl
theorem build177b (d : Nat → BitVec 8) (q : Option Addr) (l e : Nat) (r : Option Addr) (m f : Nat) (w : World) : (Instr.build 177 #[(0, .agg (A8 16 d)), (2, .slice q l e), (3, .slice r m f)]).run Tryd.prog w = .ok (.agg (wayC d (.slice none 0 0) (.slice q l e) (.slice r m f))) w := by kernel_rfl
@[go_sem] theorem lit177 : (#[Value.int .u8 0, Value.int .u8 0, Value.int .u8 0, Value.int .u8 0, Value.int .u8 0, Value.int .u8 0, Value.int .u8 0, Value.int .u8 0, Value.int .u8 0, Value.int .u8 0, Value.int .u8 0, Value.int .u8 0, Value.int .u8 0, Value.int .u8 0, Value.int .u8 0, Value.int .u8 0, Value.slice none 0 0, Value.slice none 0 0, Value.slice none 0 0] : Array Value) = wayC (fun _ => 0#8) (.slice none 0 0) (.slice none 0 0) (.slice none 0 0) := by kernel_rfl
theorem wayC.range {W : World} {b : Nat} {d : Nat → BitVec 8} {t u v : Value} (h : Blk W b (wayC d t u v) 177) : W.rangeAt b 0 (A8 16 d).toList :=
  Blk.rangeAt (F := fun i => if i < 16 then U8 (d i) else if i = 16 then t else if i = 17 then u else v) h 0 16 (fun i => U8 (d i)) (by omega) fun j hj => by
    rw [Nat.zero_add, if_pos hj]
theorem wayC.cell16 {W : World} {b : Nat} {d : Nat → BitVec 8} {t u v : Value} (h : Blk W b (wayC d t u v) 177) : W.cell? ⟨b, 16, none⟩ = some t := by
  rw [h.cell, wayC, Row.get _ (by omega)]; rfl
theorem wayC.cell17 {W : World} {b : Nat} {d : Nat → BitVec 8} {t u v : Value} (h : Blk W b (wayC d t u v) 177) : W.cell? ⟨b, 17, none⟩ = some u := by
  rw [h.cell, wayC, Row.get _ (by omega)]; rfl
theorem wayC.cell18 {W : World} {b : Nat} {d : Nat → BitVec 8} {t u v : Value} (h : Blk W b (wayC d t u v) 177) : W.cell? ⟨b, 18, none⟩ = some v := by
  rw [h.cell, wayC, Row.get _ (by omega)]; rfl
theorem owns_upd {W W' : World} {base e size k b : Nat} {v : Value} {xs : List Value} (h : W.ownsRow base e size v k xs) (hu : Upd b W W') (hb : b < base) : W'.ownsRow base e size v k xs := by
  obtain ⟨h0, h1 | ⟨g, cap, cur, rfl, h2, hh, h3⟩⟩ := h
  · exact ⟨h0, .inl h1⟩
  · exact ⟨h0, .inr ⟨g, cap, cur, rfl, h2, (hu.block g (by omega)).trans hh, h3⟩⟩
/-- The store of a row that is number k, in one step. -/
theorem storeK_row {P : Program} {md : Region.Mode} {ops : Array Oper} {Q : Exit → Act → World → Prop} {S : World → Prop} {k f : Nat} {l : Array Bool} {a : Act} {w : World} {o : Oper} (hr : Region.ready md ops l = [k]) (hk : k < l.size) (ho : ops[k]? = some o) (hgd : o.guard = none)
    (ty : TypeId) (x y : Operand) (hop : o.op = .store ty x y) (b : Nat) (hx : a.eval x = .pointer (some ⟨b, 0, none⟩)) {C' : Array Value} (hy : a.eval y = .agg C') {t : TypeId} {C : Array Value} (hb : Blk w b C t) {n : Nat}
    (hi : (P.info? ty).map (·.size) = some n) (hn' : C'.size = n) (hn : C.size = n) (h1 : C'.all (·.oneCell') = true) (hdst : o.dst = none)
    (h : ∀ w', Upd b w w' → Blk w' b C' t → wpAnyH P md ops Q (fun _ => True) f (l.setIfInBounds k true) a w') : wpAnyK P md ops Q S k (f + 1) l a w :=
  storeK hr hk ho hgd fun K hK => wpo_storeRow ty x y hop b hx hy hb hi hn' hn h1 hdst fun w' hu hk2 => hK.out a w' (h w' hu hk2)
/-- An append to an owned row that is not nil: its block is the old one, or a new one. -/
theorem oper_appendN {o : Oper} {a : Act} {w : World} {Q : Exit → Act → World → Prop} {K : Act → World → Prop} {t e size bytes : Nat} (E : ElemF t e size bytes)
    (s x : Operand) (hop : o.op = Op.call { callee := Callee.builtin Builtin.append, args := #[s, x], argTypes := #[t, t] })
    {base k m g cap : Nat} {u : Value} {xs ys : List Value} (hs : a.eval s = .slice (some ⟨g, 0, none⟩) k cap) (hv : w.ownsRow base e size (.slice (some ⟨g, 0, none⟩) k cap) k xs) (hx : a.eval x = u) (hu : Sees w size u m ys)
    (one : ∀ y ∈ ys, y.oneCell' = true) (hkm : k + m ≤ 1000000) (hbase : base ≤ w.heap.size)
    (h : ∀ g' c' w', w'.ownsRow base e size (.slice (some ⟨g', 0, none⟩) (k + m) c') (k + m) (xs ++ ys) → w.grownBy w' (Value.slice (some ⟨g, 0, none⟩) k cap).ownBlock → (g' = g ∨ w.heap.size ≤ g') → K (a.put o.dst (.slice (some ⟨g', 0, none⟩) (k + m) c')) w') : Oper.wp Tryd.prog o a w K Q := by
  obtain ⟨i0, z, hi0, hz0, hz1, hz2, hz3⟩ := E.hi
  have hbb := E.hb
  have hss := E.hs
  have h63 : k + m ≤ maxLen := by unfold maxLen; omega
  have hbytes : (k + m) * bytes ≤ 140737488355328 := Nat.le_trans (Nat.mul_le_mul hkm hbb) (by decide)
  obtain ⟨p, cp, rfl, hc, hl, hd⟩ := hu
  cases p with
  | none =>
    have hm : m = 0 := by
      cases m with
      | zero => rfl
      | succ m =>
        obtain ⟨_, _, e, _⟩ := hd (by omega)
        cases e
    subst hm
    have hys : ys = [] := List.eq_nil_of_length_eq_zero (by rw [hl]; omega)
    subst hys
    have hrun := run_append_none (P := Tryd.prog) (w := w) base t o.type e i0 size E.ht hi0 _ k cp _ hv
    unfold Oper.wp
    simp [execOp, hop, resolve, invoke, builtin, hs, hx, hrun, Result.andThen]
    refine h g cap w ?_ ⟨rfl, rfl, rfl, Nat.le_refl _, fun k _ _ => rfl⟩ (.inl rfl)
    rw [List.append_nil, Nat.add_zero]
    exact hv
  | some ad =>
    have key : ∀ (ad : Addr), (∀ j u, ys[j]? = some u → w.cell? (ad.add j) = some u) → a.eval x = .slice (some ad) m cp → Oper.wp Tryd.prog o a w K Q := by
      intro ad hnews hx
      obtain ⟨v', w', hr, h2, h3, _⟩ := run_append_own (P := Tryd.prog) w base t o.type e i0 z size bytes E.ht hi0 hz0 hz1 hz2 hz3 hss _ k xs hv ad m cp ys hl hnews one h63 hbytes hbase
      have hshape : ∃ g' c', v' = .slice (some ⟨g', 0, none⟩) (k + m) c' ∧ (g' = g ∨ w.heap.size ≤ g') := by
        have hv' := hv
        obtain ⟨hl0, ⟨e1, _⟩ | ⟨g0, cap0, cur, e1, hbg, hgg, hnc, hcm, hcs, htake⟩⟩ := hv'
        · cases e1
        · injection e1 with e1 _ e3
          injection e1 with e1
          injection e1 with e1
          subst e1 e3
          subst hz1
          by_cases hroom : k + m ≤ cap
          · have hfit : k * i0.size + ys.length ≤ cur.size := by rw [hl, hcs, ← Nat.add_mul]; exact Nat.mul_le_mul_right _ hroom
            have hr2 := run_append_room (P := Tryd.prog) w t o.type e i0 E.ht hi0 g k cap cur hgg ad m cp ys hl hnews one hroom hfit
            rw [hr] at hr2
            injection hr2 with hr2
            exact ⟨_, _, hr2, .inl rfl⟩
          · have holds := hv.cells (g := g) rfl
            have hr2 := run_append_grow (P := Tryd.prog) w t o.type e i0 z E.ht hi0 hz0 ⟨g, 0, none⟩ k cap xs hl0 holds ad m cp ys hl hnews (by omega) (by omega) (growslice_fits (by omega) (by rw [hz2]; exact hbytes))
            rw [hr] at hr2
            injection hr2 with hr2
            exact ⟨_, _, hr2, .inr (Nat.le_refl _)⟩
      obtain ⟨g', c', rfl, hg'⟩ := hshape
      unfold Oper.wp execOp
      simp only [hop, resolve, invoke, builtin, Sem.run_bind, Sem.run_pure, Result.andThen_ok, List.map_toArray, List.map_cons, List.map_nil, hs, hx, hr]
      exact h g' c' w' h2 h3 hg'
    by_cases hm : m = 0
    · subst hm
      have hys : ys = [] := List.eq_nil_of_length_eq_zero (by rw [hl]; omega)
      subst hys
      exact key ad (fun j u hj => by simp at hj) hx
    · obtain ⟨g1, o', e', hcc⟩ := hd (by omega)
      injection e' with e'
      subst e'
      exact key _ (fun j u hj => by rw [Addr.add_lit]; exact hcc j u hj) hx
end Go.Proofs.YtdpgebifeaakjaaDoor

/- ways of one block, walked. -/
namespace Go.Proofs.YtdpgebifeaakjaaDoor
set_option linter.unusedSimpArgs false
set_option linter.unusedVariables false
open Go.RowKit
set_option maxRecDepth 20000 in
set_option maxHeartbeats 400000 in
theorem ways_one (w0 : World) (x : Nat × Nat) (R : List (Nat × Nat)) (a b r : Nat) (T : Nat → Nat → BitVec 8) (v1 v2 : Value) (w : World) (hW0 : Below w0.heap.size w0 w) (hb : b = a + x.2) (hb2 : b ≤ 1099511627776) (hR : R.length ≤ 1000) (hr : r ≤ 1000) (h1 : SlC w0 v1 (x :: R)) (h2 : Digs w0 v2 (r + 1) T) :
    Calls Tryd.prog 119 #[v1, v2, .int .i64 (a : Int), .int .i64 (b : Int)] w fun e w' => ∃ u0 u1 u2, e = .returned (.agg (wayC (T 0) u0 u1 u2)) ∧ SlC w0 u1 R ∧ Digs w0 u2 r (fun j => T (j + 1)) ∧ Sees w' 1 u0 ([] : List (List (BitVec 8))).length (strCells ([] : List (List (BitVec 8)))) ∧ Below w.heap.size w w' := by
  have h11 := h1
  have h22 := h2
  obtain ⟨p, c, rfl, hc, hcell⟩ := h1
  obtain ⟨bg, bo, rfl, c0, c1⟩ := hcell 0 x rfl
  rw [List.length_cons] at h11 hc ⊢
  obtain ⟨q, c2, rfl, hc2, hd⟩ := h2
  obtain ⟨g, o, rfl, r0⟩ := hd 0 (by omega)
  rw [Nat.zero_mul, Nat.add_zero] at r0 c1
  replace r0 := rangeAt_below r0 hW0
  replace c1 := cell_below c1 hW0
  have hg : g < w.heap.size := World.block_lt_of_cell? w _ (r0 0 _ (by rw [Array.getElem?_toList, A8.get _ (by omega)]))
  obtain ⟨p1, hp1⟩ : ∃ p1 : Option Addr, (if c = 1 then some ⟨bg, bo, none⟩ else some ⟨bg, bo + 2, none⟩) = p1 := ⟨_, rfl⟩
  obtain ⟨p2, hp2⟩ : ∃ p2 : Option Addr, (if c2 = 1 then some ⟨g, o, none⟩ else some ⟨g, o + 16, none⟩) = p2 := ⟨_, rfl⟩
  have d1 := slC_tail h11 hp1
  have d2 := digs_tail h22 hp2
  have ko := Blk.new w (wayC (fun _ => 0#8) (.slice none 0 0) (.slice none 0 0) (.slice none 0 0)) 177
  have hB : Below w.heap.size w (w.alloc (.cells (wayC (fun _ => 0#8) (.slice none 0 0) (.slice none 0 0) (.slice none 0 0)) 177)) := (Below.refl _ _).alloc (Nat.le_refl _) _
  obtain ⟨W1, hW1⟩ : ∃ W1, w.alloc (.cells (wayC (fun _ => 0#8) (.slice none 0 0) (.slice none 0 0) (.slice none 0 0)) 177) = W1 := ⟨_, rfl⟩
  rw [hW1] at ko hB
  have c1' := cell_below c1 hB
  have hbm : (b : Int) - (a : Int) = (x.2 : Int) := by omega
  have hr0 : (0 : Int) < (R.length : Int) + 1 := by omega
  have hr1 : ¬ ((R.length : Int) + 1 ≤ 0) := by omega
  have hr2 : ¬ ((R.length : Int) + 1 = 0) := by omega
  have hs0 : (0 : Int) < (r : Int) + 1 := by omega
  have hs1 : ¬ ((r : Int) + 1 ≤ 0) := by omega
  have hs2 : ¬ ((r : Int) + 1 = 0) := by omega
  have hr3 : ((R.length : Int) + 1 == 0) = false := beq_eq_false_iff_ne.2 hr2
  have hs3 : ((r : Int) + 1 == 0) = false := beq_eq_false_iff_ne.2 hs2
  have hw1 : wrap64 (x.2 : Int) = (x.2 : Int) := by unfold wrap64; omega
  have HP := hide hp1
  have HQ := hide hp2
  clear h11 h22 hcell hd hc hc2 c0 hp1 hp2 hb
  go_enter Tryd.func119, Tryd.ntmps119
  go_wp2_with fail
  have hp1 := HP.out
  have hp2 := HQ.out
  refine wp_region_held_drew (S := fun w' => w'.rangeAt g o (A8 16 (T 0)).toList) (by kernel_rfl) (rangeAt_below r0 hB.drew) (fun hS => ?_)
  simp only [List.size_toArray, List.length_cons, List.length_nil, Nat.reduceAdd, Array.replicate_succ, Array.replicate_zero, List.push_toArray, List.nil_append, List.cons_append]
  refine take_at (i := 0) 30 (.slice (some ⟨g, o, none⟩) (r + 1) c2) rfl rfl (by kernel_rfl) (by kernel_rfl) (by kernel_rfl) (fun _ _ _ h => h) (Or.inl ⟨by rfl, fun W hW => by go_simp⟩) hS ?_
  try simp only [List.setIfInBounds_toArray, List.set_cons_zero, List.set_cons_succ]
  refine take_at (i := 1) 31 (.pointer (some ⟨g, o, none⟩)) rfl rfl (by kernel_rfl) (by kernel_rfl) (by kernel_rfl) (fun _ _ _ h => h) (Or.inl ⟨by rfl, fun W hW => by go_simp⟩) hS ?_
  try simp only [List.setIfInBounds_toArray, List.set_cons_zero, List.set_cons_succ]
  refine take_at (i := 2) 32 (.agg (A8 16 (T 0))) rfl rfl (by kernel_rfl) (by kernel_rfl) (by kernel_rfl) (fun _ _ _ h => h) (Or.inl ⟨by rfl, fun W hW => exec_load_range _ 23 _ rfl g o rfl hW Tryd.underlying23 rfl size23 (A8.size _ _)⟩) hS ?_
  try simp only [List.setIfInBounds_toArray, List.set_cons_zero, List.set_cons_succ]
  refine take_at (i := 3) 33 (.slice (some ⟨bg, bo, none⟩) (R.length + 1) c) rfl rfl (by kernel_rfl) (by kernel_rfl) (by kernel_rfl) (fun _ _ _ h => h) (Or.inl ⟨by rfl, fun W hW => by go_simp⟩) hS ?_
  try simp only [List.setIfInBounds_toArray, List.set_cons_zero, List.set_cons_succ]
  refine take_at (i := 4) 34 (.slice p1 R.length (c - 1)) rfl rfl (by kernel_rfl) (by kernel_rfl) (by kernel_rfl) (fun _ _ _ h => h) (Or.inl ⟨by rfl, fun W hW => by rw [← hp1]; exact exec_slice1 _ 33 106 2 _ rfl bg bo (R.length + 1) c rfl rfl Tryd.underlying33 (by kernel_rfl) (by omega)⟩) hS ?_
  try simp only [List.setIfInBounds_toArray, List.set_cons_zero, List.set_cons_succ]
  refine take_at (i := 5) 35 (.slice (some ⟨g, o, none⟩) (r + 1) c2) rfl rfl (by kernel_rfl) (by kernel_rfl) (by kernel_rfl) (fun _ _ _ h => h) (Or.inl ⟨by rfl, fun W hW => by go_simp⟩) hS ?_
  try simp only [List.setIfInBounds_toArray, List.set_cons_zero, List.set_cons_succ]
  refine take_at (i := 6) 36 (.slice p2 r (c2 - 1)) rfl rfl (by kernel_rfl) (by kernel_rfl) (by kernel_rfl) (fun _ _ _ h => h) (Or.inl ⟨by rfl, fun W hW => by rw [← hp2]; exact exec_slice1 _ 80 23 16 _ rfl g o (r + 1) c2 rfl rfl Tryd.underlying80 size23 (by omega)⟩) hS ?_
  try simp only [List.setIfInBounds_toArray, List.set_cons_zero, List.set_cons_succ]
  refine take_at (i := 7) 37 (.agg (wayC (T 0) (.slice none 0 0) (.slice p1 R.length (c - 1)) (.slice p2 r (c2 - 1)))) rfl rfl (by kernel_rfl) (by kernel_rfl) (by kernel_rfl) (fun _ _ _ h => h) (Or.inl ⟨by rfl, fun W hW => exec_build _ 177 #[(0, .tmp 32), (2, .tmp 34), (3, .tmp 36)] rfl #[(0, .agg (A8 16 (T 0))), (2, .slice p1 R.length (c - 1)), (3, .slice p2 r (c2 - 1))] rfl _ (build177b _ _ _ _ _ _ _)⟩) hS ?_
  try simp only [List.setIfInBounds_toArray, List.set_cons_zero, List.set_cons_succ]
  refine wpAnyH_ready (rs := [8]) (by kernel_rfl) (by simp) ?_
  refine allReadyH_store rfl rfl (C' := (wayC (T 0) (.slice none 0 0) (.slice p1 R.length (c - 1)) (.slice p2 r (c2 - 1)))) 177 (.tmp 8) (.tmp 37) rfl w.heap.size rfl rfl ko.drew size177 (wayC.size _ _ _ _) (wayC.size _ _ _ _) (wayC.one _ _ _ _ rfl rfl rfl) rfl (fun W9 hu k9 => ?_)
  refine ⟨rangeAt_upd hS hu (by omega), fun hS => ?_⟩
  try simp only [Act.put, List.getElem_toArray, List.getElem_cons_succ, List.getElem_cons_zero, List.setIfInBounds_toArray, List.set_cons_zero, List.set_cons_succ]
  refine wpAnyH_done (by kernel_rfl) ?_ _
  go_wp2_with fail
  exact ret_row rfl w.heap.size rfl k9 Tryd.underlying177 rfl size177 (wayC.size _ _ _ _) rfl ⟨_, _, _, rfl, d1, d2, Sees.nil _ _ _ _, hu.below hB.drew (Nat.le_refl _)⟩
end Go.Proofs.YtdpgebifeaakjaaDoor


/- The walk of the specification's cover. -/
import Derived.Test.YtdpgebifeaakjaaDoorV1
namespace Go.Proofs.YtdpgebifeaakjaaDoor
set_option linter.unusedSimpArgs false
set_option linter.unusedVariables false
open Go.RowKit

set_option maxRecDepth 100000 in
set_option maxHeartbeats 2000000 in
theorem rcover_any (a b : Nat) (hab : a ≤ b) (hb : b ≤ 1099511627776) (w : World) :
    Calls Tryd.prog 63 #[.int .i64 a, .int .i64 b] w fun e w' => ∃ v, e = .returned v ∧ w'.ownsRow w.heap.size 106 2 v (coverL a b).length (cellsOf (coverL a b)) ∧ Below w.heap.size w w' := by
  obtain ⟨i0, hi, hz0, hz1, hz2⟩ := info_parts info106
  go_enter Tryd.func63, Tryd.ntmps63
  go_wp2_with fail
  go_loopw [0, 5] (fun s0 s5 W => ∃ (c : Nat) (pre : List (Nat × Nat)), c ≤ b ∧ s0 = .int .i64 c ∧ coverL a b = pre ++ coverL c b ∧ W.ownsRow w.heap.size 106 2 s5 pre.length (cellsOf pre) ∧ Below w.heap.size w W) (fun s0 _ _ => b - (intOf s0).toNat)
  case atStart => exact ⟨a, [], hab, rfl, rfl, World.ownsRow_nil _ _ _ _, Below.refl _ _⟩
  case round =>
    obtain ⟨c, pre, hc, rfl, hx, hrow, hB⟩ := hrel
    have HX := hide hx
    clear hx
    by_cases hlt : c < b
    · have hlt1 : (c : Int) < (b : Int) := by omega
      go_wp2_with fail
      go_loopw [6] (fun s6 W => ∃ n : Nat, s6 = .int .i64 n ∧ Hid (∃ k, n = 2 ^ k) ∧ n ∣ c ∧ c + n ≤ b ∧ 0 < n ∧ W = wr) (fun s6 _ => b - (intOf s6).toNat)
      case atStart => exact ⟨1, rfl, hide ⟨0, rfl⟩, Nat.one_dvd c, by omega, by omega, rfl⟩
      case round =>
        obtain ⟨n, rfl, hk, hd, hn, hn0, rfl⟩ := hrel
        have HD := hide hd
        clear hd
        have q0 : (0 : Int) < (n : Int) := by omega
        have q1 : 2 * (n : Int) ≤ 2199023255552 := by omega
        have q2 : (0 : Int) ≤ (c : Int) := by omega
        by_cases ht1 : c % (2 * n) = 0
        · have ht1' : (c : Int) % (2 * (n : Int)) = 0 := by have := congrArg (Nat.cast (R := Int)) ht1; simpa using this
          by_cases ht2 : c + 2 * n ≤ b
          · have ht2' : (c : Int) + 2 * (n : Int) ≤ (b : Int) := by omega
            go_wp2_with fail
            refine ⟨⟨2 * n, by go_num, ?_, Nat.dvd_of_mod_eq_zero ht1, ht2, by omega, trivial⟩, by simp [intOf]; omega⟩
            obtain ⟨k, rfl⟩ := hk.out
            exact hide ⟨k + 1, by rw [Nat.pow_succ, Nat.mul_comm]⟩
          · have ht2' : ¬ (c : Int) + 2 * (n : Int) ≤ (b : Int) := by omega
            have hst : stepN c b = n := by
              obtain ⟨k, rfl⟩ := hk.out
              exact step_found c b k hb HD.out hn (fun h => ht2 (by have h2 := h.2; rw [Nat.pow_succ, Nat.mul_comm] at h2; exact h2))
            clear hk
            have HST := hide hst
            have hl1 : pre.length + 1 ≤ 1099511627776 := by
              have h1 := coverL_length a b
              rw [HX.out, coverL_cons hlt] at h1
              simp at h1
              omega
            have hml : pre.length + 1 ≤ maxLen := by unfold maxLen; omega
            have hby : (pre.length + 1) * 16 ≤ 140737488355328 := by omega
            have hbs : w.heap.size ≤ (wr.alloc (.cells #[.int .i64 c, .int .i64 n] 106)).heap.size := by have := hB.size; simp; omega
            have hs1 : (c : Int) + (n : Int) ≤ 1099511627776 := by omega
            clear hst
            go_wp2_with (at_builtin; go_loud (refine wpList_append_own _ rfl _ _ 33 rfl w.heap.size 106 i0 (.agg #[.int .i64 0, .int .i64 0]) 2 16 Tryd.underlying33 hi hz0 hz1 hz2 rfl (by decide) _ _ _ rfl (hrow.alloc _) ⟨wr.heap.size, 0, none⟩ 1 1 [.int .i64 c, .int .i64 n] rfl rfl (cells_two_new _ _ _ _) (by simp [Value.oneCell']) hml hby hbs ?_); intro v' w1 hown' hgrow _)
            refine ⟨⟨c + n, pre ++ [(c, n)], hn, by go_num, ?_, ?_, ?_⟩, by simp [intOf]; omega⟩
            · rw [HX.out, coverL_cons hlt, HST.out, List.append_assoc]; rfl
            · rw [cellsOf_snoc, List.length_append]; exact hown'
            · exact (hB.alloc hB.size _).grown hgrow hbs (fun k e => (hrow.lt k e).1)
        · have ht1' : ¬ (c : Int) % (2 * (n : Int)) = 0 := by
            intro h
            apply ht1
            have : ((c % (2 * n) : Nat) : Int) = 0 := by simpa using h
            exact Int.ofNat.inj this
          have hst : stepN c b = n := by
            obtain ⟨k, rfl⟩ := hk.out
            exact step_found c b k hb HD.out hn (fun h => ht1 (Nat.mod_eq_zero_of_dvd (by have h1 := h.1; rw [Nat.pow_succ, Nat.mul_comm] at h1; exact h1)))
          clear hk
          have HST := hide hst
          have hl1 : pre.length + 1 ≤ 1099511627776 := by
            have h1 := coverL_length a b
            rw [HX.out, coverL_cons hlt] at h1
            simp at h1
            omega
          have hml : pre.length + 1 ≤ maxLen := by unfold maxLen; omega
          have hby : (pre.length + 1) * 16 ≤ 140737488355328 := by omega
          have hbs : w.heap.size ≤ (wr.alloc (.cells #[.int .i64 c, .int .i64 n] 106)).heap.size := by have := hB.size; simp; omega
          have hs1 : (c : Int) + (n : Int) ≤ 1099511627776 := by omega
          clear hst
          go_wp2_with (at_builtin; go_loud (refine wpList_append_own _ rfl _ _ 33 rfl w.heap.size 106 i0 (.agg #[.int .i64 0, .int .i64 0]) 2 16 Tryd.underlying33 hi hz0 hz1 hz2 rfl (by decide) _ _ _ rfl (hrow.alloc _) ⟨wr.heap.size, 0, none⟩ 1 1 [.int .i64 c, .int .i64 n] rfl rfl (cells_two_new _ _ _ _) (by simp [Value.oneCell']) hml hby hbs ?_); intro v' w1 hown' hgrow _)
          refine ⟨⟨c + n, pre ++ [(c, n)], hn, by go_num, ?_, ?_, ?_⟩, by simp [intOf]; omega⟩
          · rw [HX.out, coverL_cons hlt, HST.out, List.append_assoc]; rfl
          · rw [cellsOf_snoc, List.length_append]; exact hown'
          · exact (hB.alloc hB.size _).grown hgrow hbs (fun k e => (hrow.lt k e).1)
    · have hlt1 : ¬ (c : Int) < (b : Int) := by omega
      have hfin : coverL a b = pre := by rw [HX.out, coverL_nil hlt, List.append_nil]
      have HF := hide hfin
      clear hfin
      go_wp2_with fail
      go_ret
      rw [HF.out]
      exact ⟨_, rfl, hrow, hB⟩
end Go.Proofs.YtdpgebifeaakjaaDoor

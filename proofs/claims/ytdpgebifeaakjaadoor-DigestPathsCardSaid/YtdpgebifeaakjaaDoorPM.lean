/- The iterator cover, where a round may panic. -/
import Derived.Test.YtdpgebifeaakjaaDoorPL
namespace Go.Proofs.YtdpgebifeaakjaaDoor
set_option linter.unusedSimpArgs false
set_option linter.unusedVariables false
open Go.RowKit
attribute [local go_sem] Oper.semAt_some

set_option maxRecDepth 100000 in
set_option maxHeartbeats 1000000 in
theorem cover_stopsP (n : Nat) (hn : 1 ≤ n) (Ba Bb : Nat) (a b : Nat) (hab : a ≤ b) (hb : b ≤ 1099511627776) (w : World) (hne : Ba ≠ Bb) (hA : Blk w Ba #[.int .i64 a] 3) (hB : Blk w Bb #[.int .i64 b] 3) (hT : TabAt 3 Lib.deBruijn64tab w) (h3 : Ba ≠ 3) (h3l : 3 < w.heap.size) (ch : List PanicEntry) :
    SeqP Fence.wide n Tryd.prog 97 #[.pointer (some ⟨Ba, 0, none⟩), .pointer (some ⟨Bb, 0, none⟩)] blockV Ba (fun k => k = Ba ∨ k = Bb ∨ k = 3) ch (coverL a b) w := by
  intro l J Jp W hW hJ hY h0
  have hA0 := hA.below hW hA.lt
  have hB0 := hB.below hW hB.lt
  have hT0 : TabAt 3 Lib.deBruijn64tab W := fun j hj => (hW.cell (p := ⟨3, j, none⟩) h3l).trans (hT j hj)
  refine callsIn_of_wp Tryd.func97 rfl trivial ?_ rfl
  simp only [Tryd.ntmps97, List.size_toArray, List.length_cons, List.length_nil, Nat.reduceAdd, Nat.reduceSub, Array.replicate_succ, Array.replicate_zero, List.push_toArray, List.append_toArray, List.nil_append, List.cons_append]
  gi_wp2
  gi_loopw [4] (fun _ wr => ∃ (pre : List (Nat × Nat)) (c : Nat), c ≤ b ∧ coverL a b = pre ++ coverL c b ∧ Blk wr Ba #[.int .i64 c] 3 ∧ Blk wr Bb #[.int .i64 b] 3 ∧ TabAt 3 Lib.deBruijn64tab wr ∧ J pre wr)
    (fun _ wr => b - cellN wr Ba)
  case atStart => exact ⟨[], a, hab, rfl, hA0, hB0, hT0, h0⟩
  case round =>
    obtain ⟨pre, c, hc, hx, hA1, hB1, hT1, hJ1⟩ := hrel
    clear hA0 hB0 hT0 h0
    have CN := hide (cellN_Blk hA1)
    have ca := hA1.cell 0
    have cb := hB1.cell 0
    by_cases hlt : c < b
    · have hlt1 : (c : Int) < (b : Int) := by omega
      simp at ca cb
      have el := diff_toNat b c hc hb
      obtain ⟨hq1, hq2, hpow⟩ := len_facts b c hlt hb
      have hl := lenU (BitVec.ofInt 64 ((b : Int) - (c : Int))) wr
      rw [el] at hl
      have hst : stepN c b = if 0 < c then min (2 ^ (Lib.bitLen (b - c) - 1)) (2 ^ Lib.ctz 64 c) else 2 ^ (Lib.bitLen (b - c) - 1) := rfl
      generalize Lib.bitLen (b - c) = q at hq1 hq2 hl hst hpow
      clear el
      have hb1 : 2 ^ (q - 1) ≤ b - c := hpow
      obtain ⟨p1, hp1⟩ : ∃ p, 2 ^ (q - 1) = p := ⟨_, rfl⟩
      have HW1 := hide (wrap_pow (q - 1) p1 hp1 (by omega))
      have hpos1 : 0 < p1 := by rw [← hp1]; exact Nat.two_pow_pos _
      rw [hp1] at hst hb1
      have HP1 := hide hp1
      clear hp1 hpow
      have hq3 : (1 : Int) ≤ (q : Int) := by omega
      have hq4 : (q : Int) ≤ 41 := by omega
      by_cases hc0 : 0 < c
      · have hc01 : (0 : Int) < (c : Int) := by omega
        have hz1 : 2 ^ Lib.ctz 64 c ≤ c := ctz_le c hc0 (by omega)
        have htz := tzU (BitVec.ofNat 64 c) wr hT1
        have ec := ofNat_toNat c (by omega)
        rw [ec] at htz
        have hzl := ctz_lt c hc0 (by omega)
        rw [if_pos hc0] at hst
        generalize Lib.ctz 64 c = z at hz1 htz hzl hst
        obtain ⟨p2, hp2⟩ : ∃ p, 2 ^ z = p := ⟨_, rfl⟩
        have HW2 := hide (wrap_pow z p2 hp2 (by omega))
        have hpos2 : 0 < p2 := by rw [← hp2]; exact Nat.two_pow_pos _
        rw [hp2] at hst hz1
        have HP2 := hide hp2
        clear hp2 ec
        have hz3 : (z : Int) < 64 := by omega
        by_cases h12 : p1 ≤ p2
        · have h121 : (p1 : Int) ≤ (p2 : Int) := Int.ofNat_le.2 h12
          have hmin : min (p1 : Int) (p2 : Int) = (p1 : Int) := Int.min_eq_left h121
          have hst' : stepN c b = p1 := hst.trans (Nat.min_eq_left h12)
          have hle : c + p1 ≤ b := by rw [← hst']; have := stepN_le c b hlt hb; omega
          have hpp : 0 < p1 := by rw [← hst']; exact stepN_pos c b
          have hx2 : coverL a b = pre ++ (c, p1) :: coverL (c + p1) b := by rw [hx, coverL_cons hlt, hst']
          obtain ⟨fn, tmps, assign, body, hy, hR⟩ := hY pre (c, p1) wr hJ1 ⟨_, hx2⟩
          dsimp only [blockV] at hy
          have HN := hide (And.intro hle hx2)
          have HP := hide hpp
          have HS := hide (sum_le c p1 b hle hb)
          clear hst' hle hx2 hpp hst
          have hw1 := HW1.out
          gi_wp2
          refine ⟨trivial, callsIn_wide.2 (hl.mono ?_)⟩
          rintro e w' ⟨rfl, hw'⟩
          rw [hw']
          clear hl hw'
          gi_wp2
          refine ⟨trivial, callsIn_wide.2 (htz.mono ?_)⟩
          rintro e w' ⟨rfl, hw'⟩
          rw [hw']
          clear htz hw'
          have hw2 := HW2.out
          gi_wp2
          refine hR.mono ?_
          rintro e W3 h3e
          rcases h3e with ⟨rfl, hJ3, hk3⟩ | ⟨rfl, hp3⟩
          case inr => exact ⟨rfl, .inr ⟨rfl, hp3⟩⟩
          case inl =>
            have hA3 : Blk W3 Ba #[.int .i64 c] 3 := (hk3 Ba (.inl rfl)).trans hA1
            have hB3 : Blk W3 Bb #[.int .i64 b] 3 := (hk3 Bb (.inr (.inl rfl))).trans hB1
            have hT3 : TabAt 3 Lib.deBruijn64tab W3 := fun j hj => (World.cell?_of_block (hk3 3 (.inr (.inr rfl)))).trans (hT1 j hj)
            have ca3 := hA3.cell 0
            have fa3 := hA3.free 0
            simp at ca3
            have hs1 : (c : Int) + (p1 : Int) ≤ 1099511627776 := HS.out
            clear hw1 hw2 hR hy ca cb hY hB1 hA1 hT1
            gi_wp2
            have hA4 : Blk (W3.setCell ⟨Ba, 0, none⟩ (.int .i64 ((c : Int) + (p1 : Int)))) Ba #[.int .i64 ((c + p1 : Nat) : Int)] 3 := hA3.set 0 (.int .i64 ((c : Int) + (p1 : Int)))
            refine ⟨⟨pre ++ [(c, p1)], c + p1, HN.out.1, by rw [List.append_assoc]; exact HN.out.2, hA4, hB3.other (Ne.symm hne) _, fun j hj => (World.cell?_of_block (Below.heap_setCell _ _ _ _ (Ne.symm h3))).trans (hT3 j hj), hJ _ _ _ hJ3⟩, ?_⟩
            rw [cellN_Blk hA4, CN.out]
            exact sub_lt b c p1 HN.out.1 HP.out
        · have h121 : (p2 : Int) ≤ (p1 : Int) := Int.ofNat_le.2 (Nat.le_of_not_le h12)
          have hmin : min (p1 : Int) (p2 : Int) = (p2 : Int) := Int.min_eq_right h121
          have hst' : stepN c b = p2 := hst.trans (Nat.min_eq_right (Nat.le_of_not_le h12))
          have hle : c + p2 ≤ b := by rw [← hst']; have := stepN_le c b hlt hb; omega
          have hpp : 0 < p2 := by rw [← hst']; exact stepN_pos c b
          have hx2 : coverL a b = pre ++ (c, p2) :: coverL (c + p2) b := by rw [hx, coverL_cons hlt, hst']
          obtain ⟨fn, tmps, assign, body, hy, hR⟩ := hY pre (c, p2) wr hJ1 ⟨_, hx2⟩
          dsimp only [blockV] at hy
          have HN := hide (And.intro hle hx2)
          have HP := hide hpp
          have HS := hide (sum_le c p2 b hle hb)
          clear hst' hle hx2 hpp hst
          have hw1 := HW1.out
          gi_wp2
          refine ⟨trivial, callsIn_wide.2 (hl.mono ?_)⟩
          rintro e w' ⟨rfl, hw'⟩
          rw [hw']
          clear hl hw'
          gi_wp2
          refine ⟨trivial, callsIn_wide.2 (htz.mono ?_)⟩
          rintro e w' ⟨rfl, hw'⟩
          rw [hw']
          clear htz hw'
          have hw2 := HW2.out
          gi_wp2
          refine hR.mono ?_
          rintro e W3 h3e
          rcases h3e with ⟨rfl, hJ3, hk3⟩ | ⟨rfl, hp3⟩
          case inr => exact ⟨rfl, .inr ⟨rfl, hp3⟩⟩
          case inl =>
            have hA3 : Blk W3 Ba #[.int .i64 c] 3 := (hk3 Ba (.inl rfl)).trans hA1
            have hB3 : Blk W3 Bb #[.int .i64 b] 3 := (hk3 Bb (.inr (.inl rfl))).trans hB1
            have hT3 : TabAt 3 Lib.deBruijn64tab W3 := fun j hj => (World.cell?_of_block (hk3 3 (.inr (.inr rfl)))).trans (hT1 j hj)
            have ca3 := hA3.cell 0
            have fa3 := hA3.free 0
            simp at ca3
            have hs1 : (c : Int) + (p2 : Int) ≤ 1099511627776 := HS.out
            clear hw1 hw2 hR hy ca cb hY hB1 hA1 hT1
            gi_wp2
            have hA4 : Blk (W3.setCell ⟨Ba, 0, none⟩ (.int .i64 ((c : Int) + (p2 : Int)))) Ba #[.int .i64 ((c + p2 : Nat) : Int)] 3 := hA3.set 0 (.int .i64 ((c : Int) + (p2 : Int)))
            refine ⟨⟨pre ++ [(c, p2)], c + p2, HN.out.1, by rw [List.append_assoc]; exact HN.out.2, hA4, hB3.other (Ne.symm hne) _, fun j hj => (World.cell?_of_block (Below.heap_setCell _ _ _ _ (Ne.symm h3))).trans (hT3 j hj), hJ _ _ _ hJ3⟩, ?_⟩
            rw [cellN_Blk hA4, CN.out]
            exact sub_lt b c p2 HN.out.1 HP.out
      · have hc01 : ¬ (0 : Int) < (c : Int) := fun h => hc0 (Int.ofNat_lt.1 h)
        rw [if_neg hc0] at hst
        have hst' : stepN c b = p1 := hst
        have hle : c + p1 ≤ b := by rw [← hst']; have := stepN_le c b hlt hb; omega
        have hpp : 0 < p1 := by rw [← hst']; exact stepN_pos c b
        have hx2 : coverL a b = pre ++ (c, p1) :: coverL (c + p1) b := by rw [hx, coverL_cons hlt, hst']
        obtain ⟨fn, tmps, assign, body, hy, hR⟩ := hY pre (c, p1) wr hJ1 ⟨_, hx2⟩
        dsimp only [blockV] at hy
        have HN := hide (And.intro hle hx2)
        have HP := hide hpp
        have HS := hide (sum_le c p1 b hle hb)
        clear hst' hle hx2 hpp hst
        have hw1 := HW1.out
        gi_wp2
        refine ⟨trivial, callsIn_wide.2 (hl.mono ?_)⟩
        rintro e w' ⟨rfl, hw'⟩
        rw [hw']
        clear hl hw'
        gi_wp2
        refine hR.mono ?_
        rintro e W3 h3e
        rcases h3e with ⟨rfl, hJ3, hk3⟩ | ⟨rfl, hp3⟩
        case inr => exact ⟨rfl, .inr ⟨rfl, hp3⟩⟩
        case inl =>
          have hA3 : Blk W3 Ba #[.int .i64 c] 3 := (hk3 Ba (.inl rfl)).trans hA1
          have hB3 : Blk W3 Bb #[.int .i64 b] 3 := (hk3 Bb (.inr (.inl rfl))).trans hB1
          have hT3 : TabAt 3 Lib.deBruijn64tab W3 := fun j hj => (World.cell?_of_block (hk3 3 (.inr (.inr rfl)))).trans (hT1 j hj)
          have ca3 := hA3.cell 0
          have fa3 := hA3.free 0
          simp at ca3
          have hs1 : (c : Int) + (p1 : Int) ≤ 1099511627776 := HS.out
          clear hw1 hR hy ca cb hY hB1 hA1 hT1
          gi_wp2
          have hA4 : Blk (W3.setCell ⟨Ba, 0, none⟩ (.int .i64 ((c : Int) + (p1 : Int)))) Ba #[.int .i64 ((c + p1 : Nat) : Int)] 3 := hA3.set 0 (.int .i64 ((c : Int) + (p1 : Int)))
          rw [HW1.out, wrap_small c p1 hs1]
          refine ⟨⟨pre ++ [(c, p1)], c + p1, HN.out.1, by rw [List.append_assoc]; exact HN.out.2, hA4, hB3.other (Ne.symm hne) _, fun j hj => (World.cell?_of_block (Below.heap_setCell _ _ _ _ (Ne.symm h3))).trans (hT3 j hj), hJ _ _ _ hJ3⟩, ?_⟩
          rw [cellN_Blk hA4, CN.out]
          exact sub_lt b c p1 HN.out.1 HP.out
    · have hlt1 : ¬ (c : Int) < (b : Int) := fun h => hlt (Int.ofNat_lt.1 h)
      have hfin : coverL a b = pre := by rw [hx, coverL_nil hlt, List.append_nil]
      simp at ca cb
      gi_wp2
      go_end0
      refine .inl ⟨⟨_, rfl⟩, ?_⟩
      rw [coverL_nil hlt, List.append_nil]
      exact hJ1
end Go.Proofs.YtdpgebifeaakjaaDoor

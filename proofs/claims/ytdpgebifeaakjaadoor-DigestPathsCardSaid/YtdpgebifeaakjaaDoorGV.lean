/- The specification's given, for any tiling. -/
import Derived.Test.YtdpgebifeaakjaaDoorG9
import Derived.Test.YtdpgebifeaakjaaDoorG7
namespace Go.Proofs.YtdpgebifeaakjaaDoor
set_option linter.unusedSimpArgs false
set_option linter.unusedVariables false
open Go.RowKit
theorem give_tl {T : Nat → Nat → BitVec 8} {o a m : Nat} {L : List (Nat × Nat)} {d : Nat → BitVec 8} (ht : Tl T o a m L d) : ∀ (N : List (Nat × Nat)) (b : Nat) (v1 v2 : Value) (w0 W : World), b = a + m → b ≤ 1099511627776 → SlC w0 v1 (L ++ N) → Digs w0 v2 (L.length + N.length) (fun j => T (o + j)) → Below w0.heap.size w0 W → KAt W →
    Calls Tryd.prog 117 #[v1, v2, .int .i64 (a : Int), .int .i64 (b : Int)] W fun e w' => ∃ u1 u2, e = .returned (.agg (partC d u1 u2)) ∧ SlC w0 u1 N ∧ Digs w0 u2 N.length (fun j => T (o + L.length + j)) ∧ Below W.heap.size W w' := by
  induction ht with
  | one o a m h =>
    intro N b v1 v2 w0 W hb hb2 h1 h2 hW hK
    have := give_one w0 (a, m) N a b (fun j => T (o + j)) v1 v2 W hW hb hb2 h1 (by rw [List.length_singleton, Nat.add_comm] at h2; exact h2)
    rw [Nat.add_zero] at this
    refine this.mono ?_
    rintro e w' ⟨u1, u2, he, s1, s2, hB⟩
    refine ⟨u1, u2, he, s1, ?_, hB⟩
    rw [List.length_singleton]
    have e : (fun j => T (o + (j + 1))) = fun j => T (o + 1 + j) := by funext j; rw [show o + (j + 1) = o + 1 + j by omega]
    rw [← e]
    exact s2
  | two o a m L1 L2 d1 d2 hm hb1 h1t h2t ih1 ih2 =>
    intro N b v1 v2 w0 W hb hb2 h1 h2 hW hK
    obtain ⟨s, R, hL1, hs0, hs1⟩ := h1t.head
    have hfa := halfN_facts m hm (by omega)
    rw [List.append_assoc] at h1
    rw [List.length_append, Nat.add_assoc, ← List.length_append] at h2
    have q1 : ∀ W', Below W.heap.size W W' → Calls Tryd.prog 117 #[v1, v2, .int .i64 (a : Int), .int .i64 ((a : Int) + (halfN m : Int))] W' fun e w' => ∃ u1 u2, e = .returned (.agg (partC d1 u1 u2)) ∧ SlC w0 u1 (L2 ++ N) ∧ Digs w0 u2 (L2 ++ N).length (fun j => T (o + L1.length + j)) ∧ Below W'.heap.size W' w' := by
      intro W' hW'
      have := ih1 (L2 ++ N) (a + halfN m) v1 v2 w0 W' rfl (by omega) h1 h2 (hW.trans (hW'.mono hW.size)) (hK.below hK.pos hW')
      rw [Int.natCast_add] at this
      exact this
    have q2 : ∀ u1 u2 W', SlC w0 u1 (L2 ++ N) → Digs w0 u2 (L2 ++ N).length (fun j => T (o + L1.length + j)) → Below w0.heap.size w0 W' → KAt W' → Calls Tryd.prog 117 #[u1, u2, .int .i64 ((a : Int) + (halfN m : Int)), .int .i64 (b : Int)] W' fun e w' => ∃ u1 u2, e = .returned (.agg (partC d2 u1 u2)) ∧ SlC w0 u1 N ∧ Digs w0 u2 N.length (fun j => T (o + L1.length + L2.length + j)) ∧ Below W'.heap.size W' w' := by
      intro u1 u2 W' hu1 hu2 hW' hK'
      have := ih2 N b u1 u2 w0 W' (by omega) hb2 hu1 (by rw [← List.length_append]; exact hu2) hW' hK'
      rw [Int.natCast_add] at this
      exact this
    have h2' : Digs w0 v2 ((R ++ (L2 ++ N)).length + 1) (fun j => T (o + j)) := by
      have e : (R ++ (L2 ++ N)).length + 1 = L1.length + (L2 ++ N).length := by rw [hL1]; simp; omega
      rw [e]; exact h2
    have h1' : SlC w0 v1 ((a, s) :: (R ++ (L2 ++ N))) := by
      rw [hL1] at h1
      exact h1
    have := give_step w0 (a, s) (R ++ (L2 ++ N)) (L2 ++ N) N a (halfN m) m b (fun j => T (o + j)) _ _ d1 d2 v1 v2 W hW hm hb hb2 rfl (by show s < m; omega) h1' h2' hK q1 q2
    rw [List.length_append, ← Nat.add_assoc]
    exact this
set_option maxRecDepth 20000 in
set_option maxHeartbeats 1000000 in
theorem given_gv (n : Nat) (L : List (Nat × Nat)) (T : Nat → Nat → BitVec 8) (d : Nat → BitVec 8) (v1 v2 : Value) (w : World) (hn : n ≤ 1099511627776) (hg : Gives T n L d) (h1 : SlC w v1 L) (h2 : Digs w v2 L.length T) (hKK : KAt w) :
    Calls Tryd.prog 89 #[v1, v2, .int .i64 (n : Int)] w fun e w' => e = .returned (.agg (A8 16 d)) ∧ Below w.heap.size w w' := by
  have k0 := Blk.new w (A8 16 fun _ => 0#8) 23
  have hB : Below w.heap.size w (w.alloc (.cells (A8 16 fun _ => 0#8) 23)) := (Below.refl _ _).alloc (Nat.le_refl _) _
  rcases hg with ⟨rfl, rfl, rfl⟩ | ⟨h0, ht⟩
  · have c0 := fun w hk => rsum_any ⟨#[]⟩ (by decide) w hk
    go_enter Tryd.func89, Tryd.ntmps89
    go_wp2_with fail
    refine (c0 _ (hKK.below hKK.pos hB)).mono ?_
    rintro e W1 ⟨rfl, hb⟩
    replace hB := hB.trans (hb.mono hB.size)
    replace k0 := k0.below hb k0.lt
    go_wp2_with (refine wp_storeRow (C' := A8 16 (sha [])) rfl 23 _ _ rfl _ rfl rfl k0 size23 (A8.size _ _) (A8.size _ _) (A8.one _) rfl ?_; intro W4 hu k9)
    exact ret_row rfl w.heap.size rfl k9 Tryd.underlying23 rfl size23 (A8.size _ _) rfl ⟨rfl, hu.below hB (Nat.le_refl _)⟩
  · have cg : ∀ W, Below w.heap.size w W → Calls Tryd.prog 117 #[v1, v2, .int .i64 0, .int .i64 (n : Int)] W fun e w' => ∃ p k c q l f, e = .returned (.agg (partC d (.slice p k c) (.slice q l f))) ∧ Below W.heap.size W w' := by
      intro W hW
      refine (give_tl ht [] n v1 v2 w W (by omega) hn (by rw [List.append_nil]; exact h1) (h2.congr fun j _ => by rw [Nat.zero_add]) hW (hKK.below hKK.pos hW)).mono ?_
      rintro e w' ⟨u1, u2, rfl, ⟨p, c, rfl, _⟩, ⟨q, f, rfl, _⟩, hb⟩
      exact ⟨_, _, _, _, _, _, rfl, hb⟩
    have CG := hide cg
    have hne : ¬ (n : Int) = 0 := by omega
    have hne2 : ((n : Int) == 0) = false := beq_eq_false_iff_ne.2 hne
    clear cg h1 h2 ht
    go_enter Tryd.func89, Tryd.ntmps89
    go_wp2_with fail
    refine (CG.out _ hB).mono ?_
    rintro e W1 ⟨p, k, c, q, l, f, rfl, hb⟩
    replace hB := hB.trans (hb.mono hB.size)
    replace k0 := k0.below hb k0.lt
    go_wp2_with (first | (refine wp_field174 rfl _ rfl rfl ?_) | (refine wp_storeRow (C' := A8 16 d) rfl 23 _ _ rfl _ rfl rfl k0 size23 (A8.size _ _) (A8.size _ _) (A8.one _) rfl ?_; intro W4 hu k9))
    exact ret_row rfl w.heap.size rfl k9 Tryd.underlying23 rfl size23 (A8.size _ _) rfl ⟨rfl, hu.below hB (Nat.le_refl _)⟩
end Go.Proofs.YtdpgebifeaakjaaDoor

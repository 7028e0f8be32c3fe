/- Texts put together for one claim: part 11. -/
import Derived.Test.YtdpgebifeaakjaaDoorProg
import Derived.WalkKit
import Derived.WalkSpells
import Derived.WalkLawsBesides
import Derived.ChangeKeysEq
import Derived.Deep.RegionHeld3
import Derived.BigQuiet
import Derived.Deep.QuietTactic
import Derived.Deep.MidRow
import Derived.StillTailTactics
import Derived.Laws.AppendOwn
import Derived.Lib.ConvBytes
import Derived.Shelf.Spec.TrailingZeros
import Derived.Laws.FloatArith
import Derived.Laws.CopyOwn
import Derived.BigRegion
import Derived.Deep.Cut
import Derived.ArgAppend
import Derived.Shelf.Strconv.Itoa0
import Derived.RangeFuncNested
import Derived.RangeFuncBound
import Derived.RangeFuncCalls
import Derived.RangeFuncLeaves
import Derived.Shelf.Abstract
import Derived.OwnWalkIn
import Derived.TacticsInMore
import Derived.LoopNIn
import Derived.LoopIn
import Derived.RangeFuncBox
import Derived.Maps.AppendAt
import Derived.Laws.OwnMore
import Derived.Laws.StructEq
import Derived.Deep.RegionHeld
import Derived.Laws.BitsLemmas
import Derived.OwnWalk
import Derived.StillTactics
import Derived.Deep.AppendLies
import Derived.Test.YtdpgebifeaakjaaDoorRows
import Derived.ProofKit
import Derived.LaidMore
import Derived.OpenShut
import Derived.Stop.Joined
import Derived.Carry
import Derived.SevenTiedAt
import Derived.Deep.Slices
import Derived.Laws.AppendOwnNone
import Derived.Defers
import Derived.Recover
import Derived.Test.YtdpgebifeaakjaaDoorX10
/- Members and extensions, in plain: where a proof is accepted, it is the tree's own, or strings collide. -/
namespace Go.Proofs.YtdpgebifeaakjaaDoor
set_option linter.unusedSimpArgs false
set_option linter.unusedVariables false
open Go.RowKit
/-- What blocks give to n leaves, with the strings that are hashed. -/
def WayG (T : Nat → Nat → BitVec 8) (n : Nat) (L : List (Nat × Nat)) (d : Nat → BitVec 8) (H : List (List (BitVec 8))) : Prop := n = 0 ∧ L = [] ∧ d = sha [] ∧ H = [[]] ∨ 0 < n ∧ Tw T 0 0 n L d H
theorem Gives.ways {T : Nat → Nat → BitVec 8} {n : Nat} {L : List (Nat × Nat)} {d : Nat → BitVec 8} (h : Gives T n L d) : ∃ H, WayG T n L d H := by
  rcases h with ⟨h1, h2, h3⟩ | ⟨h1, h2⟩
  · exact ⟨_, .inl ⟨h1, h2, h3, rfl⟩⟩
  · obtain ⟨H, hH⟩ := h2.ways
    exact ⟨H, .inr ⟨h1, hH⟩⟩
theorem WayG.len {T : Nat → Nat → BitVec 8} {n : Nat} {L : List (Nat × Nat)} {d : Nat → BitVec 8} {H : List (List (BitVec 8))} (h : WayG T n L d H) : H.length ≤ L.length + 1 := by
  rcases h with ⟨_, _, _, rfl⟩ | ⟨_, h⟩
  · exact Nat.le_add_left _ _
  · have := h.len; omega
theorem tr_zero (D : Nat → Nat → BitVec 8) (n : Nat) : treeF n n D = tr D 0 n := by
  unfold tr
  congr 1
  funext j
  rw [Nat.zero_add]
theorem hsR_zero (D : Nat → Nat → BitVec 8) (n : Nat) : hashF n n D = hsR D 0 n := by
  unfold hsR
  congr 1
  funext j
  rw [Nat.zero_add]
theorem Tw.short {T : Nat → Nat → BitVec 8} {o a m : Nat} {L : List (Nat × Nat)} {d : Nat → BitVec 8} {H : List (List (BitVec 8))} (h : Tw T o a m L d H) : ∀ x, x ∈ H → x.length ≤ 33 := by
  induction h with
  | one o a m h => intro x hx; cases hx
  | two o a m L1 L2 d1 d2 H1 H2 hm hb h1 h2 ih1 ih2 =>
    intro x hx
    simp only [List.mem_append, List.mem_singleton] at hx
    rcases hx with (hx | hx) | hx
    · exact ih1 x hx
    · exact ih2 x hx
    · subst hx
      rw [List.length_cons, List.length_append, dl_length, dl_length]
      exact Nat.le_refl _
theorem WayG.short {T : Nat → Nat → BitVec 8} {n : Nat} {L : List (Nat × Nat)} {d : Nat → BitVec 8} {H : List (List (BitVec 8))} (h : WayG T n L d H) : ∀ x, x ∈ H → x.length ≤ 33 := by
  rcases h with ⟨_, _, _, rfl⟩ | ⟨_, h⟩
  · intro x hx
    obtain rfl : x = [] := by simpa using hx
    exact Nat.zero_le _
  · exact h.short
theorem hashF_short : ∀ (f n : Nat) (D : Nat → Nat → BitVec 8), ∀ x, x ∈ hashF f n D → x.length ≤ 33 := by
  intro f
  induction f with
  | zero =>
    intro n D x hx
    obtain rfl : x = [] := by simpa [hashF] using hx
    exact Nat.zero_le _
  | succ f ih =>
    intro n D x hx
    by_cases h0 : n = 0
    · subst h0
      obtain rfl : x = [] := by simpa [hashF] using hx
      exact Nat.zero_le _
    · by_cases h1 : n = 1
      · subst h1
        obtain rfl : x = 0#8 :: dl (D 0) := by simpa [hashF] using hx
        rw [List.length_cons, dl_length]
        decide
      · rw [hashF_step f n D h0 h1] at hx
        simp only [List.mem_append, List.mem_singleton] at hx
        rcases hx with (hx | hx) | hx
        · exact ih _ _ x hx
        · exact ih _ _ x hx
        · subst hx
          rw [List.length_cons, List.length_append, dl_length, dl_length]
          exact Nat.le_refl _
theorem eqRow_symm2 {f g : Nat → BitVec 8} (h : eqRow 16 f g = true) : eqRow 16 g f = true := (eqRow_iff _ _ _).2 fun i hi => ((eqRow_iff _ _ _).1 h i hi).symm
theorem eqRow_trans {f g h : Nat → BitVec 8} (h1 : eqRow 16 f g = true) (h2 : eqRow 16 g h = true) : eqRow 16 f h = true := (eqRow_iff _ _ _).2 fun i hi => ((eqRow_iff _ _ _).1 h1 i hi).trans ((eqRow_iff _ _ _).1 h2 i hi)
/-- The strings of items. -/
def itemS (I : Nat → Nat → BitVec 8) (K : Nat) : List (List (BitVec 8)) := (List.range K).map fun k => 0#8 :: dl (I k)
theorem itemS_succ (I : Nat → Nat → BitVec 8) (K : Nat) : itemS I (K + 1) = itemS I K ++ [0#8 :: dl (I K)] := by simp [itemS, List.range_succ]
theorem itemS_mem {I : Nat → Nat → BitVec 8} {K k : Nat} (h : k < K) : (0#8 :: dl (I k)) ∈ itemS I K := List.mem_map.2 ⟨k, List.mem_range.2 h, rfl⟩
theorem singles_at {i K k : Nat} (h : k < K) : (singles i K)[k]? = some (i + k, 1) := by simp [singles, h]
/-- The tree's own path. -/
def pathT (D : Nat → Nat → BitVec 8) (n a b : Nat) : Nat → Nat → BitVec 8 := joinT (coverL 0 a).length (topT (coverL 0 a) D) (topT (coverL b n) D)
theorem member_plain (D I P : Nat → Nat → BitVec 8) (n a K : Nat) (d : Nat → BitVec 8) (H : List (List (BitVec 8))) (hK : a + K ≤ n) (hn : n ≤ 1099511627776) (hw : WayG (mixT (coverL 0 a).length K P I) n (coverL 0 a ++ singles a K ++ coverL (a + K) n) d H) (he : eqRow 16 d (tr D 0 n) = true) :
    ((∀ k, k < K → eqRow 16 (I k) (D (a + k)) = true) ∧ ∀ j, j < (coverL 0 a).length + (coverL (a + K) n).length → eqRow 16 (P j) (pathT D n a (a + K) j) = true) ∨ Coll (hsR D 0 n ++ itemS I K ++ H) := by
  rcases hw with ⟨h0, hL, _, _⟩ | ⟨h0, hw⟩
  · subst h0
    have h1 : (coverL 0 a ++ singles a K ++ coverL (a + K) 0).length = 0 := by rw [hL]; rfl
    rw [List.length_append, List.length_append] at h1
    exact .inl ⟨fun k hk => by omega, fun j hj => by omega⟩
  · rcases hw.agree D he with hg | hg
    · obtain ⟨F, hF⟩ : ∃ F, coverL 0 a = F := ⟨_, rfl⟩
      obtain ⟨G, hG⟩ : ∃ G, coverL (a + K) n = G := ⟨_, rfl⟩
      unfold pathT
      rw [hF, hG] at hg ⊢
      rw [List.length_append, List.length_append, singles_length] at hg
      by_cases hit : ∀ k, k < K → eqRow 16 (I k) (D (a + k)) = true
      · refine .inl ⟨hit, fun j hj => ?_⟩
        by_cases hjF : j < F.length
        · have := hg j (by omega)
          rw [Nat.zero_add, mixT, if_pos hjF, topT_left (by rw [List.length_append]; omega), topT_left hjF] at this
          rw [joinT, if_pos hjF]
          exact this
        · have := hg (j + K) (by omega)
          rw [Nat.zero_add, mixT, if_neg (by omega), if_neg (by omega), Nat.add_sub_cancel, topT_right (by rw [List.length_append, singles_length]; omega), List.length_append, singles_length] at this
          rw [joinT, if_neg hjF]
          rwa [show j + K - (F.length + K) = j - F.length by omega] at this
      · have hex : ∃ k, k < K ∧ ¬ eqRow 16 (I k) (D (a + k)) = true := by
          apply Classical.byContradiction
          intro hn
          exact hit fun k hk => Classical.byContradiction fun h => hn ⟨k, hk, h⟩
        obtain ⟨k, hk, hne⟩ := hex
        have := hg (F.length + k) (by omega)
        rw [Nat.zero_add, mixT, if_neg (by omega), if_pos (by omega), Nat.add_sub_cancel_left, topT_left (by rw [List.length_append, singles_length]; omega), topT_right (by omega), Nat.add_sub_cancel_left, topT_at (singles_at hk), tr_one] at this
        rcases str_agree (l := hsR D 0 n ++ itemS I K ++ H) this (by simp only [List.mem_append]; exact .inl (.inr (itemS_mem hk))) (by simp only [List.mem_append]; exact .inl (.inl (hsR_leaf D n 0 (a + k) hn (by omega) (by omega)))) with h | h
        · exact absurd (leaf_inj h) hne
        · exact .inr h
    · refine .inr (hg.mono fun x hx => ?_)
      simp only [List.mem_append] at hx ⊢
      rcases hx with hx | hx
      · exact .inr hx
      · exact .inl (.inl hx)
theorem Al.find : ∀ {L : List (Nat × Nat)} {a b j : Nat}, Al L a b → a ≤ j → j < b → ∃ x, x ∈ L ∧ x.1 ≤ j ∧ j < x.1 + x.2
  | [], a, b, j, h, h1, h2 => by have : a = b := h; omega
  | x :: R, a, b, j, h, h1, h2 => by
    obtain ⟨e, _, hR⟩ := h
    by_cases hj : j < a + x.2
    · exact ⟨x, List.mem_cons_self .., by omega, by omega⟩
    · obtain ⟨y, hy, h3, h4⟩ := hR.find (by omega) h2
      exact ⟨y, List.mem_cons_of_mem _ hy, h3, h4⟩
theorem grows_plain (D E P : Nat → Nat → BitVec 8) (n m : Nat) (d1 d2 : Nat → BitVec 8) (H1 H2 : List (List (BitVec 8))) (hm : m ≤ n) (hn : n ≤ 1099511627776) (hw1 : WayG P m (coverL 0 m) d1 H1) (hw2 : WayG P n (coverL 0 m ++ coverL m n) d2 H2) (he1 : eqRow 16 d1 (tr E 0 m) = true) (he2 : eqRow 16 d2 (tr D 0 n) = true) :
    (∀ j, j < m → eqRow 16 (E j) (D j) = true) ∨ Coll (hsR D 0 n ++ hsR E 0 m ++ H1 ++ H2) := by
  rcases hw1 with ⟨h0, _⟩ | ⟨h0, hw1⟩
  · exact .inl fun j hj => by omega
  rcases hw2 with ⟨h2, _⟩ | ⟨h2, hw2⟩
  · omega
  rcases hw1.agree E he1 with g1 | g1
  rotate_left
  · refine .inr (g1.mono fun x hx => ?_)
    simp only [List.mem_append] at hx ⊢
    rcases hx with hx | hx
    · exact .inl (.inr hx)
    · exact .inl (.inl (.inr hx))
  rcases hw2.agree D he2 with g2 | g2
  rotate_left
  · refine .inr (g2.mono fun x hx => ?_)
    simp only [List.mem_append] at hx ⊢
    rcases hx with hx | hx
    · exact .inr hx
    · exact .inl (.inl (.inl hx))
  by_cases hall : ∀ x, x ∈ coverL 0 m → ∀ j, j < x.2 → eqRow 16 (E (x.1 + j)) (D (x.1 + j)) = true
  · refine .inl fun j hj => ?_
    obtain ⟨x, hx, h3, h4⟩ := (cover_al' (Nat.zero_le m) (by omega)).find (Nat.zero_le j) hj
    have := hall x hx (j - x.1) (by omega)
    rwa [show x.1 + (j - x.1) = j by omega] at this
  · have hex : ∃ x, x ∈ coverL 0 m ∧ ¬ ∀ j, j < x.2 → eqRow 16 (E (x.1 + j)) (D (x.1 + j)) = true := by
      apply Classical.byContradiction
      intro hn
      exact hall fun x hx => Classical.byContradiction fun h => hn ⟨x, hx, h⟩
    obtain ⟨x, hx, hne⟩ := hex
    obtain ⟨i, hi, hix⟩ := List.getElem_of_mem hx
    have hx' : (coverL 0 m)[i]? = some x := by rw [List.getElem?_eq_getElem hi, hix]
    have e1 := g1 i hi
    have e2 := g2 i (by rw [List.length_append]; omega)
    rw [topT_at hx'] at e1
    rw [topT_left hi, topT_at hx'] at e2
    have hb := coverL_mem 0 m (by omega) x hx
    rcases tr_agree E D x.2 x.1 (by omega) (eqRow_trans (eqRow_symm2 e1) e2) with h | h
    · exact absurd h hne
    · refine .inr (h.mono fun y hy => ?_)
      simp only [List.mem_append] at hy ⊢
      rcases hy with hy | hy
      · exact .inl (.inl (.inr (hw1.inside E x hx y hy)))
      · exact .inl (.inl (.inl (hw2.inside D x (List.mem_append_left _ hx) y hy)))
end Go.Proofs.YtdpgebifeaakjaaDoor

/- ways for any tiling, hashed, walked. -/
namespace Go.Proofs.YtdpgebifeaakjaaDoor
set_option linter.unusedSimpArgs false
set_option linter.unusedVariables false
open Go.RowKit
theorem ways_tw {T : Nat → Nat → BitVec 8} {o a m : Nat} {L : List (Nat × Nat)} {d : Nat → BitVec 8} {H : List (List (BitVec 8))} (ht : Tw T o a m L d H) : ∀ (N : List (Nat × Nat)) (b z : Nat) (v1 v2 : Value) (w0 W : World), b = a + m → b ≤ 1099511627776 → L.length + (N.length + z) ≤ 1000 → SlC w0 v1 (L ++ N) → Digs w0 v2 (L.length + (N.length + z)) (fun j => T (o + j)) → Below w0.heap.size w0 W → KAt W →
    Calls Tryd.prog 119 #[v1, v2, .int .i64 (a : Int), .int .i64 (b : Int)] W fun e w' => ∃ u0 u1 u2, e = .returned (.agg (wayC d u0 u1 u2)) ∧ SlC w0 u1 N ∧ Digs w0 u2 (N.length + z) (fun j => T (o + L.length + j)) ∧ Sees w' 1 u0 H.length (strCells H) ∧ Below W.heap.size W w' := by
  induction ht with
  | one o a m h =>
    intro N b z v1 v2 w0 W hb hb2 hlen h1 h2 hW hK
    rw [List.length_singleton] at hlen
    have := ways_one w0 (a, m) N a b (N.length + z) (fun j => T (o + j)) v1 v2 W hW hb hb2 (by omega) (by omega) h1 (by rw [List.length_singleton, Nat.add_comm] at h2; exact h2)
    rw [Nat.add_zero] at this
    refine this.mono ?_
    rintro e w' ⟨u0, u1, u2, he, s1, s2, s3, hB⟩
    refine ⟨u0, u1, u2, he, s1, ?_, s3, hB⟩
    rw [List.length_singleton]
    have e : (fun j => T (o + (j + 1))) = fun j => T (o + 1 + j) := by funext j; rw [show o + (j + 1) = o + 1 + j by omega]
    rw [← e]
    exact s2
  | two o a m L1 L2 d1 d2 H1 H2 hm hb1 h1t h2t ih1 ih2 =>
    intro N b z v1 v2 w0 W hb hb2 hlen h1 h2 hW hK
    obtain ⟨s, R, hL1, hs0, hs1⟩ := h1t.tl.head
    have hfa := halfN_facts m hm (by omega)
    have hl1 := h1t.len
    have hl2 := h2t.len
    rw [List.length_append] at hlen
    rw [List.append_assoc] at h1
    have h2a : Digs w0 v2 (L1.length + ((L2 ++ N).length + z)) (fun j => T (o + j)) := by
      rw [List.length_append] at h2
      rw [show L1.length + ((L2 ++ N).length + z) = L1.length + L2.length + (N.length + z) by rw [List.length_append]; omega]
      exact h2
    have q1 : ∀ W', Below W.heap.size W W' → Calls Tryd.prog 119 #[v1, v2, .int .i64 (a : Int), .int .i64 ((a : Int) + (halfN m : Int))] W' fun e w' => ∃ u0 u1 u2, e = .returned (.agg (wayC d1 u0 u1 u2)) ∧ SlC w0 u1 (L2 ++ N) ∧ Digs w0 u2 ((L2 ++ N).length + z) (fun j => T (o + L1.length + j)) ∧ Sees w' 1 u0 H1.length (strCells H1) ∧ Below W'.heap.size W' w' := by
      intro W' hW'
      have := ih1 (L2 ++ N) (a + halfN m) z v1 v2 w0 W' rfl (by omega) (by rw [List.length_append]; omega) h1 h2a (hW.trans (hW'.mono hW.size)) (hK.below hK.pos hW')
      rw [Int.natCast_add] at this
      exact this
    have q2 : ∀ u1 u2 W', SlC w0 u1 (L2 ++ N) → Digs w0 u2 ((L2 ++ N).length + z) (fun j => T (o + L1.length + j)) → Below w0.heap.size w0 W' → KAt W' → Calls Tryd.prog 119 #[u1, u2, .int .i64 ((a : Int) + (halfN m : Int)), .int .i64 (b : Int)] W' fun e w' => ∃ u0 u1 u2, e = .returned (.agg (wayC d2 u0 u1 u2)) ∧ SlC w0 u1 N ∧ Digs w0 u2 (N.length + z) (fun j => T (o + L1.length + L2.length + j)) ∧ Sees w' 1 u0 H2.length (strCells H2) ∧ Below W'.heap.size W' w' := by
      intro u1 u2 W' hu1 hu2 hW' hK'
      have := ih2 N b z u1 u2 w0 W' (by omega) hb2 (by omega) hu1 (by rw [List.length_append, Nat.add_assoc] at hu2; exact hu2) hW' hK'
      rw [Int.natCast_add] at this
      exact this
    have h2' : Digs w0 v2 (R.length + ((L2 ++ N).length + z) + 1) (fun j => T (o + j)) := by
      have e : R.length + ((L2 ++ N).length + z) + 1 = L1.length + ((L2 ++ N).length + z) := by rw [hL1]; simp; omega
      rw [e]; exact h2a
    have h1' : SlC w0 v1 ((a, s) :: (R ++ (L2 ++ N))) := by
      rw [hL1] at h1
      exact h1
    have hRl : (R ++ (L2 ++ N)).length ≤ 1000 := by
      have : L1.length = R.length + 1 := by rw [hL1]; rfl
      simp only [List.length_append]
      omega
    have := ways_step w0 (a, s) (R ++ (L2 ++ N)) (L2 ++ N) N H1 H2 a (halfN m) m b (R.length + ((L2 ++ N).length + z)) ((L2 ++ N).length + z) (N.length + z) (fun j => T (o + j)) _ _ d1 d2 v1 v2 W hW hm hb hb2 rfl (by show s < m; omega) hRl (by have : L1.length = R.length + 1 := (by rw [hL1]; rfl); rw [List.length_append]; omega) (by omega) (by omega) h1' h2' hK q1 q2
    rw [List.length_append, ← Nat.add_assoc]
    exact this
theorem field177 (d : Nat → BitVec 8) (p : Option Addr) (k c : Nat) (q : Option Addr) (l e : Nat) (r : Option Addr) (m f : Nat) (w : World) : (Instr.field 177 (.agg (wayC d (.slice p k c) (.slice q l e) (.slice r m f))) 1).run Tryd.prog w = .ok (.slice p k c) w := by kernel_rfl
theorem wp_field177 {ops : Array Oper} {rest : List Oper} {o : Oper} {a : Act} {w : World} {Q : Exit → Act → World → Prop} (hgd : o.guard = none) (x : Operand) (ho : o.op = .field 177 x 1)
    {d : Nat → BitVec 8} {p : Option Addr} {k c : Nat} {q : Option Addr} {l e : Nat} {r : Option Addr} {m f : Nat} (hx : a.eval x = .agg (wayC d (.slice p k c) (.slice q l e) (.slice r m f)))
    (h : wpList Tryd.prog ops Q rest (a.put o.dst (.slice p k c)) w) : wpList Tryd.prog ops Q (o :: rest) a w := by
  refine wpList_plain hgd fun _ hK => ?_
  unfold Oper.wp execOp
  simp only [ho, hx, Sem.run_bind, field177, Result.andThen_ok, Sem.run_pure]
  exact hK _ _ h
set_option maxRecDepth 20000 in
set_option maxHeartbeats 1000000 in
theorem hashed_gv (n : Nat) (L : List (Nat × Nat)) (T : Nat → Nat → BitVec 8) (d : Nat → BitVec 8) (H : List (List (BitVec 8))) (z : Nat) (v1 v2 : Value) (w : World) (hn : n ≤ 1099511627776) (hL : L.length + z ≤ 1000) (hg : WayG T n L d H) (h1 : SlC w v1 L) (h2 : Digs w v2 (L.length + z) T) (hKK : KAt w) :
    Calls Tryd.prog 96 #[v1, v2, .int .i64 (n : Int)] w fun e w' => ∃ r, e = .returned r ∧ Sees w' 1 r H.length (strCells H) ∧ Below w.heap.size w w' := by
  have hB := Below.refl w.heap.size w
  rcases hg with ⟨rfl, rfl, rfl, rfl⟩ | ⟨h0, ht⟩
  · go_enter Tryd.func96, Tryd.ntmps96
    go_wp2_with fail
    go_ret
    exact ⟨_, rfl, Sees.of_owns (owns_one w w.heap.size 9 1 #[.string ⟨#[]⟩] rfl (Nat.le_refl _)), (Below.refl _ _).alloc (Nat.le_refl _) _⟩
  · have cg : Calls Tryd.prog 119 #[v1, v2, .int .i64 0, .int .i64 (n : Int)] w fun e w' => ∃ p1 k1 c1 p k c q l f, e = .returned (.agg (wayC d (.slice p1 k1 c1) (.slice p k c) (.slice q l f))) ∧ Sees w' 1 (.slice p1 k1 c1) H.length (strCells H) ∧ Below w.heap.size w w' := by
      refine (ways_tw ht [] n z v1 v2 w w (by omega) hn (by rw [List.length_nil, Nat.zero_add]; exact hL) (by rw [List.append_nil]; exact h1) (by rw [List.length_nil, Nat.zero_add]; exact h2.congr fun j _ => by rw [Nat.zero_add]) hB hKK).mono ?_
      rintro e w' ⟨u0, u1, u2, rfl, ⟨p, c, rfl, _⟩, ⟨q, f, rfl, _⟩, hs, hb⟩
      obtain ⟨p1, c1, rfl, _⟩ := id hs
      exact ⟨_, _, _, _, _, _, _, _, _, rfl, hs, hb⟩
    have CG := hide cg
    have hne : ¬ (n : Int) = 0 := by omega
    have hne2 : ((n : Int) == 0) = false := beq_eq_false_iff_ne.2 hne
    clear cg h1 h2 ht
    go_enter Tryd.func96, Tryd.ntmps96
    go_wp2_with fail
    refine CG.out.mono ?_
    rintro e W1 ⟨p1, k1, c1, p, k, c, q, l, f, rfl, hs, hb⟩
    go_wp2_with (refine wp_field177 rfl _ rfl rfl ?_)
    go_ret
    exact ⟨_, rfl, hs, hb⟩
theorem size37' : (Tryd.prog.info? 37).map (·.size) = some 2 := by kernel_rfl
theorem build37' (p : Option Addr) (k c : Nat) (w : World) : (Instr.build 37 #[(0, .slice p k c)]).run Tryd.prog w = .ok (.agg #[.slice p k c, .int .i64 0]) w := by kernel_rfl
set_option maxRecDepth 20000 in
set_option maxHeartbeats 1000000 in
/-- Cover of the specification, with its row. -/
theorem rCover_own (a b : Nat) (hab : a ≤ b) (hb : b ≤ 1099511627776) (w : World) :
    Calls Tryd.prog 23 #[.int .i64 a, .int .i64 b] w fun e w' => ∃ p c, e = .returned (.agg #[.slice p (coverL a b).length c, .int .i64 0]) ∧ Sees w' 2 (.slice p (coverL a b).length c) (coverL a b).length (cellsOf (coverL a b)) ∧ Below w.heap.size w w' := by
  have h0 : ¬ (a : Int) < 0 := by omega
  have h1 : ¬ (b : Int) < (a : Int) := by omega
  have h2 : ¬ (1099511627776 : Int) < (b : Int) := by omega
  have hN := Blk.new w #[.slice none 0 0, .int .i64 0] 37
  have hB : Below w.heap.size w (w.alloc (.cells #[.slice none 0 0, .int .i64 0] 37)) := (Below.refl _ w).alloc (Nat.le_refl _) _
  have C := hide fun W => rcover_any a b hab hb W
  generalize coverL a b = L at C ⊢
  go_enter Tryd.func23, Tryd.ntmps23
  go_wp2_with fail
  refine (C.out _).mono ?_
  rintro e W1 ⟨v, rfl, hown, hB1⟩
  obtain ⟨p, k, c, rfl⟩ := ownsRow_slice' hown
  obtain rfl := ownsRow_len hown
  have s1 := Sees.of_owns hown
  replace hN := hN.below hB1 hN.lt
  replace hB := hB.trans (hB1.mono hB.size)
  have c0 := hN.cell 0
  have c1 := hN.cell 1
  have f0 := hN.free 0
  have f1 := hN.free 1
  have hbd := build37' p L.length c
  have l1 := hN.lt
  have ho := ownsRow_base hown (base' := w.heap.size + 1) (by simp)
  clear C hB1 hown
  go_wp2_with (refine wp_storeRow (C' := #[.slice p L.length c, .int .i64 0]) rfl 37 _ _ rfl _ rfl rfl hN size37' rfl rfl (by simp [Value.oneCell']) rfl ?_; intro W4 hu k9)
  exact ret_row rfl w.heap.size rfl k9 Tryd.underlying37 rfl size37' rfl rfl ⟨_, _, rfl, Sees.of_owns (owns_upd ho hu (Nat.lt_succ_self _)), hu.below hB (Nat.le_refl _)⟩
end Go.Proofs.YtdpgebifeaakjaaDoor

/- The walk of the specification's CheckGrowth. -/
namespace Go.Proofs.YtdpgebifeaakjaaDoor
set_option linter.unusedSimpArgs false
set_option linter.unusedVariables false
open Go.RowKit
theorem SlC.drew {W : World} {u : Value} {l : List (Nat × Nat)} (h : SlC W u l) : SlC W.drew u l := h
end Go.Proofs.YtdpgebifeaakjaaDoor

/- The walk of CheckPath. -/
namespace Go.Proofs.YtdpgebifeaakjaaDoor
set_option linter.unusedSimpArgs false
set_option linter.unusedVariables false
open Go.RowKit
set_option maxRecDepth 20000 in
set_option maxHeartbeats 1000000 in
theorem cpath_bad (root : Nat → BitVec 8) (n i : Int) (K ic L c : Nat) (ip p : Option Addr) (w : World) (hK : K ≤ 500) (hbad : i < 0 ∨ 1099511627776 < n ∨ n < (K : Int) ∨ n - (K : Int) < i) :
    Calls Tryd.prog 57 #[.agg (A8 16 root), .int .i64 n, .int .i64 i, .slice ip K ic, .slice p L c] w fun e w' => e = .returned (.int .i64 1) ∧ Below w.heap.size w w' := by
  have hx1 := box23 root
  have hB : Below w.heap.size w (((((w.alloc (.cells (A8 16 root) 23)).alloc (.cells #[.int .i64 n] 3)).alloc (.cells #[.int .i64 i] 3)).alloc (.cells #[.slice ip K ic] 80)).alloc (.cells #[.slice p L c] 80)) := ((((((Below.refl _ _).alloc (Nat.le_refl _) _).alloc (by simp) _).alloc (by simp; omega) _).alloc (by simp; omega) _).alloc (by simp; omega) _)
  by_cases h1 : i < 0
  · clear hbad
    go_enter Tryd.func57, Tryd.ntmps57
    go_wp2_with fail
    go_ret
    exact ⟨rfl, hB⟩
  · by_cases h2 : 1099511627776 < n
    · clear hbad
      go_enter Tryd.func57, Tryd.ntmps57
      go_wp2_with fail
      go_ret
      exact ⟨rfl, hB⟩
    · by_cases h3 : n < (K : Int)
      · clear hbad
        go_enter Tryd.func57, Tryd.ntmps57
        go_wp2_with fail
        go_ret
        exact ⟨rfl, hB⟩
      · have h4 : n - (K : Int) < i := by omega
        have hw1 : wrap64 (n - (K : Int)) = n - (K : Int) := by unfold wrap64; omega
        clear hbad
        go_enter Tryd.func57, Tryd.ntmps57
        go_wp2_with fail
        go_ret
        exact ⟨rfl, hB⟩
set_option maxRecDepth 20000 in
set_option maxHeartbeats 1000000 in
theorem cpath_ok (root d : Nat → BitVec 8) (i K n L c ic : Nat) (ip p : Option Addr) (D I : Nat → Nat → BitVec 8) (w : World) (hiK : i + K ≤ n) (hn : n ≤ 1099511627776) (hL : L ≤ 1000) (hK : K ≤ 500)
    (hD : Digs w (.slice p L c) L D) (hI : Digs w (.slice ip K ic) K I) (hT : TabAt 3 Lib.deBruijn64tab w) (h3 : 3 < w.heap.size) (hg : Gives (mixT (coverL 0 i).length K D I) n (coverL 0 i ++ singles i K ++ coverL (i + K) n) d) :
    Calls Tryd.prog 57 #[.agg (A8 16 root), .int .i64 (n : Int), .int .i64 (i : Int), .slice ip K ic, .slice p L c] w fun e w' =>
      ((L = (coverL 0 i).length + (coverL (i + K) n).length ∧ eqRow 16 d root = true) ∧ e = .returned (.int .i64 0) ∨ (¬ (L = (coverL 0 i).length + (coverL (i + K) n).length ∧ eqRow 16 d root = true)) ∧ e = .returned (.int .i64 9)) ∧ Below w.heap.size w w' := by
  have hx1 := box23 root
  have hmf : ∀ (fn : Fn) (first cap : Array Value) (w : World), (Instr.makeFunc fn first cap).run Tryd.prog w = .ok (.func fn first cap) w := fun _ _ _ _ => rfl
  have k0 := ((((Blk.new w (A8 16 root) 23).alloc (.cells #[.int .i64 (n : Int)] 3)).alloc (.cells #[.int .i64 (i : Int)] 3)).alloc (.cells #[.slice ip K ic] 80)).alloc (.cells #[.slice p L c] 80)
  have k1 := (((Blk.new (w.alloc (.cells (A8 16 root) 23)) #[.int .i64 (n : Int)] 3).alloc (.cells #[.int .i64 (i : Int)] 3)).alloc (.cells #[.slice ip K ic] 80)).alloc (.cells #[.slice p L c] 80)
  have k2 := ((Blk.new ((w.alloc (.cells (A8 16 root) 23)).alloc (.cells #[.int .i64 (n : Int)] 3)) #[.int .i64 (i : Int)] 3).alloc (.cells #[.slice ip K ic] 80)).alloc (.cells #[.slice p L c] 80)
  have k3 := (Blk.new (((w.alloc (.cells (A8 16 root) 23)).alloc (.cells #[.int .i64 (n : Int)] 3)).alloc (.cells #[.int .i64 (i : Int)] 3)) #[.slice ip K ic] 80).alloc (.cells #[.slice p L c] 80)
  have k4 := Blk.new ((((w.alloc (.cells (A8 16 root) 23)).alloc (.cells #[.int .i64 (n : Int)] 3)).alloc (.cells #[.int .i64 (i : Int)] 3)).alloc (.cells #[.slice ip K ic] 80)) #[.slice p L c] 80
  have hB : Below w.heap.size w (((((w.alloc (.cells (A8 16 root) 23)).alloc (.cells #[.int .i64 (n : Int)] 3)).alloc (.cells #[.int .i64 (i : Int)] 3)).alloc (.cells #[.slice ip K ic] 80)).alloc (.cells #[.slice p L c] 80)) := ((((((Below.refl _ _).alloc (Nat.le_refl _) _).alloc (by simp) _).alloc (by simp; omega) _).alloc (by simp; omega) _).alloc (by simp; omega) _)
  simp only [World.size_alloc] at k0 k1 k2 k3 k4
  obtain ⟨W1, hW1⟩ : ∃ W1, (((((w.alloc (.cells (A8 16 root) 23)).alloc (.cells #[.int .i64 (n : Int)] 3)).alloc (.cells #[.int .i64 (i : Int)] 3)).alloc (.cells #[.slice ip K ic] 80)).alloc (.cells #[.slice p L c] 80)) = W1 := ⟨_, rfl⟩
  rw [hW1] at k0 k1 k2 k3 k4 hB
  have hs1 := hB.size
  have l4 := k4.lt
  have h1 : ¬ (i : Int) < 0 := by omega
  have h2 : ¬ 1099511627776 < (n : Int) := by omega
  have h4 : ¬ (n : Int) < (K : Int) := by omega
  have h5 : ¬ (n : Int) - (K : Int) < (i : Int) := by omega
  have ck := checked_92 (L = (coverL 0 i).length + (coverL (i + K) n).length ∧ eqRow 16 d root = true) (¬ (L = (coverL 0 i).length + (coverL (i + K) n).length ∧ eqRow 16 d root = true)) _ W1 fun W hW =>
    cpath92 _ _ _ _ _ i K n L c ic p ip D I root d W hiK hn hL hK (k4.below hW k4.lt) (k2.below hW k2.lt) (k3.below hW k3.lt) (k1.below hW k1.lt) (k0.below hW k0.lt) ((hD.below hB).below hW) ((hI.below hB).below hW)
      (fun j hj => (hW.cell (p := ⟨3, j, none⟩) (by simp; omega)).trans ((hB.cell (p := ⟨3, j, none⟩) h3).trans (hT j hj))) (by have := hW.size; omega) hg
  have CK := hide ck
  have c1 := k1.cell 0
  have c2 := k2.cell 0
  have c3 := k3.cell 0
  clear ck hg hD hI hT k0 k1 k2 k3 k4 hL
  go_enter Tryd.func57, Tryd.ntmps57
  go_wp2_with fail
  refine CK.out.mono ?_
  rintro e W2 ⟨⟨h, rfl⟩ | ⟨h, rfl⟩, hb⟩
  · have hB2 := hB.trans (hb.mono hB.size)
    clear hb
    go_wp2_with fail
    go_ret
    exact ⟨.inl ⟨h, rfl⟩, hB2⟩
  · have hB2 := hB.trans (hb.mono hB.size)
    clear hb
    go_wp2_with fail
    go_ret
    exact ⟨.inr ⟨h, rfl⟩, hB2⟩
end Go.Proofs.YtdpgebifeaakjaaDoor

/- The bodies of DigestGrowths and of DigestPaths. -/
namespace Go.Proofs.YtdpgebifeaakjaaDoor
set_option linter.unusedSimpArgs false
set_option linter.unusedVariables false
open Go.RowKit
theorem tab_below {w W : World} (hT : TabAt 3 Lib.deBruijn64tab w) (h3 : 3 < w.heap.size) (hW : Below w.heap.size w W) : TabAt 3 Lib.deBruijn64tab W := fun j hj => (hW.cell (p := ⟨3, j, none⟩) h3).trans (hT j hj)
end Go.Proofs.YtdpgebifeaakjaaDoor

/- member, walked. -/
namespace Go.Proofs.YtdpgebifeaakjaaDoor
set_option linter.unusedSimpArgs false
set_option linter.unusedVariables false
open Go.RowKit
theorem field37 (p : Option Addr) (k c : Nat) (x : Int) (w : World) : (Instr.field 37 (.agg #[.slice p k c, .int .i64 x]) 0).run Tryd.prog w = .ok (.slice p k c) w := by kernel_rfl
theorem exec_sliceBoth {o : Oper} {W : World} (ρ : Operand → Value) (ty e : TypeId) (s : Nat) (x y z : Operand) (ho : o.op = .slice ty x (some y) (some z) none) (p : Option Addr) (k c lo hi : Nat) (hx : ρ x = .slice p k c) (hy : ρ y = .int .i64 (lo : Int)) (hz : ρ z = .int .i64 (hi : Int))
    (hu : Tryd.prog.underlying ty = some (.slice e)) (hs : (Tryd.prog.info? e).map (·.size) = some s) (hk : lo ≤ hi) (hc : hi ≤ c) :
    (execOp ρ o).run Tryd.prog W = .ok (.value (.slice (if c = lo then p else p.map (·.add (lo * s))) (hi - lo) (c - lo))) W := by
  have hu' := run_underlying (P := Tryd.prog) (w := W) hu
  obtain ⟨i, hi', hs'⟩ := Option.map_eq_some_iff.1 hs
  unfold execOp
  simp [ho, hx, hy, hz, Instr.sliceAt, Instr.slice, Instr.sliceBounds, Instr.sliceBound, hu', sizeOf, typeInfo, hi', hs', asIntOf, hk, hc, go_sem]
theorem wp_sliceBoth {ops : Array Oper} {rest : List Oper} {o : Oper} {a : Act} {w : World} {Q : Exit → Act → World → Prop} (hgd : o.guard = none) (ty e : TypeId) (s : Nat) (x y z : Operand) (ho : o.op = .slice ty x (some y) (some z) none) {p q : Option Addr} {k c lo hi m : Nat} (hx : a.eval x = .slice p k c) (hy : a.eval y = .int .i64 (lo : Int)) (hz : a.eval z = .int .i64 (hi : Int))
    (hu : Tryd.prog.underlying ty = some (.slice e)) (hs : (Tryd.prog.info? e).map (·.size) = some s) (hk : lo ≤ hi) (hc : hi ≤ c) (hm : hi - lo = m) (hq : (if c = lo then p else p.map (·.add (lo * s))) = q) (h : wpList Tryd.prog ops Q rest (a.put o.dst (.slice q m (c - lo))) w) : wpList Tryd.prog ops Q (o :: rest) a w := by
  subst hm hq
  refine wpList_plain hgd fun _ hK => ?_
  unfold Oper.wp
  rw [exec_sliceBoth a.eval ty e s x y z ho p k c lo hi hx hy hz hu hs hk hc]
  exact hK _ _ h
set_option maxRecDepth 20000 in
set_option maxHeartbeats 1000000 in
/-- member, where CheckPath refuses. -/
theorem member_refused (r : Int) (hr : ¬ r = 0) (n a K ck L cp cl : Nat) (pl pk pp : Option Addr) (root : Nat → BitVec 8) (w : World)
    (hc : ∀ W, Below w.heap.size w W → Calls Tryd.prog 57 #[.agg (A8 16 root), .int .i64 (n : Int), .int .i64 (a : Int), .slice pk K ck, .slice pp L cp] W fun e w' => e = .returned (.int .i64 r) ∧ Below W.heap.size W w') :
    Calls Tryd.prog 59 #[.slice pl n cl, .agg (A8 16 root), .int .i64 (a : Int), .slice pk K ck, .slice pp L cp] w fun e w' => e = .returned (.bool true) ∧ Below w.heap.size w w' := by
  have hbx := box23 root
  have k0 := Blk.new w (A8 16 root) 23
  have hB : Below w.heap.size w (w.alloc (.cells (A8 16 root) 23)) := (Below.refl _ _).alloc (Nat.le_refl _) _
  have HC := hide hc
  have hr2 : (r == 0) = false := beq_eq_false_iff_ne.2 hr
  clear hc
  go_enter Tryd.func59, Tryd.ntmps59
  go_wp2_with (refine wp_loadRow rfl 23 _ rfl w.heap.size rfl k0 Tryd.underlying23 rfl size23 (A8.size _ _) ?_)
  refine (HC.out _ hB).mono ?_
  rintro e W1 ⟨rfl, hb⟩
  replace hB := hB.trans (hb.mono hB.size)
  clear hb HC k0
  go_wp2_with fail
  go_ret
  exact ⟨rfl, hB⟩
set_option maxRecDepth 20000 in
set_option maxHeartbeats 1000000 in
theorem member_taken (n a K ck L cp cl B : Nat) (pl pk pp : Option Addr) (D I P : Nat → Nat → BitVec 8) (root d : Nat → BitVec 8) (H : List (List (BitVec 8))) (w : World) (hBe : a + K = B) (hn : n ≤ 60) (hBn : B ≤ n) (hL : L ≤ 200)
    (hl : Digs w (.slice pl n cl) n D) (hi : Digs w (.slice pk K ck) K I) (hp : Digs w (.slice pp L cp) L P) (hKK : KAt w) (hLe : L = (coverL 0 a).length + (coverL B n).length)
    (hw : WayG (mixT (coverL 0 a).length K P I) n (coverL 0 a ++ singles a K ++ coverL B n) d H)
    (hco : sameB K K I (fun j => D (a + j)) = true ∧ sameB L L P (pathT D n a B) = true ∨ Coll (hashF n n D ++ itemS I K ++ H))
    (hc : ∀ W, Below w.heap.size w W → Calls Tryd.prog 57 #[.agg (A8 16 root), .int .i64 (n : Int), .int .i64 (a : Int), .slice pk K ck, .slice pp L cp] W fun e w' => e = .returned (.int .i64 0) ∧ Below W.heap.size W w') :
    Calls Tryd.prog 59 #[.slice pl n cl, .agg (A8 16 root), .int .i64 (a : Int), .slice pk K ck, .slice pp L cp] w fun e w' => e = .returned (.bool true) ∧ Below w.heap.size w w' := by
  have hbx := box23 root
  have k0 := Blk.new w (A8 16 root) 23
  have hB : Below w.heap.size w (w.alloc (.cells (A8 16 root) 23)) := (Below.refl _ _).alloc (Nat.le_refl _) _
  have HC := hide hc
  have hlc := hl.cap
  have hpc := hp.cap
  have rp : ∀ W, Below w.heap.size w W → Calls Tryd.prog 46 #[.slice pl n cl, .int .i64 (a : Int), .int .i64 (B : Int)] W fun e w' => ∃ r, e = .returned (.agg #[r, .int .i64 0]) ∧ Digs w' r L (pathT D n a B) ∧ Below W.heap.size W w' := fun W hW => (rpath_ok n a B D _ W (by omega) hBn (by omega) (hl.below hW) (hKK.below hKK.pos hW)).mono fun e w' ⟨r, h1, h2, h3⟩ => ⟨r, h1, by rw [digCells_join] at h2; rw [hLe]; exact Digs.of_owns h2, h3⟩
  have c1 : ∀ W, Calls Tryd.prog 23 #[.int .i64 0, .int .i64 (a : Int)] W fun e w' => ∃ p c, e = .returned (.agg #[.slice p (coverL 0 a).length c, .int .i64 0]) ∧ Sees w' 2 (.slice p (coverL 0 a).length c) (coverL 0 a).length (cellsOf (coverL 0 a)) ∧ Below W.heap.size W w' := fun W => rCover_own 0 a (by omega) (by omega) W
  have c2 : ∀ W, Calls Tryd.prog 23 #[.int .i64 (B : Int), .int .i64 (n : Int)] W fun e w' => ∃ p c, e = .returned (.agg #[.slice p (coverL B n).length c, .int .i64 0]) ∧ Sees w' 2 (.slice p (coverL B n).length c) (coverL B n).length (cellsOf (coverL B n)) ∧ Below W.heap.size W w' := fun W => rCover_own B n hBn (by omega) W
  have ch := fun W (hW : Below w.heap.size w W) => hashed_any n n D _ W (Nat.le_refl _) (by omega) (hl.below hW) (hKK.below hKK.pos hW)
  have hHl : (hashF n n D).length ≤ 1000 := by have := hashF_len n n D (Nat.le_refl _) (by omega); omega
  have lF := cover_len (Nat.zero_le a) (by omega : a ≤ 1099511627776)
  have lG := cover_len hBn (by omega : n ≤ 1099511627776)
  have hHs : ∀ x, x ∈ hashF n n D → x.length ≤ 1000 := fun x hx => Nat.le_trans (hashF_short _ _ _ x hx) (by decide)
  generalize hashF n n D = HD at hco ch hHl hHs
  generalize pathT D n a B = PT at hco rp
  generalize coverL 0 a = F at c1 lF hLe hw
  generalize coverL B n = G at c2 lG hLe hw
  have RP := hide rp; have C1 := hide c1; have C2 := hide c2; have CH := hide ch
  have HL := hide hl; have HI := hide hi; have HP := hide hp; have HW := hide hw; have HCO := hide hco; have HLE := hide hLe; have HHS := hide hHs
  have hsB : (a : Int) + (K : Int) = (B : Int) := by omega
  have hle1 : ¬ (n : Int) < (B : Int) := by omega
  have hab : a ≤ B := by omega
  have hBc : B ≤ cl := by omega
  have hBK : B - a = K := by omega
  obtain ⟨ps, hps⟩ : ∃ q, (if cl = a then pl else pl.map (·.add (a * 16))) = q := ⟨_, rfl⟩
  have hds : ∀ W, Digs W (.slice pl n cl) n D → Digs W (.slice ps K (cl - a)) K (fun j => D (a + j)) := fun W h => by
    have h1 := (h.behind a (by omega)).upto K (by omega)
    rw [hps] at h1
    exact h1
  have HPS := hide hps; have HDS := hide hds
  clear hps hds rp c1 c2 ch hl hi hp hw hco hc hLe hHs hBe
  go_enter Tryd.func59, Tryd.ntmps59
  go_wp2_with (refine wp_loadRow rfl 23 _ rfl w.heap.size rfl k0 Tryd.underlying23 rfl size23 (A8.size _ _) ?_)
  refine (HC.out _ hB).mono ?_
  rintro e W1 ⟨rfl, hb⟩
  replace hB := hB.trans (hb.mono hB.size)
  clear hb HC k0 hbx
  go_wp2_with fail
  refine (RP.out _ hB).mono ?_
  rintro e W2 ⟨r, rfl, dr, hb⟩
  replace hB := hB.trans (hb.mono hB.size)
  clear hb RP
  obtain ⟨pr, cr, rfl, _⟩ := id dr
  have n12 := Blk.new W2 #[.slice none 0 0, .int .i64 0] 85
  have d1 := HI.out
  go_wp2_with (first | (refine wp_storeRow (C' := #[.slice pr L cr, .int .i64 0]) rfl 85 _ _ rfl _ rfl rfl n12 size85 rfl rfl (by simp [Value.oneCell']) rfl ?_; intro W3 hu k12) | (refine wp_sliceBoth rfl 80 23 16 _ _ _ rfl rfl rfl rfl Tryd.underlying80 size23 hab hBc hBK HPS.out ?_))
  have hb3 : Below W2.heap.size W2 W3 := hu.below ((Below.refl _ _).alloc (Nat.le_refl _) _) (Nat.le_refl _)
  replace dr := dr.below hb3
  replace hB := hB.trans (hb3.mono hB.size)
  clear hb3 hu n12 d1
  generalize W2.heap.size = b12 at k12 ⊢
  refine (same_gen K K I (fun j => D (a + j)) _ _ W3 (by omega) (HI.out.below hB) (HDS.out _ (HL.out.below hB))).mono ?_
  rintro e W4 ⟨rfl, hb⟩
  replace hB := hB.trans (hb.mono hB.size)
  replace dr := dr.below hb
  replace k12 := k12.below hb k12.lt
  clear hb
  have q12 := k12.cell 0
  by_cases hsame : sameB K K I (fun j => D (a + j)) = true ∧ sameB L L P PT = true
  · obtain ⟨e1, e2⟩ := hsame
    rw [e1]
    clear e1
    go_wp2_with fail
    refine (same_gen L L P PT _ _ W4 (by omega) (HP.out.below hB) dr).mono ?_
    rintro e W5 ⟨rfl, hb⟩
    rw [e2]
    replace hB := hB.trans (hb.mono hB.size)
    clear e2 hb
    go_wp2_with fail
    go_ret
    exact ⟨rfl, hB⟩
  have hcoll := HCO.out.resolve_left hsame
  have HCL := hide hcoll
  have key : ∀ W5, Below w.heap.size w W5 → Coll (HD ++ itemS I K ++ H) → True := fun _ _ _ => trivial
  clear hcoll key
  cases e1 : sameB K K I (fun j => D (a + j)) with
  | false =>
    clear hsame q12 e1
    go_upto_region 9 with (fail)
    apply wp_region_lit
    refine wp_buildz rfl rfl (build33z _) ?_
    have oz := owns_z W4 W4.heap.size 106 2 (Nat.le_refl _)
    have hB3 : Below W4.heap.size W4 (W4.alloc (.cells #[] 106)) := (Below.refl _ _).alloc (Nat.le_refl _) _
    generalize W4.alloc (.cells #[] 106) = Wz at oz hB3 ⊢
    obtain ⟨β, hβ⟩ : ∃ β, W4.heap.size = β := ⟨_, rfl⟩
    have hwβ : w.heap.size ≤ β := hβ ▸ hB.size
    rw [hβ] at oz hB3 ⊢
    generalize (some (⟨β, 0, none⟩ : Addr)) = zp at oz ⊢
    have hlw : ∀ X, Below β W4 X → Below w.heap.size w X := fun X hX => hB.trans (hX.mono hwβ)
    have hK3 : ∀ X, Below β W4 X → KAt X := fun X hX => hKK.below hKK.pos (hlw X hX)
    have hβs : ∀ X, Below β W4 X → β ≤ X.heap.size := fun X hX => hβ ▸ hX.size
    have hFl : F.length ≤ L := by have := HLE.out; omega
    have hFL : ¬ (L : Int) < (F.length : Int) := by omega
    have hfc : F.length ≤ cp := by omega
    clear hβ
    have hf37 := field37
    go_wp2_with fail
    refine (C1.out _).mono ?_
    rintro e Wa ⟨p1, c1, rfl, f1, hb⟩
    replace oz := ownsRow_below oz hb
    replace hB3 := hB3.trans (hb.mono (hβs _ hB3))
    have hbt := hβs _ hB3
    clear hb
    go_upto_region 13 with (at_builtin; go_loud (refine wp_append (v := .slice zp 0 0) elem33 rfl _ _ rfl rfl oz rfl f1 (cellsOf_one _) (by omega) hbt ?_); intro v13 Wb o13 hb; rw [List.nil_append, Nat.zero_add] at o13; obtain ⟨vp, vk, vc, rfl⟩ := ownsRow_slice' o13; obtain rfl := ownsRow_len o13; replace hB3 := hB3.trans hb; clear oz hb f1 hbt)
    apply wp_region_lit
    refine wp_buildz rfl rfl (build80z _) ?_
    have hz := (Below.refl Wb.heap.size Wb).alloc (Nat.le_refl _) (.cells #[] 23)
    have ox := owns_z Wb β 23 16 (hβs _ hB3)
    replace o13 := ownsRow_below o13 hz
    replace hB3 := hB3.trans (hz.mono (hβs _ hB3))
    generalize Wb.alloc (.cells #[] 23) = Wy at ox o13 hB3 ⊢
    generalize (some (⟨Wb.heap.size, 0, none⟩ : Addr)) = yp at ox ⊢
    have d14 : Digs Wy (.slice pp F.length cp) F.length P := (HP.out.below (hlw _ hB3)).upto F.length hFl
    have hby := hβs _ hB3
    clear hz
    go_wp2_with (first | (refine wp_sliceTo rfl 80 23 16 _ _ rfl rfl rfl Tryd.underlying80 size23 hfc ?_) | (at_builtin; go_loud (refine wp_appendG (v := .slice yp 0 0) elem80 rfl _ _ rfl rfl ox rfl d14.sees (digCells_one _ _) (by omega) hby ?_); intro v15 Wc o15 hg; rw [List.nil_append, Nat.zero_add] at o15))
    replace o13 := owns_keep o13 ox (by decide) hg
    replace hB3 := hB3.trans (grown_below ox hg hby)
    rw [digCells_congr F.length (U := mixT F.length K P I) (fun j hj => by rw [mixT, if_pos hj])] at o15
    clear ox hg d14 hby hfc hFL
    refine (CH.out _ (hlw _ hB3)).mono ?_
    rintro e Wd ⟨v16, rfl, o16, hb⟩
    replace o13 := ownsRow_below o13 hb
    replace o15 := ownsRow_below o15 hb
    replace o16 := ownsRow_base o16 (hβs _ hB3)
    replace hB3 := hB3.trans (hb.mono (hβs _ hB3))
    clear hb CH
    go_wp2_with fail
    go_loopw [13, 15, 16, 17] (fun s13 s15 s16 s17 X => ∃ k : Nat, k ≤ K ∧ s17 = .int .i64 (k : Int) ∧ X.ownsRow β 106 2 s13 (F.length + k) (cellsOf (F ++ singles a k)) ∧ X.ownsRow β 23 16 s15 (F.length + k) (digCells (mixT F.length K P I) (F.length + k)) ∧ X.ownsRow β 9 1 s16 (HD.length + k) (strCells (HD ++ itemS I k)) ∧ Below β W4 X) (fun _ _ _ s17 _ => K - (intOf s17).toNat)
    case atStart => exact ⟨0, Nat.zero_le _, rfl, (by rw [show singles a 0 = [] from rfl, List.append_nil]; exact o13), o15, (by rw [show itemS I 0 = [] from rfl, List.append_nil]; exact o16), hB3⟩
    case round =>
      clear o13 o15 o16 hB3
      obtain ⟨k, hk, rfl, o13, o15, o16, hB3⟩ := hrel
      have hβr := hβs _ hB3
      by_cases hlt : k < K
      · have hlt1 : (k : Int) < (K : Int) := by omega
        have hk0 : (0 : Int) ≤ (k : Int) := by omega
        have hk1 : ¬ ((K : Int) ≤ (k : Int)) := by omega
        have hwr : IntKind.i64.wrap ((a : Int) + (k : Int)) = (a : Int) + (k : Int) := IntWalk.i64_in _ (by omega)
        obtain ⟨ip', ic', e0, _, hd⟩ := HI.out
        injection e0 with e1 e2 e3
        subst e1 e3
        obtain ⟨g, o, rfl, r0⟩ := hd k hlt
        have hzr := (Below.refl wr.heap.size wr).alloc (Nat.le_refl _) (.cells #[.int .i64 ((a : Int) + (k : Int)), .int .i64 1] 106)
        have o13z := ownsRow_below o13 hzr
        have o15z := ownsRow_below o15 hzr
        have o16z := ownsRow_below o16 hzr
        have hB3z := hB3.trans (hzr.mono hβr)
        have hsn := sees_one wr 106 2 #[.int .i64 ((a : Int) + (k : Int)), .int .i64 1] rfl
        have hβz := Nat.le_trans hβr hzr.size
        clear hd o13 o15 o16 hB3 hzr
        go_wp2_with (first | (at_builtin; go_loud (refine wp_appendG elem33 rfl _ _ rfl rfl o13z rfl hsn (by simp [Value.oneCell']) (by omega) hβz ?_); intro w13 Wa oa hga; have o15a := owns_keep o15z o13z (by decide) hga; have o16a := owns_keep o16z o13z (by decide) hga; have hB3a := hB3z.trans (grown_below o13z hga hβz); have r1a := run_loadVar_mid Wa g (o + k * 16) 23 (A8 16 (I k)).toList _ (rangeAt_below r0 (hlw _ hB3a)) Tryd.underlying23 rfl (by rw [Array.length_toList, A8.size]; exact size23); rw [Array.toArray_toList] at r1a; clear o13z o15z o16z hB3z hga hsn) | (refine wp_loadRun (by rfl) 23 _ rfl g (o + k * 16) rfl r1a ?_))
        refine (rleaf_any (I k) _ (hK3 _ hB3a)).mono ?_
        rintro e Wb ⟨rfl, hb⟩
        replace oa := ownsRow_below oa hb
        replace o15a := ownsRow_below o15a hb
        replace o16a := ownsRow_below o16a hb
        have hβb := hβs _ hB3a
        replace hB3a := hB3a.trans (hb.mono hβb)
        replace hβb := Nat.le_trans hβb hb.size
        clear hb r1a hβr hβz
        have hzr := (Below.refl Wb.heap.size Wb).alloc (Nat.le_refl _) (.cells (A8 16 (leafD (I k))) 23)
        have o13z := ownsRow_below oa hzr
        have o15z := ownsRow_below o15a hzr
        have o16z := ownsRow_below o16a hzr
        have hB3z := hB3a.trans (hzr.mono hβb)
        have hsn := sees_one Wb 23 16 (A8 16 (leafD (I k))) (A8.size _ _)
        have hβz := Nat.le_trans hβb hzr.size
        clear oa o15a o16a hB3a hzr
        have hsum := fun W : World => run_string_add_sum (P := Tryd.prog) W ⟨#[0]⟩ (strOf (dl (I k))) (by rw [size_strOf, dl_length]; decide)
        have hcv := fun (W : World) (h : Below w.heap.size w W) => conv_at (rangeAt_below r0 h)
        have hzz := strOf_leaf (I k)
        generalize strOf (dl (I k)) = X at hsum hcv hzz
        generalize (⟨#[0]⟩ : ByteArray) ++ X = Y at hsum hzz
        have HZZ := hide hzz
        have HCV := hide hcv
        have HSM := hide hsum
        clear hzz hcv hsum
        go_wp2_with (first | (refine wp_build80 rfl _ rfl rfl ?_) | (at_builtin; refine wp_appendG elem80 rfl _ _ rfl rfl o15z rfl hsn (by intro y hy; exact digCells_one (fun _ => leafD (I k)) 1 y (by rw [digCells, digCells, List.nil_append]; exact hy)) (by omega) hβz ?_; intro u15 Wc oc hgc; have o13c := owns_keep o13z o15z (by decide) hgc; have o16c := owns_keep o16z o15z (by decide) hgc; have hB3c := hB3z.trans (grown_below o15z hgc hβz); have hcv := HCV.out Wc (hlw _ hB3c); have hsum := HSM.out Wc; have hzs := (Below.refl Wc.heap.size Wc).alloc (Nat.le_refl _) (.cells #[.string Y] 9); have o13d := ownsRow_below o13c hzs; have o15d := ownsRow_below oc hzs; have o16d := ownsRow_below o16c hzs; have hsd := sees_one Wc 9 1 #[.string Y] rfl; have hβd := Nat.le_trans (hβs _ hB3c) hzs.size; have hB3d := hB3c.trans (hzs.mono (hβs _ hB3c)); clear o13z o15z o16z hB3z hgc hsn hzs) | (at_builtin; go_loud (refine wp_appendG elem148 rfl _ _ rfl rfl o16d rfl hsd (by simp [Value.oneCell']) (by omega) hβd ?_); intro u16 We oe hge; have o13e := owns_keep o13d o16d (by decide) hge; have o15e := owns_keep o15d o16d (by decide) hge; have hB3e := hB3d.trans (grown_below o16d hge hβd)))
        exact ⟨⟨k + 1, by omega, by go_num, (by rw [singles_succ, ← List.append_assoc, cellsOf_append, cellsOf_single, Int.natCast_add]; exact o13e), (by rw [← Nat.add_assoc, digCells, show mixT F.length K P I (F.length + k) = leafD (I k) by rw [mixT, if_neg (by omega), if_pos (by omega), Nat.add_sub_cancel_left]]; exact o15e), (by rw [itemS_succ, ← List.append_assoc, strCells_append, ← Nat.add_assoc]; rw [HZZ.out] at oe; exact oe), hB3e⟩, by simp [intOf]; omega⟩
      · obtain rfl : k = K := by omega
        have hlt1 : ¬ (k : Int) < (k : Int) := by omega
        go_wp2_with fail
        refine (C2.out _).mono ?_
        rintro e Wa ⟨p2, c2, rfl, f2, hb⟩
        replace o13 := ownsRow_below o13 hb
        replace o15 := ownsRow_below o15 hb
        replace o16 := ownsRow_below o16 hb
        replace hB3 := hB3.trans (hb.mono hβr)
        replace hβr := Nat.le_trans hβr hb.size
        clear hb
        obtain ⟨sp, hsp⟩ : ∃ sp, (if cp = F.length then pp else pp.map (·.add (F.length * 16))) = sp := ⟨_, rfl⟩
        have HSP := hide hsp
        clear hsp
        go_wp2_with (first | (at_builtin; refine wp_appendG elem33 rfl _ _ rfl rfl o13 rfl f2 (cellsOf_one _) (by omega) hβr ?_; intro u13 Wb oa hga; have o15a := owns_keep o15 o13 (by decide) hga; have o16a := owns_keep o16 o13 (by decide) hga; have hB3a := hB3.trans (grown_below o13 hga hβr); have d14 := (HP.out.below (hlw _ hB3a)).behind F.length hFl; rw [HSP.out] at d14; have hβa := hβs _ hB3a; obtain ⟨lp, lk, lc, rfl⟩ := ownsRow_slice' oa; clear o13 o15 o16 hB3 hga f2 hβr) | (refine wp_sliceFromP rfl 80 23 16 _ _ rfl rfl rfl Tryd.underlying80 size23 hFl HSP.out ?_) | (at_builtin; go_loud (refine wp_appendG elem80 rfl _ _ rfl rfl o15a rfl d14.sees (digCells_one _ _) (by omega) hβa ?_); intro u15 W9 oc hgc; have ob := owns_keep oa o15a (by decide) hgc; have o16b := owns_keep o16a o15a (by decide) hgc; have hB9 := hB3a.trans (grown_below o15a hgc hβa); obtain ⟨tp, tk, tc, rfl⟩ := ownsRow_slice' oc; clear oa o15a o16a hB3a hgc d14 hβa))
        have hBw := hlw _ hB9
        obtain ⟨A, hA⟩ : ∃ A, F ++ singles a k ++ G = A := ⟨_, rfl⟩
        have hAl : A.length = F.length + k + G.length := by rw [← hA, List.length_append, List.length_append, singles_length]
        have hLe := HLE.out
        rw [← cellsOf_append, hA] at ob
        have hw := HW.out
        rw [hA] at hw
        have s13 : SlC W9 (.slice lp lk lc) A := SlC.of_owns (hAl ▸ ob)
        rw [digCells_join] at oc
        have s14 : Digs W9 (.slice tp tk tc) A.length (mixT F.length k P I) := (by
          have h9 := Digs.of_owns oc
          rw [show F.length + k + (L - F.length) = A.length by omega] at h9
          refine h9.congr fun j hj => ?_
          rw [joinT]
          split
          · rfl
          · rw [mixT, if_neg (by omega), if_neg (by omega), show F.length + (j - (F.length + k)) = j - k by omega])
        have GV := hide (hashed_gv n A (mixT F.length k P I) d H 0 _ _ W9 (by omega) (by omega) hw s13 s14 (hK3 _ hB9))
        have hHl2 := hw.len
        have hHs2 := hide hw.short
        have hHn : H.length ≤ 1000 := by omega
        clear hw s13 s14 ob oc hA hLe hlt1 hlt
        refine GV.out.mono ?_
        rintro e Wf ⟨v7, rfl, sH, hb⟩
        replace o16b := ownsRow_below o16b hb
        replace hB9 := hB9.trans (hb.mono (hβs _ hB9))
        have hβf := hβs _ hB9
        clear hb GV hBw hAl hHl2
        go_wp2_with (at_builtin; go_loud (refine wp_append elem148 rfl _ _ rfl rfl o16b rfl sH (strCells_one _) (by omega) hβf ?_); intro v8 Wg og hb)
        rw [← strCells_append] at og
        replace hB9 := hB9.trans hb
        refine (collide_any (HD ++ itemS I k ++ H) v8 Wg (by rw [List.length_append, List.length_append, show (itemS I k).length = k by simp [itemS]]; exact Sees.of_owns og) (fun x hx => ?_) (by rw [List.length_append, List.length_append, show (itemS I k).length = k by simp [itemS]]; omega) HCL.out (hK3 _ hB9)).mono ?_
        · rcases List.mem_append.1 hx with hx | hx
          · rcases List.mem_append.1 hx with hx | hx
            · exact HHS.out x hx
            · obtain ⟨_, _, rfl⟩ := List.mem_map.1 hx
              rw [List.length_cons, dl_length]
              decide
          · exact Nat.le_trans (hHs2.out x hx) (by decide)
        rintro e Wh ⟨rfl, hb2⟩
        have hBe := hlw _ (hB9.trans (hb2.mono (hβs _ hB9)))
        clear hb hb2 og hB9 o16b sH
        go_wp2_with fail
        go_ret
        exact ⟨rfl, hBe⟩
  | true =>
    have e2 : sameB L L P PT = false := Bool.eq_false_iff.2 fun h => hsame ⟨e1, h⟩
    clear hsame e1
    go_wp2_with fail
    refine (same_gen L L P PT _ _ W4 (by omega) (HP.out.below hB) dr).mono ?_
    rintro e W5 ⟨rfl, hb⟩
    rw [e2]
    replace hB := hB.trans (hb.mono hB.size)
    clear e2 hb q12
    go_upto_region 9 with (fail)
    apply wp_region_lit
    refine wp_buildz rfl rfl (build33z _) ?_
    have oz := owns_z W5 W5.heap.size 106 2 (Nat.le_refl _)
    have hB3 : Below W5.heap.size W5 (W5.alloc (.cells #[] 106)) := (Below.refl _ _).alloc (Nat.le_refl _) _
    generalize W5.alloc (.cells #[] 106) = Wz at oz hB3 ⊢
    obtain ⟨β, hβ⟩ : ∃ β, W5.heap.size = β := ⟨_, rfl⟩
    have hwβ : w.heap.size ≤ β := hβ ▸ hB.size
    rw [hβ] at oz hB3 ⊢
    generalize (some (⟨β, 0, none⟩ : Addr)) = zp at oz ⊢
    have hlw : ∀ X, Below β W5 X → Below w.heap.size w X := fun X hX => hB.trans (hX.mono hwβ)
    have hK3 : ∀ X, Below β W5 X → KAt X := fun X hX => hKK.below hKK.pos (hlw X hX)
    have hβs : ∀ X, Below β W5 X → β ≤ X.heap.size := fun X hX => hβ ▸ hX.size
    have hFl : F.length ≤ L := by have := HLE.out; omega
    have hFL : ¬ (L : Int) < (F.length : Int) := by omega
    have hfc : F.length ≤ cp := by omega
    clear hβ
    have hf37 := field37
    go_wp2_with fail
    refine (C1.out _).mono ?_
    rintro e Wa ⟨p1, c1, rfl, f1, hb⟩
    replace oz := ownsRow_below oz hb
    replace hB3 := hB3.trans (hb.mono (hβs _ hB3))
    have hbt := hβs _ hB3
    clear hb
    go_upto_region 13 with (at_builtin; go_loud (refine wp_append (v := .slice zp 0 0) elem33 rfl _ _ rfl rfl oz rfl f1 (cellsOf_one _) (by omega) hbt ?_); intro v13 Wb o13 hb; rw [List.nil_append, Nat.zero_add] at o13; obtain ⟨vp, vk, vc, rfl⟩ := ownsRow_slice' o13; obtain rfl := ownsRow_len o13; replace hB3 := hB3.trans hb; clear oz hb f1 hbt)
    apply wp_region_lit
    refine wp_buildz rfl rfl (build80z _) ?_
    have hz := (Below.refl Wb.heap.size Wb).alloc (Nat.le_refl _) (.cells #[] 23)
    have ox := owns_z Wb β 23 16 (hβs _ hB3)
    replace o13 := ownsRow_below o13 hz
    replace hB3 := hB3.trans (hz.mono (hβs _ hB3))
    generalize Wb.alloc (.cells #[] 23) = Wy at ox o13 hB3 ⊢
    generalize (some (⟨Wb.heap.size, 0, none⟩ : Addr)) = yp at ox ⊢
    have d14 : Digs Wy (.slice pp F.length cp) F.length P := (HP.out.below (hlw _ hB3)).upto F.length hFl
    have hby := hβs _ hB3
    clear hz
    go_wp2_with (first | (refine wp_sliceTo rfl 80 23 16 _ _ rfl rfl rfl Tryd.underlying80 size23 hfc ?_) | (at_builtin; go_loud (refine wp_appendG (v := .slice yp 0 0) elem80 rfl _ _ rfl rfl ox rfl d14.sees (digCells_one _ _) (by omega) hby ?_); intro v15 Wc o15 hg; rw [List.nil_append, Nat.zero_add] at o15))
    replace o13 := owns_keep o13 ox (by decide) hg
    replace hB3 := hB3.trans (grown_below ox hg hby)
    rw [digCells_congr F.length (U := mixT F.length K P I) (fun j hj => by rw [mixT, if_pos hj])] at o15
    clear ox hg d14 hby hfc hFL
    refine (CH.out _ (hlw _ hB3)).mono ?_
    rintro e Wd ⟨v16, rfl, o16, hb⟩
    replace o13 := ownsRow_below o13 hb
    replace o15 := ownsRow_below o15 hb
    replace o16 := ownsRow_base o16 (hβs _ hB3)
    replace hB3 := hB3.trans (hb.mono (hβs _ hB3))
    clear hb CH
    go_wp2_with fail
    go_loopw [13, 15, 16, 17] (fun s13 s15 s16 s17 X => ∃ k : Nat, k ≤ K ∧ s17 = .int .i64 (k : Int) ∧ X.ownsRow β 106 2 s13 (F.length + k) (cellsOf (F ++ singles a k)) ∧ X.ownsRow β 23 16 s15 (F.length + k) (digCells (mixT F.length K P I) (F.length + k)) ∧ X.ownsRow β 9 1 s16 (HD.length + k) (strCells (HD ++ itemS I k)) ∧ Below β W5 X) (fun _ _ _ s17 _ => K - (intOf s17).toNat)
    case atStart => exact ⟨0, Nat.zero_le _, rfl, (by rw [show singles a 0 = [] from rfl, List.append_nil]; exact o13), o15, (by rw [show itemS I 0 = [] from rfl, List.append_nil]; exact o16), hB3⟩
    case round =>
      clear o13 o15 o16 hB3
      obtain ⟨k, hk, rfl, o13, o15, o16, hB3⟩ := hrel
      have hβr := hβs _ hB3
      by_cases hlt : k < K
      · have hlt1 : (k : Int) < (K : Int) := by omega
        have hk0 : (0 : Int) ≤ (k : Int) := by omega
        have hk1 : ¬ ((K : Int) ≤ (k : Int)) := by omega
        have hwr : IntKind.i64.wrap ((a : Int) + (k : Int)) = (a : Int) + (k : Int) := IntWalk.i64_in _ (by omega)
        obtain ⟨ip', ic', e0, _, hd⟩ := HI.out
        injection e0 with e1 e2 e3
        subst e1 e3
        obtain ⟨g, o, rfl, r0⟩ := hd k hlt
        have hzr := (Below.refl wr.heap.size wr).alloc (Nat.le_refl _) (.cells #[.int .i64 ((a : Int) + (k : Int)), .int .i64 1] 106)
        have o13z := ownsRow_below o13 hzr
        have o15z := ownsRow_below o15 hzr
        have o16z := ownsRow_below o16 hzr
        have hB3z := hB3.trans (hzr.mono hβr)
        have hsn := sees_one wr 106 2 #[.int .i64 ((a : Int) + (k : Int)), .int .i64 1] rfl
        have hβz := Nat.le_trans hβr hzr.size
        clear hd o13 o15 o16 hB3 hzr
        go_wp2_with (first | (at_builtin; go_loud (refine wp_appendG elem33 rfl _ _ rfl rfl o13z rfl hsn (by simp [Value.oneCell']) (by omega) hβz ?_); intro w13 Wa oa hga; have o15a := owns_keep o15z o13z (by decide) hga; have o16a := owns_keep o16z o13z (by decide) hga; have hB3a := hB3z.trans (grown_below o13z hga hβz); have r1a := run_loadVar_mid Wa g (o + k * 16) 23 (A8 16 (I k)).toList _ (rangeAt_below r0 (hlw _ hB3a)) Tryd.underlying23 rfl (by rw [Array.length_toList, A8.size]; exact size23); rw [Array.toArray_toList] at r1a; clear o13z o15z o16z hB3z hga hsn) | (refine wp_loadRun (by rfl) 23 _ rfl g (o + k * 16) rfl r1a ?_))
        refine (rleaf_any (I k) _ (hK3 _ hB3a)).mono ?_
        rintro e Wb ⟨rfl, hb⟩
        replace oa := ownsRow_below oa hb
        replace o15a := ownsRow_below o15a hb
        replace o16a := ownsRow_below o16a hb
        have hβb := hβs _ hB3a
        replace hB3a := hB3a.trans (hb.mono hβb)
        replace hβb := Nat.le_trans hβb hb.size
        clear hb r1a hβr hβz
        have hzr := (Below.refl Wb.heap.size Wb).alloc (Nat.le_refl _) (.cells (A8 16 (leafD (I k))) 23)
        have o13z := ownsRow_below oa hzr
        have o15z := ownsRow_below o15a hzr
        have o16z := ownsRow_below o16a hzr
        have hB3z := hB3a.trans (hzr.mono hβb)
        have hsn := sees_one Wb 23 16 (A8 16 (leafD (I k))) (A8.size _ _)
        have hβz := Nat.le_trans hβb hzr.size
        clear oa o15a o16a hB3a hzr
        have hsum := fun W : World => run_string_add_sum (P := Tryd.prog) W ⟨#[0]⟩ (strOf (dl (I k))) (by rw [size_strOf, dl_length]; decide)
        have hcv := fun (W : World) (h : Below w.heap.size w W) => conv_at (rangeAt_below r0 h)
        have hzz := strOf_leaf (I k)
        generalize strOf (dl (I k)) = X at hsum hcv hzz
        generalize (⟨#[0]⟩ : ByteArray) ++ X = Y at hsum hzz
        have HZZ := hide hzz
        have HCV := hide hcv
        have HSM := hide hsum
        clear hzz hcv hsum
        go_wp2_with (first | (refine wp_build80 rfl _ rfl rfl ?_) | (at_builtin; refine wp_appendG elem80 rfl _ _ rfl rfl o15z rfl hsn (by intro y hy; exact digCells_one (fun _ => leafD (I k)) 1 y (by rw [digCells, digCells, List.nil_append]; exact hy)) (by omega) hβz ?_; intro u15 Wc oc hgc; have o13c := owns_keep o13z o15z (by decide) hgc; have o16c := owns_keep o16z o15z (by decide) hgc; have hB3c := hB3z.trans (grown_below o15z hgc hβz); have hcv := HCV.out Wc (hlw _ hB3c); have hsum := HSM.out Wc; have hzs := (Below.refl Wc.heap.size Wc).alloc (Nat.le_refl _) (.cells #[.string Y] 9); have o13d := ownsRow_below o13c hzs; have o15d := ownsRow_below oc hzs; have o16d := ownsRow_below o16c hzs; have hsd := sees_one Wc 9 1 #[.string Y] rfl; have hβd := Nat.le_trans (hβs _ hB3c) hzs.size; have hB3d := hB3c.trans (hzs.mono (hβs _ hB3c)); clear o13z o15z o16z hB3z hgc hsn hzs) | (at_builtin; go_loud (refine wp_appendG elem148 rfl _ _ rfl rfl o16d rfl hsd (by simp [Value.oneCell']) (by omega) hβd ?_); intro u16 We oe hge; have o13e := owns_keep o13d o16d (by decide) hge; have o15e := owns_keep o15d o16d (by decide) hge; have hB3e := hB3d.trans (grown_below o16d hge hβd)))
        exact ⟨⟨k + 1, by omega, by go_num, (by rw [singles_succ, ← List.append_assoc, cellsOf_append, cellsOf_single, Int.natCast_add]; exact o13e), (by rw [← Nat.add_assoc, digCells, show mixT F.length K P I (F.length + k) = leafD (I k) by rw [mixT, if_neg (by omega), if_pos (by omega), Nat.add_sub_cancel_left]]; exact o15e), (by rw [itemS_succ, ← List.append_assoc, strCells_append, ← Nat.add_assoc]; rw [HZZ.out] at oe; exact oe), hB3e⟩, by simp [intOf]; omega⟩
      · obtain rfl : k = K := by omega
        have hlt1 : ¬ (k : Int) < (k : Int) := by omega
        go_wp2_with fail
        refine (C2.out _).mono ?_
        rintro e Wa ⟨p2, c2, rfl, f2, hb⟩
        replace o13 := ownsRow_below o13 hb
        replace o15 := ownsRow_below o15 hb
        replace o16 := ownsRow_below o16 hb
        replace hB3 := hB3.trans (hb.mono hβr)
        replace hβr := Nat.le_trans hβr hb.size
        clear hb
        obtain ⟨sp, hsp⟩ : ∃ sp, (if cp = F.length then pp else pp.map (·.add (F.length * 16))) = sp := ⟨_, rfl⟩
        have HSP := hide hsp
        clear hsp
        go_wp2_with (first | (at_builtin; refine wp_appendG elem33 rfl _ _ rfl rfl o13 rfl f2 (cellsOf_one _) (by omega) hβr ?_; intro u13 Wb oa hga; have o15a := owns_keep o15 o13 (by decide) hga; have o16a := owns_keep o16 o13 (by decide) hga; have hB3a := hB3.trans (grown_below o13 hga hβr); have d14 := (HP.out.below (hlw _ hB3a)).behind F.length hFl; rw [HSP.out] at d14; have hβa := hβs _ hB3a; obtain ⟨lp, lk, lc, rfl⟩ := ownsRow_slice' oa; clear o13 o15 o16 hB3 hga f2 hβr) | (refine wp_sliceFromP rfl 80 23 16 _ _ rfl rfl rfl Tryd.underlying80 size23 hFl HSP.out ?_) | (at_builtin; go_loud (refine wp_appendG elem80 rfl _ _ rfl rfl o15a rfl d14.sees (digCells_one _ _) (by omega) hβa ?_); intro u15 W9 oc hgc; have ob := owns_keep oa o15a (by decide) hgc; have o16b := owns_keep o16a o15a (by decide) hgc; have hB9 := hB3a.trans (grown_below o15a hgc hβa); obtain ⟨tp, tk, tc, rfl⟩ := ownsRow_slice' oc; clear oa o15a o16a hB3a hgc d14 hβa))
        have hBw := hlw _ hB9
        obtain ⟨A, hA⟩ : ∃ A, F ++ singles a k ++ G = A := ⟨_, rfl⟩
        have hAl : A.length = F.length + k + G.length := by rw [← hA, List.length_append, List.length_append, singles_length]
        have hLe := HLE.out
        rw [← cellsOf_append, hA] at ob
        have hw := HW.out
        rw [hA] at hw
        have s13 : SlC W9 (.slice lp lk lc) A := SlC.of_owns (hAl ▸ ob)
        rw [digCells_join] at oc
        have s14 : Digs W9 (.slice tp tk tc) A.length (mixT F.length k P I) := (by
          have h9 := Digs.of_owns oc
          rw [show F.length + k + (L - F.length) = A.length by omega] at h9
          refine h9.congr fun j hj => ?_
          rw [joinT]
          split
          · rfl
          · rw [mixT, if_neg (by omega), if_neg (by omega), show F.length + (j - (F.length + k)) = j - k by omega])
        have GV := hide (hashed_gv n A (mixT F.length k P I) d H 0 _ _ W9 (by omega) (by omega) hw s13 s14 (hK3 _ hB9))
        have hHl2 := hw.len
        have hHs2 := hide hw.short
        have hHn : H.length ≤ 1000 := by omega
        clear hw s13 s14 ob oc hA hLe hlt1 hlt
        refine GV.out.mono ?_
        rintro e Wf ⟨v7, rfl, sH, hb⟩
        replace o16b := ownsRow_below o16b hb
        replace hB9 := hB9.trans (hb.mono (hβs _ hB9))
        have hβf := hβs _ hB9
        clear hb GV hBw hAl hHl2
        go_wp2_with (at_builtin; go_loud (refine wp_append elem148 rfl _ _ rfl rfl o16b rfl sH (strCells_one _) (by omega) hβf ?_); intro v8 Wg og hb)
        rw [← strCells_append] at og
        replace hB9 := hB9.trans hb
        refine (collide_any (HD ++ itemS I k ++ H) v8 Wg (by rw [List.length_append, List.length_append, show (itemS I k).length = k by simp [itemS]]; exact Sees.of_owns og) (fun x hx => ?_) (by rw [List.length_append, List.length_append, show (itemS I k).length = k by simp [itemS]]; omega) HCL.out (hK3 _ hB9)).mono ?_
        · rcases List.mem_append.1 hx with hx | hx
          · rcases List.mem_append.1 hx with hx | hx
            · exact HHS.out x hx
            · obtain ⟨_, _, rfl⟩ := List.mem_map.1 hx
              rw [List.length_cons, dl_length]
              decide
          · exact Nat.le_trans (hHs2.out x hx) (by decide)
        rintro e Wh ⟨rfl, hb2⟩
        have hBe := hlw _ (hB9.trans (hb2.mono (hβs _ hB9)))
        clear hb hb2 og hB9 o16b sH
        go_wp2_with fail
        go_ret
        exact ⟨rfl, hBe⟩
end Go.Proofs.YtdpgebifeaakjaaDoor

/- grows, walked. -/
namespace Go.Proofs.YtdpgebifeaakjaaDoor
set_option linter.unusedSimpArgs false
set_option linter.unusedVariables false
open Go.RowKit
set_option maxRecDepth 20000 in
set_option maxHeartbeats 1000000 in
/-- grows, where CheckGrowth refuses. -/
theorem grows_refused (r : Int) (hr : ¬ r = 0) (n m L cl ce cp : Nat) (pl pe pp : Option Addr) (D E P : Nat → Nat → BitVec 8) (w : World) (hn : n ≤ 60) (hm : m ≤ 60) (hl : Digs w (.slice pl n cl) n D) (he : Digs w (.slice pe m ce) m E) (hKK : KAt w)
    (hc : ∀ W, Below w.heap.size w W → Calls Tryd.prog 51 #[.agg (A8 16 (treeF m m E)), .int .i64 (m : Int), .agg (A8 16 (treeF n n D)), .int .i64 (n : Int), .slice pp L cp] W fun e w' => e = .returned (.int .i64 r) ∧ Below W.heap.size W w') :
    Calls Tryd.prog 60 #[.slice pl n cl, .slice pe m ce, .slice pp L cp] w fun e w' => e = .returned (.bool true) ∧ Below w.heap.size w w' := by
  have hB := Below.refl w.heap.size w
  have te := fun (W : World) (hW : Below w.heap.size w W) => rtree_any m m E _ W (Nat.le_refl _) (by omega) (he.below hW) (hKK.below hKK.pos hW)
  have td := fun (W : World) (hW : Below w.heap.size w W) => rtree_any n n D _ W (Nat.le_refl _) (by omega) (hl.below hW) (hKK.below hKK.pos hW)
  have hr2 : (r == 0) = false := beq_eq_false_iff_ne.2 hr
  generalize treeF m m E = X1 at te hc
  generalize treeF n n D = X2 at td hc
  have TE := hide te; have TD := hide td; have HC := hide hc
  clear te td hc hl he
  go_enter Tryd.func60, Tryd.ntmps60
  go_wp2_with fail
  refine (TE.out _ hB).mono ?_
  rintro e W1 ⟨rfl, hb⟩
  replace hB := hB.trans (hb.mono hB.size)
  clear hb
  go_wp2_with fail
  refine (TD.out _ hB).mono ?_
  rintro e W2 ⟨rfl, hb⟩
  replace hB := hB.trans (hb.mono hB.size)
  clear hb TE TD
  go_wp2_with fail
  refine (HC.out _ hB).mono ?_
  rintro e W3 ⟨rfl, hb⟩
  replace hB := hB.trans (hb.mono hB.size)
  clear hb HC
  go_wp2_with fail
  go_ret
  exact ⟨rfl, hB⟩
set_option maxRecDepth 20000 in
set_option maxHeartbeats 1000000 in
theorem grows_taken (n m L cl ce cp : Nat) (pl pe pp : Option Addr) (D E P : Nat → Nat → BitVec 8) (d1 d2 : Nat → BitVec 8) (H1 H2 : List (List (BitVec 8))) (w : World) (hn : n ≤ 60) (hmn : m ≤ n) (hL : L ≤ 200) (hl : Digs w (.slice pl n cl) n D) (he : Digs w (.slice pe m ce) m E) (hp : Digs w (.slice pp L cp) L P) (hKK : KAt w)
    (hLe : L = (coverL 0 m).length + (coverL m n).length) (hw1 : WayG P m (coverL 0 m) d1 H1) (hw2 : WayG P n (coverL 0 m ++ coverL m n) d2 H2)
    (hco : sameB m m E D = true ∨ Coll (hashF n n D ++ hashF m m E ++ H1 ++ H2))
    (hc : ∀ W, Below w.heap.size w W → Calls Tryd.prog 51 #[.agg (A8 16 (treeF m m E)), .int .i64 (m : Int), .agg (A8 16 (treeF n n D)), .int .i64 (n : Int), .slice pp L cp] W fun e w' => e = .returned (.int .i64 0) ∧ Below W.heap.size W w') :
    Calls Tryd.prog 60 #[.slice pl n cl, .slice pe m ce, .slice pp L cp] w fun e w' => e = .returned (.bool true) ∧ Below w.heap.size w w' := by
  have hB := Below.refl w.heap.size w
  have te := fun (W : World) (hW : Below w.heap.size w W) => rtree_any m m E _ W (Nat.le_refl _) (by omega) (he.below hW) (hKK.below hKK.pos hW)
  have td := fun (W : World) (hW : Below w.heap.size w W) => rtree_any n n D _ W (Nat.le_refl _) (by omega) (hl.below hW) (hKK.below hKK.pos hW)
  have c1 : ∀ W, Calls Tryd.prog 23 #[.int .i64 0, .int .i64 (m : Int)] W fun e w' => ∃ p c, e = .returned (.agg #[.slice p (coverL 0 m).length c, .int .i64 0]) ∧ Sees w' 2 (.slice p (coverL 0 m).length c) (coverL 0 m).length (cellsOf (coverL 0 m)) ∧ Below W.heap.size W w' := fun W => rCover_own 0 m (by omega) (by omega) W
  have c2 : ∀ W, Calls Tryd.prog 23 #[.int .i64 (m : Int), .int .i64 (n : Int)] W fun e w' => ∃ p c, e = .returned (.agg #[.slice p (coverL m n).length c, .int .i64 0]) ∧ Sees w' 2 (.slice p (coverL m n).length c) (coverL m n).length (cellsOf (coverL m n)) ∧ Below W.heap.size W w' := fun W => rCover_own m n hmn (by omega) W
  have ch := fun W (hW : Below w.heap.size w W) => hashed_any n n D _ W (Nat.le_refl _) (by omega) (hl.below hW) (hKK.below hKK.pos hW)
  have ce' := fun W (hW : Below w.heap.size w W) => hashed_any m m E _ W (Nat.le_refl _) (by omega) (he.below hW) (hKK.below hKK.pos hW)
  have hHl : (hashF n n D).length ≤ 1000 := by have := hashF_len n n D (Nat.le_refl _) (by omega); omega
  have hEl : (hashF m m E).length ≤ 1000 := by have := hashF_len m m E (Nat.le_refl _) (by omega); omega
  have lF := cover_len (Nat.zero_le m) (by omega : m ≤ 1099511627776)
  have lG := cover_len hmn (by omega : n ≤ 1099511627776)
  have hHs : ∀ x, x ∈ hashF n n D → x.length ≤ 1000 := fun x hx => Nat.le_trans (hashF_short _ _ _ x hx) (by decide)
  have hEs : ∀ x, x ∈ hashF m m E → x.length ≤ 1000 := fun x hx => Nat.le_trans (hashF_short _ _ _ x hx) (by decide)
  have hlc := hl.cap
  generalize hashF n n D = HD at hco ch hHl hHs
  generalize hashF m m E = HE at hco ce' hEl hEs
  generalize coverL 0 m = F at c1 lF hLe hw1 hw2
  generalize coverL m n = G at c2 lG hLe hw2
  subst hLe
  generalize treeF m m E = X1 at te hc
  generalize treeF n n D = X2 at td hc
  have TE := hide te; have TD := hide td; have HC := hide hc
  have C1 := hide c1; have C2 := hide c2; have CH := hide ch; have CE := hide ce'
  have HL := hide hl; have HEE := hide he; have HP := hide hp; have HW1 := hide hw1; have HW2 := hide hw2; have HCO := hide hco; have HHS := hide hHs; have HES := hide hEs
  have hmc : m ≤ cl := by omega
  have hgt : ¬ (n : Int) < (m : Int) := by omega
  have hf37 := field37
  clear te td hc c1 c2 ch ce' hl he hp hw1 hw2 hco hHs hEs
  go_enter Tryd.func60, Tryd.ntmps60
  go_wp2_with fail
  refine (TE.out _ hB).mono ?_
  rintro e W1 ⟨rfl, hb⟩
  replace hB := hB.trans (hb.mono hB.size)
  clear hb
  go_wp2_with fail
  refine (TD.out _ hB).mono ?_
  rintro e W2 ⟨rfl, hb⟩
  replace hB := hB.trans (hb.mono hB.size)
  clear hb TE TD
  go_wp2_with fail
  refine (HC.out _ hB).mono ?_
  rintro e W3 ⟨rfl, hb⟩
  replace hB := hB.trans (hb.mono hB.size)
  clear hb HC
  go_wp2_with (refine wp_sliceTo rfl 80 23 16 _ _ rfl rfl rfl Tryd.underlying80 size23 hmc ?_)
  refine (same_gen m m E D _ _ W3 (by omega) (HEE.out.below hB) ((HL.out.below hB).upto m hmn)).mono ?_
  rintro e W4 ⟨rfl, hb⟩
  replace hB := hB.trans (hb.mono hB.size)
  clear hb
  cases e1 : sameB m m E D with
  | true =>
    clear e1 hf37
    go_wp2_with fail
    go_ret
    exact ⟨rfl, hB⟩
  | false =>
    have hcoll := HCO.out.resolve_left (by rw [e1]; exact fun h => by cases h)
    have HCL := hide hcoll
    clear hcoll e1
    go_wp2_with fail
    refine (C1.out _).mono ?_
    rintro e Wa ⟨p1, c1, rfl, f1, hb⟩
    replace hB := hB.trans (hb.mono hB.size)
    clear hb
    go_upto_region 8 with (fail)
    apply wp_region_lit
    refine wp_buildz rfl rfl (build33z _) ?_
    have oz := owns_z Wa Wa.heap.size 106 2 (Nat.le_refl _)
    have hB3 : Below Wa.heap.size Wa (Wa.alloc (.cells #[] 106)) := (Below.refl _ _).alloc (Nat.le_refl _) _
    generalize Wa.alloc (.cells #[] 106) = Wz at oz hB3 ⊢
    have f1z := f1.below hB3
    obtain ⟨β, hβ⟩ : ∃ β, Wa.heap.size = β := ⟨_, rfl⟩
    have hwβ : w.heap.size ≤ β := hβ ▸ hB.size
    rw [hβ] at oz hB3 ⊢
    generalize (some (⟨β, 0, none⟩ : Addr)) = zp at oz ⊢
    have hlw : ∀ X, Below β Wa X → Below w.heap.size w X := fun X hX => hB.trans (hX.mono hwβ)
    have hK3 : ∀ X, Below β Wa X → KAt X := fun X hX => hKK.below hKK.pos (hlw X hX)
    have hβs : ∀ X, Below β Wa X → β ≤ X.heap.size := fun X hX => hβ ▸ hX.size
    have hF1 : ∀ X, Below β Wa X → Sees X 2 (.slice p1 F.length c1) F.length (cellsOf F) := fun X hX => f1.below (hβ.symm ▸ hX)
    have hbt := hβs _ hB3
    clear hβ
    go_wp2_with (at_builtin; go_loud (refine wp_append (v := .slice zp 0 0) elem33 rfl _ _ rfl rfl oz rfl f1z (cellsOf_one _) (by omega) hbt ?_); intro v8 Wb o8 hb; rw [List.nil_append, Nat.zero_add] at o8; replace hB3 := hB3.trans hb; clear oz hb f1z hbt)
    refine (C2.out _).mono ?_
    rintro e Wc ⟨p2, c2, rfl, f2, hb⟩
    replace o8 := ownsRow_below o8 hb
    replace hB3 := hB3.trans (hb.mono (hβs _ hB3))
    have hbt := hβs _ hB3
    have hLi : ((F.length + G.length : Nat) : Int) = (F.length : Int) + (G.length : Int) := by omega
    clear hb
    go_upto_region 11 with (at_builtin; go_loud (refine wp_append elem33 rfl _ _ rfl rfl o8 rfl f2 (cellsOf_one _) (by omega) hbt ?_); intro v9 Wd o9 hb; obtain ⟨vp, vk, vc, rfl⟩ := ownsRow_slice' o9; have hvk := ownsRow_len o9; subst hvk; replace hB3 := hB3.trans hb; clear o8 hb f2 hbt)
    apply wp_region_lit
    refine wp_buildz rfl rfl (build148z _) ?_
    have hz := (Below.refl Wd.heap.size Wd).alloc (Nat.le_refl _) (.cells #[] 9)
    have ox := owns_z Wd β 9 1 (hβs _ hB3)
    replace o9 := ownsRow_below o9 hz
    replace hB3 := hB3.trans (hz.mono (hβs _ hB3))
    generalize Wd.alloc (.cells #[] 9) = Wy at ox o9 hB3 ⊢
    generalize (some (⟨Wd.heap.size, 0, none⟩ : Addr)) = yp at ox ⊢
    clear hz hLi
    go_wp2_with fail
    refine (CH.out _ (hlw _ hB3)).mono ?_
    rintro e We ⟨r1, rfl, q1, hb⟩
    replace ox := ownsRow_below ox hb
    replace o9 := ownsRow_below o9 hb
    replace hB3 := hB3.trans (hb.mono (hβs _ hB3))
    have hbt := hβs _ hB3
    clear hb
    go_wp2_with (at_builtin; go_loud (refine wp_appendG (v := .slice yp 0 0) elem148 rfl _ _ rfl rfl ox rfl (Sees.of_owns q1) (strCells_one _) (by omega) hbt ?_); intro u1 Wf ou hg; rw [List.nil_append, Nat.zero_add] at ou; have o9f := owns_keep o9 ox (by decide) hg; have hB3f := hB3.trans (grown_below ox hg hbt); clear ox o9 hB3 hg q1 hbt)
    refine (CE.out _ (hlw _ hB3f)).mono ?_
    rintro e Wg ⟨r2, rfl, q2, hb⟩
    replace ou := ownsRow_below ou hb
    replace o9f := ownsRow_below o9f hb
    replace hB3f := hB3f.trans (hb.mono (hβs _ hB3f))
    have hbt := hβs _ hB3f
    clear hb
    go_wp2_with (at_builtin; go_loud (refine wp_appendG elem148 rfl _ _ rfl rfl ou rfl (Sees.of_owns q2) (strCells_one _) (by omega) hbt ?_); intro u2 Wh ov hg; rw [← strCells_append] at ov; have o9h := owns_keep o9f ou (by decide) hg; have hB3h := hB3f.trans (grown_below ou hg hbt); clear ou o9f hB3f hg q2 hbt)
    have GV1 := hide (hashed_gv m F P d1 H1 G.length _ _ Wh (by omega) (by omega) HW1.out (SlC.of_sees (hF1 _ hB3h)) (HP.out.below (hlw _ hB3h)) (hK3 _ hB3h))
    have hh1 := hide HW1.out.short
    have hn1 := HW1.out.len
    refine GV1.out.mono ?_
    rintro e Wi ⟨r3, rfl, q3, hb⟩
    replace ov := ownsRow_below ov hb
    replace o9h := ownsRow_below o9h hb
    replace hB3h := hB3h.trans (hb.mono (hβs _ hB3h))
    have hbt := hβs _ hB3h
    have hH1 : H1.length ≤ 1000 := by omega
    clear hb GV1 hn1
    go_wp2_with (at_builtin; go_loud (refine wp_appendG elem148 rfl _ _ rfl rfl ov rfl q3 (strCells_one _) (by omega) hbt ?_); intro u3 Wj ow hg; rw [← strCells_append] at ow; have o9j := owns_keep o9h ov (by decide) hg; have hB3j := hB3h.trans (grown_below ov hg hbt); clear ov o9h hB3h hg q3 hbt)
    have hA : (F ++ G).length = F.length + G.length := List.length_append
    rw [← cellsOf_append] at o9j
    have s9 : SlC Wj (.slice vp (F.length + G.length) vc) (F ++ G) := SlC.of_owns (base := β) (by rw [hA]; exact o9j)
    have GV2 := hide (hashed_gv n (F ++ G) P d2 H2 0 _ _ Wj (by omega) (by omega) HW2.out s9 (by rw [Nat.add_zero, hA]; exact HP.out.below (hlw _ hB3j)) (hK3 _ hB3j))
    have hh2 := hide HW2.out.short
    have hn2 := HW2.out.len
    have hH2 : H2.length ≤ 1000 := by omega
    clear hn2 s9 o9j hA
    refine GV2.out.mono ?_
    rintro e Wk ⟨r4, rfl, q4, hb⟩
    replace ow := ownsRow_below ow hb
    replace hB3j := hB3j.trans (hb.mono (hβs _ hB3j))
    have hbt := hβs _ hB3j
    clear hb GV2
    go_wp2_with (at_builtin; go_loud (refine wp_append elem148 rfl _ _ rfl rfl ow rfl q4 (strCells_one _) (by omega) hbt ?_); intro u4 Wl ox hb; rw [← strCells_append] at ox)
    replace hB3j := hB3j.trans hb
    refine (collide_any (HD ++ HE ++ H1 ++ H2) u4 Wl (by rw [List.length_append, List.length_append, List.length_append]; exact Sees.of_owns ox) (fun x hx => ?_) (by rw [List.length_append, List.length_append, List.length_append]; omega) HCL.out (hK3 _ hB3j)).mono ?_
    · rcases List.mem_append.1 hx with hx | hx
      · rcases List.mem_append.1 hx with hx | hx
        · rcases List.mem_append.1 hx with hx | hx
          · exact HHS.out x hx
          · exact HES.out x hx
        · exact Nat.le_trans (hh1.out x hx) (by decide)
      · exact Nat.le_trans (hh2.out x hx) (by decide)
    rintro e Wm ⟨rfl, hb2⟩
    have hBe := hlw _ (hB3j.trans (hb2.mono (hβs _ hB3j)))
    clear hb hb2 ox hB3j ow q4
    go_wp2_with fail
    go_ret
    exact ⟨rfl, hBe⟩
end Go.Proofs.YtdpgebifeaakjaaDoor

/- member and grows of any lists; a tree's own proofs are accepted; a digest stored into a row. -/
namespace Go.Proofs.YtdpgebifeaakjaaDoor
set_option linter.unusedSimpArgs false
set_option linter.unusedVariables false
open Go.RowKit
theorem own_path (D : Nat → Nat → BitVec 8) (n a K : Nat) (d : Nat → BitVec 8) (hg : Gives (mixT (coverL 0 a).length K (pathT D n a (a + K)) fun j => D (a + j)) n (coverL 0 a ++ singles a K ++ coverL (a + K) n) d) : eqRow 16 d (treeF n n D) = true := by
  rcases hg with ⟨rfl, _, rfl⟩ | ⟨h0, ht⟩
  · exact eqRow_self _
  · rw [tr_zero]
    refine ht.own D fun i hi => ?_
    obtain ⟨F, hF⟩ : ∃ F, coverL 0 a = F := ⟨_, rfl⟩
    obtain ⟨G, hG⟩ : ∃ G, coverL (a + K) n = G := ⟨_, rfl⟩
    unfold pathT
    rw [hF, hG] at hi ⊢
    rw [List.length_append, List.length_append, singles_length] at hi
    rw [Nat.zero_add, mixT]
    by_cases h1 : i < F.length
    · rw [if_pos h1, joinT, if_pos h1, topT_left (by rw [List.length_append]; omega), topT_left h1]
      exact eqRow_self _
    · by_cases h2 : i < F.length + K
      · rw [if_neg h1, if_pos h2, topT_left (by rw [List.length_append, singles_length]; omega), topT_right (by omega), topT_at (singles_at (by omega)), tr_one]
        exact eqRow_self _
      · rw [if_neg h1, if_neg h2, joinT, if_neg (by omega), topT_right (by rw [List.length_append, singles_length]; omega), List.length_append, singles_length, show i - K - F.length = i - (F.length + K) by omega]
        exact eqRow_self _
theorem own_growth (D : Nat → Nat → BitVec 8) (n m : Nat) (d1 d2 : Nat → BitVec 8) (hg1 : Gives (pathT D n m m) m (coverL 0 m) d1) (hg2 : Gives (pathT D n m m) n (coverL 0 m ++ coverL m n) d2) : eqRow 16 d1 (treeF m m D) = true ∧ eqRow 16 d2 (treeF n n D) = true := by
  unfold pathT at hg1 hg2
  constructor
  · rcases hg1 with ⟨rfl, _, rfl⟩ | ⟨h0, ht⟩
    · exact eqRow_self _
    · rw [tr_zero]
      refine ht.own D fun i hi => ?_
      rw [Nat.zero_add, joinT, if_pos hi]
      exact eqRow_self _
  · rcases hg2 with ⟨rfl, _, rfl⟩ | ⟨h0, ht⟩
    · exact eqRow_self _
    · rw [tr_zero]
      refine ht.own D fun i hi => ?_
      rw [List.length_append] at hi
      rw [Nat.zero_add, joinT]
      by_cases h1 : i < (coverL 0 m).length
      · rw [if_pos h1, topT_left h1]
        exact eqRow_self _
      · rw [if_neg h1, topT_right (by omega)]
        exact eqRow_self _
theorem cpath_own (D : Nat → Nat → BitVec 8) (n a K L c ic : Nat) (ip p : Option Addr) (w : World) (hK : a + K ≤ n) (hn : n ≤ 60) (hL : L = (coverL 0 a).length + (coverL (a + K) n).length)
    (hD : Digs w (.slice p L c) L (pathT D n a (a + K))) (hI : Digs w (.slice ip K ic) K fun j => D (a + j)) (hT : TabAt 3 Lib.deBruijn64tab w) (h3 : 3 < w.heap.size) :
    Calls Tryd.prog 57 #[.agg (A8 16 (treeF n n D)), .int .i64 (n : Int), .int .i64 (a : Int), .slice ip K ic, .slice p L c] w fun e w' => e = .returned (.int .i64 0) ∧ Below w.heap.size w w' := by
  have l1 := cover_len (Nat.zero_le a) (by omega : a ≤ 1099511627776)
  have l2 := cover_len hK (by omega : n ≤ 1099511627776)
  obtain ⟨d, hg⟩ := gives_all (mixT (coverL 0 a).length K (pathT D n a (a + K)) fun j => D (a + j)) n (coverL 0 a ++ singles a K ++ coverL (a + K) n) (by omega) (((cover_al' (Nat.zero_le a) (by omega)).append (singles_al a K)).append (cover_al' hK (by omega)))
  refine (cpath_ok (treeF n n D) d a K n L c ic ip p (pathT D n a (a + K)) (fun j => D (a + j)) w hK (by omega) (by omega) (by omega) hD hI hT h3 hg).mono ?_
  rintro e w' ⟨⟨_, h⟩ | ⟨h, _⟩, hb⟩
  · exact ⟨h, hb⟩
  · exact absurd ⟨hL, own_path D n a K d hg⟩ h
theorem cgrow_own (D : Nat → Nat → BitVec 8) (n m L c : Nat) (p : Option Addr) (w : World) (hm : m ≤ n) (hn : n ≤ 60) (hL : L = (coverL 0 m).length + (coverL m n).length)
    (hD : Digs w (.slice p L c) L (pathT D n m m)) (hT : TabAt 3 Lib.deBruijn64tab w) (h3 : 3 < w.heap.size) :
    Calls Tryd.prog 51 #[.agg (A8 16 (treeF m m D)), .int .i64 (m : Int), .agg (A8 16 (treeF n n D)), .int .i64 (n : Int), .slice p L c] w fun e w' => e = .returned (.int .i64 0) ∧ Below w.heap.size w w' := by
  have l1 := cover_len (Nat.zero_le m) (by omega : m ≤ 1099511627776)
  have l2 := cover_len hm (by omega : n ≤ 1099511627776)
  obtain ⟨d1, hg1⟩ := gives_all (pathT D n m m) m (coverL 0 m) (by omega) (cover_al' (Nat.zero_le m) (by omega))
  obtain ⟨d2, hg2⟩ := gives_all (pathT D n m m) n (coverL 0 m ++ coverL m n) (by omega) ((cover_al' (Nat.zero_le m) (by omega)).append (cover_al' hm (by omega)))
  refine (cgrow_ok (treeF m m D) (treeF n n D) d1 d2 m n L c p (pathT D n m m) w hm (by omega) (by omega) hD hT h3 hg1 hg2).mono ?_
  rintro e w' ⟨⟨_, h⟩ | ⟨h, _⟩, hb⟩
  · exact ⟨h, hb⟩
  · exact absurd ⟨hL, own_growth D n m d1 d2 hg1 hg2⟩ h
/-- member, of any items and path. -/
theorem member_any (n a K ck L cp cl : Nat) (pl pk pp : Option Addr) (D I P : Nat → Nat → BitVec 8) (w : World) (hn : n ≤ 60) (ha : a ≤ n) (hK : K ≤ 60) (hL : L ≤ 200)
    (hl : Digs w (.slice pl n cl) n D) (hi : Digs w (.slice pk K ck) K I) (hp : Digs w (.slice pp L cp) L P) (hT : TabAt 3 Lib.deBruijn64tab w) (hKK : KAt w) (h3 : 3 < w.heap.size) :
    Calls Tryd.prog 59 #[.slice pl n cl, .agg (A8 16 (treeF n n D)), .int .i64 (a : Int), .slice pk K ck, .slice pp L cp] w fun e w' => e = .returned (.bool true) ∧ Below w.heap.size w w' := by
  by_cases hbad : (n : Int) < (K : Int) ∨ (n : Int) - (K : Int) < (a : Int)
  · exact member_refused 1 (by decide) n a K ck L cp cl pl pk pp (treeF n n D) w fun W hW => cpath_bad _ (n : Int) (a : Int) K ck L cp pk pp W (by omega) (by omega)
  · have hK2 : a + K ≤ n := by omega
    obtain ⟨d, hg⟩ := gives_all (mixT (coverL 0 a).length K P I) n (coverL 0 a ++ singles a K ++ coverL (a + K) n) (by omega) (((cover_al' (Nat.zero_le a) (by omega)).append (singles_al a K)).append (cover_al' hK2 (by omega)))
    obtain ⟨H, hw⟩ := hg.ways
    by_cases hc : L = (coverL 0 a).length + (coverL (a + K) n).length ∧ eqRow 16 d (treeF n n D) = true
    · refine member_taken n a K ck L cp cl (a + K) pl pk pp D I P (treeF n n D) d H w rfl hn hK2 hL hl hi hp hKK hc.1 hw ?_ fun W hW => (cpath_ok (treeF n n D) d a K n L cp ck pk pp P I W hK2 (by omega) (by omega) (by omega) (hp.below hW) (hi.below hW) (tab_below hT h3 hW) (Nat.lt_of_lt_of_le h3 hW.size) hg).mono ?_
      · have := hc.2
        rw [tr_zero] at this
        rw [hsR_zero]
        rcases member_plain D I P n a K d H hK2 (by omega) hw this with h | h
        · exact .inl ⟨sameB_iff.2 ⟨rfl, h.1⟩, sameB_iff.2 ⟨rfl, fun j hj => h.2 j (by rw [← hc.1]; exact hj)⟩⟩
        · exact .inr h
      · rintro e w' ⟨⟨_, h⟩ | ⟨h, _⟩, hb⟩
        · exact ⟨h, hb⟩
        · exact absurd hc h
    · refine member_refused 9 (by decide) n a K ck L cp cl pl pk pp (treeF n n D) w fun W hW => (cpath_ok (treeF n n D) d a K n L cp ck pk pp P I W hK2 (by omega) (by omega) (by omega) (hp.below hW) (hi.below hW) (tab_below hT h3 hW) (Nat.lt_of_lt_of_le h3 hW.size) hg).mono ?_
      rintro e w' ⟨⟨h, _⟩ | ⟨_, h⟩, hb⟩
      · exact absurd h hc
      · exact ⟨h, hb⟩
/-- grows, of any list and proof. -/
theorem grows_any (n m L cl ce cp : Nat) (pl pe pp : Option Addr) (D E P : Nat → Nat → BitVec 8) (w : World) (hn : n ≤ 60) (hm : m ≤ 60) (hL : L ≤ 200)
    (hl : Digs w (.slice pl n cl) n D) (he : Digs w (.slice pe m ce) m E) (hp : Digs w (.slice pp L cp) L P) (hT : TabAt 3 Lib.deBruijn64tab w) (hKK : KAt w) (h3 : 3 < w.heap.size) :
    Calls Tryd.prog 60 #[.slice pl n cl, .slice pe m ce, .slice pp L cp] w fun e w' => e = .returned (.bool true) ∧ Below w.heap.size w w' := by
  by_cases hbad : n < m
  · exact grows_refused 1 (by decide) n m L cl ce cp pl pe pp D E P w hn hm hl he hKK fun W hW => cgrow_bad _ _ (m : Int) (n : Int) (.bool true) L cp pp W (by omega)
  · have hmn : m ≤ n := by omega
    obtain ⟨d1, hg1⟩ := gives_all P m (coverL 0 m) (by omega) (cover_al' (Nat.zero_le m) (by omega))
    obtain ⟨d2, hg2⟩ := gives_all P n (coverL 0 m ++ coverL m n) (by omega) ((cover_al' (Nat.zero_le m) (by omega)).append (cover_al' hmn (by omega)))
    obtain ⟨H1, hw1⟩ := hg1.ways
    obtain ⟨H2, hw2⟩ := hg2.ways
    by_cases hc : L = (coverL 0 m).length + (coverL m n).length ∧ eqRow 16 d1 (treeF m m E) = true ∧ eqRow 16 d2 (treeF n n D) = true
    · refine grows_taken n m L cl ce cp pl pe pp D E P d1 d2 H1 H2 w hn hmn hL hl he hp hKK hc.1 hw1 hw2 ?_ fun W hW => (cgrow_ok (treeF m m E) (treeF n n D) d1 d2 m n L cp pp P W hmn (by omega) (by omega) (hp.below hW) (tab_below hT h3 hW) (Nat.lt_of_lt_of_le h3 hW.size) hg1 hg2).mono ?_
      · have e1 := hc.2.1
        have e2 := hc.2.2
        rw [tr_zero] at e1 e2
        rw [hsR_zero, hsR_zero]
        rcases grows_plain D E P n m d1 d2 H1 H2 hmn (by omega) hw1 hw2 e1 e2 with h | h
        · exact .inl (sameB_iff.2 ⟨rfl, h⟩)
        · exact .inr h
      · rintro e w' ⟨⟨_, h⟩ | ⟨h, _⟩, hb⟩
        · exact ⟨h, hb⟩
        · exact absurd hc h
    · refine grows_refused 9 (by decide) n m L cl ce cp pl pe pp D E P w hn hm hl he hKK fun W hW => (cgrow_ok (treeF m m E) (treeF n n D) d1 d2 m n L cp pp P W hmn (by omega) (by omega) (hp.below hW) (tab_below hT h3 hW) (Nat.lt_of_lt_of_le h3 hW.size) hg1 hg2).mono ?_
      rintro e w' ⟨⟨h, _⟩ | ⟨_, h⟩, hb⟩
      · exact absurd h hc
      · exact ⟨h, hb⟩
/-- A list with one digest changed. -/
def setT (D : Nat → Nat → BitVec 8) (i : Nat) (f : Nat → BitVec 8) (j : Nat) : Nat → BitVec 8 := if j = i then f else D j
theorem setT_cells (D : Nat → Nat → BitVec 8) (i k : Nat) (f : Nat → BitVec 8) (hi : i < k) (cur : List Value) (hlen : k * 16 ≤ cur.length) (hcur : cur.take (k * 16) = digCells D k) :
    (cur.take (i * 16) ++ (A8 16 f).toList ++ cur.drop (i * 16 + 16)).take (k * 16) = digCells (setT D i f) k := by
  have hA : (A8 16 f).toList.length = 16 := by rw [Array.length_toList, A8.size]
  have hat : ∀ q, q < k * 16 → cur[q]? = some (U8 (D (q / 16) (q % 16))) := fun q hq => by
    have h := digCells_at D k (q / 16) (q % 16) (by omega) (by omega)
    rw [show q / 16 * 16 + q % 16 = q by omega, ← hcur, List.getElem?_take_of_lt hq] at h
    exact h
  refine List.ext_getElem? fun q => ?_
  by_cases hq : q < k * 16
  · rw [List.getElem?_take_of_lt hq]
    have h := digCells_at (setT D i f) k (q / 16) (q % 16) (by omega) (by omega)
    rw [show q / 16 * 16 + q % 16 = q by omega] at h
    rw [h, setT]
    by_cases h1 : q < i * 16
    · rw [List.append_assoc, List.getElem?_append_left (by rw [List.length_take]; omega), List.getElem?_take_of_lt h1, hat q hq, if_neg (by omega)]
    · by_cases h2 : q < i * 16 + 16
      · rw [List.append_assoc, List.getElem?_append_right (by rw [List.length_take]; omega), List.length_take, List.getElem?_append_left (by omega), Array.getElem?_toList, A8.get _ (by omega), if_pos (by omega)]
        congr 3
        omega
      · rw [List.getElem?_append_right (by rw [List.length_append, List.length_take, hA]; omega), List.length_append, List.length_take, hA, List.getElem?_drop, if_neg (by omega)]
        rw [show i * 16 + 16 + (q - (min (i * 16) cur.length + 16)) = q by omega]
        exact hat q hq
  · rw [List.getElem?_eq_none (by rw [List.length_take]; omega), List.getElem?_eq_none (by rw [digCells_length]; omega)]
theorem oper_storeD {o : Oper} {a : Act} {w : World} {K : Act → World → Prop} {Q : Exit → Act → World → Prop} (x y : Operand) (ho : o.op = .store 23 x y)
    (g off : Nat) (hx : a.eval x = .pointer (some ⟨g, off, none⟩)) {f : Nat → BitVec 8} (hy : a.eval y = .agg (A8 16 f)) {base k cap i : Nat} {D : Nat → Nat → BitVec 8}
    (hv : w.ownsRow base 23 16 (.slice (some ⟨g, 0, none⟩) k cap) k (digCells D k)) (hi : i < k) (hoff : off = i * 16) (hdst : o.dst = none)
    (h : ∀ w', w'.ownsRow base 23 16 (.slice (some ⟨g, 0, none⟩) k cap) k (digCells (setT D i f) k) → w.grownBy w' (some g) → K a w') : Oper.wp Tryd.prog o a w K Q := by
  subst hoff
  have hv' := hv
  obtain ⟨hl, ⟨e, _⟩ | ⟨g', cap', cur, e, hbg, hgg, hnc, hcm, hcs, htake⟩⟩ := hv'
  · cases e
  injection e with e1 _ e3
  injection e1 with e1
  injection e1 with e1
  subst e1 e3
  have hA : (A8 16 f).toList.length = 16 := by rw [Array.length_toList, A8.size]
  have hkc : k * 16 ≤ cur.size := by rw [hcs]; omega
  have hrun := run_storeCells_at Tryd.prog g (i * 16) 23 (A8 16 f).toList 0 cur w hgg (by rw [hA]; omega) (fun v hv => by
    obtain ⟨j, hj⟩ := List.getElem?_of_mem hv
    rw [Array.getElem?_toList] at hj
    exact Array.all_eq_true_iff_forall_mem.1 (A8.one (n := 16) f) v (Array.mem_of_getElem? hj))
  rw [Nat.add_zero, hA] at hrun
  obtain ⟨i0, hi0, hz0, hz1, hz2⟩ := info_parts info23
  have hsv : (storeVar 23 ⟨g, i * 16, none⟩ (.agg (A8 16 f))).run Tryd.prog w = .ok () (w.setRow g (cur.toList.take (i * 16) ++ (A8 16 f).toList ++ cur.toList.drop (i * 16 + 16)).toArray) := by
    simp [storeVar, sizeOf, typeInfo, hi0, hz1, Value.cells, A8.size, hrun]
  unfold Oper.wp execOp
  simp only [ho, hx, hy, Instr.storeAt, Instr.sureAddr, Sem.run_bind, Sem.run_pure, Result.andThen_ok, hsv]
  have h2 := h (w.setRow g (cur.toList.take (i * 16) ++ (A8 16 f).toList ++ cur.toList.drop (i * 16 + 16)).toArray) ⟨by rw [digCells_length], .inr ⟨g, cap, _, rfl, hbg, setRow_heap w g cur _ 23 _ hgg, hnc, hcm, ?_, ?_⟩⟩ ⟨rfl, rfl, rfl, by simp, fun q _ hq => setRow_other w g q _ (fun e => hq (by rw [e]))⟩
  · simpa [go_sem, Oper.upon, hdst, Act.put] using h2
  · simp only [List.size_toArray, List.length_append, List.length_take, List.length_drop, Array.length_toList, hA]
    omega
  · exact setT_cells D i k f hi cur.toList (by rw [Array.length_toList]; exact hkc) htake
theorem wp_storeD {ops : Array Oper} {rest : List Oper} {o : Oper} {a : Act} {w : World} {Q : Exit → Act → World → Prop} (hgd : o.guard = none) (x y : Operand) (ho : o.op = .store 23 x y)
    (g off : Nat) (hx : a.eval x = .pointer (some ⟨g, off, none⟩)) {f : Nat → BitVec 8} (hy : a.eval y = .agg (A8 16 f)) {base k cap i : Nat} {D : Nat → Nat → BitVec 8}
    (hv : w.ownsRow base 23 16 (.slice (some ⟨g, 0, none⟩) k cap) k (digCells D k)) (hi : i < k) (hoff : off = i * 16) (hdst : o.dst = none)
    (h : ∀ w', w'.ownsRow base 23 16 (.slice (some ⟨g, 0, none⟩) k cap) k (digCells (setT D i f) k) → w.grownBy w' (some g) → wpList Tryd.prog ops Q rest a w') : wpList Tryd.prog ops Q (o :: rest) a w :=
  wpList_plain hgd fun K hK => oper_storeD x y ho g off hx hy hv hi hoff hdst fun w' h1 h2 => by
    have h3 := hK _ _ (h w' h1 h2)
    simpa [hdst, Act.put] using h3
theorem allReadyH_storeD {md : Region.Mode} {ops : Array Oper} {Q : Exit → Act → World → Prop} {S : World → Prop} {fuel : Nat} {listed : Array Bool} {a : Act} {w : World} {n : Nat} {o : Oper} (ho : ops[n]? = some o) (hgd : o.guard = none)
    (x y : Operand) (hop : o.op = .store 23 x y) (g off : Nat) (hx : a.eval x = .pointer (some ⟨g, off, none⟩)) {f : Nat → BitVec 8} (hy : a.eval y = .agg (A8 16 f)) {base k cap i : Nat} {D : Nat → Nat → BitVec 8}
    (hv : w.ownsRow base 23 16 (.slice (some ⟨g, 0, none⟩) k cap) k (digCells D k)) (hi : i < k) (hoff : off = i * 16) (hdst : o.dst = none)
    (h : ∀ w', w'.ownsRow base 23 16 (.slice (some ⟨g, 0, none⟩) k cap) k (digCells (setT D i f) k) → w.grownBy w' (some g) → S w' ∧ (S w' → wpAnyH Tryd.prog md ops Q S fuel (listed.setIfInBounds n true) a w')) : AllReadyH Tryd.prog md ops Q S fuel listed a w [n] := by
  refine AllReadyH.cons ho (fun K hK => ?_) AllReadyH.nil
  have hw : Region.wanted o (yielded ops a.tmps) = true := by simp [Region.wanted, hgd]
  rw [if_pos hw]
  exact oper_storeD x y hop g off hx hy hv hi hoff hdst fun w' h1 h2 => hK.out a w' (h w' h1 h2).1 (h w' h1 h2).2
end Go.Proofs.YtdpgebifeaakjaaDoor


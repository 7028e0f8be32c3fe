/- The walk of CheckGrowth's closure. -/
import Derived.Test.YtdpgebifeaakjaaDoorG6
namespace Go.Proofs.YtdpgebifeaakjaaDoor
set_option linter.unusedSimpArgs false
set_option linter.unusedVariables false
open Go.RowKit
theorem size142 : (Tryd.prog.info? 142).map (·.size) = some 3 := by kernel_rfl
theorem build140 (p : Option Addr) (L c : Nat) (w : World) : (Instr.build 140 #[(0, .slice p L c)]).run Tryd.prog w = .ok (.agg #[.slice p L c]) w := by kernel_rfl
theorem build142 (p : Option Addr) (L c : Nat) (w : World) : (Instr.build 142 #[(0, .agg #[.slice p L c])]).run Tryd.prog w = .ok (.agg #[.slice p L c, .slice none 0 0, .slice none 0 0]) w := by kernel_rfl
theorem box142 (p q r : Option Addr) (L c M d N e : Nat) (w : World) : (Instr.box 142 (.agg #[.slice p L c, .slice q M d, .slice r N e])).run Tryd.prog w = .ok (.pointer (some ⟨w.heap.size, 0, none⟩)) (w.alloc (.cells #[.slice p L c, .slice q M d, .slice r N e] 142)) := by kernel_rfl
theorem lit142 : (#[.slice none 0 0, .slice none 0 0, .slice none 0 0] : Array Value) = #[.slice none 0 0, .slice none 0 0, .slice none 0 0] := rfl
theorem SlC.of_heads {W W' : World} {base : Nat} {v : Value} {l : List (Nat × Nat)} (h : W.ownsRow base 106 2 v l.length (cellsOf l)) (hh : Heads 106 (l.length * 2) W W') : SlC W' v l := by
  have hs := SlC.of_owns h
  obtain ⟨p, c, rfl, h1, h2⟩ := hs
  refine ⟨p, c, rfl, h1, fun j x hx => ?_⟩
  obtain ⟨g, o, hp, c0, c1⟩ := h2 j x hx
  have hj := (List.getElem?_eq_some_iff.1 hx).1
  obtain ⟨_, ⟨e, _⟩ | ⟨g', cap, cur, e, _, hb, _⟩⟩ := h
  · injection e with e; rw [hp] at e; cases e
  · injection e with e
    rw [hp] at e
    injection e with e
    injection e with e1 e2
    subst e1 e2
    rw [Nat.zero_add] at c0 c1
    refine ⟨g, 0, hp, ?_, ?_⟩
    · rw [Nat.zero_add]; exact (hh.cell (C := cur) hb (by omega)).trans c0
    · rw [Nat.zero_add]; exact (hh.cell (C := cur) hb (by omega)).trans c1
theorem Digs.of_heads {W W' : World} {base k : Nat} {v : Value} {T : Nat → Nat → BitVec 8} (h : W.ownsRow base 23 16 v k (digCells T k)) (hh : Heads 23 (k * 16) W W') : Digs W' v k T := by
  obtain ⟨p, c, rfl, h1, h2⟩ := Digs.of_owns h
  refine ⟨p, c, rfl, h1, fun j hj => ?_⟩
  obtain ⟨g, o, hp, hr⟩ := h2 j hj
  obtain ⟨_, ⟨e, _⟩ | ⟨g', cap, cur, e, _, hb, _⟩⟩ := h
  · injection e with e; rw [hp] at e; cases e
  · injection e with e
    rw [hp] at e
    injection e with e
    injection e with e1 e2
    subst e1 e2
    refine ⟨g, 0, hp, fun i v hv => ?_⟩
    have hi : i < 16 := by
      have := (List.getElem?_eq_some_iff.1 hv).1
      rw [Array.length_toList, A8.size] at this
      exact this
    rw [Nat.zero_add] at hr
    have hc := hr i v hv
    rw [Nat.zero_add]
    exact (hh.cell (C := cur) hb (by omega)).trans hc
theorem Digs.congr {W : World} {v : Value} {k : Nat} {T U : Nat → Nat → BitVec 8} (h : Digs W v k T) (e : ∀ j, j < k → T j = U j) : Digs W v k U := by
  obtain ⟨p, c, e1, h1, h2⟩ := h
  exact ⟨p, c, e1, h1, fun j hj => by rw [← e j hj]; exact h2 j hj⟩
theorem ownsRow_len {W : World} {base e size k n c : Nat} {p : Option Addr} {xs : List Value} (h : W.ownsRow base e size (.slice p n c) k xs) : n = k := by
  obtain ⟨_, ⟨e, hk⟩ | ⟨g, cap, cur, e, _⟩⟩ := h
  · injection e with _ e; omega
  · injection e
theorem Forest.below {β b : Nat} {W W' : World} {p : Option Addr} {L c : Nat} {D : Nat → Nat → BitVec 8} {kb kt : Nat} {xs : List Value} {T : Nat → Nat → BitVec 8} {bp : Option Addr} {bn bc : Nat} {tp : Option Addr} {tn tc : Nat} (h : Forest β b W p L c D kb kt xs T bp bn bc tp tn tc) (hb : Below W.heap.size W W') (hβ : β ≤ b) : Forest β b W' p L c D kb kt xs T bp bn bc tp tn tc :=
  ⟨h.blk.below hb h.blk.lt, ownsRow_below h.r33 hb, ownsRow_below h.r80 hb, h.digs.trans (hb.mono (by have := h.blk.lt; omega))⟩
theorem Forest.ftI {β b : Nat} {W : World} {p : Option Addr} {L c : Nat} {D : Nat → Nat → BitVec 8} {kb kt : Nat} {A : List (Nat × Nat)} {T U : Nat → Nat → BitVec 8} {bp : Option Addr} {bn bc : Nat} {tp : Option Addr} {tn tc : Nat} (h : Forest β b W p L c D kb kt (cellsOf A) T bp bn bc tp tn tc) (hb : kb = A.length) (ht : kt = A.length) (hU : ∀ j, j < A.length → T j = U j) : FtI b A U (.slice p L c) bp bc tp tc W := by
  have e1 := ownsRow_len h.r33
  have e2 := ownsRow_len h.r80
  have h1 := h.blk
  have h2 := h.r33
  have h3 := h.r80
  subst e1 e2
  subst hb
  rw [ht] at h1 h3
  exact ⟨h1, SlC.of_owns h2, (Digs.of_owns h3).congr hU⟩
theorem cellsOf_append : ∀ (A B : List (Nat × Nat)), cellsOf (A ++ B) = cellsOf A ++ cellsOf B
  | [], _ => rfl
  | x :: A, B => by simp [cellsOf, cellsOf_append A B]
/-- A copy of a forest, behind a read. -/
theorem Forest.copy {β b B : Nat} {W W' : World} {p : Option Addr} {L c : Nat} {D : Nat → Nat → BitVec 8} {kb kt : Nat} {A : List (Nat × Nat)} {T U : Nat → Nat → BitVec 8} {bp : Option Addr} {bn bc : Nat} {tp : Option Addr} {tn tc : Nat} (h : Forest β b W p L c D kb kt (cellsOf A) T bp bn bc tp tn tc) (hb : kb = A.length) (ht : kt = A.length) (hU : ∀ j, j < A.length → T j = U j)
    (k : Blk W' B #[.slice p L c, .slice bp bn bc, .slice tp tn tc] 142) (h33 : Heads 106 (kb * 2) W W') (h80 : Heads 23 (kt * 16) W W') : FtI B A U (.slice p L c) bp bc tp tc W' := by
  have e1 := ownsRow_len h.r33
  have e2 := ownsRow_len h.r80
  have h2 := h.r33
  have h3 := h.r80
  subst e1 e2
  subst hb
  rw [ht] at k h3 h80
  exact ⟨k, SlC.of_heads h2 h33, (Digs.of_heads h3 h80).congr hU⟩
set_option maxRecDepth 20000 in
set_option maxHeartbeats 1000000 in
theorem grow85 (g0 g1 g2 g3 g4 m n L c : Nat) (p : Option Addr) (D : Nat → Nat → BitVec 8) (old new d1 d2 : Nat → BitVec 8) (W : World) (hmn : m ≤ n) (hn : n ≤ 1099511627776) (hL : L ≤ 1000)
    (k0 : Blk W g0 #[.slice p L c] 80) (k1 : Blk W g1 #[.int .i64 (m : Int)] 3) (k2 : Blk W g2 #[.int .i64 (n : Int)] 3) (k3 : Blk W g3 (A8 16 old) 23) (k4 : Blk W g4 (A8 16 new) 23)
    (hD : Digs W (.slice p L c) L D) (hT : TabAt 3 Lib.deBruijn64tab W) (h3 : 3 < W.heap.size) (hg1 : Gives D m (coverL 0 m) d1) (hg2 : Gives D n (coverL 0 m ++ coverL m n) d2) :
    Calls Tryd.prog 85 #[.pointer (some ⟨g0, 0, none⟩), .pointer (some ⟨g1, 0, none⟩), .pointer (some ⟨g2, 0, none⟩), .pointer (some ⟨g3, 0, none⟩), .pointer (some ⟨g4, 0, none⟩)] W fun e w' =>
      ((L = (coverL 0 m).length + (coverL m n).length ∧ eqRow 16 d1 old = true ∧ eqRow 16 d2 new = true) ∧ (∃ v, e = .returned v) ∨ (¬ (L = (coverL 0 m).length + (coverL m n).length ∧ eqRow 16 d1 old = true ∧ eqRow 16 d2 new = true)) ∧ e = .panicked refusedP) ∧ Below W.heap.size W w' := by
  obtain ⟨β, hβ⟩ : ∃ β, W.heap.size = β := ⟨_, rfl⟩
  have kb := Blk.new W #[.slice p L c, .slice none 0 0, .slice none 0 0] 142
  have hB : Below β W (W.alloc (.cells #[.slice p L c, .slice none 0 0, .slice none 0 0] 142)) := (Below.refl _ _).alloc (by omega) _
  obtain ⟨W1, hW1⟩ : ∃ W1, W.alloc (.cells #[.slice p L c, .slice none 0 0, .slice none 0 0] 142) = W1 := ⟨_, rfl⟩
  have b85 := box142
  rw [hβ] at kb
  rw [hW1] at kb hB
  have l0 := k0.lt; have l1 := k1.lt; have l2 := k2.lt; have l3 := k3.lt; have l4 := k4.lt
  have hd1 : DigsB β W1 (.slice p L c) L D := (hβ ▸ DigsB.of hD : DigsB β W _ L D).trans hB
  have hf1 : Forest β β W1 p L c D 0 0 [] D none 0 0 none 0 0 := ⟨kb, World.ownsRow_nil _ _ _ _, World.ownsRow_nil _ _ _ _, hd1⟩
  have hT1 : TabAt 3 Lib.deBruijn64tab W1 := fun j hj => (hB.cell (p := ⟨3, j, none⟩) (by simp; omega)).trans (hT j hj)
  have R1 := hide (read_any β β 0 m L 0 0 c p D [] D none none 0 0 0 0 W1 (Nat.zero_le _) (by omega) hL (by omega) (by omega) (Nat.le_refl _) (by omega) hT1 hf1)
  have c0 := k0.cell 0
  have c1 := (k1.below hB (by omega)).cell 0
  have HG1 := hide hg1; have HG2 := hide hg2
  have HD := hide hD
  have hTW := hide hT
  have hwβ := hβ
  clear hg1 hg2 hf1 hT1 hd1 hD hT
  go_enter Tryd.func85, Tryd.ntmps85
  go_wp2_with fail
  refine R1.out.mono ?_
  rintro e W2 (⟨hlt, rfl, hb⟩ | ⟨hle, ⟨v, rfl⟩, hb, _, _, _, p1, q1, bp1, bn1, bc1, tp1, tn1, tc1, hf2⟩)
  · have hB2 := hB.trans hb
    go_wp2_with fail
    exact ⟨rfl, .inr ⟨fun h => by omega, rfl⟩, by simpa only [hwβ] using hB2⟩
  have hB2 := hB.trans hb
  clear hb R1 kb hB b85
  have kb := hf2.blk
  have n6 := Blk.new W2 #[.slice none 0 0, .slice none 0 0, .slice none 0 0] 142
  have lb2 := kb.lt
  go_wp2_with (first | (refine wp_loadRow rfl 142 _ rfl β rfl kb Tryd.underlying142 rfl size142 rfl ?_) | (refine wp_storeRow (C' := #[.slice p1 (L - (coverL 0 m).length) q1, .slice bp1 bn1 bc1, .slice tp1 tn1 tc1]) rfl 142 _ _ rfl _ rfl rfl n6 size142 rfl rfl (by simp [Value.oneCell']) rfl ?_; intro W3 hu k6; have hB3 := hB2.trans ((hu.below ((Below.refl _ _).alloc (Nat.le_refl _) _) (Nat.le_refl _)).mono (by omega)); have c1 := (k1.below hB3 (by omega)).cell 0; have c2 := (k2.below hB3 (by omega)).cell 0))
  have hb3 : Below W2.heap.size W2 W3 := hu.below ((Below.refl _ _).alloc (Nat.le_refl _) _) (Nat.le_refl _)
  have hf3 := hf2.below hb3 (Nat.le_refl _)
  have l6 := k6.lt
  have hT3 : TabAt 3 Lib.deBruijn64tab W3 := fun j hj => (hB3.cell (p := ⟨3, j, none⟩) (by simp; omega)).trans (hTW.out j hj)
  clear hf2 kb n6 hu hb3
  generalize W2.heap.size = B6 at k6 l6 lb2 ⊢
  have hlen : (coverL 0 m).length ≤ 1000 := by omega
  have R2 := hide (read_any β β m n (L - (coverL 0 m).length) (0 + (coverL 0 m).length) (0 + (coverL 0 m).length) q1 p1 (fun j => D ((coverL 0 m).length + j)) _ _ bp1 tp1 bn1 bc1 tn1 tc1 W3 hmn hn (by omega) (by omega) (by omega) (Nat.le_refl _) (by omega) hT3 hf3)
  refine R2.out.mono ?_
  rintro e W4 (⟨hlt, rfl, hb⟩ | ⟨hle2, ⟨v2, rfl⟩, hb, hh1, hh2, hkeep, p2, q2, bp2, bn2, bc2, tp2, tn2, tc2, hf4⟩)
  · have hB4 := hB3.trans hb
    clear hT3
    go_wp2_with fail
    exact ⟨rfl, .inr ⟨fun h => by omega, rfl⟩, by simpa only [hwβ] using hB4⟩
  have hB4 := hB3.trans hb
  have k6' : Blk W4 B6 #[.slice p1 (L - (coverL 0 m).length) q1, .slice bp1 bn1 bc1, .slice tp1 tn1 tc1] 142 := (hkeep _ _ _ k6 (by decide) (by decide) (by omega)).trans k6
  have fo := hf3.copy (A := coverL 0 m) (U := D) (by omega) (by omega) (fun j hj => by rw [joinT]; split <;> simp) k6' hh1 hh2
  have fn : FtI β (coverL 0 m ++ coverL m n) D _ _ _ _ _ W4 := Forest.ftI (A := coverL 0 m ++ coverL m n) (by rw [cellsOf_append]; exact hf4) (by rw [List.length_append]; omega) (by rw [List.length_append]; omega) (fun j hj => by
    rw [joinT, joinT]
    split
    · split <;> simp
    · rw [show (coverL 0 m).length + (j - (0 + (coverL 0 m).length)) = j by omega])
  have hlen2 : (coverL m n).length ≤ 1000 := by omega
  have cd := hf4.blk.cell 0
  have DN := hide (done_any β _ _ _ W4 cd)
  clear hb hT3 R2 hf3 hf4 hkeep hh1 hh2 k6 k6' cd
  go_wp2_with fail
  refine DN.out.mono ?_
  rintro e W5 ⟨⟨hl0, v3, rfl⟩ | ⟨hl0, rfl⟩, hb⟩
  rotate_left
  · have hB5 := hB4.trans (hb.mono (by have := hB4.size; omega))
    go_wp2_with fail
    exact ⟨rfl, .inr ⟨fun h => by omega, rfl⟩, by simpa only [hwβ] using hB5⟩
  have hB5 := hB4.trans (hb.mono (by have := hB4.size; omega))
  replace fo := fo.below hb
  replace fn := fn.below hb
  have c1 := (k1.below hB5 (by omega)).cell 0
  have k3' := k3.below hB5 (by omega)
  have IS := hide (is_any B6 m _ _ _ _ (coverL 0 m) D d1 old _ W5 (by omega) hlen HG1.out fo)
  clear hb DN fo
  go_wp2_with (refine wp_loadRow rfl 23 _ rfl g3 rfl k3' Tryd.underlying23 rfl size23 (A8.size _ _) ?_)
  refine IS.out.mono ?_
  rintro e W6 ⟨⟨h1, v4, rfl⟩ | ⟨h1, rfl⟩, hb⟩
  rotate_left
  · have hB6 := hB5.trans (hb.mono (by have := hB5.size; omega))
    go_wp2_with fail
    exact ⟨rfl, .inr ⟨fun h => (by rw [h1] at h; cases h.2.1), rfl⟩, by simpa only [hwβ] using hB6⟩
  have hB6 := hB5.trans (hb.mono (by have := hB5.size; omega))
  replace fn := fn.below hb
  have c2 := (k2.below hB6 (by omega)).cell 0
  have k4' := k4.below hB6 (by omega)
  have IS := hide (is_any β n _ _ _ _ (coverL 0 m ++ coverL m n) D d2 new _ W6 hn (by rw [List.length_append]; omega) HG2.out fn)
  clear hb k3' fn
  go_wp2_with (refine wp_loadRow rfl 23 _ rfl g4 rfl k4' Tryd.underlying23 rfl size23 (A8.size _ _) ?_)
  refine IS.out.mono ?_
  rintro e W7 ⟨⟨h2, v5, rfl⟩ | ⟨h2, rfl⟩, hb⟩
  rotate_left
  · have hB7 := hB6.trans (hb.mono (by have := hB6.size; omega))
    go_wp2_with fail
    exact ⟨rfl, .inr ⟨fun h => (by rw [h2] at h; cases h.2.2), rfl⟩, by simpa only [hwβ] using hB7⟩
  have hB7 := hB6.trans (hb.mono (by have := hB6.size; omega))
  go_wp2_with fail
  go_end0
  exact ⟨.inl ⟨⟨by omega, h1, h2⟩, _, rfl⟩, by simpa only [hwβ] using hB7⟩
end Go.Proofs.YtdpgebifeaakjaaDoor

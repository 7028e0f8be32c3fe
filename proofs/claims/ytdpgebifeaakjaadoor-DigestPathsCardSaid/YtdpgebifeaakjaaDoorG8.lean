/- The walk of CheckGrowth. -/
import Derived.Test.YtdpgebifeaakjaaDoorG7
namespace Go.Proofs.YtdpgebifeaakjaaDoor
set_option linter.unusedSimpArgs false
set_option linter.unusedVariables false
open Go.RowKit
set_option maxRecDepth 20000 in
set_option maxHeartbeats 1000000 in
theorem cgrow_bad (old new : Nat → BitVec 8) (m n : Int) (v : Value) (L c : Nat) (p : Option Addr) (w : World) (hbad : m < 0 ∨ n < m ∨ 1099511627776 < n) :
    Calls Tryd.prog 51 #[.agg (A8 16 old), .int .i64 m, .agg (A8 16 new), .int .i64 n, .slice p L c] w fun e w' => e = .returned (.int .i64 1) ∧ Below w.heap.size w w' := by
  have hx1 := box23 old
  have hx2 := box23 new
  have hB : Below w.heap.size w (((((w.alloc (.cells (A8 16 old) 23)).alloc (.cells #[.int .i64 m] 3)).alloc (.cells (A8 16 new) 23)).alloc (.cells #[.int .i64 n] 3)).alloc (.cells #[.slice p L c] 80)) :=
    ((((((Below.refl _ _).alloc (Nat.le_refl _) _).alloc (by simp) _).alloc (by simp; omega) _).alloc (by simp; omega) _).alloc (by simp; omega) _)
  by_cases h1 : m < 0
  · clear hbad
    go_enter Tryd.func51, Tryd.ntmps51
    go_wp2_with fail
    go_ret
    exact ⟨rfl, hB⟩
  · by_cases h2 : n < m
    · clear hbad
      go_enter Tryd.func51, Tryd.ntmps51
      go_wp2_with fail
      go_ret
      exact ⟨rfl, hB⟩
    · have h3 : 1099511627776 < n := by omega
      clear hbad
      go_enter Tryd.func51, Tryd.ntmps51
      go_wp2_with fail
      go_ret
      exact ⟨rfl, hB⟩
set_option maxRecDepth 20000 in
set_option maxHeartbeats 1000000 in
theorem cgrow_ok (old new d1 d2 : Nat → BitVec 8) (m n L c : Nat) (p : Option Addr) (D : Nat → Nat → BitVec 8) (w : World) (hmn : m ≤ n) (hn : n ≤ 1099511627776) (hL : L ≤ 1000)
    (hD : Digs w (.slice p L c) L D) (hT : TabAt 3 Lib.deBruijn64tab w) (h3 : 3 < w.heap.size) (hg1 : Gives D m (coverL 0 m) d1) (hg2 : Gives D n (coverL 0 m ++ coverL m n) d2) :
    Calls Tryd.prog 51 #[.agg (A8 16 old), .int .i64 (m : Int), .agg (A8 16 new), .int .i64 (n : Int), .slice p L c] w fun e w' =>
      ((L = (coverL 0 m).length + (coverL m n).length ∧ eqRow 16 d1 old = true ∧ eqRow 16 d2 new = true) ∧ e = .returned (.int .i64 0) ∨ (¬ (L = (coverL 0 m).length + (coverL m n).length ∧ eqRow 16 d1 old = true ∧ eqRow 16 d2 new = true)) ∧ e = .returned (.int .i64 9)) ∧ Below w.heap.size w w' := by
  have hx1 := box23 old
  have hx2 := box23 new
  have hmf : ∀ (fn : Fn) (first cap : Array Value) (w : World), (Instr.makeFunc fn first cap).run Tryd.prog w = .ok (.func fn first cap) w := fun _ _ _ _ => rfl
  have k0 := ((((Blk.new w (A8 16 old) 23).alloc (.cells #[.int .i64 (m : Int)] 3)).alloc (.cells (A8 16 new) 23)).alloc (.cells #[.int .i64 (n : Int)] 3)).alloc (.cells #[.slice p L c] 80)
  have k1 := (((Blk.new (w.alloc (.cells (A8 16 old) 23)) #[.int .i64 (m : Int)] 3).alloc (.cells (A8 16 new) 23)).alloc (.cells #[.int .i64 (n : Int)] 3)).alloc (.cells #[.slice p L c] 80)
  have k2 := ((Blk.new ((w.alloc (.cells (A8 16 old) 23)).alloc (.cells #[.int .i64 (m : Int)] 3)) (A8 16 new) 23).alloc (.cells #[.int .i64 (n : Int)] 3)).alloc (.cells #[.slice p L c] 80)
  have k3 := (Blk.new (((w.alloc (.cells (A8 16 old) 23)).alloc (.cells #[.int .i64 (m : Int)] 3)).alloc (.cells (A8 16 new) 23)) #[.int .i64 (n : Int)] 3).alloc (.cells #[.slice p L c] 80)
  have k4 := Blk.new ((((w.alloc (.cells (A8 16 old) 23)).alloc (.cells #[.int .i64 (m : Int)] 3)).alloc (.cells (A8 16 new) 23)).alloc (.cells #[.int .i64 (n : Int)] 3)) #[.slice p L c] 80
  have hB : Below w.heap.size w (((((w.alloc (.cells (A8 16 old) 23)).alloc (.cells #[.int .i64 (m : Int)] 3)).alloc (.cells (A8 16 new) 23)).alloc (.cells #[.int .i64 (n : Int)] 3)).alloc (.cells #[.slice p L c] 80)) :=
    ((((((Below.refl _ _).alloc (Nat.le_refl _) _).alloc (by simp) _).alloc (by simp; omega) _).alloc (by simp; omega) _).alloc (by simp; omega) _)
  simp only [World.size_alloc] at k0 k1 k2 k3 k4
  obtain ⟨W1, hW1⟩ : ∃ W1, (((((w.alloc (.cells (A8 16 old) 23)).alloc (.cells #[.int .i64 (m : Int)] 3)).alloc (.cells (A8 16 new) 23)).alloc (.cells #[.int .i64 (n : Int)] 3)).alloc (.cells #[.slice p L c] 80)) = W1 := ⟨_, rfl⟩
  rw [hW1] at k0 k1 k2 k3 k4 hB
  have hs1 := hB.size
  have l4 := k4.lt
  have h1 : ¬ (m : Int) < 0 := by omega
  have h2 : ¬ (n : Int) < (m : Int) := by omega
  have h4 : ¬ 1099511627776 < (n : Int) := by omega
  have ck := checked_85 (L = (coverL 0 m).length + (coverL m n).length ∧ eqRow 16 d1 old = true ∧ eqRow 16 d2 new = true) (¬ (L = (coverL 0 m).length + (coverL m n).length ∧ eqRow 16 d1 old = true ∧ eqRow 16 d2 new = true)) _ W1 fun W hW =>
    grow85 _ _ _ _ _ m n L c p D old new d1 d2 W hmn hn hL (k4.below hW k4.lt) (k1.below hW k1.lt) (k3.below hW k3.lt) (k0.below hW k0.lt) (k2.below hW k2.lt) ((hD.below hB).below hW)
      (fun j hj => (hW.cell (p := ⟨3, j, none⟩) (by simp; omega)).trans ((hB.cell (p := ⟨3, j, none⟩) h3).trans (hT j hj))) (by have := hW.size; omega) hg1 hg2
  have CK := hide ck
  have c1 := k1.cell 0
  have c3 := k3.cell 0
  clear ck hg1 hg2 hD hT k0 k1 k2 k3 k4 hmn hn hL
  go_enter Tryd.func51, Tryd.ntmps51
  go_wp2_with fail
  refine CK.out.mono ?_
  rintro e W2 ⟨⟨h, rfl⟩ | ⟨h, rfl⟩, hb⟩
  · have hB2 := hB.trans (hb.mono hB.size)
    clear hb
    go_wp2_with fail
    go_ret
    exact ⟨.inl ⟨h, rfl⟩, hB2⟩
  · have hB2 := hB.trans (hb.mono hB.size)
    clear hb
    go_wp2_with fail
    go_ret
    exact ⟨.inr ⟨h, rfl⟩, hB2⟩
end Go.Proofs.YtdpgebifeaakjaaDoor

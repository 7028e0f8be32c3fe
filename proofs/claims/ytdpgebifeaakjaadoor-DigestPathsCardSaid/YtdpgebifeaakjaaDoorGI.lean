/- The walk of CheckPath. -/
import Derived.Test.YtdpgebifeaakjaaDoorGH
namespace Go.Proofs.YtdpgebifeaakjaaDoor
set_option linter.unusedSimpArgs false
set_option linter.unusedVariables false
open Go.RowKit
set_option maxRecDepth 20000 in
set_option maxHeartbeats 1000000 in
theorem cpath_bad (root : Nat → BitVec 8) (n i : Int) (K ic L c : Nat) (ip p : Option Addr) (w : World) (hK : K ≤ 500) (hbad : i < 0 ∨ 1099511627776 < n ∨ n < (K : Int) ∨ n - (K : Int) < i) :
    Calls Tryd.prog 57 #[.agg (A8 16 root), .int .i64 n, .int .i64 i, .slice ip K ic, .slice p L c] w fun e w' => e = .returned (.int .i64 1) ∧ Below w.heap.size w w' := by
  have hx1 := box23 root
  have hB : Below w.heap.size w (((((w.alloc (.cells (A8 16 root) 23)).alloc (.cells #[.int .i64 n] 3)).alloc (.cells #[.int .i64 i] 3)).alloc (.cells #[.slice ip K ic] 80)).alloc (.cells #[.slice p L c] 80)) := ((((((Below.refl _ _).alloc (Nat.le_refl _) _).alloc (by simp) _).alloc (by simp; omega) _).alloc (by simp; omega) _).alloc (by simp; omega) _)
  by_cases h1 : i < 0
  · clear hbad
    go_enter Tryd.func57, Tryd.ntmps57
    go_wp2_with fail
    go_ret
    exact ⟨rfl, hB⟩
  · by_cases h2 : 1099511627776 < n
    · clear hbad
      go_enter Tryd.func57, Tryd.ntmps57
      go_wp2_with fail
      go_ret
      exact ⟨rfl, hB⟩
    · by_cases h3 : n < (K : Int)
      · clear hbad
        go_enter Tryd.func57, Tryd.ntmps57
        go_wp2_with fail
        go_ret
        exact ⟨rfl, hB⟩
      · have h4 : n - (K : Int) < i := by omega
        have hw1 : wrap64 (n - (K : Int)) = n - (K : Int) := by unfold wrap64; omega
        clear hbad
        go_enter Tryd.func57, Tryd.ntmps57
        go_wp2_with fail
        go_ret
        exact ⟨rfl, hB⟩
set_option maxRecDepth 20000 in
set_option maxHeartbeats 1000000 in
theorem cpath_ok (root d : Nat → BitVec 8) (i K n L c ic : Nat) (ip p : Option Addr) (D I : Nat → Nat → BitVec 8) (w : World) (hiK : i + K ≤ n) (hn : n ≤ 1099511627776) (hL : L ≤ 1000) (hK : K ≤ 500)
    (hD : Digs w (.slice p L c) L D) (hI : Digs w (.slice ip K ic) K I) (hT : TabAt 3 Lib.deBruijn64tab w) (h3 : 3 < w.heap.size) (hg : Gives (mixT (coverL 0 i).length K D I) n (coverL 0 i ++ singles i K ++ coverL (i + K) n) d) :
    Calls Tryd.prog 57 #[.agg (A8 16 root), .int .i64 (n : Int), .int .i64 (i : Int), .slice ip K ic, .slice p L c] w fun e w' =>
      ((L = (coverL 0 i).length + (coverL (i + K) n).length ∧ eqRow 16 d root = true) ∧ e = .returned (.int .i64 0) ∨ (¬ (L = (coverL 0 i).length + (coverL (i + K) n).length ∧ eqRow 16 d root = true)) ∧ e = .returned (.int .i64 9)) ∧ Below w.heap.size w w' := by
  have hx1 := box23 root
  have hmf : ∀ (fn : Fn) (first cap : Array Value) (w : World), (Instr.makeFunc fn first cap).run Tryd.prog w = .ok (.func fn first cap) w := fun _ _ _ _ => rfl
  have k0 := ((((Blk.new w (A8 16 root) 23).alloc (.cells #[.int .i64 (n : Int)] 3)).alloc (.cells #[.int .i64 (i : Int)] 3)).alloc (.cells #[.slice ip K ic] 80)).alloc (.cells #[.slice p L c] 80)
  have k1 := (((Blk.new (w.alloc (.cells (A8 16 root) 23)) #[.int .i64 (n : Int)] 3).alloc (.cells #[.int .i64 (i : Int)] 3)).alloc (.cells #[.slice ip K ic] 80)).alloc (.cells #[.slice p L c] 80)
  have k2 := ((Blk.new ((w.alloc (.cells (A8 16 root) 23)).alloc (.cells #[.int .i64 (n : Int)] 3)) #[.int .i64 (i : Int)] 3).alloc (.cells #[.slice ip K ic] 80)).alloc (.cells #[.slice p L c] 80)
  have k3 := (Blk.new (((w.alloc (.cells (A8 16 root) 23)).alloc (.cells #[.int .i64 (n : Int)] 3)).alloc (.cells #[.int .i64 (i : Int)] 3)) #[.slice ip K ic] 80).alloc (.cells #[.slice p L c] 80)
  have k4 := Blk.new ((((w.alloc (.cells (A8 16 root) 23)).alloc (.cells #[.int .i64 (n : Int)] 3)).alloc (.cells #[.int .i64 (i : Int)] 3)).alloc (.cells #[.slice ip K ic] 80)) #[.slice p L c] 80
  have hB : Below w.heap.size w (((((w.alloc (.cells (A8 16 root) 23)).alloc (.cells #[.int .i64 (n : Int)] 3)).alloc (.cells #[.int .i64 (i : Int)] 3)).alloc (.cells #[.slice ip K ic] 80)).alloc (.cells #[.slice p L c] 80)) := ((((((Below.refl _ _).alloc (Nat.le_refl _) _).alloc (by simp) _).alloc (by simp; omega) _).alloc (by simp; omega) _).alloc (by simp; omega) _)
  simp only [World.size_alloc] at k0 k1 k2 k3 k4
  obtain ⟨W1, hW1⟩ : ∃ W1, (((((w.alloc (.cells (A8 16 root) 23)).alloc (.cells #[.int .i64 (n : Int)] 3)).alloc (.cells #[.int .i64 (i : Int)] 3)).alloc (.cells #[.slice ip K ic] 80)).alloc (.cells #[.slice p L c] 80)) = W1 := ⟨_, rfl⟩
  rw [hW1] at k0 k1 k2 k3 k4 hB
  have hs1 := hB.size
  have l4 := k4.lt
  have h1 : ¬ (i : Int) < 0 := by omega
  have h2 : ¬ 1099511627776 < (n : Int) := by omega
  have h4 : ¬ (n : Int) < (K : Int) := by omega
  have h5 : ¬ (n : Int) - (K : Int) < (i : Int) := by omega
  have ck := checked_92 (L = (coverL 0 i).length + (coverL (i + K) n).length ∧ eqRow 16 d root = true) (¬ (L = (coverL 0 i).length + (coverL (i + K) n).length ∧ eqRow 16 d root = true)) _ W1 fun W hW =>
    cpath92 _ _ _ _ _ i K n L c ic p ip D I root d W hiK hn hL hK (k4.below hW k4.lt) (k2.below hW k2.lt) (k3.below hW k3.lt) (k1.below hW k1.lt) (k0.below hW k0.lt) ((hD.below hB).below hW) ((hI.below hB).below hW)
      (fun j hj => (hW.cell (p := ⟨3, j, none⟩) (by simp; omega)).trans ((hB.cell (p := ⟨3, j, none⟩) h3).trans (hT j hj))) (by have := hW.size; omega) hg
  have CK := hide ck
  have c1 := k1.cell 0
  have c2 := k2.cell 0
  have c3 := k3.cell 0
  clear ck hg hD hI hT k0 k1 k2 k3 k4 hL
  go_enter Tryd.func57, Tryd.ntmps57
  go_wp2_with fail
  refine CK.out.mono ?_
  rintro e W2 ⟨⟨h, rfl⟩ | ⟨h, rfl⟩, hb⟩
  · have hB2 := hB.trans (hb.mono hB.size)
    clear hb
    go_wp2_with fail
    go_ret
    exact ⟨.inl ⟨h, rfl⟩, hB2⟩
  · have hB2 := hB.trans (hb.mono hB.size)
    clear hb
    go_wp2_with fail
    go_ret
    exact ⟨.inr ⟨h, rfl⟩, hB2⟩
end Go.Proofs.YtdpgebifeaakjaaDoor

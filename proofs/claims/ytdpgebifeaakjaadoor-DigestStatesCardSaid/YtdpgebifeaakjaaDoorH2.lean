/- The walk of Unhex. -/
import Derived.Test.YtdpgebifeaakjaaDoorH1
namespace Go.Proofs.YtdpgebifeaakjaaDoor
set_option linter.unusedSimpArgs false
set_option linter.unusedVariables false
open Go.RowKit

/-- Is it a hexadecimal digit. -/
def isDig (c : BitVec 8) : Bool := (48 ≤ c.toNat && c.toNat ≤ 57) || (97 ≤ c.toNat && c.toNat ≤ 102)
/-- What a digit stands for. -/
def dig (c : BitVec 8) : BitVec 8 := if c.toNat ≤ 57 then c - 48#8 else c - 87#8
/-- The digest behind k digits. -/
def unhexAt (s : ByteArray) : Nat → Nat → BitVec 8
  | 0 => fun _ => 0#8
  | k + 1 => fun j => if j = k / 2 then (unhexAt s k (k / 2) <<< 4) ||| dig (byteAt s k) else unhexAt s k j
def okHex (s : ByteArray) : Prop := s.size = 32 ∧ ∀ i, i < 32 → isDig (byteAt s i) = true
instance (s : ByteArray) : Decidable (okHex s) := by unfold okHex; infer_instance
def unhexV (s : ByteArray) : Value := if okHex s then .tuple #[.agg (A8 16 (unhexAt s 32)), .int .i64 0] else .tuple #[.agg (A8 16 fun _ => 0#8), .int .i64 2]

theorem build23 (w : World) : (Instr.build 23 #[]).run Tryd.prog w = .ok (.agg (A8 16 fun _ => 0#8)) w := by kernel_rfl
theorem n8_val (x : BitVec 8) : n8 x = (x.toNat : Int) := rfl

theorem unhex_step (s : ByteArray) (k : Nat) (x : BitVec 8) (hx : x = dig (byteAt s k)) :
    (A8 16 (unhexAt s k)).setIfInBounds (k / 2) (U8 ((unhexAt s k (k / 2) <<< 4) ||| x)) = A8 16 (unhexAt s (k + 1)) := by
  rw [A8.set, hx]
  rfl
theorem isDig_num {c : BitVec 8} (h1 : (48 : Int) ≤ n8 c) (h2 : n8 c ≤ (57 : Int)) : isDig c = true ∧ c - 48#8 = dig c := by
  rw [n8_val] at h1 h2
  exact ⟨by simp [isDig]; omega, by rw [dig, if_pos (by omega)]⟩
theorem isDig_let {c : BitVec 8} (h1 : (97 : Int) ≤ n8 c) (h2 : n8 c ≤ (102 : Int)) : isDig c = true ∧ c - 87#8 = dig c := by
  rw [n8_val] at h1 h2
  exact ⟨by simp [isDig]; omega, by rw [dig, if_neg (by omega)]⟩
theorem isDig_none {c : BitVec 8} (h1 : ¬ ((48 : Int) ≤ n8 c ∧ n8 c ≤ (57 : Int))) (h2 : ¬ ((97 : Int) ≤ n8 c ∧ n8 c ≤ (102 : Int))) : isDig c = false := by
  rw [n8_val] at h1 h2
  simp [isDig]; omega

set_option maxRecDepth 20000 in
set_option maxHeartbeats 4000000 in
theorem unhex_any (s : ByteArray) (hs : s.size ≤ 9223372036854775807) (w : World) :
    Calls Tryd.prog 18 #[.string s] w fun e w' => e = .returned (unhexV s) ∧ Below w.heap.size w w' := by
  have hbd := build23
  have h2 := Blk.new w (A8 16 fun _ => 0#8) 23
  have hB0 : Below w.heap.size w (w.alloc (.cells (A8 16 fun _ => 0#8) 23)) := (Below.refl _ _).alloc (Nat.le_refl _) _
  by_cases h32 : s.size = 32
  · have HZ := hide h32
    have hz1 : (s.size : Int) = 32 := by omega
    clear h32
    go_enter Tryd.func18, Tryd.ntmps18
    go_wp2_with fail
    clear hz1
    have hcells : (A8 16 fun _ => 0#8) = A8 16 (unhexAt s 0) := rfl
    rw [hcells] at h2
    clear hcells
    go_loopw [12] (fun s12 W => ∃ k : Nat, k ≤ 32 ∧ s12 = .int .i64 k ∧ (∀ i, i < k → isDig (byteAt s i) = true) ∧ Blk W w.heap.size (A8 16 (unhexAt s k)) 23 ∧ Below w.heap.size w W) (fun s12 _ => 32 - (intOf s12).toNat)
    case atStart => exact ⟨0, by omega, rfl, fun i hi => absurd hi (by omega), h2, hB0⟩
    case round =>
      clear h2 hB0
      obtain ⟨k, hk, rfl, hall, h2, hB⟩ := hrel
      by_cases hk32 : k < 32
      · have hk1 : (k : Int) < 32 := by omega
        have hix := run_index_str (P := Tryd.prog) (T := 9) Tryd.underlying9 s k (by rw [HZ.out]; exact hk32)
        obtain ⟨c, hc⟩ : ∃ c, byteAt s k = c := ⟨_, rfl⟩
        rw [hc] at hix
        have HC := hide hc
        have HALL := hide hall
        clear hc hall
        have hcell := h2.cell (k / 2)
        rw [A8.get _ (by omega)] at hcell
        have hfree := h2.free (k / 2)
        have hbad : isDig c = false → ¬ okHex s := fun h e => by
          have := e.2 k hk32
          rw [HC.out, h] at this
          exact Bool.noConfusion this
        have HBAD := hide hbad
        clear hbad
        have hnext : ∀ x, isDig c = true ∧ x = dig c → (∀ i, i < k + 1 → isDig (byteAt s i) = true) ∧ Blk (wr.setCell ⟨w.heap.size, k / 2, none⟩ (U8 ((unhexAt s k (k / 2) <<< 4) ||| x))) w.heap.size (A8 16 (unhexAt s (k + 1))) 23 := fun x hx => by
          refine ⟨fun i hi => ?_, ?_⟩
          · by_cases e : i = k
            · rw [e, HC.out]; exact hx.1
            · exact HALL.out i (by omega)
          · have h4 := h2.set (k / 2) (U8 ((unhexAt s k (k / 2) <<< 4) ||| x))
            rw [unhex_step s k x (by rw [HC.out]; exact hx.2)] at h4
            exact h4
        have HN := hide hnext
        clear hnext
        by_cases hnum : (48 : Int) ≤ n8 c ∧ n8 c ≤ (57 : Int)
        · obtain ⟨h48, h57⟩ := hnum
          have hq := HN.out _ (isDig_num h48 h57)
          have HQ := hide hq; clear hq
          go_wp2_with fail
          exact ⟨⟨k + 1, by omega, by go_num, HQ.out.1, HQ.out.2, hB.setCell (Nat.le_refl _) _⟩, by simp [intOf]; omega⟩
        · by_cases hlet : (97 : Int) ≤ n8 c ∧ n8 c ≤ (102 : Int)
          · obtain ⟨h97, h102⟩ := hlet
            have hq := HN.out _ (isDig_let h97 h102)
            have HQ := hide hq; clear hq
            have h48 : (48 : Int) ≤ n8 c := by omega
            have h57 : ¬ n8 c ≤ (57 : Int) := by omega
            go_wp2_with fail
            exact ⟨⟨k + 1, by omega, by go_num, HQ.out.1, HQ.out.2, hB.setCell (Nat.le_refl _) _⟩, by simp [intOf]; omega⟩
          · have hno := HBAD.out (isDig_none hnum hlet)
            have HNO := hide hno
            clear hno
            by_cases h48 : (48 : Int) ≤ n8 c
            · have h57 : ¬ n8 c ≤ (57 : Int) := fun e => hnum ⟨h48, e⟩
              by_cases h97 : (97 : Int) ≤ n8 c
              · have h102 : ¬ n8 c ≤ (102 : Int) := fun e => hlet ⟨h97, e⟩
                clear hnum hlet
                go_wp2_with (refine wp_storeRow rfl 23 _ _ rfl _ rfl rfl h2 size23 (A8.size _ _) (A8.size _ _) (A8.one _) rfl ?_; intro W0 hu0 hb3)
                refine ret_row_tmp rfl w.heap.size rfl rfl (run_loadVar_Blk hb3 Tryd.underlying23 rfl size23 (A8.size _ _)) rfl ⟨?_, hu0.below hB (Nat.le_refl _)⟩
                rw [unhexV, if_neg HNO.out]
                rfl
              · clear hnum hlet
                go_wp2_with (refine wp_storeRow rfl 23 _ _ rfl _ rfl rfl h2 size23 (A8.size _ _) (A8.size _ _) (A8.one _) rfl ?_; intro W0 hu0 hb3)
                refine ret_row_tmp rfl w.heap.size rfl rfl (run_loadVar_Blk hb3 Tryd.underlying23 rfl size23 (A8.size _ _)) rfl ⟨?_, hu0.below hB (Nat.le_refl _)⟩
                rw [unhexV, if_neg HNO.out]
                rfl
            · have h97 : ¬ (97 : Int) ≤ n8 c := by omega
              clear hnum hlet
              go_wp2_with (refine wp_storeRow rfl 23 _ _ rfl _ rfl rfl h2 size23 (A8.size _ _) (A8.size _ _) (A8.one _) rfl ?_; intro W0 hu0 hb3)
              refine ret_row_tmp rfl w.heap.size rfl rfl (run_loadVar_Blk hb3 Tryd.underlying23 rfl size23 (A8.size _ _)) rfl ⟨?_, hu0.below hB (Nat.le_refl _)⟩
              rw [unhexV, if_neg HNO.out]
              rfl
      · have hk1 : ¬ (k : Int) < 32 := by omega
        have hyes : okHex s := ⟨HZ.out, fun i hi => hall i (by omega)⟩
        have hk32' : k = 32 := by omega
        have HY := hide hyes
        have HK := hide hk32'
        clear hyes hk32' hall
        go_wp2_with (first | (refine wp_loadRow rfl 23 _ rfl _ rfl h2 Tryd.underlying23 rfl size23 (A8.size _ _) ?_) | (refine wp_storeRow rfl 23 _ _ rfl _ rfl rfl h2 size23 (A8.size _ _) (A8.size _ _) (A8.one _) rfl ?_; intro W0 hu0 hb3))
        refine ret_row_tmp rfl w.heap.size rfl rfl (run_loadVar_Blk hb3 Tryd.underlying23 rfl size23 (A8.size _ _)) rfl ⟨?_, hu0.below hB (Nat.le_refl _)⟩
        rw [unhexV, if_pos HY.out, HK.out]
        rfl
  · have hz1 : ¬ (s.size : Int) = 32 := by omega
    have hno : ¬ okHex s := fun e => h32 e.1
    have HNO := hide hno
    clear h32 hno
    go_enter Tryd.func18, Tryd.ntmps18
    go_wp2_with (refine wp_storeRow rfl 23 _ _ rfl _ rfl rfl h2 size23 (A8.size _ _) (A8.size _ _) (A8.one _) rfl ?_; intro W0 hu0 hb3)
    refine ret_row_tmp rfl w.heap.size rfl rfl (run_loadVar_Blk hb3 Tryd.underlying23 rfl size23 (A8.size _ _)) rfl ⟨?_, hu0.below hB0 (Nat.le_refl _)⟩
    rw [unhexV, if_neg HNO.out]
    rfl
end Go.Proofs.YtdpgebifeaakjaaDoor

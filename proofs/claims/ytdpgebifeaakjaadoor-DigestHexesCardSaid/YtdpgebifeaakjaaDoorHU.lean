/- The walk of the specification's Unhex. -/
import Derived.Test.YtdpgebifeaakjaaDoorHR
import Derived.Test.YtdpgebifeaakjaaDoorK5
import Derived.Deep.Cut
namespace Go.Proofs.YtdpgebifeaakjaaDoor
set_option linter.unusedSimpArgs false
set_option linter.unusedVariables false
open Go.RowKit

/-- A digest and an error, in a struct. -/
def digC (d : Nat → BitVec 8) (e : Int) : Array Value := Row 17 fun i => if i < 16 then U8 (d i) else .int .i64 e
theorem digC_size (d : Nat → BitVec 8) (e : Int) : (digC d e).size = 17 := Row.size _ _
theorem digC_one (d : Nat → BitVec 8) (e : Int) : (digC d e).all (·.oneCell') = true := Row.all fun i hi => by
  split <;> rfl
theorem size29 : (Tryd.prog.info? 29).map (·.size) = some 17 := by kernel_rfl
theorem build29e (w : World) : (Instr.build 29 #[(1, .int .i64 2)]).run Tryd.prog w = .ok (.agg (digC (fun _ => 0#8) 2)) w := by kernel_rfl
theorem build29 (d : Nat → BitVec 8) (w : World) : (Instr.build 29 #[(0, .agg (A8 16 d))]).run Tryd.prog w = .ok (.agg (digC d 0)) w := by kernel_rfl
@[go_sem] theorem lit29 : (#[Value.int .u8 0, Value.int .u8 0, Value.int .u8 0, Value.int .u8 0, Value.int .u8 0, Value.int .u8 0, Value.int .u8 0, Value.int .u8 0, Value.int .u8 0, Value.int .u8 0, Value.int .u8 0, Value.int .u8 0, Value.int .u8 0, Value.int .u8 0, Value.int .u8 0, Value.int .u8 0, Value.int .i64 0] : Array Value) = digC (fun _ => 0#8) 0 := by kernel_rfl

@[go_sem] theorem digC_set16 (d : Nat → BitVec 8) (e n : Int) : (digC d e).setIfInBounds 16 (.int .i64 n) = digC d n := by
  unfold digC
  rw [Row.set]
  apply Row.ext
  intro i hi
  by_cases h : i = 16
  · subst h; rw [if_pos rfl, if_neg (by omega)]
  · rw [if_neg h]
    by_cases h' : i < 16
    · rw [if_pos h', if_pos h']
    · omega
def nib (n : Nat) : BitVec 8 := hexDig (BitVec.ofNat 8 n)
theorem nib_digit : ∀ (c : BitVec 8), isDig c = true → dig c = BitVec.ofNat 8 (dig c).toNat ∧ (dig c).toNat < 16 ∧ nib (dig c).toNat = c := by decide +kernel
theorem nib_only : ∀ (n : Nat), n < 16 → isDig (nib n) = true ∧ dig (nib n) = BitVec.ofNat 8 n := by decide +kernel
theorem put_nib : ∀ (n : Nat), n < 16 → ∀ (x : BitVec 8), x * 16#8 + BitVec.ofNat 8 n = (x <<< 4) ||| BitVec.ofNat 8 n := by decide +kernel
theorem index_nib (n : Nat) (h : n < 16) (w : World) :
    (Instr.index 9 (.string ⟨#[48, 49, 50, 51, 52, 53, 54, 55, 56, 57, 97, 98, 99, 100, 101, 102]⟩) (.int .i64 (n : Int))).run Tryd.prog w = .ok (U8 (nib n)) w := by
  have := run_index_strK (P := Tryd.prog) (T := 9) Tryd.underlying9 ⟨#[48, 49, 50, 51, 52, 53, 54, 55, 56, 57, 97, 98, 99, 100, 101, 102]⟩ .i64 n h w
  rw [this]
  have e := hexDig_q (BitVec.ofNat 8 n) (by rw [BitVec.toNat_ofNat]; omega)
  rw [BitVec.toNat_ofNat, Nat.mod_eq_of_lt (by omega)] at e
  rw [e]
  rfl
def unhexC (s : ByteArray) : Array Value := if okHex s then digC (unhexAt s 32) 0 else digC (fun _ => 0#8) 2
theorem digC_get (d : Nat → BitVec 8) (e : Int) (i : Nat) (h : i < 16) : (digC d e)[i]? = some (U8 (d i)) := by
  rw [digC, Row.get _ (by omega), if_pos h]

set_option maxRecDepth 20000 in
set_option maxHeartbeats 1000000 in
theorem runhex_any (s : ByteArray) (hs : s.size ≤ 9223372036854775807) (w : World) :
    Calls Tryd.prog 19 #[.string s] w fun e w' => e = .returned (.agg (unhexC s)) ∧ Below w.heap.size w w' := by
  have hb1 := build29
  have hb2 := build29e
  have h1 := (Blk.new w (digC (fun _ => 0#8) 0) 29).alloc (.cells (A8 16 fun _ => 0#8) 23)
  have h2 := Blk.new (w.alloc (.cells (digC (fun _ => 0#8) 0) 29)) (A8 16 fun _ => 0#8) 23
  rw [World.size_alloc] at h2
  have hB0 : Below w.heap.size w ((w.alloc (.cells (digC (fun _ => 0#8) 0) 29)).alloc (.cells (A8 16 fun _ => 0#8) 23)) := ((Below.refl _ _).alloc (Nat.le_refl _) _).alloc (by simp) _
  by_cases h32 : s.size = 32
  · have HZ := hide h32
    have hz1 : (s.size : Int) = 32 := by omega
    clear h32
    go_enter Tryd.func19, Tryd.ntmps19
    go_wp2_with fail
    clear hz1
    have hcells : (A8 16 fun _ => 0#8) = A8 16 (unhexAt s 0) := rfl
    rw [hcells] at h2
    clear hcells
    go_loopw [4, 5] (fun s4 _ W => ∃ k : Nat, k ≤ 32 ∧ s4 = .int .i64 k ∧ (∀ i, i < k → isDig (byteAt s i) = true) ∧ Blk W w.heap.size (digC (fun _ => 0#8) 0) 29 ∧ Blk W (w.heap.size + 1) (A8 16 (unhexAt s k)) 23 ∧ Below w.heap.size w W) (fun s4 _ _ => 32 - (intOf s4).toNat)
    case atStart => exact ⟨0, by omega, rfl, fun i hi => absurd hi (by omega), h1, h2, hB0⟩
    case round =>
      clear h1 h2 hB0
      obtain ⟨k, hk, rfl, hall, h1, h2, hB⟩ := hrel
      by_cases hk32 : k < 32
      · have hk1 : (k : Int) < 32 := by omega
        have hix := run_index_str (P := Tryd.prog) (T := 9) Tryd.underlying9 s k (by rw [HZ.out]; exact hk32)
        obtain ⟨c, hc⟩ : ∃ c, byteAt s k = c := ⟨_, rfl⟩
        rw [hc] at hix
        have HC := hide hc
        have HALL := hide hall
        clear hc hall
        go_wp2_with fail
        go_loopw [5] (fun s5 W => ∃ j : Nat, j ≤ 16 ∧ s5 = .int .i64 j ∧ Hid (∀ i, i < j → nib i ≠ c) ∧ Blk W w.heap.size (digC (fun _ => 0#8) 0) 29 ∧ Blk W (w.heap.size + 1) (A8 16 (unhexAt s k)) 23 ∧ Below w.heap.size w W) (fun s5 _ => 16 - (intOf s5).toNat)
        case atStart => exact ⟨0, by omega, rfl, hide fun i hi => absurd hi (by omega), h1, h2, hB⟩
        case round =>
          clear h1 h2 hB
          obtain ⟨j, hj, rfl, hno, h1, h2, hB⟩ := hrel
          by_cases hj16 : j < 16
          · have hj1 : (j : Int) < 16 := by omega
            have hin := index_nib j hj16
            by_cases hnc : nib j = c
            · have hne : (nib j != c) = false := by simp [hnc]
              have hge := nib_only j hj16
              rw [hnc] at hge
              have HG := hide hge
              clear hge hnc
              go_wp2_with fail
              go_quiet (fail)
              replace h1 := h1.drewN nq
              replace h2 := h2.drewN nq
              replace hB := below_drewN' nq hB
              generalize wr.drewN nq = W1 at h1 h2 hB ⊢
              clear hin hix hne
              have hcell := h2.cell (k / 2)
              rw [A8.get _ (by omega)] at hcell
              have hfree := h2.free (k / 2)
              have hj17 : ((j : Int) == 16) = false := by simp; omega
              go_wp2_with fail
              have e8 : unhexAt s k (k / 2) * 16#8 + BitVec.ofNat 8 j = (unhexAt s k (k / 2) <<< 4) ||| BitVec.ofNat 8 j := put_nib j hj16 _
              have hb4 := h2.set (k / 2) (U8 (unhexAt s k (k / 2) * 16#8 + BitVec.ofNat 8 j))
              rw [e8, unhex_step s k _ (by rw [HC.out]; exact HG.out.2.symm), ← e8] at hb4
              refine ⟨⟨k + 1, by omega, by go_num, fun i hi => ?_, h1.other (by simp) _, hb4, hB.setCell (p := ⟨w.heap.size + 1, k / 2, none⟩) (by simp) _⟩, by simp [intOf]; omega⟩
              by_cases e : i = k
              · rw [e, HC.out]; exact HG.out.1
              · exact HALL.out i (by omega)
            · have hne : (nib j != c) = true := by simp [hnc]
              have HN := hide hnc
              clear hnc
              go_wp2_with fail
              go_quiet (fail)
              replace h1 := h1.drewN nq
              replace h2 := h2.drewN nq
              replace hB := below_drewN' nq hB
              generalize wr.drewN nq = W1 at h1 h2 hB ⊢
              clear hin hix hne
              go_wp2_with fail
              refine ⟨⟨j + 1, by omega, by go_num, hide fun i hi => ?_, h1, h2, hB⟩, by simp [intOf]; omega⟩
              by_cases e : i = j
              · rw [e]; exact HN.out
              · exact hno.out i (by omega)
          · obtain rfl : j = 16 := by omega
            have hbad : ¬ okHex s := fun hok => by
              have hd := hok.2 k hk32
              rw [HC.out] at hd
              obtain ⟨e1, e2, e3⟩ := nib_digit c hd
              exact hno.out _ (by omega) e3
            have HBAD := hide hbad
            clear hbad
            go_wp2_with fail
            go_quiet (fail)
            replace h1 := h1.drewN nq
            replace h2 := h2.drewN nq
            replace hB := below_drewN' nq hB
            generalize wr.drewN nq = W1 at h1 h2 hB ⊢
            clear hix
            go_wp2_with (refine wp_storeRow rfl 29 _ _ rfl _ rfl rfl h1 size29 (digC_size _ _) (digC_size _ _) (digC_one _ _) rfl ?_; intro W2 hu hb3)
            refine ret_row rfl w.heap.size rfl hb3 Tryd.underlying29 rfl size29 (digC_size _ _) rfl ⟨?_, hu.below hB (Nat.le_refl _)⟩
            rw [unhexC, if_neg HBAD.out]
      · have hk1 : ¬ (k : Int) < 32 := by omega
        have hyes : okHex s := ⟨HZ.out, fun i hi => hall i (by omega)⟩
        have hk32' : k = 32 := by omega
        have HY := hide hyes
        obtain ⟨D, hD⟩ : ∃ D, unhexAt s k = D := ⟨_, rfl⟩
        have hDK : unhexAt s 32 = D := by rw [← hk32']; exact hD
        rw [hD] at h2
        have HK := hide hDK
        clear hyes hk32' hall hD hDK
        go_upto_region 13 with (fail)
        apply wp_region_lit
        refine wp_loadRow (t := 23) (C := A8 16 D) (n := 16) rfl 23 (.tmp 3) rfl (w.heap.size + 1) rfl h2 Tryd.underlying23 rfl size23 (A8.size _ _) ?_
        refine wp_buildL rfl 29 #[(0, .tmp 40)] rfl #[(0, .agg (A8 16 D))] rfl (.agg (digC D 0)) (build29 D) ?_
        refine wp_storeRow (C' := digC D 0) (n := 17) rfl 29 (.tmp 2) (.tmp 41) rfl w.heap.size rfl rfl h1 size29 (digC_size _ _) (digC_size _ _) (digC_one _ _) rfl ?_
        intro W2 hu hb3
        go_wp2_with fail
        refine ret_row rfl w.heap.size rfl hb3 Tryd.underlying29 rfl size29 (digC_size _ _) rfl ⟨?_, hu.below hB (Nat.le_refl _)⟩
        rw [unhexC, if_pos HY.out, HK.out]
  · have hz1 : ((s.size : Int) != 32) = true := by simp; omega
    have hno : ¬ okHex s := fun e => h32 e.1
    have HNO := hide hno
    clear h32 hno h2
    have h1 := Blk.new w (digC (fun _ => 0#8) 0) 29
    go_enter Tryd.func19, Tryd.ntmps19
    go_wp2_with (refine wp_storeRow rfl 29 _ _ rfl _ rfl rfl (h1.alloc _) size29 (digC_size _ _) (digC_size _ _) (digC_one _ _) rfl ?_; intro W2 hu hb3)
    refine ret_row rfl w.heap.size rfl hb3 Tryd.underlying29 rfl size29 (digC_size _ _) rfl ⟨?_, hu.below hB0 (Nat.le_refl _)⟩
    rw [unhexC, if_neg HNO.out]
end Go.Proofs.YtdpgebifeaakjaaDoor

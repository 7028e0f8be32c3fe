/- The walks of the SHA functions: the first primes. -/
import Derived.Test.YtdpgebifeaakjaaDoorK1
namespace Go.Proofs.YtdpgebifeaakjaaDoor
set_option linter.unusedSimpArgs false
set_option linter.unusedVariables false
open Go.RowKit

def primeList : List Nat := [2, 3, 5, 7, 11, 13, 17, 19, 23, 29, 31, 37, 41, 43, 47, 53, 59, 61, 67, 71, 73, 79, 83, 89, 97, 101, 103, 107, 109, 113, 127, 131, 137, 139, 149, 151, 157, 163, 167, 173, 179, 181, 191, 193, 197, 199, 211, 223, 227, 229, 233, 239, 241, 251, 257, 263, 269, 271, 277, 281, 283, 293, 307, 311]
def primeN (i : Nat) : Nat := primeList.getD i 0
def primeAt (i : Nat) : BitVec 64 := BitVec.ofNat 64 (primeN i)
/-- How many of them are below x. -/
def cnt (x : Nat) : Nat := (primeList.filter fun p => decide (p < x)).length
/-- Does one of the first n of them divide x? -/
def hasDiv (x n : Nat) : Bool := (List.range n).any fun i => x % primeN i == 0

theorem cnt_facts : ∀ x, x < 312 → 2 ≤ x → cnt x < 64 ∧ (if hasDiv x (cnt x) = true then cnt (x + 1) = cnt x else (primeN (cnt x) = x ∧ cnt (x + 1) = cnt x + 1)) := by decide +kernel
theorem cnt_top : cnt 312 = 64 := by decide +kernel
theorem prime_ne : ∀ i, i < 64 → primeN i ≠ 0 ∧ primeN i < 312 := by decide +kernel
set_option maxRecDepth 20000 in
@[go_sem] theorem lit160 : (#[Value.int .u64 0, Value.int .u64 0, Value.int .u64 0, Value.int .u64 0, Value.int .u64 0, Value.int .u64 0, Value.int .u64 0, Value.int .u64 0, Value.int .u64 0, Value.int .u64 0, Value.int .u64 0, Value.int .u64 0, Value.int .u64 0, Value.int .u64 0, Value.int .u64 0, Value.int .u64 0, Value.int .u64 0, Value.int .u64 0, Value.int .u64 0, Value.int .u64 0, Value.int .u64 0, Value.int .u64 0, Value.int .u64 0, Value.int .u64 0, Value.int .u64 0, Value.int .u64 0, Value.int .u64 0, Value.int .u64 0, Value.int .u64 0, Value.int .u64 0, Value.int .u64 0, Value.int .u64 0, Value.int .u64 0, Value.int .u64 0, Value.int .u64 0, Value.int .u64 0, Value.int .u64 0, Value.int .u64 0, Value.int .u64 0, Value.int .u64 0, Value.int .u64 0, Value.int .u64 0, Value.int .u64 0, Value.int .u64 0, Value.int .u64 0, Value.int .u64 0, Value.int .u64 0, Value.int .u64 0, Value.int .u64 0, Value.int .u64 0, Value.int .u64 0, Value.int .u64 0, Value.int .u64 0, Value.int .u64 0, Value.int .u64 0, Value.int .u64 0, Value.int .u64 0, Value.int .u64 0, Value.int .u64 0, Value.int .u64 0, Value.int .u64 0, Value.int .u64 0, Value.int .u64 0, Value.int .u64 0] : Array Value) = A64 64 fun _ => 0#64 := by kernel_rfl
theorem primeAt_ne (j : Nat) (h : j < 64) : primeAt j ≠ 0#64 := by
  have := prime_ne j h
  intro e
  have e2 := congrArg BitVec.toNat e
  rw [primeAt, BitVec.toNat_ofNat, Nat.mod_eq_of_lt (by omega)] at e2
  exact this.1 (by simpa using e2)
theorem rem_prime (x j : Nat) (hx : x ≤ 312) (h : j < 64) : BitVec.ofNat 64 x % primeAt j = BitVec.ofNat 64 (x % primeN j) := by
  have := prime_ne j h
  have hm : x % primeN j ≤ x := Nat.mod_le _ _
  apply BitVec.eq_of_toNat_eq
  rw [BitVec.toNat_umod, primeAt, BitVec.toNat_ofNat, BitVec.toNat_ofNat, BitVec.toNat_ofNat, Nat.mod_eq_of_lt (show x < 2 ^ 64 by omega), Nat.mod_eq_of_lt (show primeN j < 2 ^ 64 by omega), Nat.mod_eq_of_lt (show x % primeN j < 2 ^ 64 by omega)]
theorem rem_prime_beq (x j : Nat) (hx : x ≤ 312) (h : j < 64) (hd : ¬ x % primeN j = 0) : (BitVec.ofNat 64 x % primeAt j == 0#64) = false := by
  have hm : x % primeN j ≤ x := Nat.mod_le _ _
  rw [rem_prime x j hx h, beq_eq_false_iff_ne]
  intro e
  have e2 := congrArg BitVec.toNat e
  rw [BitVec.toNat_ofNat, Nat.mod_eq_of_lt (show x % primeN j < 2 ^ 64 by omega)] at e2
  exact hd (by simpa using e2)
theorem hasDiv_yes {x n j : Nat} (hj : j < n) (hd : x % primeN j = 0) : hasDiv x n = true := by
  rw [hasDiv, List.any_eq_true]
  exact ⟨j, by simpa using hj, by simpa using hd⟩
theorem hasDiv_no {x n : Nat} (h : ∀ i, i < n → x % primeN i ≠ 0) : hasDiv x n = false := by
  rw [hasDiv, List.any_eq_false]
  intro i hi
  simpa using h i (by simpa using hi)
theorem intOf_x (x : Nat) (h : x ≤ 312) : intOf (U64 (BitVec.ofNat 64 x)) = x := by
  show (((BitVec.ofNat 64 x).toNat : Nat) : Int) = x
  rw [BitVec.toNat_ofNat, Nat.mod_eq_of_lt (by omega)]
theorem size160 : (Tryd.prog.info? 160).map (·.size) = some 64 := by kernel_rfl

set_option maxRecDepth 20000 in
set_option maxHeartbeats 1000000 in
theorem primes_any (w : World) :
    Calls Tryd.prog 105 #[] w fun e w' => e = .returned (.agg (A64 64 primeAt)) ∧ Below w.heap.size w w' := by
  go_enter Tryd.func105, Tryd.ntmps105
  go_wp2_with fail
  go_step3
  go_wp2_with fail
  go_step3
  go_wp2_with fail
  go_loopw [1, 2] (fun s1 s2 W => ∃ x : Nat, 2 ≤ x ∧ x ≤ 312 ∧ s1 = .int .i64 (cnt x : Int) ∧ s2 = U64 (BitVec.ofNat 64 x) ∧ Blk W w.heap.size (A64 64 fun i => if i < cnt x then primeAt i else 0#64) 160 ∧ Below w.heap.size w W) (fun _ s2 _ => 312 - (intOf s2).toNat)
  case atStart => exact ⟨2, by omega, by omega, rfl, rfl, Blk.new _ _ _, (Below.refl _ _).alloc (Nat.le_refl _) _⟩
  case round =>
    obtain ⟨x, hx2, hx, rfl, rfl, hb, hB⟩ := hrel
    by_cases hlt : x < 312
    · obtain ⟨hn, hnext⟩ := cnt_facts x hlt hx2
      have HN := hide hnext; clear hnext
      obtain ⟨n, hne⟩ : ∃ n, cnt x = n := ⟨_, rfl⟩
      rw [hne] at hn hb HN ⊢
      have HNE := hide hne; clear hne
      have hn1 : (n : Int) < 64 := by omega
      have hsl := sliceAt_arr_h (P := Tryd.prog) Tryd.underlying160 Tryd.sizeOf159 ⟨w.heap.size, 0, none⟩ .i64 n (by omega)
      have hcs : ∀ j, wr.cell? ⟨w.heap.size, j, none⟩ = (A64 64 fun i => if i < n then primeAt i else 0#64)[j]? := hb.cell
      have HCS := hide hcs; clear hcs
      go_wp2_with fail
      go_loop [12] (fun s12 => ∃ j : Nat, j ≤ n ∧ s12 = .int .i64 j ∧ ∀ i, i < j → x % primeN i ≠ 0) (fun s12 => n - (intOf s12).toNat)
      case atStart => exact ⟨0, by omega, rfl, fun i hi => absurd hi (by omega)⟩
      case round =>
        obtain ⟨j, hj, rfl, hdiv⟩ := hrel
        have HD := hide hdiv; clear hdiv
        by_cases hjn : j < n
        · have hj1 : (j : Int) < (n : Int) := by omega
          have hcell : wr.cell? ⟨w.heap.size, j, none⟩ = some (U64 (primeAt j)) := by rw [HCS.out, A64.get _ (by omega), if_pos hjn]
          have hpr : primeAt j ≠ 0#64 := primeAt_ne j (by omega)
          by_cases hd : x % primeN j = 0
          · have hbit : (BitVec.ofNat 64 x % primeAt j == 0#64) = true := by rw [rem_prime x j (by omega) (by omega), hd]; rfl
            go_wp2_with fail
            have hc1 : cnt (x + 1) = n := by have h := HN.out; rw [if_pos (hasDiv_yes hjn hd)] at h; exact h
            refine ⟨⟨x + 1, by omega, by omega, by rw [hc1], by rw [BitVec.ofNat_add], by rw [hc1]; exact hb, hB⟩, ?_⟩
            rw [← BitVec.ofNat_add, intOf_x _ (by omega), intOf_x _ (by omega)]; omega
          · have hbit : (BitVec.ofNat 64 x % primeAt j == 0#64) = false := by
              exact rem_prime_beq x j (by omega) (by omega) hd
            go_wp2_with fail
            refine ⟨⟨j + 1, by omega, by go_num, fun i hi => ?_⟩, by simp [intOf]; omega⟩
            by_cases e : i = j
            · subst e; exact hd
            · exact HD.out i (by omega)
        · have hj1 : ¬ (j : Int) < (n : Int) := by omega
          have hno : hasDiv x n = false := hasDiv_no fun i hi => HD.out i (by omega)
          have hcell : wr.cell? ⟨w.heap.size, n, none⟩ = some (U64 0#64) := by rw [HCS.out, A64.get _ (by omega), if_neg (by omega)]
          have hf := hb.free n
          have HNO := hide hno; clear hno
          go_wp2_with fail
          have h := HN.out
          rw [if_neg (by rw [HNO.out]; decide)] at h
          have hb' := hb.set n (U64 (primeAt n))
          rw [A64.step] at hb'
          have hpx : primeAt n = BitVec.ofNat 64 x := by rw [primeAt, h.1]
          rw [hpx] at hb'
          refine ⟨⟨x + 1, by omega, by omega, by rw [h.2]; go_num, by rw [BitVec.ofNat_add], by rw [h.2]; exact hb', hB.setCell (p := ⟨w.heap.size, n, none⟩) (Nat.le_refl _) _⟩, ?_⟩
          rw [← BitVec.ofNat_add, intOf_x _ (by omega), intOf_x _ (by omega)]; omega
    · obtain rfl : x = 312 := by omega
      rw [cnt_top] at hb ⊢
      go_wp2_with (first | (refine wp_loadRow rfl 160 _ rfl _ rfl hb Tryd.underlying160 rfl size160 (A64.size _ _) ?_) | (refine wp_storeRow rfl 160 _ _ rfl _ rfl rfl hb size160 (A64.size _ _) (A64.size _ _) (A64.one _) rfl ?_; intro W1 hu hb1))
      rw [Exit.noGoto_ret]
      refine ret_row rfl w.heap.size rfl hb1 Tryd.underlying160 rfl size160 (A64.size _ _) rfl ⟨?_, hu.below hB (Nat.le_refl _)⟩
      rw [A64.ext (fill_all _ _)]
end Go.Proofs.YtdpgebifeaakjaaDoor

/- The walks of bits.Len and bits.TrailingZeros: after the library's own contracts, at this program. -/
import Derived.Test.YtdpgebifeaakjaaDoorK2
import Derived.Shelf.Strconv.Itoa0
import Derived.Shelf.Spec.TrailingZeros
namespace Go.Proofs.YtdpgebifeaakjaaDoor
set_option linter.unusedSimpArgs false
set_option linter.unusedVariables false
open Go.RowKit

theorem len8_at (k : Nat) (h : k < Lib.len8tab.size) : (Lib.len8tab[k]).toNat = Lib.bitLen k ∧ Lib.bitLen k ≤ 8 := by
  have h' : k < 256 := by rw [Lib.len8tab_size] at h; exact h
  have e := Lib.len8_of (k : Int) (by omega) (by omega)
  rw [Lib.len8, Int.toNat_natCast, getElem?_pos Lib.len8tab k h, Option.getD_some] at e
  exact ⟨Int.ofNat.inj e, Lib.bitLen_le8 ⟨k, h'⟩⟩

theorem lt64 (n : Nat) (h : (n : Int) ≤ 18446744073709551615) : n < 2 ^ 64 := by
  have : (2:Nat) ^ 64 = 18446744073709551616 := rfl
  omega
theorem d1 (n a : Nat) : ((n : Int) / (a : Int)).toNat = n / a := by rw [← Int.natCast_ediv, Int.toNat_natCast]
theorem d2 (n a b : Nat) : ((n : Int) / (a : Int) / (b : Int)).toNat = n / (a * b) := by
  rw [← Int.natCast_ediv, ← Int.natCast_ediv, Int.toNat_natCast, Nat.div_div_eq_div_mul]
theorem d3 (n a b c : Nat) : ((n : Int) / (a : Int) / (b : Int) / (c : Int)).toNat = n / (a * b * c) := by
  rw [← Int.natCast_ediv, ← Int.natCast_ediv, ← Int.natCast_ediv, Int.toNat_natCast, Nat.div_div_eq_div_mul, Nat.div_div_eq_div_mul, Nat.mul_assoc]
theorem wrap_sum (k b : Nat) (hk : k ≤ 56) (hb : b ≤ 8) : wrap64 ((k : Int) + wrap64 (b : Int)) = ((k + b : Nat) : Int) := by
  have e1 : wrap64 (b : Int) = b := by unfold wrap64; omega
  rw [e1]
  unfold wrap64; omega
theorem len_fin (k q n : Nat) (m : Nat) (e : m = n / q) (h : m < Lib.len8tab.size) (hq : q = 2 ^ k) (hk : k ≤ 56) (hn : n < 2 ^ 64) (hge : q ≤ n) :
    wrap64 ((k : Int) + wrap64 ((Lib.len8tab[m]'h).toNat : Int)) = (Lib.bitLen n : Int) := by
  obtain ⟨l1, l2⟩ := len8_at m h
  rw [l1, wrap_sum k _ hk l2, Lib.bitLen_shift k n (hq ▸ hge) hn, e, hq]
theorem len_fin0 (n m : Nat) (e : m = n) (h : m < Lib.len8tab.size) :
    wrap64 (wrap64 ((Lib.len8tab[m]'h).toNat : Int)) = (Lib.bitLen n : Int) := by
  subst e
  obtain ⟨l1, l2⟩ := len8_at m h
  rw [l1]
  have e1 : wrap64 (Lib.bitLen m : Int) = Lib.bitLen m := by unfold wrap64; omega
  rw [e1, e1]

set_option maxHeartbeats 4000000 in
set_option maxRecDepth 100000 in
theorem len64_any (x : Int) (w : World) (h0 : 0 ≤ x) (h1 : x ≤ 18446744073709551615) :
    Calls Tryd.prog 121 #[.int .u64 x] w fun e w' => e = .returned (.int .i64 (Lib.bitLen x.toNat)) ∧ w' = w := by
  have t9 := Tryd.underlying9
  have hz := Lib.len8tab_size
  go_enter Tryd.func121, Tryd.ntmps121
  go_wp2
  all_goals (go_ret; refine ⟨congrArg Ending.returned (congrArg (Value.int IntKind.i64) ?_), rfl⟩)
  all_goals obtain ⟨n, rfl⟩ : ∃ n : Nat, x = n := ⟨x.toNat, by omega⟩
  all_goals have h1' : n < 2 ^ 64 := lt64 n h1
  · exact len_fin 56 72057594037927936 n _ (d3 n 4294967296 65536 256) _ rfl (by decide) h1' (by omega)
  · exact len_fin 48 281474976710656 n _ (d2 n 4294967296 65536) _ rfl (by decide) h1' (by omega)
  · exact len_fin 40 1099511627776 n _ (d2 n 4294967296 256) _ rfl (by decide) h1' (by omega)
  · exact len_fin 32 4294967296 n _ (d1 n 4294967296) _ rfl (by decide) h1' (by omega)
  · exact len_fin 24 16777216 n _ (d2 n 65536 256) _ rfl (by decide) h1' (by omega)
  · exact len_fin 16 65536 n _ (d1 n 65536) _ rfl (by decide) h1' (by omega)
  · exact len_fin 8 256 n _ (d1 n 256) _ rfl (by decide) h1' (by omega)
  · exact len_fin0 n _ (Int.toNat_natCast n) _

set_option maxHeartbeats 4000000 in
set_option maxRecDepth 100000 in
theorem len_any (x : Int) (w : World) (h0 : 0 ≤ x) (h1 : x ≤ 18446744073709551615) :
    Calls Tryd.prog 98 #[.int .u64 x] w fun e w' => e = .returned (.int .i64 (Lib.bitLen x.toNat)) ∧ w' = w := by
  have c := len64_any x w h0 h1
  have hw : IntKind.u64.wrap x = x := by rw [IntKind.wrap_u64]; omega
  go_enter Tryd.func98, Tryd.ntmps98
  go_wp2_with (go_at_call 121; refine c.mono ?_; rintro e w' ⟨rfl, hw'⟩; rw [hw'])
  go_ret
  exact ⟨rfl, rfl⟩
end Go.Proofs.YtdpgebifeaakjaaDoor

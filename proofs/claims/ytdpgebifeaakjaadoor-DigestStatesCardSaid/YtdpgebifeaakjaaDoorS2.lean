/- The walks of the SHA functions: the root; the first primes. -/
import Derived.Test.YtdpgebifeaakjaaDoorS1
namespace Go.Proofs.YtdpgebifeaakjaaDoor
set_option linter.unusedSimpArgs false
set_option linter.unusedVariables false
open Go.RowKit

set_option maxRecDepth 20000 in
set_option maxHeartbeats 400000 in
theorem root_square (gb : Nat) (x limit : BitVec 64) (hg : floatToIntVal .f64 gb .u64 = some (n64 x)) (ha : aboveB (mulHi x x) (x * x) limit = false) (hb : aboveB (mulHi (x + 1#64) (x + 1#64)) ((x + 1#64) * (x + 1#64)) limit = true) (w : World) :
    Calls Tryd.prog 106 #[.float .f64 gb, U64 limit, .func (.func 108) #[] #[]] w fun e w' => e = .returned (U32 (x.setWidth 32)) ∧ Below w.heap.size w w' := by
  have HA := hide ha; have HB := hide hb; clear ha hb
  have hmf : ∀ (fn : Fn) (first cap : Array Value) (w : World), (Instr.makeFunc fn first cap).run Tryd.prog w = .ok (.func fn first cap) w := fun _ _ _ _ => rfl
  have hcv := fun w : World => run_convert_float_int (P := Tryd.prog) w 163 159 .f64 .u64 gb _ (by rw [Tryd.underlying163]; rfl) Tryd.underlying159 hg
  clear hg
  have hc1 := (Blk.new (w.alloc (.cells #[U64 limit] 159)) #[.func (.func 108) #[] #[]] 165).cell 0
  have hc2 := ((Blk.new w #[U64 limit] 159).alloc (.cells #[.func (.func 108) #[] #[]] 165)).cell 0
  rw [World.size_alloc] at hc1
  have hB : Below w.heap.size w ((w.alloc (.cells #[U64 limit] 159)).alloc (.cells #[.func (.func 108) #[] #[]] 165)) := ((Below.refl _ _).alloc (Nat.le_refl _) _).alloc (by simp) _
  have HC1 := hide hc1; have HC2 := hide hc2; clear hc1 hc2
  go_enter Tryd.func106, Tryd.ntmps106
  go_wp2_with fail
  go_loop [8] (fun s8 => s8 = U64 x) (fun _ => 0)
  case atStart => rfl
  case round =>
    obtain rfl := hrel
    go_wp2_with (go_at_call 124; refine (root1_square x limit _ _ _ HC1.out HC2.out).mono ?_; rintro e w' ⟨rfl, rfl⟩; rw [HA.out])
    go_loop [8] (fun s8 => s8 = U64 x) (fun _ => 0)
    case atStart => rfl
    case round =>
      obtain rfl := hrel
      go_wp2_with (go_at_call 124; refine (root1_square (x + 1#64) limit _ _ _ HC1.out HC2.out).mono ?_; rintro e w' ⟨rfl, rfl⟩; rw [HB.out])
      go_ret
      exact ⟨rfl, hB⟩

set_option maxRecDepth 20000 in
set_option maxHeartbeats 400000 in
theorem root_cube (gb : Nat) (x limit : BitVec 64) (hg : floatToIntVal .f64 gb .u64 = some (n64 x)) (ha : aboveB (cubeHi x) (x * x * x) limit = false) (hb : aboveB (cubeHi (x + 1#64)) ((x + 1#64) * (x + 1#64) * (x + 1#64)) limit = true) (w : World) :
    Calls Tryd.prog 106 #[.float .f64 gb, U64 limit, .func (.func 110) #[] #[]] w fun e w' => e = .returned (U32 (x.setWidth 32)) ∧ Below w.heap.size w w' := by
  have HA := hide ha; have HB := hide hb; clear ha hb
  have hmf : ∀ (fn : Fn) (first cap : Array Value) (w : World), (Instr.makeFunc fn first cap).run Tryd.prog w = .ok (.func fn first cap) w := fun _ _ _ _ => rfl
  have hcv := fun w : World => run_convert_float_int (P := Tryd.prog) w 163 159 .f64 .u64 gb _ (by rw [Tryd.underlying163]; rfl) Tryd.underlying159 hg
  clear hg
  have hc1 := (Blk.new (w.alloc (.cells #[U64 limit] 159)) #[.func (.func 110) #[] #[]] 165).cell 0
  have hc2 := ((Blk.new w #[U64 limit] 159).alloc (.cells #[.func (.func 110) #[] #[]] 165)).cell 0
  rw [World.size_alloc] at hc1
  have hB : Below w.heap.size w ((w.alloc (.cells #[U64 limit] 159)).alloc (.cells #[.func (.func 110) #[] #[]] 165)) := ((Below.refl _ _).alloc (Nat.le_refl _) _).alloc (by simp) _
  have HC1 := hide hc1; have HC2 := hide hc2; clear hc1 hc2
  go_enter Tryd.func106, Tryd.ntmps106
  go_wp2_with fail
  go_loop [8] (fun s8 => s8 = U64 x) (fun _ => 0)
  case atStart => rfl
  case round =>
    obtain rfl := hrel
    go_wp2_with (go_at_call 124; refine (root1_cube x limit _ _ _ HC1.out HC2.out).mono ?_; rintro e w' ⟨rfl, rfl⟩; rw [HA.out])
    go_loop [8] (fun s8 => s8 = U64 x) (fun _ => 0)
    case atStart => rfl
    case round =>
      obtain rfl := hrel
      go_wp2_with (go_at_call 124; refine (root1_cube (x + 1#64) limit _ _ _ HC1.out HC2.out).mono ?_; rintro e w' ⟨rfl, rfl⟩; rw [HB.out])
      go_ret
      exact ⟨rfl, hB⟩


end Go.Proofs.YtdpgebifeaakjaaDoor

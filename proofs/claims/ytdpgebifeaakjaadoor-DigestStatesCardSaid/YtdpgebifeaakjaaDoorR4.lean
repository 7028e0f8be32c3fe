/- Cover's refusals; the walk of Blocks. -/
import Derived.Test.YtdpgebifeaakjaaDoorR3
import Derived.BigQuiet
import Derived.Laws.StructEq
import Derived.Deep.QuietTactic
namespace Go.Proofs.YtdpgebifeaakjaaDoor
set_option linter.unusedSimpArgs false
set_option linter.unusedVariables false
open Go.RowKit

set_option maxRecDepth 100000 in
set_option maxHeartbeats 1000000 in
theorem cover_bad (a b : Int) (h : a < 0 ∨ b < a ∨ 1099511627776 < b) (w : World) :
    Calls Tryd.prog 22 #[.int .i64 a, .int .i64 b] w fun e w' => e = .returned (.tuple #[.slice none 0 0, .int .i64 1]) ∧ Below w.heap.size w w' := by
  have hN : Boxed (w.alloc (.cells #[.slice none 0 0] 33)) w.heap.size 33 (.slice none 0 0) := Blk.new w #[.slice none 0 0] 33
  have hc := hN.cell
  have hld : (loadVar 33 ⟨w.heap.size, 0, none⟩).run Tryd.prog (w.alloc (.cells #[.slice none 0 0] 33)) = .ok (.slice none 0 0) (w.alloc (.cells #[.slice none 0 0] 33)) := by go_simp
  have hB : Below w.heap.size w (w.alloc (.cells #[.slice none 0 0] 33)) := (Below.refl _ w).alloc (Nat.le_refl _) _
  go_enter Tryd.func22, Tryd.ntmps22
  by_cases h0 : a < 0
  · clear h
    go_wp2_with fail
    exact ret_row_tmp rfl w.heap.size rfl rfl hld rfl ⟨rfl, hB⟩
  · by_cases h1 : b < a
    · clear h
      go_wp2_with fail
      exact ret_row_tmp rfl w.heap.size rfl rfl hld rfl ⟨rfl, hB⟩
    · have h2 : (1099511627776 : Int) < b := by omega
      clear h
      go_wp2_with fail
      exact ret_row_tmp rfl w.heap.size rfl rfl hld rfl ⟨rfl, hB⟩

theorem neq_block (a b c d : Int) (w : World) : (binOp .neq 106 (.agg #[.int .i64 a, .int .i64 b]) (.agg #[.int .i64 c, .int .i64 d])).run Tryd.prog w = .ok (.bool (!(a == c && b == d))) w := by
  have hf : Tryd.prog.fieldsOf 106 = #[{ name := "At", type := 3, offset := 0, embedded := false, tag := "", pkgPath := "", byteOffset := 0 }, { name := "Size", type := 3, offset := 1, embedded := false, tag := "", pkgPath := "", byteOffset := 8 }] := by
    simp [Program.fieldsOf, Tryd.underlying106]
  rw [run_neq_struct, run_equalIn_struct _ _ _ _ _ (by rw [hf]; exact Tryd.underlying106) Tryd.stoodInHeld106, hf]
  have p1 : ∀ (x y : Int) (w : World), (part 3 #[.int .i64 x, .int .i64 y] 0).run Tryd.prog w = .ok (.int .i64 x) w := fun _ _ _ => by kernel_rfl
  have p2 : ∀ (x y : Int) (w : World), (part 3 #[.int .i64 x, .int .i64 y] 1).run Tryd.prog w = .ok (.int .i64 y) w := fun _ _ _ => by kernel_rfl
  have q : ∀ (x y : Int) (w : World), (Op.equalIn 9999 3 (.int .i64 x) (.int .i64 y)).run Tryd.prog w = .ok (x == y) w := fun x y w => run_equalIn_int w 9998 3 .i64 _ x y Tryd.underlying3
  by_cases h1 : a = c
  · by_cases h2 : b = d
    · simp [Op.eqFields, p1, p2, q, h1, h2]
    · simp [Op.eqFields, p1, p2, q, h1, h2]
  · simp [Op.eqFields, p1, p2, q, h1]

theorem drewN_twice (w : World) (k n : Nat) : ∃ k', (w.drewN k).drewN n = w.drewN k' := by
  exact ⟨k + n, World.drewN_drewN w k n⟩

/-- A slice of blocks, as it lies. -/
def SlB (W : World) (u : Value) (l : List (Nat × Nat)) : Prop :=
  ∃ p c, u = .slice p l.length c ∧ ∀ j x, l[j]? = some x → ∃ g o, p = some ⟨g, o, none⟩ ∧ W.cell? ⟨g, o + j * 2, none⟩ = some (.int .i64 x.1) ∧ W.cell? ⟨g, o + j * 2 + 1, none⟩ = some (.int .i64 x.2)
set_option maxRecDepth 100000 in
set_option maxHeartbeats 1000000 in
theorem blocks_any (u v : Value) (l m : List (Nat × Nat)) (w : World) (hu : SlB w u l) (hv : SlB w v m) (hl : l.length ≤ 1099511627776) :
    Calls Tryd.prog 24 #[u, v] w fun e w' => e = .returned (.bool (decide (l = m))) ∧ ∃ k, w' = w.drewN k := by
  obtain ⟨p, c, rfl, hu⟩ := hu
  obtain ⟨q, d, rfl, hv⟩ := hv
  have HU := hide hu
  have HV := hide hv
  clear hu hv
  by_cases hlm : l.length = m.length
  · have hlm1 : (l.length : Int) = (m.length : Int) := by omega
    go_enter Tryd.func24, Tryd.ntmps24
    go_wp2_with fail
    go_loopw [5] (fun s5 W => ∃ j : Nat, j ≤ l.length ∧ s5 = .int .i64 j ∧ (∀ i, i < j → l[i]? = m[i]?) ∧ ∃ k, W = w.drewN k) (fun s5 _ => l.length - (intOf s5).toNat)
    case atStart => exact ⟨0, by omega, rfl, fun i hi => absurd hi (by omega), 0, rfl⟩
    case round =>
      obtain ⟨j, hj, rfl, hall, k, rfl⟩ := hrel
      have HALL := hide hall
      clear hall
      by_cases hjl : j < l.length
      · have hj1 : (j : Int) < (l.length : Int) := by omega
        have hj2 : (j : Int) < (m.length : Int) := by omega
        have hj3 : j < m.length := by omega
        obtain ⟨x, hx⟩ : ∃ x, l[j]? = some x := ⟨_, List.getElem?_eq_getElem hjl⟩
        obtain ⟨y, hy⟩ : ∃ y, m[j]? = some y := ⟨_, List.getElem?_eq_getElem hj3⟩
        obtain ⟨g, o, rfl, hx1, hx2⟩ := HU.out j x hx
        obtain ⟨g', o', rfl, hy1, hy2⟩ := HV.out j y hy
        have HX := hide hx
        have HY := hide hy
        clear hx hy
        go_wp2_with fail
        have hnb := neq_block x.1 x.2 y.1 y.2
        by_cases hxy : x = y
        · have hbb : (!((x.1 : Int) == (y.1 : Int) && (x.2 : Int) == (y.2 : Int))) = false := by rw [hxy]; simp
          rw [hbb] at hnb
          have HXY := hide hxy
          clear hxy hbb
          go_quiet (fail)
          have hw : ∃ k', (w.drewN k).drewN nq = w.drewN k' := drewN_twice w k nq
          obtain ⟨k', hk'⟩ := hw
          rw [hk']
          clear hk' hnb
          go_wp2_with fail
          refine ⟨⟨j + 1, by omega, by go_num, fun i hi => ?_, k', rfl⟩, by simp [intOf]; omega⟩
          by_cases e : i = j
          · rw [e, HX.out, HY.out, HXY.out]
          · exact HALL.out i (by omega)
        · have hbb : (!((x.1 : Int) == (y.1 : Int) && (x.2 : Int) == (y.2 : Int))) = true := by
            by_cases e : x.1 = y.1
            · have e2 : x.2 ≠ y.2 := fun e2 => hxy (Prod.ext e e2)
              simp [e, Int.ofNat_inj, e2]
            · simp [Int.ofNat_inj, e]
          rw [hbb] at hnb
          have hd : decide (l = m) = false := by
            rw [decide_eq_false_iff_not]
            intro e
            have h1 := HX.out
            rw [e, HY.out] at h1
            exact hxy (Option.some.inj h1).symm
          have HD := hide hd
          clear hxy hbb hd
          go_quiet (fail)
          have hw : ∃ k', (w.drewN k).drewN nq = w.drewN k' := drewN_twice w k nq
          obtain ⟨k', hk'⟩ := hw
          rw [hk']
          clear hk' hnb
          go_wp2_with fail
          go_ret
          exact ⟨by rw [HD.out]; rfl, k', rfl⟩
      · have hj1 : ¬ (j : Int) < (l.length : Int) := by omega
        have hd : decide (l = m) = true := by
          rw [decide_eq_true_iff]
          apply List.ext_getElem?
          intro i
          by_cases hi : i < j
          · exact HALL.out i hi
          · rw [List.getElem?_eq_none (by omega), List.getElem?_eq_none (by omega)]
        have HD := hide hd
        clear hd
        go_wp2_with fail
        go_ret
        exact ⟨by rw [HD.out]; rfl, k, rfl⟩
  · have hlm1 : ¬ (l.length : Int) = (m.length : Int) := by omega
    have hd : decide (l = m) = false := by
      rw [decide_eq_false_iff_not]
      exact fun e => hlm (by rw [e])
    have HD := hide hd
    clear hd
    go_enter Tryd.func24, Tryd.ntmps24
    go_wp2_with fail
    go_ret
    exact ⟨by rw [HD.out]; rfl, 0, rfl⟩
end Go.Proofs.YtdpgebifeaakjaaDoor

/- One byte appended to a slice of bytes of the call's own, whether a conversion made it or not. -/
import Derived.Test.YtdpgebifeaakjaaDoorK4
import Derived.Test.YtdpgebifeaakjaaDoorAX
import Derived.ArgAppend
namespace Go.Proofs.YtdpgebifeaakjaaDoor
set_option linter.unusedSimpArgs false
set_option linter.unusedVariables false
open Go.RowKit

/-- v is a slice of the bytes l, in a block behind base. -/
def Rw (W : World) (base : Nat) (v : Value) (l : List (BitVec 8)) : Prop :=
  ∃ g cap C fz, v = .slice (some ⟨g, 0, none⟩) l.length cap ∧ base ≤ g ∧ l.length ≤ cap ∧ W.heap[g]? = some (.cells C 5 fz) ∧ C.size = cap ∧ (fz = (0, 0) ∨ cap ≤ fz.1) ∧ ∀ j, j < l.length → C[j]? = some (U8 (l.getD j 0#8))
theorem Rw.below {W W' : World} {base : Nat} {v : Value} {l : List (BitVec 8)} (h : Rw W base v l) (hb : Below W.heap.size W W') : Rw W' base v l := by
  obtain ⟨g, cap, C, fz, h1, h2, h3, h4, h5⟩ := h
  exact ⟨g, cap, C, fz, h1, h2, h3, (hb.block g (Array.getElem?_eq_some_iff.1 h4).1).trans h4, h5⟩
theorem Rw.drew {W : World} {base : Nat} {v : Value} {l : List (BitVec 8)} (h : Rw W base v l) : Rw W.drew base v l := h
theorem Rw.alloc {W : World} {base : Nat} {v : Value} {l : List (BitVec 8)} (h : Rw W base v l) (o : Obj) : Rw (W.alloc o) base v l := h.below ((Below.refl _ _).alloc (Nat.le_refl _) o)
theorem Rw.conv (w : World) (s : ByteArray) : Rw (Lib.bytesWorld w 5 s) w.heap.size (.slice (some ⟨w.heap.size, 0, none⟩) s.size (grownCap w s.size 0 5)) (bts s) := by
  have hge := grownCap_ge w s.size 0 5
  have hz : (Lib.bytesCells w 5 s).size = grownCap w s.size 0 5 := by
    have e : s.data.size = s.size := rfl
    simp [Lib.bytesCells, e]
    omega
  refine ⟨w.heap.size, grownCap w s.size 0 5, _, _, by rw [bts_length], Nat.le_refl _, by rw [bts_length]; exact hge, Lib.bytesWorld_at_new w 5 s, hz, .inr (by rw [hz]; exact Nat.le_refl _), fun j hj => ?_⟩
  obtain ⟨C, h1, h2, h3⟩ := Byt.new w s
  rw [Lib.bytesWorld_at_new] at h1
  have h4 : C = Lib.bytesCells w 5 s := by
    have := Option.some.inj h1
    injection this with a b c
    exact a.symm
  rw [← h4, h3 j (by rw [bts_length] at hj; exact hj)]
  rfl
theorem wp_append_rw {P : Program} {ops : Array Oper} {rest : List Oper} {o : Oper} {a : Act} {w : World} {Q : Exit → Act → World → Prop} (hgd : o.guard = none)
    (s x : Operand) (t : TypeId) (hop : o.op = Op.call { callee := Callee.builtin Builtin.append, args := #[s, x], argTypes := #[t, t] })
    (ht : P.underlying t = some (.slice 5)) (hi1 : (P.info? 5).map (fun i => (i.zero, i.size, i.bytes)) = some (some (.int .u8 0), 1, 1))
    {v : Value} {base : Nat} {l : List (BitVec 8)} (hs : a.eval s = v) (hrow : Rw w base v l) (bx c : Nat) (hx : a.eval x = .slice (some ⟨bx, 0, none⟩) 1 c) {y : BitVec 8} (hy : w.cell? ⟨bx, 0, none⟩ = some (U8 y))
    (hlen : l.length ≤ 1000000) (hbase : base ≤ w.heap.size)
    (h : ∀ v' w', Rw w' base v' (l ++ [y]) → Below base w w' → wpList P ops Q rest (a.put o.dst v') w') :
    wpList P ops Q (o :: rest) a w := by
  obtain ⟨i0, hi, hz0, hz1, hz2⟩ := info_parts hi1
  obtain ⟨g, cap, C, fz, rfl, hg, hlc, hC, hCs, hfz, hcell⟩ := hrow
  have hcl : ∀ j, w.cell? ⟨g, j, none⟩ = C[j]? := fun j => by simp [World.cell?, hC]
  refine wpList_append_arg w hgd s x t hop 5 i0 (.int .u8 0) 1 1 ht hi hz0 hz1 hz2 rfl (by omega) g 0 l.length cap (l.map U8) hs (by simp) (fun j u hj => ?_) ⟨bx, 0, none⟩ 1 c [U8 y] hx rfl (fun j u hj => ?_) (by simp [Value.oneCell']) (fun hr j hj => ?_) (by unfold maxLen; omega) (by omega) (fun hr => ?_) (fun hr v' w' hown hgr => ?_)
  · rw [List.getElem?_map, Option.map_eq_some_iff] at hj
    obtain ⟨z, hz, rfl⟩ := hj
    have hjl : j < l.length := (List.getElem?_eq_some_iff.1 hz).1
    rw [Nat.zero_add, hcl, hcell j hjl, List.getD, hz]
    rfl
  · match j, hj with
    | 0, hj =>
      have hj' : U8 y = u := by simpa using hj
      subst hj'
      rw [Addr.add_zero']; exact hy
  · have hj0 : j = 0 := by simpa using hj
    subst hj0
    rw [hcl]
    refine ⟨by simp; omega, ?_⟩
    rcases hfz with rfl | hfz
    · simp [World.frozen?, hC]
    · obtain ⟨lo, hi'⟩ := fz
      simp only [World.frozen?, hC]
      have : lo ≥ cap := hfz
      simp
      omega
  · have e : w.setCells g (0 + l.length * 1) [U8 y] = w.setCell ⟨g, l.length, none⟩ (U8 y) := by
      rw [World.setCells, World.setCells, Nat.zero_add, Nat.mul_one]
    rw [e]
    refine h _ _ ⟨g, cap, C.setIfInBounds l.length (U8 y), fz, by simp, hg, by simp; omega, by simp [World.setCell, Array.getElem?_modify, hC], by simpa using hCs, hfz, fun j hj => ?_⟩ ((Below.refl base w).setCell (p := ⟨g, l.length, none⟩) hg _)
    rw [List.length_append] at hj
    rw [Array.getElem?_setIfInBounds]
    by_cases e : l.length = j
    · subst e
      rw [if_pos rfl, if_pos (by omega)]
      simp [List.getD]
    · have hj2 : j < l.length := by simp at hj; omega
      rw [if_neg e, hcell j hj2]
      simp [List.getD, List.getElem?_append_left hj2]
  · obtain ⟨hl, ⟨_, hn⟩ | ⟨g', cap', cur, rfl, hb', hh, h1, h2, h3, h4⟩⟩ := hown
    · omega
    · refine h _ _ ⟨g', cap', cur, (0, 0), by simp, by omega, by simp; omega, hh, by omega, .inl rfl, fun j hj => ?_⟩ ((Below.refl base w).grown hgr hbase (fun q e => by cases e))
      have e : (cur.toList.take ((l.length + 1) * 1))[j]? = (l.map U8 ++ [U8 y])[j]? := by rw [h4]
      rw [List.length_append] at hj
      have hj1 : j < l.length + 1 := by simpa using hj
      rw [List.getElem?_take_of_lt (by omega), Array.getElem?_toList] at e
      rw [e]
      have e3 : l.map U8 ++ [U8 y] = (l ++ [y]).map U8 := by simp
      rw [e3, List.getElem?_map, List.getD, List.getElem?_eq_getElem (by simp; omega)]
      rfl
end Go.Proofs.YtdpgebifeaakjaaDoor

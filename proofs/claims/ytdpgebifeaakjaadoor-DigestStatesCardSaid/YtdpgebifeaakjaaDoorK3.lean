/- One byte appended to a slice of the call's own, where there is room. -/
import Derived.Test.YtdpgebifeaakjaaDoorK2
import Derived.Laws.AppendOwn
namespace Go.Proofs.YtdpgebifeaakjaaDoor
set_option linter.unusedSimpArgs false
set_option linter.unusedVariables false
open Go.RowKit
/-- One element appended where there is room: the block is written in place. -/
theorem wp_append1 {P : Program} {ops : Array Oper} {rest : List Oper} {o : Oper} {a : Act} {w : World} {Q : Exit → Act → World → Prop} (hgd : o.guard = none)
    (s x : Operand) (t : TypeId) (hop : o.op = Op.call { callee := Callee.builtin Builtin.append, args := #[s, x], argTypes := #[t, t] })
    {e : TypeId} (ht : P.underlying t = some (.slice e)) (hi1 : (P.info? e).map (·.size) = some 1)
    (g n cap : Nat) (hs : a.eval s = .slice (some ⟨g, 0, none⟩) n cap) (bx c : Nat) (hx : a.eval x = .slice (some ⟨bx, 0, none⟩) 1 c)
    {N : Nat} {f : Nat → Value} (hb : Blk w g (Row N f) e) {v : Value} (hv : w.cell? ⟨bx, 0, none⟩ = some v) (h1 : v.oneCell' = true) (hcap : n + 1 ≤ cap) (hN : n + 1 ≤ N)
    (h : ∀ w', Upd g w w' → Blk w' g (Row N fun j => if j = n then v else f j) e → wpList P ops Q rest (a.put o.dst (.slice (some ⟨g, 0, none⟩) (n + 1) cap)) w') :
    wpList P ops Q (o :: rest) a w := by
  refine wpList_plain hgd fun K hK => ?_
  obtain ⟨i, hi, his⟩ := Option.map_eq_some_iff.1 hi1
  have hrun := run_append_room (P := P) w t o.type e i ht hi g n cap (Row N f) hb ⟨bx, 0, none⟩ 1 c [v] (by simp [his]) (fun j u hj => by
    match j, hj with
    | 0, hj =>
      have hj' : v = u := by simpa using hj
      subst hj'
      rw [Addr.add_zero']; exact hv) (by simpa using h1) hcap (by rw [his, Row.size]; simpa using hN)
  have hcells : (List.take (n * i.size) (Row N f).toList ++ [v] ++ List.drop (n * i.size + [v].length) (Row N f).toList).toArray = Row N fun j => if j = n then v else f j := by
    rw [his, Nat.mul_one, ← Row.set]
    apply Array.ext_getElem?
    intro j
    have hlen : (Row N f).toList.length = N := by rw [Array.length_toList, Row.size]
    rw [Array.getElem?_setIfInBounds, Row.size]
    simp only [List.getElem?_toArray, List.append_assoc, List.length_singleton]
    by_cases hj : j < n
    · rw [List.getElem?_append_left (by simp [hlen]; omega), List.getElem?_take_of_lt hj, if_neg (by omega)]
      simp
    · by_cases hjn : n = j
      · subst hjn
        rw [List.getElem?_append_right (by simp [hlen]; omega)]
        simp [hlen, show min n N = n by omega]
        omega
      · rw [if_neg hjn, List.getElem?_append_right (by simp [hlen]; omega)]
        have hm : (List.take n (Row N f).toList).length = n := by rw [List.length_take, hlen]; omega
        rw [hm, List.getElem?_append_right (by simp; omega), List.getElem?_drop]
        simp only [List.length_singleton]
        rw [show n + 1 + (j - n - 1) = j by omega]
        simp
  rw [hcells] at hrun
  unfold Oper.wp
  simp [execOp, hop, resolve, invoke, builtin, hs, hx, hrun, Result.andThen]
  exact hK _ _ (h _ (Upd.setRow w g _) (hb.setRow _))
end Go.Proofs.YtdpgebifeaakjaaDoor

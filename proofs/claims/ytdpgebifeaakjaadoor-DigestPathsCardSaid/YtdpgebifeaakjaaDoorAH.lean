/- A store at the end of a region that draws its order: one step, so that no goal stands between that Lean would look into. -/
import Derived.Test.YtdpgebifeaakjaaDoorMA
import Derived.Deep.RegionHeld
namespace Go.Proofs.YtdpgebifeaakjaaDoor
set_option linter.unusedSimpArgs false
set_option linter.unusedVariables false
open Go.RowKit

theorem allReadyH_store {P : Program} {md : Region.Mode} {ops : Array Oper} {Q : Exit → Act → World → Prop} {S : World → Prop} {fuel : Nat} {listed : Array Bool} {a : Act} {w : World} {i : Nat} {o : Oper} (ho : ops[i]? = some o) (hgd : o.guard = none)
    (ty : TypeId) (x y : Operand) (hop : o.op = .store ty x y)
    (b : Nat) (hx : a.eval x = .pointer (some ⟨b, 0, none⟩)) {C' : Array Value} (hy : a.eval y = .agg C') {t : TypeId} {C : Array Value} (hb : Blk w b C t) {n : Nat}
    (hi : (P.info? ty).map (·.size) = some n) (hn' : C'.size = n) (hn : C.size = n) (h1 : C'.all (·.oneCell') = true) (hdst : o.dst = none)
    (h : ∀ w', Upd b w w' → Blk w' b C' t → S w' ∧ (S w' → wpAnyH P md ops Q S fuel (listed.setIfInBounds i true) a w')) : AllReadyH P md ops Q S fuel listed a w [i] := by
  refine AllReadyH.cons ho (fun K hK => ?_) AllReadyH.nil
  have hw : Region.wanted o (yielded ops a.tmps) = true := by simp [Region.wanted, hgd]
  rw [if_pos hw]
  exact wpo_storeRow ty x y hop b hx hy hb hi hn' hn h1 hdst fun w' hu hk => hK.out a w' (h w' hu hk).1 (h w' hu hk).2
end Go.Proofs.YtdpgebifeaakjaaDoor

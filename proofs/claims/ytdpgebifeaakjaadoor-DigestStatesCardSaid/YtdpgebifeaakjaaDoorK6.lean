/- An array stored, as a step of a region that draws its order. -/
import Derived.Test.YtdpgebifeaakjaaDoorK5
namespace Go.Proofs.YtdpgebifeaakjaaDoor
set_option linter.unusedSimpArgs false
set_option linter.unusedVariables false
open Go.RowKit

theorem wpo_storeRow {P : Program} {o : Oper} {a : Act} {w : World} {K : Act → World → Prop} {Q : Exit → Act → World → Prop} (ty : TypeId) (x y : Operand) (ho : o.op = .store ty x y)
    (b : Nat) (hx : a.eval x = .pointer (some ⟨b, 0, none⟩)) {C' : Array Value} (hy : a.eval y = .agg C') {t : TypeId} {C : Array Value} (hb : Blk w b C t) {n : Nat}
    (hi : (P.info? ty).map (·.size) = some n) (hn' : C'.size = n) (hn : C.size = n) (h1 : C'.all (·.oneCell') = true) (hdst : o.dst = none)
    (h : ∀ w', Upd b w w' → Blk w' b C' t → K a w') : Oper.wp P o a w K Q := by
  have hrun := run_storeVar_row (P := P) w b t ty C C' hb (hn' ▸ hi) (hn.trans hn'.symm) h1
  unfold Oper.wp execOp
  simp only [ho, hx, hy, Instr.storeAt, Instr.sureAddr, Sem.run_bind, Sem.run_pure, Result.andThen_ok, hrun]
  have h2 := h _ (Upd.setRow w b C') (hb.setRow C')
  simpa [go_sem, Oper.upon, hdst, Act.put] using h2
end Go.Proofs.YtdpgebifeaakjaaDoor

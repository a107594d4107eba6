/- append at a step of a region that draws, from its run. -/
import Derived.Test.YthbiohfnnjbbgaaLists
import Derived.Deep.RegionLaw
namespace Go.Proofs.Ythbiohfnnjbbgaa
set_option linter.unusedVariables false
set_option linter.unusedSimpArgs false
open Go Go.RowKit
theorem step_appX {P : Program} {ops : Array Oper} {o : Oper} {a : Act} {w : World} {K : Act → World → Prop} {Q : Exit → Act → World → Prop} {G : Prop} (hgd : o.guard = none) {so xo : Operand} {t : TypeId}
    (ho : o.op = .call { callee := .builtin .append, args := #[so, xo], argTypes := #[t, t] }) {v s : Value} (hv : a.eval so = v) (hs : a.eval xo = s) {H : Value → World → Prop}
    (h : ∃ r w', (Builtin.append_ #[t, t] o.type #[v, s]).run P w = .ok r w' ∧ H r w') (hK : ∀ r w', H r w' → K (a.put o.dst r) w') :
    if Region.wanted o (yielded ops a.tmps) = true then Oper.wp P o a w K Q else G := by
  have hw : Region.wanted o (yielded ops a.tmps) = true := by simp [Region.wanted, hgd]
  rw [if_pos hw]
  obtain ⟨r, w', hrun, hH⟩ := h
  unfold Oper.wp execOp
  simp only [ho, resolve, invoke, builtin, Sem.run_bind, Sem.run_pure, Result.andThen_ok, List.map_toArray, List.map_cons, List.map_nil, hv, hs, hrun]
  exact hK r w' hH
end Go.Proofs.Ythbiohfnnjbbgaa

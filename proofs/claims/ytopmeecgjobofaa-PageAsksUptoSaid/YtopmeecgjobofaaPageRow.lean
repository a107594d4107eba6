/- What came in as a page. -/
import Derived.Test.YtopmeecgjobofaaMergeP
namespace Go.Proofs.Ytopmeecgjobofaa
set_option linter.unusedVariables false
set_option linter.unusedSimpArgs false
open Go Go.RowKit
def Pa.p (x : Pa) : Pg := ⟨x.leaf, x.low, x.high, x.right, x.list.l⟩
theorem pa_rl {W : World} {B : Option Nat} {x : Pa} (h : Pa.Ok W B x) : Rl En.enc 4 W (Sl.v x.list) x.p.list := Rl.of_rd h.2.2.2.2.1 h.2.2.2.2.2.2.1
theorem pa_fits {W : World} {x : Pa} (h : Pa.Ok W (some 1048576) x) : Fits x.p ∧ x.p.list.length ≤ 1048576 := by
  have h1 : x.p.list.length ≤ 1048576 := h.2.2.2.2.2.2.2.2 1048576 rfl
  exact ⟨⟨by omega, fun e he => by have := (h.2.2.2.2.2.1 e he).1.2 1048576 rfl; omega⟩, h1⟩
theorem en_env (e : En) : Value.agg (En.enc e).toArray = env e := rfl
end Go.Proofs.Ytopmeecgjobofaa

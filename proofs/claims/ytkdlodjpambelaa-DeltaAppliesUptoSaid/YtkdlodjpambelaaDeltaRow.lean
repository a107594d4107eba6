/- What came in as a page, as a delta, as deltas. -/
import Derived.Test.YtkdlodjpambelaaTypesPage
import Derived.Test.YtkdlodjpambelaaDeltaF
namespace Go.Proofs.Ytkdlodjpambelaa
set_option linter.unusedVariables false
set_option linter.unusedSimpArgs false
open Go Go.RowKit
def Pa.p (x : Pa) : Pg := ⟨x.leaf, x.low, x.high, x.right, x.list.l⟩
theorem pa_rl {W : World} {B : Option Nat} {x : Pa} (h : Pa.Ok W B x) : Rl En.enc 4 W (Sl.v x.list) x.p.list := Rl.of_rd h.2.2.2.2.1 h.2.2.2.2.2.2.1
theorem pa_len {W : World} {x : Pa} (h : Pa.Ok W (some 1048576) x) : x.p.list.length ≤ 1048576 := h.2.2.2.2.2.2.2.2 1048576 rfl
def De.d (x : De) : Dl := ⟨x.kind, x.entry, x.key, x.page, x.right.p⟩
theorem de_rl {W : World} {B : Option Nat} {x : De} (h : De.Ok W B x) : Rl En.enc 4 W (Sl.v x.right.list) x.d.right.list := pa_rl h.2.2.2.2
theorem de_len {W : World} {x : De} (h : De.Ok W (some 1048576) x) : x.d.right.list.length ≤ 1048576 := pa_len h.2.2.2.2
theorem de_dlv (x : De) : Value.agg (De.enc x).toArray = dlv x.d (Sl.v x.right.list) := rfl
end Go.Proofs.Ytkdlodjpambelaa

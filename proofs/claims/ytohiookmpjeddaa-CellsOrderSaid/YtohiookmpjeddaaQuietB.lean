/- Regions that draw their order, read, and call what may lay blocks of its own: walked once. -/
import Derived.Test.YtohiookmpjeddaaHeap
import Derived.Lib.QuietBelow
import Derived.BigQuiet
namespace Go.Proofs.Ytohiookmpjeddaa
open Go Go.RowKit Go.Sort
theorem kn_regrown (w : World) (d : Nat) (os : Array Obj) : KN w (grow (redrawn w d) os) :=
  let h := below_regrown w d os; ⟨h.os, h.tape, h.output, h.size, fun k hk _ => h.block k hk⟩
theorem quiet_kn {P : Program} {f : FuncId} {args : Array Value} {w : World} {d : Nat} {os : Array Obj} {v : Value}
    (h : Calls P f args (grow (redrawn w d) os) fun e w' => e = .returned v ∧ KN (grow (redrawn w d) os) w') : Calls P f args (grow (redrawn w d) os) fun e w'' => e = .returned v ∧ ∃ p : Regrown, w'' = grow (redrawn w p.d) p.os :=
  Calls.regrown_of (h.mono fun _ _ ⟨he, hk⟩ => ⟨he, hk.bel⟩)
theorem quiet_same {P : Program} {f : FuncId} {args : Array Value} {w : World} {d : Nat} {os : Array Obj} {v : Value}
    (h : Calls P f args (grow (redrawn w d) os) fun e w' => e = .returned v ∧ grow (redrawn w d) os = w') : Calls P f args (grow (redrawn w d) os) fun e w'' => e = .returned v ∧ ∃ p : Regrown, w'' = grow (redrawn w p.d) p.os :=
  h.mono fun _ _ ⟨he, hk⟩ => ⟨he, ⟨d, os⟩, hk.symm⟩
end Go.Proofs.Ytohiookmpjeddaa

/-
  No cell of these rows narrows 'for every input' (looked for: loops, veiled, ifaces, maps, wideKeys, modest, calm, conditions, laid).
  DERIVED. THE GIVEN ROWS OF THIS SEAT. 5 by the template 'for every input the law returns true; each argument reads behind the call as it read before'; 0 by the template 'total and deterministic' (their statements: YtohiookmpjeddaaTotals.lean).
  GIVEN WITH THE SEED: the statements are not yours to turn. If you find one false, say at which input.
  Laid BY PROGRAM, IN A SANDBOX (cutbox-rows.mjs): the forced cells as the released guide's own fill.sh prints them over the translation f942fb6bf61e1607… (all of the seat's roots in one cut). By AI agents, Wed Nov 11 2026. No macro, syntax, notation, axiom, sorry.
-/
import Derived.Test.YtohiookmpjeddaaChecked
import GoSem.Claim
import GoSem.ClaimJoined
import GoSem.ClaimMapViews
import Derived.JoinedTies
import Derived.KernelRfl
namespace Go.Proofs.Ytohiookmpjeddaa
/- THE CELL 'sum', in the pinned program and in every row, IS THE sha256 OF THE DUMP (.gsa) THAT YtohiookmpjeddaaProg.lean LOADS. Nothing in Lean hashes anything: it is a label: what it is worth is what the hold of that sum in a sandbox is worth. -/
noncomputable def Try.pinned : Pinned := { name := "ytohiookmpjeddaa", sum := "f942fb6bf61e160789b6c7cab7bceb435f8de5105af9e64a4de02b1d7f47fca4", checked := Try.checked }
namespace Rows
def none {H : Type} : Left H := { results := [], args := [] }

/-- 'cressetlaw08.CellsOnce': WHATEVER THE INPUT: true; the input reads as it did. -/
def cellsOnceSpec : ChangeSpec := { name := "cellsOnce", fn := fun _ => fun
  | [d1, d2] => { results := [.lit (.bool true)], args := [d1, d2] }
  | _ => none }
def cellsOnceRow : OpenClaim := { program := "ytohiookmpjeddaa", sum := "f942fb6bf61e160789b6c7cab7bceb435f8de5105af9e64a4de02b1d7f47fca4", func := "cresset/cressetlaw08.CellsOnce", spec := "cellsOnce", apart := false }
def CellsOnceSaid : Prop := cellsOnceRow.holds Try.pinned (OpenSpec.ofChange cellsOnceSpec)

/-- ITS FALSE NEIGHBOUR: 'it returns false'. Refute it at one input. -/
def cellsOnceWrong : ChangeSpec := { name := "cellsOnce", fn := fun _ => fun
  | [d1, d2] => { results := [.lit (.bool false)], args := [d1, d2] }
  | _ => none }
def CellsOnceWrongFalsely : Prop := cellsOnceRow.holds Try.pinned (OpenSpec.ofChange cellsOnceWrong)

/-- 'cressetlaw08.CellsSwap': WHATEVER THE INPUT: true; the input reads as it did. -/
def cellsSwapSpec : ChangeSpec := { name := "cellsSwap", fn := fun _ => fun
  | [d1, d2] => { results := [.lit (.bool true)], args := [d1, d2] }
  | _ => none }
def cellsSwapRow : OpenClaim := { program := "ytohiookmpjeddaa", sum := "f942fb6bf61e160789b6c7cab7bceb435f8de5105af9e64a4de02b1d7f47fca4", func := "cresset/cressetlaw08.CellsSwap", spec := "cellsSwap", apart := false }
def CellsSwapSaid : Prop := cellsSwapRow.holds Try.pinned (OpenSpec.ofChange cellsSwapSpec)

/-- ITS FALSE NEIGHBOUR: 'it returns false'. Refute it at one input. -/
def cellsSwapWrong : ChangeSpec := { name := "cellsSwap", fn := fun _ => fun
  | [d1, d2] => { results := [.lit (.bool false)], args := [d1, d2] }
  | _ => none }
def CellsSwapWrongFalsely : Prop := cellsSwapRow.holds Try.pinned (OpenSpec.ofChange cellsSwapWrong)

/-- 'cressetlaw08.CellsBox': WHATEVER THE INPUT: true; the input reads as it did. -/
def cellsBoxSpec : ChangeSpec := { name := "cellsBox", fn := fun _ => fun
  | [d1, d2] => { results := [.lit (.bool true)], args := [d1, d2] }
  | _ => none }
def cellsBoxRow : OpenClaim := { program := "ytohiookmpjeddaa", sum := "f942fb6bf61e160789b6c7cab7bceb435f8de5105af9e64a4de02b1d7f47fca4", func := "cresset/cressetlaw08.CellsBox", spec := "cellsBox", apart := false }
def CellsBoxSaid : Prop := cellsBoxRow.holds Try.pinned (OpenSpec.ofChange cellsBoxSpec)

/-- ITS FALSE NEIGHBOUR: 'it returns false'. Refute it at one input. -/
def cellsBoxWrong : ChangeSpec := { name := "cellsBox", fn := fun _ => fun
  | [d1, d2] => { results := [.lit (.bool false)], args := [d1, d2] }
  | _ => none }
def CellsBoxWrongFalsely : Prop := cellsBoxRow.holds Try.pinned (OpenSpec.ofChange cellsBoxWrong)

/-- 'cressetlaw08.CellsOrder': WHATEVER THE INPUT: true; the input reads as it did. -/
def cellsOrderSpec : ChangeSpec := { name := "cellsOrder", fn := fun _ => fun
  | [d1, d2] => { results := [.lit (.bool true)], args := [d1, d2] }
  | _ => none }
def cellsOrderRow : OpenClaim := { program := "ytohiookmpjeddaa", sum := "f942fb6bf61e160789b6c7cab7bceb435f8de5105af9e64a4de02b1d7f47fca4", func := "cresset/cressetlaw08.CellsOrder", spec := "cellsOrder", apart := false }
def CellsOrderSaid : Prop := cellsOrderRow.holds Try.pinned (OpenSpec.ofChange cellsOrderSpec)

/-- ITS FALSE NEIGHBOUR: 'it returns false'. Refute it at one input. -/
def cellsOrderWrong : ChangeSpec := { name := "cellsOrder", fn := fun _ => fun
  | [d1, d2] => { results := [.lit (.bool false)], args := [d1, d2] }
  | _ => none }
def CellsOrderWrongFalsely : Prop := cellsOrderRow.holds Try.pinned (OpenSpec.ofChange cellsOrderWrong)

/-- 'cressetlaw08.CellsNone': WHATEVER THE INPUT: true; the input reads as it did. -/
def cellsNoneSpec : ChangeSpec := { name := "cellsNone", fn := fun _ => fun
  | [d] => { results := [.lit (.bool true)], args := [d] }
  | _ => none }
def cellsNoneRow : OpenClaim := { program := "ytohiookmpjeddaa", sum := "f942fb6bf61e160789b6c7cab7bceb435f8de5105af9e64a4de02b1d7f47fca4", func := "cresset/cressetlaw08.CellsNone", spec := "cellsNone", apart := false }
def CellsNoneSaid : Prop := cellsNoneRow.holds Try.pinned (OpenSpec.ofChange cellsNoneSpec)

/-- ITS FALSE NEIGHBOUR: 'it returns false'. Refute it at one input. -/
def cellsNoneWrong : ChangeSpec := { name := "cellsNone", fn := fun _ => fun
  | [d] => { results := [.lit (.bool false)], args := [d] }
  | _ => none }
def CellsNoneWrongFalsely : Prop := cellsNoneRow.holds Try.pinned (OpenSpec.ofChange cellsNoneWrong)

/- THE SECOND FORM. 'bulk': how many values and letters a reading holds, each counted each time it is reached (what is shared counts as often as it is met; a slice's spare places count too). A statement '..UptoSaid' is the law's where the arguments, and the package variables that the reading takes, are together of bulk at most 1048576: NARROWER than '..Said'. Prove '..Said' where nothing that the law and all that it calls make is longer than what came in: it says more and counts as full. Else prove '..UptoSaid'. A law counts once. -/
mutual
def uptoBulk {H : Type} : DataW H → Nat
  | .lit (.string bytes) => bytes.length + 1
  | .lit _ => 1
  | .nil => 1
  | .ptr d => uptoBulk d + 1
  | .slice elems spare => uptoBulkAll elems + uptoBulkAll spare + 1
  | .agg parts => uptoBulkAll parts + 1
  | .iface _ d => uptoBulk d + 1
  | .map entries => uptoBulkEntries entries + 1
  | .held _ => 1
def uptoBulkAll {H : Type} : List (DataW H) → Nat
  | [] => 0
  | d :: r => uptoBulk d + uptoBulkAll r
def uptoBulkEntries {H : Type} : List (Lit × DataW H) → Nat
  | [] => 0
  | x :: r => uptoBulkEntry x + uptoBulkEntries r
def uptoBulkEntry {H : Type} : Lit × DataW H → Nat
  | (.string bytes, d) => bytes.length + uptoBulk d + 1
  | (_, d) => uptoBulk d + 1
 end
def uptoSmall : (H : Type) → List (DataW H) → Bool := fun _ ds => decide (uptoBulkAll ds ≤ 1048576)
def OpenSpec.upto (s : _root_.Go.ChangeSpec) : _root_.Go.OpenSpec := { _root_.Go.OpenSpec.ofChange s with cond := some uptoSmall }

/-- 'cressetlaw08.CellsOnce', WHERE WHAT IT READS IS OF BULK AT MOST 1048576: true; the input reads as it did. -/
def cellsOnceUptoRow : OpenClaim := { program := "ytohiookmpjeddaa", sum := "f942fb6bf61e160789b6c7cab7bceb435f8de5105af9e64a4de02b1d7f47fca4", func := "cresset/cressetlaw08.CellsOnce", spec := "cellsOnce", apart := false, narrowed := true }
def CellsOnceUptoSaid : Prop := cellsOnceUptoRow.holds Try.pinned (OpenSpec.upto cellsOnceSpec)

/-- 'cressetlaw08.CellsSwap', WHERE WHAT IT READS IS OF BULK AT MOST 1048576: true; the input reads as it did. -/
def cellsSwapUptoRow : OpenClaim := { program := "ytohiookmpjeddaa", sum := "f942fb6bf61e160789b6c7cab7bceb435f8de5105af9e64a4de02b1d7f47fca4", func := "cresset/cressetlaw08.CellsSwap", spec := "cellsSwap", apart := false, narrowed := true }
def CellsSwapUptoSaid : Prop := cellsSwapUptoRow.holds Try.pinned (OpenSpec.upto cellsSwapSpec)

/-- 'cressetlaw08.CellsBox', WHERE WHAT IT READS IS OF BULK AT MOST 1048576: true; the input reads as it did. -/
def cellsBoxUptoRow : OpenClaim := { program := "ytohiookmpjeddaa", sum := "f942fb6bf61e160789b6c7cab7bceb435f8de5105af9e64a4de02b1d7f47fca4", func := "cresset/cressetlaw08.CellsBox", spec := "cellsBox", apart := false, narrowed := true }
def CellsBoxUptoSaid : Prop := cellsBoxUptoRow.holds Try.pinned (OpenSpec.upto cellsBoxSpec)

/-- 'cressetlaw08.CellsOrder', WHERE WHAT IT READS IS OF BULK AT MOST 1048576: true; the input reads as it did. -/
def cellsOrderUptoRow : OpenClaim := { program := "ytohiookmpjeddaa", sum := "f942fb6bf61e160789b6c7cab7bceb435f8de5105af9e64a4de02b1d7f47fca4", func := "cresset/cressetlaw08.CellsOrder", spec := "cellsOrder", apart := false, narrowed := true }
def CellsOrderUptoSaid : Prop := cellsOrderUptoRow.holds Try.pinned (OpenSpec.upto cellsOrderSpec)

/-- 'cressetlaw08.CellsNone', WHERE WHAT IT READS IS OF BULK AT MOST 1048576: true; the input reads as it did. -/
def cellsNoneUptoRow : OpenClaim := { program := "ytohiookmpjeddaa", sum := "f942fb6bf61e160789b6c7cab7bceb435f8de5105af9e64a4de02b1d7f47fca4", func := "cresset/cressetlaw08.CellsNone", spec := "cellsNone", apart := false, narrowed := true }
def CellsNoneUptoSaid : Prop := cellsNoneUptoRow.holds Try.pinned (OpenSpec.upto cellsNoneSpec)

end Rows
end Go.Proofs.Ytohiookmpjeddaa

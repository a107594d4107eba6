/-
  No cell of these rows narrows 'for every input' (looked for: loops, veiled, ifaces, maps, wideKeys, modest, calm, conditions, laid).
  DERIVED. THE GIVEN ROWS OF THIS SEAT. 5 by the template 'for every input the law returns true; each argument reads behind the call as it read before'; 0 by the template 'total and deterministic' (their statements: YtghmgmchfcbodaaTotals.lean).
  GIVEN WITH THE SEED: the statements are not yours to turn. If you find one false, say at which input.
  Laid BY PROGRAM, IN A SANDBOX (cutbox-rows.mjs): the forced cells as the released guide's own fill.sh prints them over the translation 2e20796f6fbbf7b0… (all of the seat's roots in one cut). By AI agents, Wed Nov 11 2026. No macro, syntax, notation, axiom, sorry.
-/
import Derived.Test.YtghmgmchfcbodaaChecked
import GoSem.Claim
import GoSem.ClaimJoined
import GoSem.ClaimMapViews
import Derived.JoinedTies
import Derived.KernelRfl
namespace Go.Proofs.Ytghmgmchfcbodaa
/- THE CELL 'sum', in the pinned program and in every row, IS THE sha256 OF THE DUMP (.gsa) THAT YtghmgmchfcbodaaProg.lean LOADS. Nothing in Lean hashes anything: it is a label: what it is worth is what the hold of that sum in a sandbox is worth. -/
noncomputable def Try.pinned : Pinned := { name := "ytghmgmchfcbodaa", sum := "2e20796f6fbbf7b0d66b23a265b16177fc9049cfd5434595787546305b7a9834", checked := Try.checked }
namespace Rows
def none {H : Type} : Left H := { results := [], args := [] }

/-- 'cressetlaw06.EpochSafe': WHATEVER THE INPUT: true; the input reads as it did. -/
def epochSafeSpec : ChangeSpec := { name := "epochSafe", fn := fun _ => fun
  | [d] => { results := [.lit (.bool true)], args := [d] }
  | _ => none }
def epochSafeRow : OpenClaim := { program := "ytghmgmchfcbodaa", sum := "2e20796f6fbbf7b0d66b23a265b16177fc9049cfd5434595787546305b7a9834", func := "cresset/cressetlaw06.EpochSafe", spec := "epochSafe", inPlace := ["sync/atomic.LoadInt64", "sync/atomic.CompareAndSwapInt64", "sync/atomic.SwapInt64"], unfollowed := true, recurses := true, apart := false }
def EpochSafeSaid : Prop := epochSafeRow.holds Try.pinned (OpenSpec.ofChange epochSafeSpec)

/-- ITS FALSE NEIGHBOUR: 'it returns false'. Refute it at one input. -/
def epochSafeWrong : ChangeSpec := { name := "epochSafe", fn := fun _ => fun
  | [d] => { results := [.lit (.bool false)], args := [d] }
  | _ => none }
def EpochSafeWrongFalsely : Prop := epochSafeRow.holds Try.pinned (OpenSpec.ofChange epochSafeWrong)

/-- 'cressetlaw06.EpochAges': WHATEVER THE INPUT: true; the input reads as it did. -/
def epochAgesSpec : ChangeSpec := { name := "epochAges", fn := fun _ => fun
  | [d] => { results := [.lit (.bool true)], args := [d] }
  | _ => none }
def epochAgesRow : OpenClaim := { program := "ytghmgmchfcbodaa", sum := "2e20796f6fbbf7b0d66b23a265b16177fc9049cfd5434595787546305b7a9834", func := "cresset/cressetlaw06.EpochAges", spec := "epochAges", inPlace := ["sync/atomic.LoadInt64", "sync/atomic.CompareAndSwapInt64", "sync/atomic.SwapInt64"], unfollowed := true, recurses := true, apart := false }
def EpochAgesSaid : Prop := epochAgesRow.holds Try.pinned (OpenSpec.ofChange epochAgesSpec)

/-- ITS FALSE NEIGHBOUR: 'it returns false'. Refute it at one input. -/
def epochAgesWrong : ChangeSpec := { name := "epochAges", fn := fun _ => fun
  | [d] => { results := [.lit (.bool false)], args := [d] }
  | _ => none }
def EpochAgesWrongFalsely : Prop := epochAgesRow.holds Try.pinned (OpenSpec.ofChange epochAgesWrong)

/-- 'cressetlaw06.EpochEnds': WHATEVER THE INPUT: true; the input reads as it did. -/
def epochEndsSpec : ChangeSpec := { name := "epochEnds", fn := fun _ => fun
  | [d1, d2] => { results := [.lit (.bool true)], args := [d1, d2] }
  | _ => none }
def epochEndsRow : OpenClaim := { program := "ytghmgmchfcbodaa", sum := "2e20796f6fbbf7b0d66b23a265b16177fc9049cfd5434595787546305b7a9834", func := "cresset/cressetlaw06.EpochEnds", spec := "epochEnds", inPlace := ["sync/atomic.LoadInt64", "sync/atomic.CompareAndSwapInt64", "sync/atomic.SwapInt64"], unfollowed := true, recurses := true, apart := false }
def EpochEndsSaid : Prop := epochEndsRow.holds Try.pinned (OpenSpec.ofChange epochEndsSpec)

/-- ITS FALSE NEIGHBOUR: 'it returns false'. Refute it at one input. -/
def epochEndsWrong : ChangeSpec := { name := "epochEnds", fn := fun _ => fun
  | [d1, d2] => { results := [.lit (.bool false)], args := [d1, d2] }
  | _ => none }
def EpochEndsWrongFalsely : Prop := epochEndsRow.holds Try.pinned (OpenSpec.ofChange epochEndsWrong)

/-- 'cressetlaw06.EpochDoes': WHATEVER THE INPUT: true; the input reads as it did. -/
def epochDoesSpec : ChangeSpec := { name := "epochDoes", fn := fun _ => fun
  | [d1, d2] => { results := [.lit (.bool true)], args := [d1, d2] }
  | _ => none }
def epochDoesRow : OpenClaim := { program := "ytghmgmchfcbodaa", sum := "2e20796f6fbbf7b0d66b23a265b16177fc9049cfd5434595787546305b7a9834", func := "cresset/cressetlaw06.EpochDoes", spec := "epochDoes", inPlace := ["sync/atomic.LoadInt64", "sync/atomic.CompareAndSwapInt64", "sync/atomic.SwapInt64", "sync/atomic.StoreInt64"], unfollowed := true, recurses := true, apart := false }
def EpochDoesSaid : Prop := epochDoesRow.holds Try.pinned (OpenSpec.ofChange epochDoesSpec)

/-- ITS FALSE NEIGHBOUR: 'it returns false'. Refute it at one input. -/
def epochDoesWrong : ChangeSpec := { name := "epochDoes", fn := fun _ => fun
  | [d1, d2] => { results := [.lit (.bool false)], args := [d1, d2] }
  | _ => none }
def EpochDoesWrongFalsely : Prop := epochDoesRow.holds Try.pinned (OpenSpec.ofChange epochDoesWrong)

/-- 'cressetlaw06.EpochNone': WHATEVER THE INPUT: true; the input reads as it did. -/
def epochNoneSpec : ChangeSpec := { name := "epochNone", fn := fun _ => fun
  | [d] => { results := [.lit (.bool true)], args := [d] }
  | _ => none }
def epochNoneRow : OpenClaim := { program := "ytghmgmchfcbodaa", sum := "2e20796f6fbbf7b0d66b23a265b16177fc9049cfd5434595787546305b7a9834", func := "cresset/cressetlaw06.EpochNone", spec := "epochNone", inPlace := ["sync/atomic.LoadInt64", "sync/atomic.CompareAndSwapInt64", "sync/atomic.SwapInt64", "sync/atomic.StoreInt64"], unfollowed := true, recurses := true, apart := false }
def EpochNoneSaid : Prop := epochNoneRow.holds Try.pinned (OpenSpec.ofChange epochNoneSpec)

/-- ITS FALSE NEIGHBOUR: 'it returns false'. Refute it at one input. -/
def epochNoneWrong : ChangeSpec := { name := "epochNone", fn := fun _ => fun
  | [d] => { results := [.lit (.bool false)], args := [d] }
  | _ => none }
def EpochNoneWrongFalsely : Prop := epochNoneRow.holds Try.pinned (OpenSpec.ofChange epochNoneWrong)

/- THE SECOND FORM. 'bulk': how many values and letters a reading holds, each counted each time it is reached (what is shared counts as often as it is met; a slice's spare places count too). A statement '..UptoSaid' is the law's where the arguments, and the package variables that the reading takes, are together of bulk at most 1048576: NARROWER than '..Said'. Prove '..Said' where nothing that the law and all that it calls make is longer than what came in: it says more and counts as full. Else prove '..UptoSaid'. A law counts once. -/
mutual
def uptoBulk {H : Type} : DataW H → Nat
  | .lit (.string bytes) => bytes.length + 1
  | .lit _ => 1
  | .nil => 1
  | .ptr d => uptoBulk d + 1
  | .slice elems spare => uptoBulkAll elems + uptoBulkAll spare + 1
  | .agg parts => uptoBulkAll parts + 1
  | .iface _ d => uptoBulk d + 1
  | .map entries => uptoBulkEntries entries + 1
  | .held _ => 1
def uptoBulkAll {H : Type} : List (DataW H) → Nat
  | [] => 0
  | d :: r => uptoBulk d + uptoBulkAll r
def uptoBulkEntries {H : Type} : List (Lit × DataW H) → Nat
  | [] => 0
  | x :: r => uptoBulkEntry x + uptoBulkEntries r
def uptoBulkEntry {H : Type} : Lit × DataW H → Nat
  | (.string bytes, d) => bytes.length + uptoBulk d + 1
  | (_, d) => uptoBulk d + 1
 end
def uptoSmall : (H : Type) → List (DataW H) → Bool := fun _ ds => decide (uptoBulkAll ds ≤ 1048576)
def OpenSpec.upto (s : _root_.Go.ChangeSpec) : _root_.Go.OpenSpec := { _root_.Go.OpenSpec.ofChange s with cond := some uptoSmall }

/-- 'cressetlaw06.EpochSafe', WHERE WHAT IT READS IS OF BULK AT MOST 1048576: true; the input reads as it did. -/
def epochSafeUptoRow : OpenClaim := { program := "ytghmgmchfcbodaa", sum := "2e20796f6fbbf7b0d66b23a265b16177fc9049cfd5434595787546305b7a9834", func := "cresset/cressetlaw06.EpochSafe", spec := "epochSafe", inPlace := ["sync/atomic.LoadInt64", "sync/atomic.CompareAndSwapInt64", "sync/atomic.SwapInt64"], unfollowed := true, recurses := true, apart := false, narrowed := true }
def EpochSafeUptoSaid : Prop := epochSafeUptoRow.holds Try.pinned (OpenSpec.upto epochSafeSpec)

/-- 'cressetlaw06.EpochAges', WHERE WHAT IT READS IS OF BULK AT MOST 1048576: true; the input reads as it did. -/
def epochAgesUptoRow : OpenClaim := { program := "ytghmgmchfcbodaa", sum := "2e20796f6fbbf7b0d66b23a265b16177fc9049cfd5434595787546305b7a9834", func := "cresset/cressetlaw06.EpochAges", spec := "epochAges", inPlace := ["sync/atomic.LoadInt64", "sync/atomic.CompareAndSwapInt64", "sync/atomic.SwapInt64"], unfollowed := true, recurses := true, apart := false, narrowed := true }
def EpochAgesUptoSaid : Prop := epochAgesUptoRow.holds Try.pinned (OpenSpec.upto epochAgesSpec)

/-- 'cressetlaw06.EpochEnds', WHERE WHAT IT READS IS OF BULK AT MOST 1048576: true; the input reads as it did. -/
def epochEndsUptoRow : OpenClaim := { program := "ytghmgmchfcbodaa", sum := "2e20796f6fbbf7b0d66b23a265b16177fc9049cfd5434595787546305b7a9834", func := "cresset/cressetlaw06.EpochEnds", spec := "epochEnds", inPlace := ["sync/atomic.LoadInt64", "sync/atomic.CompareAndSwapInt64", "sync/atomic.SwapInt64"], unfollowed := true, recurses := true, apart := false, narrowed := true }
def EpochEndsUptoSaid : Prop := epochEndsUptoRow.holds Try.pinned (OpenSpec.upto epochEndsSpec)

/-- 'cressetlaw06.EpochDoes', WHERE WHAT IT READS IS OF BULK AT MOST 1048576: true; the input reads as it did. -/
def epochDoesUptoRow : OpenClaim := { program := "ytghmgmchfcbodaa", sum := "2e20796f6fbbf7b0d66b23a265b16177fc9049cfd5434595787546305b7a9834", func := "cresset/cressetlaw06.EpochDoes", spec := "epochDoes", inPlace := ["sync/atomic.LoadInt64", "sync/atomic.CompareAndSwapInt64", "sync/atomic.SwapInt64", "sync/atomic.StoreInt64"], unfollowed := true, recurses := true, apart := false, narrowed := true }
def EpochDoesUptoSaid : Prop := epochDoesUptoRow.holds Try.pinned (OpenSpec.upto epochDoesSpec)

/-- 'cressetlaw06.EpochNone', WHERE WHAT IT READS IS OF BULK AT MOST 1048576: true; the input reads as it did. -/
def epochNoneUptoRow : OpenClaim := { program := "ytghmgmchfcbodaa", sum := "2e20796f6fbbf7b0d66b23a265b16177fc9049cfd5434595787546305b7a9834", func := "cresset/cressetlaw06.EpochNone", spec := "epochNone", inPlace := ["sync/atomic.LoadInt64", "sync/atomic.CompareAndSwapInt64", "sync/atomic.SwapInt64", "sync/atomic.StoreInt64"], unfollowed := true, recurses := true, apart := false, narrowed := true }
def EpochNoneUptoSaid : Prop := epochNoneUptoRow.holds Try.pinned (OpenSpec.upto epochNoneSpec)

end Rows
end Go.Proofs.Ytghmgmchfcbodaa

/-
  No cell of these rows narrows 'for every input' (looked for: loops, veiled, ifaces, maps, wideKeys, modest, calm, conditions, laid).
  DERIVED. THE GIVEN ROWS OF THIS SEAT. 7 by the template 'for every input the law returns true; each argument reads behind the call as it read before'; 0 by the template 'total and deterministic' (their statements: YtkdlodjpambelaaTotals.lean).
  GIVEN WITH THE SEED: the statements are not yours to turn. If you find one false, say at which input.
  Laid BY PROGRAM, IN A SANDBOX (cutbox-rows.mjs): the forced cells as the released guide's own fill.sh prints them over the translation 66daab9f143e3aab… (all of the seat's roots in one cut). By AI agents, Wed Nov 11 2026. No macro, syntax, notation, axiom, sorry.
-/
import Derived.Test.YtkdlodjpambelaaChecked
import GoSem.Claim
import GoSem.ClaimJoined
import GoSem.ClaimMapViews
import Derived.JoinedTies
import Derived.KernelRfl
namespace Go.Proofs.Ytkdlodjpambelaa
/- THE CELL 'sum', in the pinned program and in every row, IS THE sha256 OF THE DUMP (.gsa) THAT YtkdlodjpambelaaProg.lean LOADS. Nothing in Lean hashes anything: it is a label: what it is worth is what the hold of that sum in a sandbox is worth. -/
noncomputable def Try.pinned : Pinned := { name := "ytkdlodjpambelaa", sum := "66daab9f143e3aab0949f56664acc4d7093484cb81fbbb58d801f66bb8e4a47e", checked := Try.checked }
namespace Rows
def none {H : Type} : Left H := { results := [], args := [] }

/-- 'cressetlaw09.DeltaSwaps': WHATEVER THE INPUT: true; the input reads as it did. -/
def deltaSwapsSpec : ChangeSpec := { name := "deltaSwaps", fn := fun _ => fun
  | [d1, d2, d3] => { results := [.lit (.bool true)], args := [d1, d2, d3] }
  | _ => none }
def deltaSwapsRow : OpenClaim := { program := "ytkdlodjpambelaa", sum := "66daab9f143e3aab0949f56664acc4d7093484cb81fbbb58d801f66bb8e4a47e", func := "cresset/cressetlaw09.DeltaSwaps", spec := "deltaSwaps", unfollowed := true, recurses := true, apart := false }
def DeltaSwapsSaid : Prop := deltaSwapsRow.holds Try.pinned (OpenSpec.ofChange deltaSwapsSpec)

/-- ITS FALSE NEIGHBOUR: 'it returns false'. Refute it at one input. -/
def deltaSwapsWrong : ChangeSpec := { name := "deltaSwaps", fn := fun _ => fun
  | [d1, d2, d3] => { results := [.lit (.bool false)], args := [d1, d2, d3] }
  | _ => none }
def DeltaSwapsWrongFalsely : Prop := deltaSwapsRow.holds Try.pinned (OpenSpec.ofChange deltaSwapsWrong)

/-- 'cressetlaw09.DeltaFolds': WHATEVER THE INPUT: true; the input reads as it did. -/
def deltaFoldsSpec : ChangeSpec := { name := "deltaFolds", fn := fun _ => fun
  | [d1, d2, d3] => { results := [.lit (.bool true)], args := [d1, d2, d3] }
  | _ => none }
def deltaFoldsRow : OpenClaim := { program := "ytkdlodjpambelaa", sum := "66daab9f143e3aab0949f56664acc4d7093484cb81fbbb58d801f66bb8e4a47e", func := "cresset/cressetlaw09.DeltaFolds", spec := "deltaFolds", unfollowed := true, recurses := true, apart := false }
def DeltaFoldsSaid : Prop := deltaFoldsRow.holds Try.pinned (OpenSpec.ofChange deltaFoldsSpec)

/-- ITS FALSE NEIGHBOUR: 'it returns false'. Refute it at one input. -/
def deltaFoldsWrong : ChangeSpec := { name := "deltaFolds", fn := fun _ => fun
  | [d1, d2, d3] => { results := [.lit (.bool false)], args := [d1, d2, d3] }
  | _ => none }
def DeltaFoldsWrongFalsely : Prop := deltaFoldsRow.holds Try.pinned (OpenSpec.ofChange deltaFoldsWrong)

/-- 'cressetlaw09.DeltaSplits': WHATEVER THE INPUT: true; the input reads as it did. -/
def deltaSplitsSpec : ChangeSpec := { name := "deltaSplits", fn := fun _ => fun
  | [d1, d2] => { results := [.lit (.bool true)], args := [d1, d2] }
  | _ => none }
def deltaSplitsRow : OpenClaim := { program := "ytkdlodjpambelaa", sum := "66daab9f143e3aab0949f56664acc4d7093484cb81fbbb58d801f66bb8e4a47e", func := "cresset/cressetlaw09.DeltaSplits", spec := "deltaSplits", unfollowed := true, recurses := true, apart := false }
def DeltaSplitsSaid : Prop := deltaSplitsRow.holds Try.pinned (OpenSpec.ofChange deltaSplitsSpec)

/-- ITS FALSE NEIGHBOUR: 'it returns false'. Refute it at one input. -/
def deltaSplitsWrong : ChangeSpec := { name := "deltaSplits", fn := fun _ => fun
  | [d1, d2] => { results := [.lit (.bool false)], args := [d1, d2] }
  | _ => none }
def DeltaSplitsWrongFalsely : Prop := deltaSplitsRow.holds Try.pinned (OpenSpec.ofChange deltaSplitsWrong)

/-- 'cressetlaw09.DeltaSame': WHATEVER THE INPUT: true; the input reads as it did. -/
def deltaSameSpec : ChangeSpec := { name := "deltaSame", fn := fun _ => fun
  | [d1, d2] => { results := [.lit (.bool true)], args := [d1, d2] }
  | _ => none }
def deltaSameRow : OpenClaim := { program := "ytkdlodjpambelaa", sum := "66daab9f143e3aab0949f56664acc4d7093484cb81fbbb58d801f66bb8e4a47e", func := "cresset/cressetlaw09.DeltaSame", spec := "deltaSame", unfollowed := true, recurses := true, apart := false }
def DeltaSameSaid : Prop := deltaSameRow.holds Try.pinned (OpenSpec.ofChange deltaSameSpec)

/-- ITS FALSE NEIGHBOUR: 'it returns false'. Refute it at one input. -/
def deltaSameWrong : ChangeSpec := { name := "deltaSame", fn := fun _ => fun
  | [d1, d2] => { results := [.lit (.bool false)], args := [d1, d2] }
  | _ => none }
def DeltaSameWrongFalsely : Prop := deltaSameRow.holds Try.pinned (OpenSpec.ofChange deltaSameWrong)

/-- 'cressetlaw09.DeltaOwn': WHATEVER THE INPUT: true; the input reads as it did. -/
def deltaOwnSpec : ChangeSpec := { name := "deltaOwn", fn := fun _ => fun
  | [d1, d2] => { results := [.lit (.bool true)], args := [d1, d2] }
  | _ => none }
def deltaOwnRow : OpenClaim := { program := "ytkdlodjpambelaa", sum := "66daab9f143e3aab0949f56664acc4d7093484cb81fbbb58d801f66bb8e4a47e", func := "cresset/cressetlaw09.DeltaOwn", spec := "deltaOwn", unfollowed := true, recurses := true, apart := false }
def DeltaOwnSaid : Prop := deltaOwnRow.holds Try.pinned (OpenSpec.ofChange deltaOwnSpec)

/-- ITS FALSE NEIGHBOUR: 'it returns false'. Refute it at one input. -/
def deltaOwnWrong : ChangeSpec := { name := "deltaOwn", fn := fun _ => fun
  | [d1, d2] => { results := [.lit (.bool false)], args := [d1, d2] }
  | _ => none }
def DeltaOwnWrongFalsely : Prop := deltaOwnRow.holds Try.pinned (OpenSpec.ofChange deltaOwnWrong)

/-- 'cressetlaw09.DeltaApplies': WHATEVER THE INPUT: true; the input reads as it did. -/
def deltaAppliesSpec : ChangeSpec := { name := "deltaApplies", fn := fun _ => fun
  | [d1, d2] => { results := [.lit (.bool true)], args := [d1, d2] }
  | _ => none }
def deltaAppliesRow : OpenClaim := { program := "ytkdlodjpambelaa", sum := "66daab9f143e3aab0949f56664acc4d7093484cb81fbbb58d801f66bb8e4a47e", func := "cresset/cressetlaw09.DeltaApplies", spec := "deltaApplies", unfollowed := true, recurses := true, apart := false }
def DeltaAppliesSaid : Prop := deltaAppliesRow.holds Try.pinned (OpenSpec.ofChange deltaAppliesSpec)

/-- ITS FALSE NEIGHBOUR: 'it returns false'. Refute it at one input. -/
def deltaAppliesWrong : ChangeSpec := { name := "deltaApplies", fn := fun _ => fun
  | [d1, d2] => { results := [.lit (.bool false)], args := [d1, d2] }
  | _ => none }
def DeltaAppliesWrongFalsely : Prop := deltaAppliesRow.holds Try.pinned (OpenSpec.ofChange deltaAppliesWrong)

/-- 'cressetlaw09.DeltaBack': WHATEVER THE INPUT: true; the input reads as it did. -/
def deltaBackSpec : ChangeSpec := { name := "deltaBack", fn := fun _ => fun
  | [d1, d2] => { results := [.lit (.bool true)], args := [d1, d2] }
  | _ => none }
def deltaBackRow : OpenClaim := { program := "ytkdlodjpambelaa", sum := "66daab9f143e3aab0949f56664acc4d7093484cb81fbbb58d801f66bb8e4a47e", func := "cresset/cressetlaw09.DeltaBack", spec := "deltaBack", unfollowed := true, recurses := true, apart := false }
def DeltaBackSaid : Prop := deltaBackRow.holds Try.pinned (OpenSpec.ofChange deltaBackSpec)

/-- ITS FALSE NEIGHBOUR: 'it returns false'. Refute it at one input. -/
def deltaBackWrong : ChangeSpec := { name := "deltaBack", fn := fun _ => fun
  | [d1, d2] => { results := [.lit (.bool false)], args := [d1, d2] }
  | _ => none }
def DeltaBackWrongFalsely : Prop := deltaBackRow.holds Try.pinned (OpenSpec.ofChange deltaBackWrong)

/- THE SECOND FORM. 'bulk': how many values and letters a reading holds, each counted each time it is reached (what is shared counts as often as it is met; a slice's spare places count too). A statement '..UptoSaid' is the law's where the arguments, and the package variables that the reading takes, are together of bulk at most 1048576: NARROWER than '..Said'. Prove '..Said' where nothing that the law and all that it calls make is longer than what came in: it says more and counts as full. Else prove '..UptoSaid'. A law counts once. -/
mutual
def uptoBulk {H : Type} : DataW H → Nat
  | .lit (.string bytes) => bytes.length + 1
  | .lit _ => 1
  | .nil => 1
  | .ptr d => uptoBulk d + 1
  | .slice elems spare => uptoBulkAll elems + uptoBulkAll spare + 1
  | .agg parts => uptoBulkAll parts + 1
  | .iface _ d => uptoBulk d + 1
  | .map entries => uptoBulkEntries entries + 1
  | .held _ => 1
def uptoBulkAll {H : Type} : List (DataW H) → Nat
  | [] => 0
  | d :: r => uptoBulk d + uptoBulkAll r
def uptoBulkEntries {H : Type} : List (Lit × DataW H) → Nat
  | [] => 0
  | x :: r => uptoBulkEntry x + uptoBulkEntries r
def uptoBulkEntry {H : Type} : Lit × DataW H → Nat
  | (.string bytes, d) => bytes.length + uptoBulk d + 1
  | (_, d) => uptoBulk d + 1
 end
def uptoSmall : (H : Type) → List (DataW H) → Bool := fun _ ds => decide (uptoBulkAll ds ≤ 1048576)
def OpenSpec.upto (s : _root_.Go.ChangeSpec) : _root_.Go.OpenSpec := { _root_.Go.OpenSpec.ofChange s with cond := some uptoSmall }

/-- 'cressetlaw09.DeltaSwaps', WHERE WHAT IT READS IS OF BULK AT MOST 1048576: true; the input reads as it did. -/
def deltaSwapsUptoRow : OpenClaim := { program := "ytkdlodjpambelaa", sum := "66daab9f143e3aab0949f56664acc4d7093484cb81fbbb58d801f66bb8e4a47e", func := "cresset/cressetlaw09.DeltaSwaps", spec := "deltaSwaps", unfollowed := true, recurses := true, apart := false, narrowed := true }
def DeltaSwapsUptoSaid : Prop := deltaSwapsUptoRow.holds Try.pinned (OpenSpec.upto deltaSwapsSpec)

/-- 'cressetlaw09.DeltaFolds', WHERE WHAT IT READS IS OF BULK AT MOST 1048576: true; the input reads as it did. -/
def deltaFoldsUptoRow : OpenClaim := { program := "ytkdlodjpambelaa", sum := "66daab9f143e3aab0949f56664acc4d7093484cb81fbbb58d801f66bb8e4a47e", func := "cresset/cressetlaw09.DeltaFolds", spec := "deltaFolds", unfollowed := true, recurses := true, apart := false, narrowed := true }
def DeltaFoldsUptoSaid : Prop := deltaFoldsUptoRow.holds Try.pinned (OpenSpec.upto deltaFoldsSpec)

/-- 'cressetlaw09.DeltaSplits', WHERE WHAT IT READS IS OF BULK AT MOST 1048576: true; the input reads as it did. -/
def deltaSplitsUptoRow : OpenClaim := { program := "ytkdlodjpambelaa", sum := "66daab9f143e3aab0949f56664acc4d7093484cb81fbbb58d801f66bb8e4a47e", func := "cresset/cressetlaw09.DeltaSplits", spec := "deltaSplits", unfollowed := true, recurses := true, apart := false, narrowed := true }
def DeltaSplitsUptoSaid : Prop := deltaSplitsUptoRow.holds Try.pinned (OpenSpec.upto deltaSplitsSpec)

/-- 'cressetlaw09.DeltaSame', WHERE WHAT IT READS IS OF BULK AT MOST 1048576: true; the input reads as it did. -/
def deltaSameUptoRow : OpenClaim := { program := "ytkdlodjpambelaa", sum := "66daab9f143e3aab0949f56664acc4d7093484cb81fbbb58d801f66bb8e4a47e", func := "cresset/cressetlaw09.DeltaSame", spec := "deltaSame", unfollowed := true, recurses := true, apart := false, narrowed := true }
def DeltaSameUptoSaid : Prop := deltaSameUptoRow.holds Try.pinned (OpenSpec.upto deltaSameSpec)

/-- 'cressetlaw09.DeltaOwn', WHERE WHAT IT READS IS OF BULK AT MOST 1048576: true; the input reads as it did. -/
def deltaOwnUptoRow : OpenClaim := { program := "ytkdlodjpambelaa", sum := "66daab9f143e3aab0949f56664acc4d7093484cb81fbbb58d801f66bb8e4a47e", func := "cresset/cressetlaw09.DeltaOwn", spec := "deltaOwn", unfollowed := true, recurses := true, apart := false, narrowed := true }
def DeltaOwnUptoSaid : Prop := deltaOwnUptoRow.holds Try.pinned (OpenSpec.upto deltaOwnSpec)

/-- 'cressetlaw09.DeltaApplies', WHERE WHAT IT READS IS OF BULK AT MOST 1048576: true; the input reads as it did. -/
def deltaAppliesUptoRow : OpenClaim := { program := "ytkdlodjpambelaa", sum := "66daab9f143e3aab0949f56664acc4d7093484cb81fbbb58d801f66bb8e4a47e", func := "cresset/cressetlaw09.DeltaApplies", spec := "deltaApplies", unfollowed := true, recurses := true, apart := false, narrowed := true }
def DeltaAppliesUptoSaid : Prop := deltaAppliesUptoRow.holds Try.pinned (OpenSpec.upto deltaAppliesSpec)

/-- 'cressetlaw09.DeltaBack', WHERE WHAT IT READS IS OF BULK AT MOST 1048576: true; the input reads as it did. -/
def deltaBackUptoRow : OpenClaim := { program := "ytkdlodjpambelaa", sum := "66daab9f143e3aab0949f56664acc4d7093484cb81fbbb58d801f66bb8e4a47e", func := "cresset/cressetlaw09.DeltaBack", spec := "deltaBack", unfollowed := true, recurses := true, apart := false, narrowed := true }
def DeltaBackUptoSaid : Prop := deltaBackUptoRow.holds Try.pinned (OpenSpec.upto deltaBackSpec)

end Rows
end Go.Proofs.Ytkdlodjpambelaa

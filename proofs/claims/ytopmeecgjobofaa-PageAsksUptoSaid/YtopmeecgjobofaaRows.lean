/-
  No cell of these rows narrows 'for every input' (looked for: loops, veiled, ifaces, maps, wideKeys, modest, calm, conditions, laid).
  DERIVED. THE GIVEN ROWS OF THIS SEAT. 7 by the template 'for every input the law returns true; each argument reads behind the call as it read before'; 0 by the template 'total and deterministic' (their statements: YtopmeecgjobofaaTotals.lean).
  GIVEN WITH THE SEED: the statements are not yours to turn. If you find one false, say at which input.
  Laid BY PROGRAM, IN A SANDBOX (cutbox-rows.mjs): the forced cells as the released guide's own fill.sh prints them over the translation 161505a76078db34… (all of the seat's roots in one cut). By AI agents, Wed Nov 11 2026. No macro, syntax, notation, axiom, sorry.
-/
import Derived.Test.YtopmeecgjobofaaChecked
import GoSem.Claim
import GoSem.ClaimJoined
import GoSem.ClaimMapViews
import Derived.JoinedTies
import Derived.KernelRfl
namespace Go.Proofs.Ytopmeecgjobofaa
/- THE CELL 'sum', in the pinned program and in every row, IS THE sha256 OF THE DUMP (.gsa) THAT YtopmeecgjobofaaProg.lean LOADS. Nothing in Lean hashes anything: it is a label: what it is worth is what the hold of that sum in a sandbox is worth. -/
noncomputable def Try.pinned : Pinned := { name := "ytopmeecgjobofaa", sum := "161505a76078db3427b724e48a76a199eef2f152666cfdfbce688db70e42748c", checked := Try.checked }
namespace Rows
def none {H : Type} : Left H := { results := [], args := [] }

/-- 'cressetlaw07.PageParts': WHATEVER THE INPUT: true; the input reads as it did. -/
def pagePartsSpec : ChangeSpec := { name := "pageParts", fn := fun _ => fun
  | [d1, d2] => { results := [.lit (.bool true)], args := [d1, d2] }
  | _ => none }
def pagePartsRow : OpenClaim := { program := "ytopmeecgjobofaa", sum := "161505a76078db3427b724e48a76a199eef2f152666cfdfbce688db70e42748c", func := "cresset/cressetlaw07.PageParts", spec := "pageParts", unfollowed := true, recurses := true, apart := false }
def PagePartsSaid : Prop := pagePartsRow.holds Try.pinned (OpenSpec.ofChange pagePartsSpec)

/-- ITS FALSE NEIGHBOUR: 'it returns false'. Refute it at one input. -/
def pagePartsWrong : ChangeSpec := { name := "pageParts", fn := fun _ => fun
  | [d1, d2] => { results := [.lit (.bool false)], args := [d1, d2] }
  | _ => none }
def PagePartsWrongFalsely : Prop := pagePartsRow.holds Try.pinned (OpenSpec.ofChange pagePartsWrong)

/-- 'cressetlaw07.PageSplits': WHATEVER THE INPUT: true; the input reads as it did. -/
def pageSplitsSpec : ChangeSpec := { name := "pageSplits", fn := fun _ => fun
  | [d1, d2, d3] => { results := [.lit (.bool true)], args := [d1, d2, d3] }
  | _ => none }
def pageSplitsRow : OpenClaim := { program := "ytopmeecgjobofaa", sum := "161505a76078db3427b724e48a76a199eef2f152666cfdfbce688db70e42748c", func := "cresset/cressetlaw07.PageSplits", spec := "pageSplits", apart := false }
def PageSplitsSaid : Prop := pageSplitsRow.holds Try.pinned (OpenSpec.ofChange pageSplitsSpec)

/-- ITS FALSE NEIGHBOUR: 'it returns false'. Refute it at one input. -/
def pageSplitsWrong : ChangeSpec := { name := "pageSplits", fn := fun _ => fun
  | [d1, d2, d3] => { results := [.lit (.bool false)], args := [d1, d2, d3] }
  | _ => none }
def PageSplitsWrongFalsely : Prop := pageSplitsRow.holds Try.pinned (OpenSpec.ofChange pageSplitsWrong)

/-- 'cressetlaw07.PageChanges': WHATEVER THE INPUT: true; the input reads as it did. -/
def pageChangesSpec : ChangeSpec := { name := "pageChanges", fn := fun _ => fun
  | [d1, d2, d3] => { results := [.lit (.bool true)], args := [d1, d2, d3] }
  | _ => none }
def pageChangesRow : OpenClaim := { program := "ytopmeecgjobofaa", sum := "161505a76078db3427b724e48a76a199eef2f152666cfdfbce688db70e42748c", func := "cresset/cressetlaw07.PageChanges", spec := "pageChanges", unfollowed := true, recurses := true, apart := false }
def PageChangesSaid : Prop := pageChangesRow.holds Try.pinned (OpenSpec.ofChange pageChangesSpec)

/-- ITS FALSE NEIGHBOUR: 'it returns false'. Refute it at one input. -/
def pageChangesWrong : ChangeSpec := { name := "pageChanges", fn := fun _ => fun
  | [d1, d2, d3] => { results := [.lit (.bool false)], args := [d1, d2, d3] }
  | _ => none }
def PageChangesWrongFalsely : Prop := pageChangesRow.holds Try.pinned (OpenSpec.ofChange pageChangesWrong)

/-- 'cressetlaw07.PageOwn': WHATEVER THE INPUT: true; the input reads as it did. -/
def pageOwnSpec : ChangeSpec := { name := "pageOwn", fn := fun _ => fun
  | [d1, d2, d3] => { results := [.lit (.bool true)], args := [d1, d2, d3] }
  | _ => none }
def pageOwnRow : OpenClaim := { program := "ytopmeecgjobofaa", sum := "161505a76078db3427b724e48a76a199eef2f152666cfdfbce688db70e42748c", func := "cresset/cressetlaw07.PageOwn", spec := "pageOwn", unfollowed := true, recurses := true, apart := false }
def PageOwnSaid : Prop := pageOwnRow.holds Try.pinned (OpenSpec.ofChange pageOwnSpec)

/-- ITS FALSE NEIGHBOUR: 'it returns false'. Refute it at one input. -/
def pageOwnWrong : ChangeSpec := { name := "pageOwn", fn := fun _ => fun
  | [d1, d2, d3] => { results := [.lit (.bool false)], args := [d1, d2, d3] }
  | _ => none }
def PageOwnWrongFalsely : Prop := pageOwnRow.holds Try.pinned (OpenSpec.ofChange pageOwnWrong)

/-- 'cressetlaw07.PageKeeps': WHATEVER THE INPUT: true; the input reads as it did. -/
def pageKeepsSpec : ChangeSpec := { name := "pageKeeps", fn := fun _ => fun
  | [d1, d2, d3] => { results := [.lit (.bool true)], args := [d1, d2, d3] }
  | _ => none }
def pageKeepsRow : OpenClaim := { program := "ytopmeecgjobofaa", sum := "161505a76078db3427b724e48a76a199eef2f152666cfdfbce688db70e42748c", func := "cresset/cressetlaw07.PageKeeps", spec := "pageKeeps", unfollowed := true, recurses := true, apart := false }
def PageKeepsSaid : Prop := pageKeepsRow.holds Try.pinned (OpenSpec.ofChange pageKeepsSpec)

/-- ITS FALSE NEIGHBOUR: 'it returns false'. Refute it at one input. -/
def pageKeepsWrong : ChangeSpec := { name := "pageKeeps", fn := fun _ => fun
  | [d1, d2, d3] => { results := [.lit (.bool false)], args := [d1, d2, d3] }
  | _ => none }
def PageKeepsWrongFalsely : Prop := pageKeepsRow.holds Try.pinned (OpenSpec.ofChange pageKeepsWrong)

/-- 'cressetlaw07.PageSound': WHATEVER THE INPUT: true; the input reads as it did. -/
def pageSoundSpec : ChangeSpec := { name := "pageSound", fn := fun _ => fun
  | [d1, d2, d3] => { results := [.lit (.bool true)], args := [d1, d2, d3] }
  | _ => none }
def pageSoundRow : OpenClaim := { program := "ytopmeecgjobofaa", sum := "161505a76078db3427b724e48a76a199eef2f152666cfdfbce688db70e42748c", func := "cresset/cressetlaw07.PageSound", spec := "pageSound", unfollowed := true, recurses := true, apart := false }
def PageSoundSaid : Prop := pageSoundRow.holds Try.pinned (OpenSpec.ofChange pageSoundSpec)

/-- ITS FALSE NEIGHBOUR: 'it returns false'. Refute it at one input. -/
def pageSoundWrong : ChangeSpec := { name := "pageSound", fn := fun _ => fun
  | [d1, d2, d3] => { results := [.lit (.bool false)], args := [d1, d2, d3] }
  | _ => none }
def PageSoundWrongFalsely : Prop := pageSoundRow.holds Try.pinned (OpenSpec.ofChange pageSoundWrong)

/-- 'cressetlaw07.PageAsks': WHATEVER THE INPUT: true; the input reads as it did. -/
def pageAsksSpec : ChangeSpec := { name := "pageAsks", fn := fun _ => fun
  | [d1, d2, d3] => { results := [.lit (.bool true)], args := [d1, d2, d3] }
  | _ => none }
def pageAsksRow : OpenClaim := { program := "ytopmeecgjobofaa", sum := "161505a76078db3427b724e48a76a199eef2f152666cfdfbce688db70e42748c", func := "cresset/cressetlaw07.PageAsks", spec := "pageAsks", unfollowed := true, recurses := true, apart := false }
def PageAsksSaid : Prop := pageAsksRow.holds Try.pinned (OpenSpec.ofChange pageAsksSpec)

/-- ITS FALSE NEIGHBOUR: 'it returns false'. Refute it at one input. -/
def pageAsksWrong : ChangeSpec := { name := "pageAsks", fn := fun _ => fun
  | [d1, d2, d3] => { results := [.lit (.bool false)], args := [d1, d2, d3] }
  | _ => none }
def PageAsksWrongFalsely : Prop := pageAsksRow.holds Try.pinned (OpenSpec.ofChange pageAsksWrong)

/- THE SECOND FORM. 'bulk': how many values and letters a reading holds, each counted each time it is reached (what is shared counts as often as it is met; a slice's spare places count too). A statement '..UptoSaid' is the law's where the arguments, and the package variables that the reading takes, are together of bulk at most 1048576: NARROWER than '..Said'. Prove '..Said' where nothing that the law and all that it calls make is longer than what came in: it says more and counts as full. Else prove '..UptoSaid'. A law counts once. -/
mutual
def uptoBulk {H : Type} : DataW H → Nat
  | .lit (.string bytes) => bytes.length + 1
  | .lit _ => 1
  | .nil => 1
  | .ptr d => uptoBulk d + 1
  | .slice elems spare => uptoBulkAll elems + uptoBulkAll spare + 1
  | .agg parts => uptoBulkAll parts + 1
  | .iface _ d => uptoBulk d + 1
  | .map entries => uptoBulkEntries entries + 1
  | .held _ => 1
def uptoBulkAll {H : Type} : List (DataW H) → Nat
  | [] => 0
  | d :: r => uptoBulk d + uptoBulkAll r
def uptoBulkEntries {H : Type} : List (Lit × DataW H) → Nat
  | [] => 0
  | x :: r => uptoBulkEntry x + uptoBulkEntries r
def uptoBulkEntry {H : Type} : Lit × DataW H → Nat
  | (.string bytes, d) => bytes.length + uptoBulk d + 1
  | (_, d) => uptoBulk d + 1
 end
def uptoSmall : (H : Type) → List (DataW H) → Bool := fun _ ds => decide (uptoBulkAll ds ≤ 1048576)
def OpenSpec.upto (s : _root_.Go.ChangeSpec) : _root_.Go.OpenSpec := { _root_.Go.OpenSpec.ofChange s with cond := some uptoSmall }

/-- 'cressetlaw07.PageParts', WHERE WHAT IT READS IS OF BULK AT MOST 1048576: true; the input reads as it did. -/
def pagePartsUptoRow : OpenClaim := { program := "ytopmeecgjobofaa", sum := "161505a76078db3427b724e48a76a199eef2f152666cfdfbce688db70e42748c", func := "cresset/cressetlaw07.PageParts", spec := "pageParts", unfollowed := true, recurses := true, apart := false, narrowed := true }
def PagePartsUptoSaid : Prop := pagePartsUptoRow.holds Try.pinned (OpenSpec.upto pagePartsSpec)

/-- 'cressetlaw07.PageSplits', WHERE WHAT IT READS IS OF BULK AT MOST 1048576: true; the input reads as it did. -/
def pageSplitsUptoRow : OpenClaim := { program := "ytopmeecgjobofaa", sum := "161505a76078db3427b724e48a76a199eef2f152666cfdfbce688db70e42748c", func := "cresset/cressetlaw07.PageSplits", spec := "pageSplits", apart := false, narrowed := true }
def PageSplitsUptoSaid : Prop := pageSplitsUptoRow.holds Try.pinned (OpenSpec.upto pageSplitsSpec)

/-- 'cressetlaw07.PageChanges', WHERE WHAT IT READS IS OF BULK AT MOST 1048576: true; the input reads as it did. -/
def pageChangesUptoRow : OpenClaim := { program := "ytopmeecgjobofaa", sum := "161505a76078db3427b724e48a76a199eef2f152666cfdfbce688db70e42748c", func := "cresset/cressetlaw07.PageChanges", spec := "pageChanges", unfollowed := true, recurses := true, apart := false, narrowed := true }
def PageChangesUptoSaid : Prop := pageChangesUptoRow.holds Try.pinned (OpenSpec.upto pageChangesSpec)

/-- 'cressetlaw07.PageOwn', WHERE WHAT IT READS IS OF BULK AT MOST 1048576: true; the input reads as it did. -/
def pageOwnUptoRow : OpenClaim := { program := "ytopmeecgjobofaa", sum := "161505a76078db3427b724e48a76a199eef2f152666cfdfbce688db70e42748c", func := "cresset/cressetlaw07.PageOwn", spec := "pageOwn", unfollowed := true, recurses := true, apart := false, narrowed := true }
def PageOwnUptoSaid : Prop := pageOwnUptoRow.holds Try.pinned (OpenSpec.upto pageOwnSpec)

/-- 'cressetlaw07.PageKeeps', WHERE WHAT IT READS IS OF BULK AT MOST 1048576: true; the input reads as it did. -/
def pageKeepsUptoRow : OpenClaim := { program := "ytopmeecgjobofaa", sum := "161505a76078db3427b724e48a76a199eef2f152666cfdfbce688db70e42748c", func := "cresset/cressetlaw07.PageKeeps", spec := "pageKeeps", unfollowed := true, recurses := true, apart := false, narrowed := true }
def PageKeepsUptoSaid : Prop := pageKeepsUptoRow.holds Try.pinned (OpenSpec.upto pageKeepsSpec)

/-- 'cressetlaw07.PageSound', WHERE WHAT IT READS IS OF BULK AT MOST 1048576: true; the input reads as it did. -/
def pageSoundUptoRow : OpenClaim := { program := "ytopmeecgjobofaa", sum := "161505a76078db3427b724e48a76a199eef2f152666cfdfbce688db70e42748c", func := "cresset/cressetlaw07.PageSound", spec := "pageSound", unfollowed := true, recurses := true, apart := false, narrowed := true }
def PageSoundUptoSaid : Prop := pageSoundUptoRow.holds Try.pinned (OpenSpec.upto pageSoundSpec)

/-- 'cressetlaw07.PageAsks', WHERE WHAT IT READS IS OF BULK AT MOST 1048576: true; the input reads as it did. -/
def pageAsksUptoRow : OpenClaim := { program := "ytopmeecgjobofaa", sum := "161505a76078db3427b724e48a76a199eef2f152666cfdfbce688db70e42748c", func := "cresset/cressetlaw07.PageAsks", spec := "pageAsks", unfollowed := true, recurses := true, apart := false, narrowed := true }
def PageAsksUptoSaid : Prop := pageAsksUptoRow.holds Try.pinned (OpenSpec.upto pageAsksSpec)

end Rows
end Go.Proofs.Ytopmeecgjobofaa

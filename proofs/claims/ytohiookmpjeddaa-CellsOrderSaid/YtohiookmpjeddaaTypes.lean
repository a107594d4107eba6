/- The readings of what comes in. Printed by wip/types.py. -/
import Derived.Test.YtohiookmpjeddaaOpen
namespace Go.Proofs.Ytohiookmpjeddaa
set_option linter.unusedVariables false
set_option linter.unusedSimpArgs false
open Go Go.RowKit

theorem cof9 : Try.prog.cellsOf 9 = 1 := by kernel_rfl
theorem cof22 : Try.prog.cellsOf 22 = 1 := by kernel_rfl
theorem opens_strs (w : World) (B : Option Nat) : Opens Try.prog w B 22 1 (fun x : Sl ByteArray => [Sl.v x]) (fun x => SlOk (fun x : ByteArray => [.string x]) 1 w B (fun x : ByteArray => (ByteArray.size x ≤ maxLen ∧ Bd B (ByteArray.size x))) x) :=
  (opens_slice (w := w) (B := B) (e := fun x : ByteArray => [.string x]) (ok := fun x : ByteArray => (ByteArray.size x ≤ maxLen ∧ Bd B (ByteArray.size x))) Try.underlying22 cof22 (by decide) (opens_string (w := w) (B := B) Try.underlying9 cof9))
theorem cof3 : Try.prog.cellsOf 3 = 1 := by kernel_rfl
theorem cof37 : Try.prog.cellsOf 37 = 4 := by kernel_rfl
/-- cressetlaw08.Op -/
structure Op8 where
  do_ : Int
  was : Int
  is_ : Int
  x : ByteArray
def Op8.enc (x : Op8) : List Value := [.int .i64 x.do_, .int .i64 x.was, .int .i64 x.is_, .string x.x]
def Op8.Ok (w : World) (B : Option Nat) (x : Op8) : Prop := ((Lit.int .i64 x.do_).wf = true) ∧ ((Lit.int .i64 x.was).wf = true) ∧ ((Lit.int .i64 x.is_).wf = true) ∧ ((ByteArray.size x.x ≤ maxLen ∧ Bd B (ByteArray.size x.x)))
theorem opens_Op8 (w : World) (B : Option Nat) : Opens Try.prog w B 37 4 Op8.enc (Op8.Ok w B) :=
  Opens.map (α := (Int) × (Int) × (Int) × (ByteArray) × Unit) (enc := fun x => [.int .i64 x.1] ++ ([.int .i64 x.2.1] ++ ([.int .i64 x.2.2.1] ++ ([.string x.2.2.2.1] ++ ([]))))) (ok := fun x => ((Lit.int .i64 x.1).wf = true) ∧ (((Lit.int .i64 x.2.1).wf = true) ∧ (((Lit.int .i64 x.2.2.1).wf = true) ∧ (((ByteArray.size x.2.2.2.1 ≤ maxLen ∧ Bd B (ByteArray.size x.2.2.2.1))) ∧ (True))))) (opens_struct Try.underlying37 cof37 (.cons (by rfl) (opens_int (w := w) (B := B) Try.underlying3 cof3) (.cons (by rfl) (opens_int (w := w) (B := B) Try.underlying3 cof3) (.cons (by rfl) (opens_int (w := w) (B := B) Try.underlying3 cof3) (.cons (by rfl) (opens_string (w := w) (B := B) Try.underlying9 cof9) (.nil 4))))))
    (fun x => ⟨x.1, x.2.1, x.2.2.1, x.2.2.2.1⟩) (fun x => by simp [Op8.enc]) (fun x h => ⟨h.1, h.2.1, h.2.2.1, h.2.2.2.1⟩)
theorem cof30 : Try.prog.cellsOf 30 = 1 := by kernel_rfl
theorem opens_ops (w : World) (B : Option Nat) : Opens Try.prog w B 30 1 (fun x : Sl Op8 => [Sl.v x]) (fun x => SlOk (fun x : Op8 => Op8.enc x) 4 w B (fun x : Op8 => Op8.Ok w B x) x) :=
  (opens_slice (w := w) (B := B) (e := fun x : Op8 => Op8.enc x) (ok := fun x : Op8 => Op8.Ok w B x) Try.underlying30 cof30 (by decide) (opens_Op8 w B))
theorem cof62 : Try.prog.cellsOf 62 = 2 := by kernel_rfl
/-- An array of two numbers. -/
structure Pair62 where
  p : Int
  q : Int
def Pair62.enc (x : Pair62) : List Value := [.int .i64 x.p, .int .i64 x.q]
def Pair62.Ok (w : World) (B : Option Nat) (x : Pair62) : Prop := (Lit.int .i64 x.p).wf = true ∧ (Lit.int .i64 x.q).wf = true
theorem opens_Pair62 (w : World) (B : Option Nat) : Opens Try.prog w B 62 2 Pair62.enc (Pair62.Ok w B) :=
  (opens_array2 Try.underlying62 cof62 (opens_int Try.underlying3 cof3)).map (fun x => ⟨x.1, x.2⟩) (fun x => rfl) (fun x h => h)
theorem cof58 : Try.prog.cellsOf 58 = 1 := by kernel_rfl
theorem opens_pairs (w : World) (B : Option Nat) : Opens Try.prog w B 58 1 (fun x : Sl Pair62 => [Sl.v x]) (fun x => SlOk (fun x : Pair62 => Pair62.enc x) 2 w B (fun x : Pair62 => Pair62.Ok w B x) x) :=
  (opens_slice (w := w) (B := B) (e := fun x : Pair62 => Pair62.enc x) (ok := fun x : Pair62 => Pair62.Ok w B x) Try.underlying58 cof58 (by decide) (opens_Pair62 w B))
end Go.Proofs.Ytohiookmpjeddaa

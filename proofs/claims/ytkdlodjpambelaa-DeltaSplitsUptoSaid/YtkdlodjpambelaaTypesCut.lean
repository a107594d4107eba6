/- The readings of what comes in. Printed by wip/types.py. -/
import Derived.Test.YtkdlodjpambelaaOpen
namespace Go.Proofs.Ytkdlodjpambelaa
set_option linter.unusedVariables false
set_option linter.unusedSimpArgs false
open Go Go.RowKit

theorem cofc9 : Try.prog.cellsOf 9 = 1 := by kernel_rfl
theorem cofc3 : Try.prog.cellsOf 3 = 1 := by kernel_rfl
theorem cofc48 : Try.prog.cellsOf 48 = 3 := by kernel_rfl
/-- cressetlaw09.Cut -/
structure Cu where
  sep : ByteArray
  iD : Int
  key : ByteArray
def Cu.enc (x : Cu) : List Value := [.string x.sep, .int .i64 x.iD, .string x.key]
def Cu.Ok (w : World) (B : Option Nat) (x : Cu) : Prop := ((ByteArray.size x.sep ≤ maxLen ∧ Bd B (ByteArray.size x.sep))) ∧ ((Lit.int .i64 x.iD).wf = true) ∧ ((ByteArray.size x.key ≤ maxLen ∧ Bd B (ByteArray.size x.key)))
theorem opens_Cu (w : World) (B : Option Nat) : Opens Try.prog w B 48 3 Cu.enc (Cu.Ok w B) :=
  Opens.map (α := (ByteArray) × (Int) × (ByteArray) × Unit) (enc := fun x => [.string x.1] ++ ([.int .i64 x.2.1] ++ ([.string x.2.2.1] ++ ([])))) (ok := fun x => ((ByteArray.size x.1 ≤ maxLen ∧ Bd B (ByteArray.size x.1))) ∧ (((Lit.int .i64 x.2.1).wf = true) ∧ (((ByteArray.size x.2.2.1 ≤ maxLen ∧ Bd B (ByteArray.size x.2.2.1))) ∧ (True)))) (opens_struct Try.underlying48 cofc48 (.cons (n := 1) (m := 2) (by rfl) (opens_string (w := w) (B := B) Try.underlying9 cofc9) (.cons (n := 1) (m := 1) (by rfl) (opens_int (w := w) (B := B) Try.underlying3 cofc3) (.cons (n := 1) (m := 0) (by rfl) (opens_string (w := w) (B := B) Try.underlying9 cofc9) (.nil 3)))))
    (fun x => ⟨x.1, x.2.1, x.2.2.1⟩) (fun x => by simp [Cu.enc]) (fun x h => ⟨h.1, h.2.1, h.2.2.1⟩)
end Go.Proofs.Ytkdlodjpambelaa

/- The readings of what comes in. Printed by wip/types.py. -/
import Derived.Test.YthbiohfnnjbbgaaOpen
namespace Go.Proofs.Ythbiohfnnjbbgaa
set_option linter.unusedVariables false
set_option linter.unusedSimpArgs false
set_option maxRecDepth 100000
open Go Go.RowKit

theorem cof3 : Try.prog.cellsOf 3 = 1 := by kernel_rfl
theorem cof2 : Try.prog.cellsOf 2 = 1 := by kernel_rfl
theorem cof30 : Try.prog.cellsOf 30 = 2 := by kernel_rfl
/-- api.Handle -/
structure Hd where
  slot : Int
  gen : Int
def Hd.enc (x : Hd) : List Value := [.int .i64 x.slot, .int .i64 x.gen]
def Hd.Ok (w : World) (B : Option Nat) (x : Hd) : Prop := ((Lit.int .i64 x.slot).wf = true) ∧ ((Lit.int .i64 x.gen).wf = true)
theorem opens_Hd (w : World) (B : Option Nat) : Opens Try.prog w B 30 2 Hd.enc (Hd.Ok w B) :=
  Opens.map (α := (Int) × (Int) × Unit) (enc := fun x => [.int .i64 x.1] ++ ([.int .i64 x.2.1] ++ ([]))) (ok := fun x => ((Lit.int .i64 x.1).wf = true) ∧ (((Lit.int .i64 x.2.1).wf = true) ∧ (True))) (opens_struct Try.underlying30 cof30 (.cons (n := 1) (m := 1) (by rfl) (opens_int (w := w) (B := B) Try.underlying3 cof3) (.cons (n := 1) (m := 0) (by rfl) (opens_int (w := w) (B := B) Try.underlying2 cof2) (.nil 2))))
    (fun x => ⟨x.1, x.2.1⟩) (fun x => by simp [Hd.enc]) (fun x h => ⟨h.1, h.2.1⟩)
theorem cof9 : Try.prog.cellsOf 9 = 1 := by kernel_rfl
theorem cof42 : Try.prog.cellsOf 42 = 5 := by kernel_rfl
/-- cressetlaw04.Op -/
structure Op4 where
  do_ : Int
  use : Int
  text : ByteArray
  odd : Hd
def Op4.enc (x : Op4) : List Value := ([.int .i64 x.do_]) ++ (([.int .i64 x.use]) ++ (([.string x.text]) ++ ((Hd.enc x.odd))))
def Op4.Ok (w : World) (B : Option Nat) (x : Op4) : Prop := ((Lit.int .i64 x.do_).wf = true) ∧ ((Lit.int .i64 x.use).wf = true) ∧ ((ByteArray.size x.text ≤ maxLen ∧ Bd B (ByteArray.size x.text))) ∧ (Hd.Ok w B x.odd)
theorem opens_Op4 (w : World) (B : Option Nat) : Opens Try.prog w B 42 5 Op4.enc (Op4.Ok w B) :=
  Opens.map (α := (Int) × (Int) × (ByteArray) × (Hd) × Unit) (enc := fun x => [.int .i64 x.1] ++ ([.int .i64 x.2.1] ++ ([.string x.2.2.1] ++ (Hd.enc x.2.2.2.1 ++ ([]))))) (ok := fun x => ((Lit.int .i64 x.1).wf = true) ∧ (((Lit.int .i64 x.2.1).wf = true) ∧ (((ByteArray.size x.2.2.1 ≤ maxLen ∧ Bd B (ByteArray.size x.2.2.1))) ∧ ((Hd.Ok w B x.2.2.2.1) ∧ (True))))) (opens_struct Try.underlying42 cof42 (.cons (n := 1) (m := 4) (by rfl) (opens_int (w := w) (B := B) Try.underlying3 cof3) (.cons (n := 1) (m := 3) (by rfl) (opens_int (w := w) (B := B) Try.underlying3 cof3) (.cons (n := 1) (m := 2) (by rfl) (opens_string (w := w) (B := B) Try.underlying9 cof9) (.cons (n := 2) (m := 0) (by rfl) (opens_Hd w B) (.nil 5))))))
    (fun x => ⟨x.1, x.2.1, x.2.2.1, x.2.2.2.1⟩) (fun x => by simp [Op4.enc]) (fun x h => ⟨h.1, h.2.1, h.2.2.1, h.2.2.2.1⟩)
theorem cof36 : Try.prog.cellsOf 36 = 1 := by kernel_rfl
theorem opens_ops4 (w : World) (B : Option Nat) : Opens Try.prog w B 36 1 (fun x : Sl Op4 => [Sl.v x]) (fun x => SlOk (fun x : Op4 => Op4.enc x) 5 w B (fun x : Op4 => Op4.Ok w B x) x) :=
  (opens_slice (w := w) (B := B) (e := fun x : Op4 => Op4.enc x) (ok := fun x : Op4 => Op4.Ok w B x) Try.underlying36 cof36 (by decide) (opens_Op4 w B))
theorem cof22 : Try.prog.cellsOf 22 = 1 := by kernel_rfl
theorem opens_ints (w : World) (B : Option Nat) : Opens Try.prog w B 22 1 (fun x : Sl Int => [Sl.v x]) (fun x => SlOk (fun x : Int => [.int .i64 x]) 1 w B (fun x : Int => (Lit.int .i64 x).wf = true) x) :=
  (opens_slice (w := w) (B := B) (e := fun x : Int => [.int .i64 x]) (ok := fun x : Int => (Lit.int .i64 x).wf = true) Try.underlying22 cof22 (by decide) (opens_int (w := w) (B := B) Try.underlying3 cof3))
end Go.Proofs.Ythbiohfnnjbbgaa

/- The readings of what comes in. Printed by wip/types.py. -/
import Derived.Test.YtghmgmchfcbodaaOpen
namespace Go.Proofs.Ytghmgmchfcbodaa
set_option linter.unusedVariables false
set_option linter.unusedSimpArgs false
open Go Go.RowKit

theorem cof3 : Try.prog.cellsOf 3 = 1 := by kernel_rfl
theorem cof2 : Try.prog.cellsOf 2 = 1 := by kernel_rfl
theorem cof29 : Try.prog.cellsOf 29 = 2 := by kernel_rfl
/-- api.Handle -/
structure Hd where
  slot : Int
  gen : Int
def Hd.enc (x : Hd) : List Value := [.int .i64 x.slot, .int .i64 x.gen]
def Hd.Ok (w : World) (B : Option Nat) (x : Hd) : Prop := ((Lit.int .i64 x.slot).wf = true) ∧ ((Lit.int .i64 x.gen).wf = true)
theorem opens_Hd (w : World) (B : Option Nat) : Opens Try.prog w B 29 2 Hd.enc (Hd.Ok w B) :=
  Opens.map (α := (Int) × (Int) × Unit) (enc := fun x => [.int .i64 x.1] ++ ([.int .i64 x.2.1] ++ ([]))) (ok := fun x => ((Lit.int .i64 x.1).wf = true) ∧ (((Lit.int .i64 x.2.1).wf = true) ∧ (True))) (opens_struct Try.underlying29 cof29 (.cons (n := 1) (m := 1) (by rfl) (opens_int (w := w) (B := B) Try.underlying3 cof3) (.cons (n := 1) (m := 0) (by rfl) (opens_int (w := w) (B := B) Try.underlying2 cof2) (.nil 2))))
    (fun x => ⟨x.1, x.2.1⟩) (fun x => by simp [Hd.enc]) (fun x h => ⟨h.1, h.2.1⟩)
theorem cof31 : Try.prog.cellsOf 31 = 3 := by kernel_rfl
/-- api.Retired -/
structure Re where
  kind : Int
  handle : Hd
def Re.enc (x : Re) : List Value := ([.int .i64 x.kind]) ++ ((Hd.enc x.handle))
def Re.Ok (w : World) (B : Option Nat) (x : Re) : Prop := ((Lit.int .i64 x.kind).wf = true) ∧ (Hd.Ok w B x.handle)
theorem opens_Re (w : World) (B : Option Nat) : Opens Try.prog w B 31 3 Re.enc (Re.Ok w B) :=
  Opens.map (α := (Int) × (Hd) × Unit) (enc := fun x => [.int .i64 x.1] ++ (Hd.enc x.2.1 ++ ([]))) (ok := fun x => ((Lit.int .i64 x.1).wf = true) ∧ ((Hd.Ok w B x.2.1) ∧ (True))) (opens_struct Try.underlying31 cof31 (.cons (n := 1) (m := 2) (by rfl) (opens_int (w := w) (B := B) Try.underlying3 cof3) (.cons (n := 2) (m := 0) (by rfl) (opens_Hd w B) (.nil 3))))
    (fun x => ⟨x.1, x.2.1⟩) (fun x => by simp [Re.enc]) (fun x h => ⟨h.1, h.2.1⟩)
theorem cof33 : Try.prog.cellsOf 33 = 5 := by kernel_rfl
/-- cressetlaw06.Op -/
structure Op6 where
  do_ : Int
  s : Int
  what : Re
def Op6.enc (x : Op6) : List Value := ([.int .i64 x.do_]) ++ (([.int .i64 x.s]) ++ ((Re.enc x.what)))
def Op6.Ok (w : World) (B : Option Nat) (x : Op6) : Prop := ((Lit.int .i64 x.do_).wf = true) ∧ ((Lit.int .i64 x.s).wf = true) ∧ (Re.Ok w B x.what)
theorem opens_Op6 (w : World) (B : Option Nat) : Opens Try.prog w B 33 5 Op6.enc (Op6.Ok w B) :=
  Opens.map (α := (Int) × (Int) × (Re) × Unit) (enc := fun x => [.int .i64 x.1] ++ ([.int .i64 x.2.1] ++ (Re.enc x.2.2.1 ++ ([])))) (ok := fun x => ((Lit.int .i64 x.1).wf = true) ∧ (((Lit.int .i64 x.2.1).wf = true) ∧ ((Re.Ok w B x.2.2.1) ∧ (True)))) (opens_struct Try.underlying33 cof33 (.cons (n := 1) (m := 4) (by rfl) (opens_int (w := w) (B := B) Try.underlying3 cof3) (.cons (n := 1) (m := 3) (by rfl) (opens_int (w := w) (B := B) Try.underlying3 cof3) (.cons (n := 3) (m := 0) (by rfl) (opens_Re w B) (.nil 5)))))
    (fun x => ⟨x.1, x.2.1, x.2.2.1⟩) (fun x => by simp [Op6.enc]) (fun x h => ⟨h.1, h.2.1, h.2.2.1⟩)
theorem cof22 : Try.prog.cellsOf 22 = 1 := by kernel_rfl
theorem opens_ops6 (w : World) (B : Option Nat) : Opens Try.prog w B 22 1 (fun x : Sl Op6 => [Sl.v x]) (fun x => SlOk (fun x : Op6 => Op6.enc x) 5 w B (fun x : Op6 => Op6.Ok w B x) x) :=
  (opens_slice (w := w) (B := B) (e := fun x : Op6 => Op6.enc x) (ok := fun x : Op6 => Op6.Ok w B x) Try.underlying22 cof22 (by decide) (opens_Op6 w B))
end Go.Proofs.Ytghmgmchfcbodaa

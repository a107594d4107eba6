/- The readings of what comes in. Printed by wip/types.py. -/
import Derived.Test.YtkjkaliblkihmaaOpen
namespace Go.Proofs.Ytkjkaliblkihmaa
set_option linter.unusedVariables false
set_option linter.unusedSimpArgs false
open Go Go.RowKit

theorem cof3 : Try.prog.cellsOf 3 = 1 := by kernel_rfl
theorem cof2 : Try.prog.cellsOf 2 = 1 := by kernel_rfl
theorem cof23 : Try.prog.cellsOf 23 = 2 := by kernel_rfl
/-- api.Handle -/
structure Hd where
  slot : Int
  gen : Int
def Hd.enc (x : Hd) : List Value := [.int .i64 x.slot, .int .i64 x.gen]
def Hd.Ok (w : World) (B : Option Nat) (x : Hd) : Prop := ((Lit.int .i64 x.slot).wf = true) ∧ ((Lit.int .i64 x.gen).wf = true)
theorem opens_Hd (w : World) (B : Option Nat) : Opens Try.prog w B 23 2 Hd.enc (Hd.Ok w B) :=
  Opens.map (α := (Int) × (Int) × Unit) (enc := fun x => [.int .i64 x.1] ++ ([.int .i64 x.2.1] ++ ([]))) (ok := fun x => ((Lit.int .i64 x.1).wf = true) ∧ (((Lit.int .i64 x.2.1).wf = true) ∧ (True))) (opens_struct Try.underlying23 cof23 (.cons (n := 1) (m := 1) (by rfl) (opens_int (w := w) (B := B) Try.underlying3 cof3) (.cons (n := 1) (m := 0) (by rfl) (opens_int (w := w) (B := B) Try.underlying2 cof2) (.nil 2))))
    (fun x => ⟨x.1, x.2.1⟩) (fun x => by simp [Hd.enc]) (fun x h => ⟨h.1, h.2.1⟩)
theorem cof24 : Try.prog.cellsOf 24 = 1 := by kernel_rfl
theorem opens_hds (w : World) (B : Option Nat) : Opens Try.prog w B 24 1 (fun x : Sl Hd => [Sl.v x]) (fun x => SlOk (fun x : Hd => Hd.enc x) 2 w B (fun x : Hd => Hd.Ok w B x) x) :=
  (opens_slice (w := w) (B := B) (e := fun x : Hd => Hd.enc x) (ok := fun x : Hd => Hd.Ok w B x) Try.underlying24 cof24 (by decide) (opens_Hd w B))
theorem cof40 : Try.prog.cellsOf 40 = 6 := by kernel_rfl
/-- cressetlaw10.Op -/
structure Op10 where
  do_ : Int
  page : Int
  was : Hd
  is_ : Hd
def Op10.enc (x : Op10) : List Value := ([.int .i64 x.do_]) ++ (([.int .i64 x.page]) ++ ((Hd.enc x.was) ++ ((Hd.enc x.is_))))
def Op10.Ok (w : World) (B : Option Nat) (x : Op10) : Prop := ((Lit.int .i64 x.do_).wf = true) ∧ ((Lit.int .i64 x.page).wf = true) ∧ (Hd.Ok w B x.was) ∧ (Hd.Ok w B x.is_)
theorem opens_Op10 (w : World) (B : Option Nat) : Opens Try.prog w B 40 6 Op10.enc (Op10.Ok w B) :=
  Opens.map (α := (Int) × (Int) × (Hd) × (Hd) × Unit) (enc := fun x => [.int .i64 x.1] ++ ([.int .i64 x.2.1] ++ (Hd.enc x.2.2.1 ++ (Hd.enc x.2.2.2.1 ++ ([]))))) (ok := fun x => ((Lit.int .i64 x.1).wf = true) ∧ (((Lit.int .i64 x.2.1).wf = true) ∧ ((Hd.Ok w B x.2.2.1) ∧ ((Hd.Ok w B x.2.2.2.1) ∧ (True))))) (opens_struct Try.underlying40 cof40 (.cons (n := 1) (m := 5) (by rfl) (opens_int (w := w) (B := B) Try.underlying3 cof3) (.cons (n := 1) (m := 4) (by rfl) (opens_int (w := w) (B := B) Try.underlying3 cof3) (.cons (n := 2) (m := 2) (by rfl) (opens_Hd w B) (.cons (n := 2) (m := 0) (by rfl) (opens_Hd w B) (.nil 6))))))
    (fun x => ⟨x.1, x.2.1, x.2.2.1, x.2.2.2.1⟩) (fun x => by simp [Op10.enc]) (fun x h => ⟨h.1, h.2.1, h.2.2.1, h.2.2.2.1⟩)
theorem cof36 : Try.prog.cellsOf 36 = 1 := by kernel_rfl
theorem opens_ops10 (w : World) (B : Option Nat) : Opens Try.prog w B 36 1 (fun x : Sl Op10 => [Sl.v x]) (fun x => SlOk (fun x : Op10 => Op10.enc x) 6 w B (fun x : Op10 => Op10.Ok w B x) x) :=
  (opens_slice (w := w) (B := B) (e := fun x : Op10 => Op10.enc x) (ok := fun x : Op10 => Op10.Ok w B x) Try.underlying36 cof36 (by decide) (opens_Op10 w B))
end Go.Proofs.Ytkjkaliblkihmaa

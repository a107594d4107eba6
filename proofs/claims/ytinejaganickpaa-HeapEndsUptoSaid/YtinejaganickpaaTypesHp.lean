/- The readings of what comes in. Printed by wip/types.py. -/
import Derived.Test.YtinejaganickpaaBaseA
namespace Go.Proofs.Ytinejaganickpaa
set_option maxRecDepth 100000
set_option linter.unusedVariables false
set_option linter.unusedSimpArgs false
open Go Go.RowKit

theorem cof3 : Try.prog.cellsOf 3 = 1 := by kernel_rfl
theorem cof2 : Try.prog.cellsOf 2 = 1 := by kernel_rfl
theorem cof36 : Try.prog.cellsOf 36 = 2 := by kernel_rfl
/-- api.Handle -/
structure Hd where
  slot : Int
  gen : Int
def Hd.enc (x : Hd) : List Value := [.int .i64 x.slot, .int .i64 x.gen]
def Hd.Ok (w : World) (B : Option Nat) (x : Hd) : Prop := ((Lit.int .i64 x.slot).wf = true) ∧ ((Lit.int .i64 x.gen).wf = true)
theorem opens_Hd (w : World) (B : Option Nat) : Opens Try.prog w B 36 2 Hd.enc (Hd.Ok w B) :=
  Opens.map (α := (Int) × (Int) × Unit) (enc := fun x => [.int .i64 x.1] ++ ([.int .i64 x.2.1] ++ ([]))) (ok := fun x => ((Lit.int .i64 x.1).wf = true) ∧ (((Lit.int .i64 x.2.1).wf = true) ∧ (True))) (opens_struct Try.underlying36 cof36 (.cons (n := 1) (m := 1) (by rfl) (opens_int (w := w) (B := B) Try.underlying3 cof3) (.cons (n := 1) (m := 0) (by rfl) (opens_int (w := w) (B := B) Try.underlying2 cof2) (.nil 2))))
    (fun x => ⟨x.1, x.2.1⟩) (fun x => by simp [Hd.enc]) (fun x h => ⟨h.1, h.2.1⟩)
theorem cof9 : Try.prog.cellsOf 9 = 1 := by kernel_rfl
theorem cof4 : Try.prog.cellsOf 4 = 1 := by kernel_rfl
theorem cof34 : Try.prog.cellsOf 34 = 3 := by kernel_rfl
/-- api.Version -/
structure Ve where
  tS : Int
  value : ByteArray
  del : Bool
def Ve.enc (x : Ve) : List Value := [.int .i64 x.tS, .string x.value, .bool x.del]
def Ve.Ok (w : World) (B : Option Nat) (x : Ve) : Prop := ((Lit.int .i64 x.tS).wf = true) ∧ ((ByteArray.size x.value ≤ maxLen ∧ Bd B (ByteArray.size x.value))) ∧ (True)
theorem opens_Ve (w : World) (B : Option Nat) : Opens Try.prog w B 34 3 Ve.enc (Ve.Ok w B) :=
  Opens.map (α := (Int) × (ByteArray) × (Bool) × Unit) (enc := fun x => [.int .i64 x.1] ++ ([.string x.2.1] ++ ([.bool x.2.2.1] ++ ([])))) (ok := fun x => ((Lit.int .i64 x.1).wf = true) ∧ (((ByteArray.size x.2.1 ≤ maxLen ∧ Bd B (ByteArray.size x.2.1))) ∧ ((True) ∧ (True)))) (opens_struct Try.underlying34 cof34 (.cons (n := 1) (m := 2) (by rfl) (opens_int (w := w) (B := B) Try.underlying2 cof2) (.cons (n := 1) (m := 1) (by rfl) (opens_string (w := w) (B := B) Try.underlying9 cof9) (.cons (n := 1) (m := 0) (by rfl) (opens_bool (w := w) (B := B) Try.underlying4 cof4) (.nil 3)))))
    (fun x => ⟨x.1, x.2.1, x.2.2.1⟩) (fun x => by simp [Ve.enc]) (fun x h => ⟨h.1, h.2.1, h.2.2.1⟩)
theorem cof94 : Try.prog.cellsOf 94 = 5 := by kernel_rfl
/-- heap.cell -/
structure Cl where
  key : ByteArray
  newest : Hd
  closed : Bool
  retired : Bool
def Cl.enc (x : Cl) : List Value := ([.string x.key]) ++ ((Hd.enc x.newest) ++ (([.bool x.closed]) ++ (([.bool x.retired]))))
def Cl.Ok (w : World) (B : Option Nat) (x : Cl) : Prop := ((ByteArray.size x.key ≤ maxLen ∧ Bd B (ByteArray.size x.key))) ∧ (Hd.Ok w B x.newest) ∧ (True) ∧ (True)
theorem opens_Cl (w : World) (B : Option Nat) : Opens Try.prog w B 94 5 Cl.enc (Cl.Ok w B) :=
  Opens.map (α := (ByteArray) × (Hd) × (Bool) × (Bool) × Unit) (enc := fun x => [.string x.1] ++ (Hd.enc x.2.1 ++ ([.bool x.2.2.1] ++ ([.bool x.2.2.2.1] ++ ([]))))) (ok := fun x => ((ByteArray.size x.1 ≤ maxLen ∧ Bd B (ByteArray.size x.1))) ∧ ((Hd.Ok w B x.2.1) ∧ ((True) ∧ ((True) ∧ (True))))) (opens_struct Try.underlying94 cof94 (.cons (n := 1) (m := 4) (by rfl) (opens_string (w := w) (B := B) Try.underlying9 cof9) (.cons (n := 2) (m := 2) (by rfl) (opens_Hd w B) (.cons (n := 1) (m := 1) (by rfl) (opens_bool (w := w) (B := B) Try.underlying4 cof4) (.cons (n := 1) (m := 0) (by rfl) (opens_bool (w := w) (B := B) Try.underlying4 cof4) (.nil 5))))))
    (fun x => ⟨x.1, x.2.1, x.2.2.1, x.2.2.2.1⟩) (fun x => by simp [Cl.enc]) (fun x h => ⟨h.1, h.2.1, h.2.2.1, h.2.2.2.1⟩)
theorem cof98 : Try.prog.cellsOf 98 = 5 := by kernel_rfl
/-- heap.node -/
structure No where
  has : Ve
  older : Hd
def No.enc (x : No) : List Value := (Ve.enc x.has) ++ ((Hd.enc x.older))
def No.Ok (w : World) (B : Option Nat) (x : No) : Prop := (Ve.Ok w B x.has) ∧ (Hd.Ok w B x.older)
theorem opens_No (w : World) (B : Option Nat) : Opens Try.prog w B 98 5 No.enc (No.Ok w B) :=
  Opens.map (α := (Ve) × (Hd) × Unit) (enc := fun x => Ve.enc x.1 ++ (Hd.enc x.2.1 ++ ([]))) (ok := fun x => (Ve.Ok w B x.1) ∧ ((Hd.Ok w B x.2.1) ∧ (True))) (opens_struct Try.underlying98 cof98 (.cons (n := 3) (m := 2) (by rfl) (opens_Ve w B) (.cons (n := 2) (m := 0) (by rfl) (opens_Hd w B) (.nil 5))))
    (fun x => ⟨x.1, x.2.1⟩) (fun x => by simp [No.enc]) (fun x h => ⟨h.1, h.2.1⟩)
theorem cof59 : Try.prog.cellsOf 59 = 3 := by kernel_rfl
/-- api.Retired -/
structure Re where
  kind : Int
  handle : Hd
def Re.enc (x : Re) : List Value := ([.int .i64 x.kind]) ++ ((Hd.enc x.handle))
def Re.Ok (w : World) (B : Option Nat) (x : Re) : Prop := ((Lit.int .i64 x.kind).wf = true) ∧ (Hd.Ok w B x.handle)
theorem opens_Re (w : World) (B : Option Nat) : Opens Try.prog w B 59 3 Re.enc (Re.Ok w B) :=
  Opens.map (α := (Int) × (Hd) × Unit) (enc := fun x => [.int .i64 x.1] ++ (Hd.enc x.2.1 ++ ([]))) (ok := fun x => ((Lit.int .i64 x.1).wf = true) ∧ ((Hd.Ok w B x.2.1) ∧ (True))) (opens_struct Try.underlying59 cof59 (.cons (n := 1) (m := 2) (by rfl) (opens_int (w := w) (B := B) Try.underlying3 cof3) (.cons (n := 2) (m := 0) (by rfl) (opens_Hd w B) (.nil 3))))
    (fun x => ⟨x.1, x.2.1⟩) (fun x => by simp [Re.enc]) (fun x h => ⟨h.1, h.2.1⟩)
theorem cof38 : Try.prog.cellsOf 38 = 13 := by kernel_rfl
/-- cressetlaw16.Op -/
structure Op16 where
  do_ : Int
  s : Int
  a : Int
  b : Int
  use : Int
  key : ByteArray
  v : Ve
  tS : Int
  odd : Hd
  kind : Int
def Op16.enc (x : Op16) : List Value := ([.int .i64 x.do_]) ++ (([.int .i64 x.s]) ++ (([.int .i64 x.a]) ++ (([.int .i64 x.b]) ++ (([.int .i64 x.use]) ++ (([.string x.key]) ++ ((Ve.enc x.v) ++ (([.int .i64 x.tS]) ++ ((Hd.enc x.odd) ++ (([.int .i64 x.kind]))))))))))
def Op16.Ok (w : World) (B : Option Nat) (x : Op16) : Prop := ((Lit.int .i64 x.do_).wf = true) ∧ ((Lit.int .i64 x.s).wf = true) ∧ ((Lit.int .i64 x.a).wf = true) ∧ ((Lit.int .i64 x.b).wf = true) ∧ ((Lit.int .i64 x.use).wf = true) ∧ ((ByteArray.size x.key ≤ maxLen ∧ Bd B (ByteArray.size x.key))) ∧ (Ve.Ok w B x.v) ∧ ((Lit.int .i64 x.tS).wf = true) ∧ (Hd.Ok w B x.odd) ∧ ((Lit.int .i64 x.kind).wf = true)
theorem opens_Op16 (w : World) (B : Option Nat) : Opens Try.prog w B 38 13 Op16.enc (Op16.Ok w B) :=
  Opens.map (α := (Int) × (Int) × (Int) × (Int) × (Int) × (ByteArray) × (Ve) × (Int) × (Hd) × (Int) × Unit) (enc := fun x => [.int .i64 x.1] ++ ([.int .i64 x.2.1] ++ ([.int .i64 x.2.2.1] ++ ([.int .i64 x.2.2.2.1] ++ ([.int .i64 x.2.2.2.2.1] ++ ([.string x.2.2.2.2.2.1] ++ (Ve.enc x.2.2.2.2.2.2.1 ++ ([.int .i64 x.2.2.2.2.2.2.2.1] ++ (Hd.enc x.2.2.2.2.2.2.2.2.1 ++ ([.int .i64 x.2.2.2.2.2.2.2.2.2.1] ++ ([]))))))))))) (ok := fun x => ((Lit.int .i64 x.1).wf = true) ∧ (((Lit.int .i64 x.2.1).wf = true) ∧ (((Lit.int .i64 x.2.2.1).wf = true) ∧ (((Lit.int .i64 x.2.2.2.1).wf = true) ∧ (((Lit.int .i64 x.2.2.2.2.1).wf = true) ∧ (((ByteArray.size x.2.2.2.2.2.1 ≤ maxLen ∧ Bd B (ByteArray.size x.2.2.2.2.2.1))) ∧ ((Ve.Ok w B x.2.2.2.2.2.2.1) ∧ (((Lit.int .i64 x.2.2.2.2.2.2.2.1).wf = true) ∧ ((Hd.Ok w B x.2.2.2.2.2.2.2.2.1) ∧ (((Lit.int .i64 x.2.2.2.2.2.2.2.2.2.1).wf = true) ∧ (True))))))))))) (opens_struct Try.underlying38 cof38 (.cons (n := 1) (m := 12) (by rfl) (opens_int (w := w) (B := B) Try.underlying3 cof3) (.cons (n := 1) (m := 11) (by rfl) (opens_int (w := w) (B := B) Try.underlying3 cof3) (.cons (n := 1) (m := 10) (by rfl) (opens_int (w := w) (B := B) Try.underlying3 cof3) (.cons (n := 1) (m := 9) (by rfl) (opens_int (w := w) (B := B) Try.underlying3 cof3) (.cons (n := 1) (m := 8) (by rfl) (opens_int (w := w) (B := B) Try.underlying3 cof3) (.cons (n := 1) (m := 7) (by rfl) (opens_string (w := w) (B := B) Try.underlying9 cof9) (.cons (n := 3) (m := 4) (by rfl) (opens_Ve w B) (.cons (n := 1) (m := 3) (by rfl) (opens_int (w := w) (B := B) Try.underlying2 cof2) (.cons (n := 2) (m := 1) (by rfl) (opens_Hd w B) (.cons (n := 1) (m := 0) (by rfl) (opens_int (w := w) (B := B) Try.underlying3 cof3) (.nil 13))))))))))))
    (fun x => ⟨x.1, x.2.1, x.2.2.1, x.2.2.2.1, x.2.2.2.2.1, x.2.2.2.2.2.1, x.2.2.2.2.2.2.1, x.2.2.2.2.2.2.2.1, x.2.2.2.2.2.2.2.2.1, x.2.2.2.2.2.2.2.2.2.1⟩) (fun x => by simp [Op16.enc]) (fun x h => ⟨h.1, h.2.1, h.2.2.1, h.2.2.2.1, h.2.2.2.2.1, h.2.2.2.2.2.1, h.2.2.2.2.2.2.1, h.2.2.2.2.2.2.2.1, h.2.2.2.2.2.2.2.2.1, h.2.2.2.2.2.2.2.2.2.1⟩)
theorem cof23 : Try.prog.cellsOf 23 = 1 := by kernel_rfl
theorem opens_ops16 (w : World) (B : Option Nat) : Opens Try.prog w B 23 1 (fun x : Sl Op16 => [Sl.v x]) (fun x => SlOk (fun x : Op16 => Op16.enc x) 13 w B (fun x : Op16 => Op16.Ok w B x) x) :=
  (opens_slice (w := w) (B := B) (e := fun x : Op16 => Op16.enc x) (ok := fun x : Op16 => Op16.Ok w B x) Try.underlying23 cof23 (by decide) (opens_Op16 w B))
theorem cof5 : Try.prog.cellsOf 5 = 1 := by kernel_rfl
theorem cof44 : Try.prog.cellsOf 44 = 1 := by kernel_rfl
theorem opens_u8s (w : World) (B : Option Nat) : Opens Try.prog w B 44 1 (fun x : Sl Int => [Sl.v x]) (fun x => SlOk (fun x : Int => [.int .u8 x]) 1 w B (fun x : Int => (Lit.int .u8 x).wf = true) x) :=
  (opens_slice (w := w) (B := B) (e := fun x : Int => [.int .u8 x]) (ok := fun x : Int => (Lit.int .u8 x).wf = true) Try.underlying44 cof44 (by decide) (opens_int (w := w) (B := B) Try.underlying5 cof5))
theorem cof45 : Try.prog.cellsOf 45 = 1 := by kernel_rfl
theorem opens_bools (w : World) (B : Option Nat) : Opens Try.prog w B 45 1 (fun x : Sl Bool => [Sl.v x]) (fun x => SlOk (fun x : Bool => [.bool x]) 1 w B (fun x : Bool => True) x) :=
  (opens_slice (w := w) (B := B) (e := fun x : Bool => [.bool x]) (ok := fun x : Bool => True) Try.underlying45 cof45 (by decide) (opens_bool (w := w) (B := B) Try.underlying4 cof4))
theorem cof22 : Try.prog.cellsOf 22 = 2 := by kernel_rfl
/-- An array of two numbers. -/
structure Pair22 where
  p : Int
  q : Int
def Pair22.enc (x : Pair22) : List Value := [.int .u8 x.p, .int .u8 x.q]
def Pair22.Ok (w : World) (B : Option Nat) (x : Pair22) : Prop := (Lit.int .u8 x.p).wf = true ∧ (Lit.int .u8 x.q).wf = true
theorem opens_Pair22 (w : World) (B : Option Nat) : Opens Try.prog w B 22 2 Pair22.enc (Pair22.Ok w B) :=
  (opens_array2 Try.underlying22 cof22 (opens_int Try.underlying5 cof5)).map (fun x => ⟨x.1, x.2⟩) (fun x => rfl) (fun x h => h)
end Go.Proofs.Ytinejaganickpaa

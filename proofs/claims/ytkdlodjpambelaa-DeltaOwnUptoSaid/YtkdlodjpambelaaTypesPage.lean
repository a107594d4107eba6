/- The readings of what comes in. Printed by wip/types.py. -/
import Derived.Test.YtkdlodjpambelaaOpen
namespace Go.Proofs.Ytkdlodjpambelaa
set_option linter.unusedVariables false
set_option linter.unusedSimpArgs false
open Go Go.RowKit

theorem cof3 : Try.prog.cellsOf 3 = 1 := by kernel_rfl
theorem cof2 : Try.prog.cellsOf 2 = 1 := by kernel_rfl
theorem cof26 : Try.prog.cellsOf 26 = 2 := by kernel_rfl
/-- api.Handle -/
structure Hd where
  slot : Int
  gen : Int
def Hd.enc (x : Hd) : List Value := [.int .i64 x.slot, .int .i64 x.gen]
def Hd.Ok (w : World) (B : Option Nat) (x : Hd) : Prop := ((Lit.int .i64 x.slot).wf = true) ∧ ((Lit.int .i64 x.gen).wf = true)
theorem opens_Hd (w : World) (B : Option Nat) : Opens Try.prog w B 26 2 Hd.enc (Hd.Ok w B) :=
  Opens.map (α := (Int) × (Int) × Unit) (enc := fun x => [.int .i64 x.1] ++ ([.int .i64 x.2.1] ++ ([]))) (ok := fun x => ((Lit.int .i64 x.1).wf = true) ∧ (((Lit.int .i64 x.2.1).wf = true) ∧ (True))) (opens_struct Try.underlying26 cof26 (.cons (n := 1) (m := 1) (by rfl) (opens_int (w := w) (B := B) Try.underlying3 cof3) (.cons (n := 1) (m := 0) (by rfl) (opens_int (w := w) (B := B) Try.underlying2 cof2) (.nil 2))))
    (fun x => ⟨x.1, x.2.1⟩) (fun x => by simp [Hd.enc]) (fun x h => ⟨h.1, h.2.1⟩)
theorem cof9 : Try.prog.cellsOf 9 = 1 := by kernel_rfl
theorem cof28 : Try.prog.cellsOf 28 = 4 := by kernel_rfl
/-- api.Entry -/
structure En where
  key : ByteArray
  ref : Hd
  child : Int
def En.enc (x : En) : List Value := ([.string x.key]) ++ ((Hd.enc x.ref) ++ (([.int .i64 x.child])))
def En.Ok (w : World) (B : Option Nat) (x : En) : Prop := ((ByteArray.size x.key ≤ maxLen ∧ Bd B (ByteArray.size x.key))) ∧ (Hd.Ok w B x.ref) ∧ ((Lit.int .i64 x.child).wf = true)
theorem opens_En (w : World) (B : Option Nat) : Opens Try.prog w B 28 4 En.enc (En.Ok w B) :=
  Opens.map (α := (ByteArray) × (Hd) × (Int) × Unit) (enc := fun x => [.string x.1] ++ (Hd.enc x.2.1 ++ ([.int .i64 x.2.2.1] ++ ([])))) (ok := fun x => ((ByteArray.size x.1 ≤ maxLen ∧ Bd B (ByteArray.size x.1))) ∧ ((Hd.Ok w B x.2.1) ∧ (((Lit.int .i64 x.2.2.1).wf = true) ∧ (True)))) (opens_struct Try.underlying28 cof28 (.cons (n := 1) (m := 3) (by rfl) (opens_string (w := w) (B := B) Try.underlying9 cof9) (.cons (n := 2) (m := 1) (by rfl) (opens_Hd w B) (.cons (n := 1) (m := 0) (by rfl) (opens_int (w := w) (B := B) Try.underlying3 cof3) (.nil 4)))))
    (fun x => ⟨x.1, x.2.1, x.2.2.1⟩) (fun x => by simp [En.enc]) (fun x h => ⟨h.1, h.2.1, h.2.2.1⟩)
theorem cof4 : Try.prog.cellsOf 4 = 1 := by kernel_rfl
theorem cof22 : Try.prog.cellsOf 22 = 1 := by kernel_rfl
theorem cof24 : Try.prog.cellsOf 24 = 5 := by kernel_rfl
/-- api.Page -/
structure Pa where
  leaf : Bool
  low : ByteArray
  high : ByteArray
  right : Int
  list : Sl En
def Pa.enc (x : Pa) : List Value := [.bool x.leaf, .string x.low, .string x.high, .int .i64 x.right, Sl.v x.list]
def Pa.Ok (w : World) (B : Option Nat) (x : Pa) : Prop := (True) ∧ ((ByteArray.size x.low ≤ maxLen ∧ Bd B (ByteArray.size x.low))) ∧ ((ByteArray.size x.high ≤ maxLen ∧ Bd B (ByteArray.size x.high))) ∧ ((Lit.int .i64 x.right).wf = true) ∧ (SlOk (fun x : En => En.enc x) 4 w B (fun x : En => En.Ok w B x) x.list)
theorem opens_Pa (w : World) (B : Option Nat) : Opens Try.prog w B 24 5 Pa.enc (Pa.Ok w B) :=
  Opens.map (α := (Bool) × (ByteArray) × (ByteArray) × (Int) × (Sl En) × Unit) (enc := fun x => [.bool x.1] ++ ([.string x.2.1] ++ ([.string x.2.2.1] ++ ([.int .i64 x.2.2.2.1] ++ ([Sl.v x.2.2.2.2.1] ++ ([])))))) (ok := fun x => (True) ∧ (((ByteArray.size x.2.1 ≤ maxLen ∧ Bd B (ByteArray.size x.2.1))) ∧ (((ByteArray.size x.2.2.1 ≤ maxLen ∧ Bd B (ByteArray.size x.2.2.1))) ∧ (((Lit.int .i64 x.2.2.2.1).wf = true) ∧ ((SlOk (fun x : En => En.enc x) 4 w B (fun x : En => En.Ok w B x) x.2.2.2.2.1) ∧ (True)))))) (opens_struct Try.underlying24 cof24 (.cons (n := 1) (m := 4) (by rfl) (opens_bool (w := w) (B := B) Try.underlying4 cof4) (.cons (n := 1) (m := 3) (by rfl) (opens_string (w := w) (B := B) Try.underlying9 cof9) (.cons (n := 1) (m := 2) (by rfl) (opens_string (w := w) (B := B) Try.underlying9 cof9) (.cons (n := 1) (m := 1) (by rfl) (opens_int (w := w) (B := B) Try.underlying3 cof3) (.cons (n := 1) (m := 0) (by rfl) (opens_slice (w := w) (B := B) (e := fun x : En => En.enc x) (ok := fun x : En => En.Ok w B x) Try.underlying22 cof22 (by decide) (opens_En w B)) (.nil 5)))))))
    (fun x => ⟨x.1, x.2.1, x.2.2.1, x.2.2.2.1, x.2.2.2.2.1⟩) (fun x => by simp [Pa.enc]) (fun x h => ⟨h.1, h.2.1, h.2.2.1, h.2.2.2.1, h.2.2.2.2.1⟩)
theorem cof30 : Try.prog.cellsOf 30 = 12 := by kernel_rfl
/-- api.Delta -/
structure De where
  kind : Int
  entry : En
  key : ByteArray
  page : Int
  right : Pa
def De.enc (x : De) : List Value := ([.int .i64 x.kind]) ++ ((En.enc x.entry) ++ (([.string x.key]) ++ (([.int .i64 x.page]) ++ ((Pa.enc x.right)))))
def De.Ok (w : World) (B : Option Nat) (x : De) : Prop := ((Lit.int .i64 x.kind).wf = true) ∧ (En.Ok w B x.entry) ∧ ((ByteArray.size x.key ≤ maxLen ∧ Bd B (ByteArray.size x.key))) ∧ ((Lit.int .i64 x.page).wf = true) ∧ (Pa.Ok w B x.right)
theorem opens_De (w : World) (B : Option Nat) : Opens Try.prog w B 30 12 De.enc (De.Ok w B) :=
  Opens.map (α := (Int) × (En) × (ByteArray) × (Int) × (Pa) × Unit) (enc := fun x => [.int .i64 x.1] ++ (En.enc x.2.1 ++ ([.string x.2.2.1] ++ ([.int .i64 x.2.2.2.1] ++ (Pa.enc x.2.2.2.2.1 ++ ([])))))) (ok := fun x => ((Lit.int .i64 x.1).wf = true) ∧ ((En.Ok w B x.2.1) ∧ (((ByteArray.size x.2.2.1 ≤ maxLen ∧ Bd B (ByteArray.size x.2.2.1))) ∧ (((Lit.int .i64 x.2.2.2.1).wf = true) ∧ ((Pa.Ok w B x.2.2.2.2.1) ∧ (True)))))) (opens_struct Try.underlying30 cof30 (.cons (n := 1) (m := 11) (by rfl) (opens_int (w := w) (B := B) Try.underlying3 cof3) (.cons (n := 4) (m := 7) (by rfl) (opens_En w B) (.cons (n := 1) (m := 6) (by rfl) (opens_string (w := w) (B := B) Try.underlying9 cof9) (.cons (n := 1) (m := 5) (by rfl) (opens_int (w := w) (B := B) Try.underlying3 cof3) (.cons (n := 5) (m := 0) (by rfl) (opens_Pa w B) (.nil 12)))))))
    (fun x => ⟨x.1, x.2.1, x.2.2.1, x.2.2.2.1, x.2.2.2.2.1⟩) (fun x => by simp [De.enc]) (fun x h => ⟨h.1, h.2.1, h.2.2.1, h.2.2.2.1, h.2.2.2.2.1⟩)
end Go.Proofs.Ytkdlodjpambelaa

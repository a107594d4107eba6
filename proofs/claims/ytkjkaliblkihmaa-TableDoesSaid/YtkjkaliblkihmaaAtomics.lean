/- sync/atomic's Int64: one contract a method. -/
import Derived.Test.YtkjkaliblkihmaaProg
import Derived.Test.YtkjkaliblkihmaaHeap
import Derived.WalkKit
import Derived.KernelRfl
import Derived.Laws.LoneSync
import Derived.IntWalk
namespace Go.Proofs.Ytkjkaliblkihmaa
set_option linter.unusedVariables false
set_option linter.unusedSimpArgs false
open Go Go.RowKit Go.IntWalk

/-- sync/atomic.SwapT: the number is stored, what was there is handed back. -/
theorem run_call_swap {P : Program} {f : FuncId} {fn : Func} (hf : P.funcs[f]? = some fn) (hname : (fn.name == "runtime.NumGoroutine") = false) (hb : fn.body.isNone = true) (hn : Extern.findNext fn = none) (k : IntKind)
    (he : Extern.find fn = some (Extern.Atomic.swapT (.int k))) {a : Addr} {x y : Int} {w : World} (hc : w.cell? a = some (.int k x)) (hz : w.frozen? a = false) :
    (callFunc f #[.pointer (some a), .int k y]).run P w = .ok (.value (.int k x)) (w.setCell a (.int k y)) := by
  rw [run_callFunc_extern hf hname hb hn he]
  change (Sem.run P (do
    let a' ← asAddr (.pointer (some a))
    let old ← Extern.Atomic.read (.int k) a'
    store a' (.int k y) .atomic
    pure old) w).andThen _ = _
  simp [Extern.Atomic.read, asAddr, hc, hz, run_store P w a (.int k y) .atomic rfl, Result.andThen]
/-- A number that is shared. -/
abbrev atom (x : Int) : Obj := .cells #[.int .i64 x] 67
section
variable {m : Nat} {w : World} {x : Int}
theorem aadd (y : Int) (hm : w.heap[m]? = some (atom x)) : Calls Try.prog 29 #[.pointer (some ⟨m, 0, none⟩), .int .i64 y] w fun e w' => e = .returned (.int .i64 (wrap64 (x + y))) ∧ w' = setB w m (atom (wrap64 (x + y))) := by
  obtain ⟨h0, f0⟩ := cells1 hm
  have hadd := run_call_add (P := Try.prog) Try.func46 (by kernel_rfl) (by kernel_rfl) (by kernel_rfl) .i64 (by kernel_rfl) (y := y) (s := wrap64 (x + y)) h0 f0 (by simp [go_sem]; exact i64_left _)
  have HB := Lib.hid hm
  clear hm h0 f0
  go_enter Try.func29, Try.ntmps29
  go_wp2
  go_ret
  exact ⟨rfl, set1 HB.out _ _⟩
theorem aload (hm : w.heap[m]? = some (atom x)) : Calls Try.prog 30 #[.pointer (some ⟨m, 0, none⟩)] w fun e w' => e = .returned (.int .i64 x) ∧ w = w' := by
  obtain ⟨h0, f0⟩ := cells1 hm
  have hl := run_call_load (P := Try.prog) Try.func47 (by kernel_rfl) (by kernel_rfl) (by kernel_rfl) .i64 (by kernel_rfl) h0
  clear hm
  go_enter Try.func30, Try.ntmps30
  go_wp2
  go_ret
  exact ⟨rfl, rfl⟩
theorem astore (y : Int) (hm : w.heap[m]? = some (atom x)) : Calls Try.prog 43 #[.pointer (some ⟨m, 0, none⟩), .int .i64 y] w fun e w' => e = .returned (.tuple #[]) ∧ w' = setB w m (atom y) := by
  obtain ⟨h0, f0⟩ := cells1 hm
  have hs := run_call_store (P := Try.prog) Try.func49 (by kernel_rfl) (by kernel_rfl) (by kernel_rfl) (by kernel_rfl) (k := .i64) (y := y) h0 f0
  have HB := Lib.hid hm
  clear hm h0 f0
  go_enter Try.func43, Try.ntmps43
  go_wp2
  go_end0
  exact ⟨rfl, set1 HB.out _ _⟩
end
end Go.Proofs.Ytkjkaliblkihmaa

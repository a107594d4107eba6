/- sync/atomic's Int64: one contract a method. -/
import Derived.Test.YtghmgmchfcbodaaProg
import Derived.Test.YtghmgmchfcbodaaHeap
import Derived.WalkKit
import Derived.KernelRfl
import Derived.Laws.LoneSync
import Derived.IntWalk
namespace Go.Proofs.Ytghmgmchfcbodaa
set_option linter.unusedVariables false
set_option linter.unusedSimpArgs false
open Go Go.RowKit Go.IntWalk

/-- sync/atomic.SwapT: the number is stored, what was there is handed back. -/
theorem run_call_swap {P : Program} {f : FuncId} {fn : Func} (hf : P.funcs[f]? = some fn) (hname : (fn.name == "runtime.NumGoroutine") = false) (hb : fn.body.isNone = true) (hn : Extern.findNext fn = none) (k : IntKind)
    (he : Extern.find fn = some (Extern.Atomic.swapT (.int k))) {a : Addr} {x y : Int} {w : World} (hc : w.cell? a = some (.int k x)) (hz : w.frozen? a = false) :
    (callFunc f #[.pointer (some a), .int k y]).run P w = .ok (.value (.int k x)) (w.setCell a (.int k y)) := by
  rw [run_callFunc_extern hf hname hb hn he]
  change (Sem.run P (do
    let a' ← asAddr (.pointer (some a))
    let old ← Extern.Atomic.read (.int k) a'
    store a' (.int k y) .atomic
    pure old) w).andThen _ = _
  simp [Extern.Atomic.read, asAddr, hc, hz, run_store P w a (.int k y) .atomic rfl, Result.andThen]
/-- A number that is shared. -/
abbrev atom (x : Int) : Obj := .cells #[.int .i64 x] 74
section
variable {m : Nat} {w : World} {x : Int}
theorem aload (hm : w.heap[m]? = some (atom x)) : Calls Try.prog 28 #[.pointer (some ⟨m, 0, none⟩)] w fun e w' => e = .returned (.int .i64 x) ∧ w = w' := by
  obtain ⟨h0, f0⟩ := cells1 hm
  have hl := run_call_load (P := Try.prog) Try.func41 (by kernel_rfl) (by kernel_rfl) (by kernel_rfl) .i64 (by kernel_rfl) h0
  clear hm
  go_enter Try.func28, Try.ntmps28
  go_wp2
  go_ret
  exact ⟨rfl, rfl⟩
theorem astore (y : Int) (hm : w.heap[m]? = some (atom x)) : Calls Try.prog 36 #[.pointer (some ⟨m, 0, none⟩), .int .i64 y] w fun e w' => e = .returned (.tuple #[]) ∧ w' = setB w m (atom y) := by
  obtain ⟨h0, f0⟩ := cells1 hm
  have hs := run_call_store (P := Try.prog) Try.func43 (by kernel_rfl) (by kernel_rfl) (by kernel_rfl) (by kernel_rfl) (k := .i64) (y := y) h0 f0
  have HB := Lib.hid hm
  clear hm h0 f0
  go_enter Try.func36, Try.ntmps36
  go_wp2
  go_end0
  exact ⟨rfl, set1 HB.out _ _⟩
theorem aswap (y : Int) (hm : w.heap[m]? = some (atom x)) : Calls Try.prog 26 #[.pointer (some ⟨m, 0, none⟩), .int .i64 y] w fun e w' => e = .returned (.int .i64 x) ∧ w' = setB w m (atom y) := by
  obtain ⟨h0, f0⟩ := cells1 hm
  have hs := run_call_swap (P := Try.prog) Try.func40 (by kernel_rfl) (by kernel_rfl) (by kernel_rfl) .i64 (by kernel_rfl) (y := y) h0 f0
  have HB := Lib.hid hm
  clear hm h0 f0
  go_enter Try.func26, Try.ntmps26
  go_wp2
  go_ret
  exact ⟨rfl, set1 HB.out _ _⟩
theorem acas (o y : Int) (hm : w.heap[m]? = some (atom x)) : Calls Try.prog 25 #[.pointer (some ⟨m, 0, none⟩), .int .i64 o, .int .i64 y] w fun e w' => e = .returned (.bool (decide (x = o))) ∧ w' = if x = o then setB w m (atom y) else w := by
  obtain ⟨h0, f0⟩ := cells1 hm
  by_cases hx : x = o
  · subst hx
    have hs := run_call_cas_hit (P := Try.prog) Try.func39 (by kernel_rfl) (by kernel_rfl) (by kernel_rfl) .i64 (by kernel_rfl) (y := y) h0 f0
    have HB := Lib.hid hm
    clear hm h0 f0
    go_enter Try.func25, Try.ntmps25
    go_wp2
    go_ret
    exact ⟨by simp, set1 HB.out _ _⟩
  · have hs := run_call_cas_miss (P := Try.prog) Try.func39 (by kernel_rfl) (by kernel_rfl) (by kernel_rfl) .i64 (by kernel_rfl) (y := y) h0 f0 hx
    clear hm h0 f0
    go_enter Try.func25, Try.ntmps25
    go_wp2
    go_ret
    exact ⟨by simp [hx], rfl⟩
end
end Go.Proofs.Ytghmgmchfcbodaa

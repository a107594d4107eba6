/- The walks of cells: one contract a method. -/
import Derived.Test.YtohiookmpjeddaaProg
import Derived.Test.YtohiookmpjeddaaHeap
import Derived.WalkKit
import Derived.KernelRfl
import Derived.Outline
import Derived.Lib.Hide
import Derived.Deep.QuietTactic
import Derived.BigQuiet
namespace Go.Proofs.Ytohiookmpjeddaa
set_option linter.unusedVariables false
set_option linter.unusedSimpArgs false
open Go Go.RowKit

/-- A cell of numbers, of texts; the document's. -/
abbrev cellI (x n : Int) : Obj := .cells #[.int .i64 x, .int .i64 n, .bool true] 69
abbrev cellS (x : ByteArray) (n : Int) : Obj := .cells #[.string x, .int .i64 n, .bool true] 77
abbrev cellR (x n : Int) : Obj := .cells #[.int .i64 x, .int .i64 n] 35

theorem newI (x : Int) (w : World) : Calls Try.prog 12 #[.int .i64 x] w fun e w' => e = .returned (.pointer (some ⟨w.heap.size, 0, none⟩)) ∧ w' = w.alloc (cellI x 0) := by
  go_enter Try.func12, Try.ntmps12
  go_wp2
  go_ret
  exact ⟨rfl, rfl⟩
theorem newS (x : ByteArray) (w : World) : Calls Try.prog 8 #[.string x] w fun e w' => e = .returned (.pointer (some ⟨w.heap.size, 0, none⟩)) ∧ w' = w.alloc (cellS x 0) := by
  go_enter Try.func8, Try.ntmps8
  go_wp2
  go_ret
  exact ⟨rfl, rfl⟩

section
variable {b : Nat} {w : World}
theorem noneI {x n : Int} (hb : w.heap[b]? = some (cellI x n)) : Calls Try.prog 36 #[.pointer (some ⟨b, 0, none⟩)] w fun e w' => e = .returned (.bool false) ∧ w = w' := by
  obtain ⟨_, _, h2, _⟩ := cells3 hb
  clear hb
  go_enter Try.func36, Try.ntmps36
  go_wp2
  go_ret
  exact ⟨rfl, rfl⟩
theorem noneS {x : ByteArray} {n : Int} (hb : w.heap[b]? = some (cellS x n)) : Calls Try.prog 34 #[.pointer (some ⟨b, 0, none⟩)] w fun e w' => e = .returned (.bool false) ∧ w = w' := by
  obtain ⟨_, _, h2, _⟩ := cells3 hb
  clear hb
  go_enter Try.func34, Try.ntmps34
  go_wp2
  go_ret
  exact ⟨rfl, rfl⟩
theorem setI {x n : Int} (y : Int) (hb : w.heap[b]? = some (cellI x n)) :
    Calls Try.prog 15 #[.pointer (some ⟨b, 0, none⟩), .int .i64 y] w fun e w' => e = .returned (.int .i64 (wrap64 (n + 1))) ∧ w' = setB w b (cellI y (wrap64 (n + 1))) := by
  obtain ⟨h0, h1, h2, f0, f1, _⟩ := cells3 hb
  have HB := Lib.hid hb
  clear hb
  go_enter Try.func15, Try.ntmps15
  go_wp2
  go_ret
  exact ⟨rfl, set2 HB.out _ _ _ _⟩
theorem setS {x : ByteArray} {n : Int} (y : ByteArray) (hb : w.heap[b]? = some (cellS x n)) :
    Calls Try.prog 35 #[.pointer (some ⟨b, 0, none⟩), .string y] w fun e w' => e = .returned (.int .i64 (wrap64 (n + 1))) ∧ w' = setB w b (cellS y (wrap64 (n + 1))) := by
  obtain ⟨h0, h1, h2, f0, f1, _⟩ := cells3 hb
  have HB := Lib.hid hb
  clear hb
  go_enter Try.func35, Try.ntmps35
  go_wp2
  go_ret
  exact ⟨rfl, set2 HB.out _ _ _ _⟩
theorem loadI {x n : Int} (hb : w.heap[b]? = some (cellI x n)) : Calls Try.prog 18 #[.pointer (some ⟨b, 0, none⟩)] w fun e w' => e = .returned (.tuple #[.int .i64 x, .int .i64 n]) ∧ ∃ m, w' = w.drewN m := by
  obtain ⟨h0, h1, h2, _⟩ := cells3 hb
  clear hb
  go_enter Try.func18, Try.ntmps18
  go_wp2
  go_quiet (fail)
  go_wp2
  go_ret2
  exact ⟨rfl, _, rfl⟩
theorem loadS {x : ByteArray} {n : Int} (hb : w.heap[b]? = some (cellS x n)) : Calls Try.prog 11 #[.pointer (some ⟨b, 0, none⟩)] w fun e w' => e = .returned (.tuple #[.string x, .int .i64 n]) ∧ ∃ m, w' = w.drewN m := by
  obtain ⟨h0, h1, h2, _⟩ := cells3 hb
  clear hb
  go_enter Try.func11, Try.ntmps11
  go_wp2
  go_quiet (fail)
  go_wp2
  go_ret2
  exact ⟨rfl, _, rfl⟩
theorem swapI {x n : Int} (was y : Int) (hb : w.heap[b]? = some (cellI x n)) :
    Calls Try.prog 13 #[.pointer (some ⟨b, 0, none⟩), .int .i64 was, .int .i64 y] w fun e w' => e = .returned (.bool (x == was)) ∧ w' = if x = was then setB w b (cellI y (wrap64 (n + 1))) else w := by
  obtain ⟨h0, h1, h2, f0, f1, _⟩ := cells3 hb
  have HB := Lib.hid hb
  clear hb
  by_cases hx : x = was
  · subst hx
    go_enter Try.func13, Try.ntmps13
    go_wp2_with (first | (go_at_call 36; refine (noneI HB.out).mono ?_; rintro e w' ⟨rfl, rfl⟩) | (go_at_call 15; refine (setI y HB.out).mono ?_; rintro e w' ⟨rfl, rfl⟩))
    go_ret
    simp
  · have hx' : (x == was) = false := by simpa using hx
    have hx2 : (x != was) = true := by simpa using hx
    have HX := Lib.hid hx
    clear hx
    go_enter Try.func13, Try.ntmps13
    go_wp2_with (go_at_call 36; refine (noneI HB.out).mono ?_; rintro e w' ⟨rfl, rfl⟩)
    go_ret
    simp [HX.out]
theorem swapS {x : ByteArray} {n : Int} (was y : ByteArray) (hb : w.heap[b]? = some (cellS x n)) :
    Calls Try.prog 10 #[.pointer (some ⟨b, 0, none⟩), .string was, .string y] w fun e w' => e = .returned (.bool (decide (x = was))) ∧ w' = if x = was then setB w b (cellS y (wrap64 (n + 1))) else w := by
  obtain ⟨h0, h1, h2, f0, f1, _⟩ := cells3 hb
  have HB := Lib.hid hb
  clear hb
  by_cases hx : x = was
  · subst hx
    go_enter Try.func10, Try.ntmps10
    go_wp2_with (first | (go_at_call 34; refine (noneS HB.out).mono ?_; rintro e w' ⟨rfl, rfl⟩) | (go_at_call 35; refine (setS y HB.out).mono ?_; rintro e w' ⟨rfl, rfl⟩))
    go_ret
    simp
  · have hx' := beq_str_false hx
    have HX := Lib.hid hx
    clear hx
    go_enter Try.func10, Try.ntmps10
    go_wp2_with (go_at_call 34; refine (noneS HB.out).mono ?_; rintro e w' ⟨rfl, rfl⟩)
    go_ret
    simp [HX.out]
theorem swapI_yes {was n : Int} (y : Int) (hb : w.heap[b]? = some (cellI was n)) :
    Calls Try.prog 13 #[.pointer (some ⟨b, 0, none⟩), .int .i64 was, .int .i64 y] w fun e w' => e = .returned (.bool true) ∧ w' = setB w b (cellI y (wrap64 (n + 1))) :=
  (swapI was y hb).mono fun e w' h => ⟨by simpa using h.1, by simpa using h.2⟩
theorem swapI_no {x was n : Int} (y : Int) (hx : x ≠ was) (hb : w.heap[b]? = some (cellI x n)) :
    Calls Try.prog 13 #[.pointer (some ⟨b, 0, none⟩), .int .i64 was, .int .i64 y] w fun e w' => e = .returned (.bool false) ∧ w = w' :=
  (swapI was y hb).mono fun e w' h => ⟨by rw [h.1, beq_false_of_ne hx], by simpa [hx] using h.2.symm⟩
theorem cloneI {x n : Int} (hb : w.heap[b]? = some (cellI x n)) :
    Calls Try.prog 17 #[.pointer (some ⟨b, 0, none⟩)] w fun e w' => e = .returned (.pointer (some ⟨w.heap.size, 0, none⟩)) ∧ w' = w.alloc (cellI x n) := by
  obtain ⟨h0, h1, h2, f0, f1, _⟩ := cells3 hb
  have HB := Lib.hid hb
  clear hb
  go_enter Try.func17, Try.ntmps17
  go_wp2_with (go_at_call 36; refine (noneI HB.out).mono ?_; rintro e w' ⟨rfl, rfl⟩)
  go_ret
  exact ⟨rfl, rfl⟩
theorem rswap {x n : Int} (was y : Int) (hb : w.heap[b]? = some (cellR x n)) :
    Calls Try.prog 14 #[.pointer (some ⟨b, 0, none⟩), .int .i64 was, .int .i64 y] w fun e w' => e = .returned (.bool (x == was)) ∧ w' = if x = was then setB w b (cellR y (wrap64 (n + 1))) else w := by
  obtain ⟨h0, h1, f0, f1⟩ := cells2 hb
  have HB := Lib.hid hb
  clear hb
  by_cases hx : x = was
  · subst hx
    go_enter Try.func14, Try.ntmps14
    go_wp2
    go_ret
    simp
    exact set2 HB.out _ _ _ _
  · have hx' : (x == was) = false := by simpa using hx
    have hx2 : (x != was) = true := by simpa using hx
    have HX := Lib.hid hx
    clear hx
    go_enter Try.func14, Try.ntmps14
    go_wp2
    go_ret
    simp [HX.out]
theorem rset {x n : Int} (y : Int) (hb : w.heap[b]? = some (cellR x n)) :
    Calls Try.prog 16 #[.pointer (some ⟨b, 0, none⟩), .int .i64 y] w fun e w' => e = .returned (.int .i64 (wrap64 (n + 1))) ∧ w' = setB w b (cellR y (wrap64 (n + 1))) := by
  obtain ⟨h0, h1, f0, f1⟩ := cells2 hb
  have HB := Lib.hid hb
  clear hb
  go_enter Try.func16, Try.ntmps16
  go_wp2
  go_ret
  exact ⟨rfl, set2 HB.out _ _ _ _⟩
theorem rswap_yes {was n : Int} (y : Int) (hb : w.heap[b]? = some (cellR was n)) :
    Calls Try.prog 14 #[.pointer (some ⟨b, 0, none⟩), .int .i64 was, .int .i64 y] w fun e w' => e = .returned (.bool true) ∧ w' = setB w b (cellR y (wrap64 (n + 1))) :=
  (rswap was y hb).mono fun e w' h => ⟨by simpa using h.1, by simpa using h.2⟩
theorem rswap_no {x was n : Int} (y : Int) (hx : x ≠ was) (hb : w.heap[b]? = some (cellR x n)) :
    Calls Try.prog 14 #[.pointer (some ⟨b, 0, none⟩), .int .i64 was, .int .i64 y] w fun e w' => e = .returned (.bool false) ∧ w = w' :=
  (rswap was y hb).mono fun e w' h => ⟨by rw [h.1, beq_false_of_ne hx], by simpa [hx] using h.2.symm⟩
end
end Go.Proofs.Ytohiookmpjeddaa

/- The walks of cells of handles. -/
import Derived.Test.YtkjkaliblkihmaaProg
import Derived.Test.YtkjkaliblkihmaaHeap
import Derived.WalkKit
import Derived.KernelRfl
import Derived.Outline
import Derived.Lib.Hide
import Derived.Deep.QuietTactic
import Derived.BigQuiet
import Derived.Deep.DeepCutAuto
import Derived.Deep.RegionHeld3
import Derived.Deep.DrawnRows
namespace Go.Proofs.Ytkjkaliblkihmaa
set_option linter.unusedVariables false
set_option linter.unusedSimpArgs false
open Go Go.RowKit

/-- A handle, as a value. -/
abbrev hv (h : Int × Int) : Value := .agg #[.int .i64 h.1, .int .i64 h.2]
/-- A cell of a handle. -/
abbrev cellH (h : Int × Int) (n : Int) : Obj := .cells #[.int .i64 h.1, .int .i64 h.2, .int .i64 n, .bool true] 86

/-- Comparing handles. -/
theorem run_neq_hv (a b : Int × Int) (w : World) : (binOp .neq 23 (hv a) (hv b)).run Try.prog w = .ok (.bool (!decide (a = b))) w := by
  obtain ⟨a1, a2⟩ := a
  obtain ⟨b1, b2⟩ := b
  by_cases h1 : a1 = b1
  · by_cases h2 : a2 = b2
    · subst h1; subst h2; go_simp
    · have h3 : ¬ (a1, a2) = (b1, b2) := fun e => h2 (Prod.mk.inj e).2
      go_simp
  · have h3 : ¬ (a1, a2) = (b1, b2) := fun e => h1 (Prod.mk.inj e).1
    go_simp
theorem run_eql_hv (a b : Int × Int) (w : World) : (binOp .eql 23 (hv a) (hv b)).run Try.prog w = .ok (.bool (decide (a = b))) w := by
  obtain ⟨a1, a2⟩ := a
  obtain ⟨b1, b2⟩ := b
  by_cases h1 : a1 = b1
  · by_cases h2 : a2 = b2
    · subst h1; subst h2; go_simp
    · have h3 : ¬ (a1, a2) = (b1, b2) := fun e => h2 (Prod.mk.inj e).2
      go_simp
  · have h3 : ¬ (a1, a2) = (b1, b2) := fun e => h1 (Prod.mk.inj e).1
    go_simp
theorem newH (h : Int × Int) (w : World) : Calls Try.prog 26 #[hv h] w fun e w' => ∃ b, e = .returned (.pointer (some ⟨b, 0, none⟩)) ∧ w.heap.size ≤ b ∧ w'.heap[b]? = some (cellH h 0) ∧ KN w w' := by
  go_enter Try.func26, Try.ntmps26
  go_wp2
  go_ret
  refine ⟨w.heap.size + 1, rfl, by omega, ?_, (kn_alloc _ _).alloc _⟩
  have := heap_alloc_same (w.alloc (.cells #[.int .i64 h.1, .int .i64 h.2] 23)) (cellH h 0)
  simpa using this
section
variable {b : Nat} {w : World} {h : Int × Int} {n : Int}
theorem noneH (hb : w.heap[b]? = some (cellH h n)) : Calls Try.prog 44 #[.pointer (some ⟨b, 0, none⟩)] w fun e w' => e = .returned (.bool false) ∧ w = w' := by
  have h3 : w.cell? ⟨b, 3, none⟩ = some (.bool true) := cell_blk hb rfl
  clear hb
  go_enter Try.func44, Try.ntmps44
  go_wp2
  go_ret
  exact ⟨rfl, rfl⟩
theorem loadH (hb : w.heap[b]? = some (cellH h n)) : Calls Try.prog 31 #[.pointer (some ⟨b, 0, none⟩)] w fun e w' => e = .returned (.tuple #[hv h, .int .i64 n]) ∧ KN w w' := by
  have h0 : w.cell? ⟨b, 0, none⟩ = some (.int .i64 h.1) := cell_blk hb rfl
  have h1 : w.cell? ⟨b, 1, none⟩ = some (.int .i64 h.2) := cell_blk hb rfl
  have h2 : w.cell? ⟨b, 2, none⟩ = some (.int .i64 n) := cell_blk hb rfl
  have hlt := lt_blk hb
  have HB := Lib.hid hb
  have e0 := World.new_ne w _ h0
  have e1 := World.new_ne w _ h1
  have e2 := World.new_ne w _ h2
  clear hb
  go_enter Try.func31, Try.ntmps31
  go_wp2_with (go_at_call 44; refine (noneH (h := h) (n := n) (blk_alloc _ HB.out)).mono ?_; rintro e w' ⟨rfl, rfl⟩)
  go_region_held3 (fun w' => w'.cell? ⟨b, 0, none⟩ = some (.int .i64 h.1) ∧ w'.cell? ⟨b, 1, none⟩ = some (.int .i64 h.2) ∧ w'.cell? ⟨b, 2, none⟩ = some (.int .i64 n)) (go_keep) (fail)
  all_goals go_wp2
  all_goals refine bodyPost_ret (v := .tuple #[hv h, .int .i64 n]) (by simp [results, Try.results31, go_sem]) rfl ⟨rfl, ?_⟩
  all_goals repeat (first | exact Kp.refl _ _ | apply Kp.alloc | apply Kp.drewN | apply Kp.drew | refine Kp.setCell ?_ (.inr (by simp; try omega)) _)
theorem setH (y : Int × Int) (hb : w.heap[b]? = some (cellH h n)) :
    Calls Try.prog 45 #[.pointer (some ⟨b, 0, none⟩), hv y] w fun e w' => e = .returned (.int .i64 (wrap64 (n + 1))) ∧ w'.heap[b]? = some (cellH y (wrap64 (n + 1))) ∧ Kp (· = b) w w' := by
  have h0 : w.cell? ⟨b, 0, none⟩ = some (.int .i64 h.1) := cell_blk hb rfl
  have h1 : w.cell? ⟨b, 1, none⟩ = some (.int .i64 h.2) := cell_blk hb rfl
  have h2 : w.cell? ⟨b, 2, none⟩ = some (.int .i64 n) := cell_blk hb rfl
  have f0 : w.frozen? ⟨b, 0, none⟩ = false := free_blk hb
  have f1 : w.frozen? ⟨b, 1, none⟩ = false := free_blk hb
  have f2 : w.frozen? ⟨b, 2, none⟩ = false := free_blk hb
  have hlt := lt_blk hb
  have HB := Lib.hid hb
  clear hb
  go_enter Try.func45, Try.ntmps45
  go_wp2_with (go_at_call 44; refine (noneH (h := h) (n := n) (blk_alloc _ HB.out)).mono ?_; rintro e w' ⟨rfl, rfl⟩)
  go_ret
  refine ⟨rfl, ?_, ?_⟩
  · have := blk_alloc (.cells #[.int .i64 y.1, .int .i64 y.2] 23) (setB_same (w := w) (cellH y (wrap64 (n + 1))) hlt)
    rw [set3 HB.out]
    exact this
  · rw [set3 HB.out]
    exact ((Kp.refl (· = b) _).setB (.inl rfl) _).alloc _
theorem swapH_yes (y : Int × Int) (hb : w.heap[b]? = some (cellH h n)) :
    Calls Try.prog 28 #[.pointer (some ⟨b, 0, none⟩), hv h, hv y] w fun e w' => e = .returned (.bool true) ∧ w'.heap[b]? = some (cellH y (wrap64 (n + 1))) ∧ Kp (· = b) w w' := by
  have h0 : w.cell? ⟨b, 0, none⟩ = some (.int .i64 h.1) := cell_blk hb rfl
  have h1 : w.cell? ⟨b, 1, none⟩ = some (.int .i64 h.2) := cell_blk hb rfl
  have hlt := lt_blk hb
  have HB := Lib.hid hb
  have hq : ∀ w, (binOp .neq 23 (hv h) (hv h)).run Try.prog w = .ok (.bool false) w := fun w => by rw [run_neq_hv]; simp
  clear hb
  go_enter Try.func28, Try.ntmps28
  go_wp2_with (go_at_call 44; refine (noneH (h := h) (n := n) (blk_alloc _ (blk_alloc _ HB.out))).mono ?_; rintro e w' ⟨rfl, rfl⟩)
  go_quiet ((go_at_call 44; exact quiet_l (noneH (h := h) (n := n) (blk_alloc _ (blk_alloc _ HB.out)))))
  go_wp2_with fail
  refine (setH y (h := h) (n := n) ?_).mono ?_
  · exact blk_alloc _ (blk_alloc _ HB.out)
  rintro e w' ⟨rfl, hb', hk⟩
  go_wp2
  go_ret
  refine ⟨rfl, hb', ((((Kp.refl (· = b) w).alloc _).alloc _).drewN _).trans hk (fun i h => .inl h)⟩
theorem swapH_no {was : Int × Int} (y : Int × Int) (hne : h ≠ was) (hb : w.heap[b]? = some (cellH h n)) :
    Calls Try.prog 28 #[.pointer (some ⟨b, 0, none⟩), hv was, hv y] w fun e w' => e = .returned (.bool false) ∧ KN w w' := by
  have h0 : w.cell? ⟨b, 0, none⟩ = some (.int .i64 h.1) := cell_blk hb rfl
  have h1 : w.cell? ⟨b, 1, none⟩ = some (.int .i64 h.2) := cell_blk hb rfl
  have hlt := lt_blk hb
  have HB := Lib.hid hb
  have hq : ∀ w, (binOp .neq 23 (hv h) (hv was)).run Try.prog w = .ok (.bool true) w := fun w => by rw [run_neq_hv]; simp [hne]
  clear hb hne
  go_enter Try.func28, Try.ntmps28
  go_wp2_with (go_at_call 44; refine (noneH (h := h) (n := n) (blk_alloc _ (blk_alloc _ HB.out))).mono ?_; rintro e w' ⟨rfl, rfl⟩)
  go_quiet ((go_at_call 44; exact quiet_l (noneH (h := h) (n := n) (blk_alloc _ (blk_alloc _ HB.out)))))
  go_wp2
  go_ret
  refine ⟨rfl, ((kn_alloc _ _).alloc _).drewN _⟩
end
end Go.Proofs.Ytkjkaliblkihmaa

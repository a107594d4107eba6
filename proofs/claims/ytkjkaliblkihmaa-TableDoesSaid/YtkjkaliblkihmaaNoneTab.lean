/- Tables that no call made: each method's walk. -/
import Derived.Test.YtkjkaliblkihmaaOwn
import Derived.Test.YtkjkaliblkihmaaTabBegun
namespace Go.Proofs.Ytkjkaliblkihmaa
set_option linter.unusedVariables false
set_option linter.unusedSimpArgs false
open Go Go.RowKit

/-- A table that no call made. -/
def NoT (w : World) (p : Option Addr) : Prop := p = none ∨ ∃ b, p = some ⟨b, 0, none⟩ ∧ w.heap[b]? = some (.cells #[.slice none 0 0, .pointer none] 57)
theorem NoT.kn {w w' : World} {p : Option Addr} (h : NoT w p) (k : KN w w') : NoT w' p := h.imp id fun ⟨b, hp, hb⟩ => ⟨b, hp, k.blk hb id⟩
def No (v : Value) (w : World) (e : Ending) (w' : World) : Prop := e = .returned v ∧ KN w w'
section
variable {w : World} {p : Option Addr}
theorem none_no (h : NoT w p) : Calls Try.prog 25 #[.pointer p] w (No (.bool true) w) := by
  rcases h with rfl | ⟨b, rfl, hb⟩
  · go_enter Try.func25, Try.ntmps25
    go_wp2
    go_ret
    exact ⟨rfl, Kp.refl _ _⟩
  · obtain ⟨_, h2, _⟩ := cells2 hb
    clear hb
    go_enter Try.func25, Try.ntmps25
    go_wp2
    go_ret
    exact ⟨rfl, Kp.refl _ _⟩
theorem looks_no (n s : Int) (h : NoT w p) : Calls Try.prog 27 #[.pointer p, .int .i64 n, .int .i64 s] w (No (.int .i64 2) w) := by
  go_enter Try.func27, Try.ntmps27
  go_wp2_with (go_at_call 25; refine (none_no h).mono ?_; rintro e w' ⟨rfl, k⟩)
  go_ret
  exact ⟨rfl, k⟩
theorem alloc_no (a b : Int) (h : NoT w p) : Calls Try.prog 9 #[.pointer p, .agg #[.int .i64 a, .int .i64 b]] w (No (.tuple #[.int .i64 0, .int .i64 2]) w) := by
  have h' := h.kn (kn_alloc w (.cells #[.int .i64 a, .int .i64 b] 23))
  go_enter Try.func9, Try.ntmps9
  go_wp2_with (go_at_call 25; refine (none_no h').mono ?_; rintro e w' ⟨rfl, k⟩)
  go_ret2
  exact ⟨rfl, (kn_alloc _ _).then k (fun _ h => h.elim)⟩
theorem swap_no (n a b c d : Int) (h : NoT w p) : Calls Try.prog 10 #[.pointer p, .int .i64 n, .agg #[.int .i64 a, .int .i64 b], .agg #[.int .i64 c, .int .i64 d]] w (No (.tuple #[.bool false, .int .i64 2]) w) := by
  have h' := h.kn ((kn_alloc w (.cells #[.int .i64 a, .int .i64 b] 23)).alloc (.cells #[.int .i64 c, .int .i64 d] 23))
  go_enter Try.func10, Try.ntmps10
  go_wp2_with (go_at_call 27; refine (looks_no _ _ h').mono ?_; rintro e w' ⟨rfl, k⟩)
  go_ret2
  exact ⟨rfl, ((kn_alloc _ _).alloc _).then k (fun _ h => h.elim)⟩
theorem load_no (n : Int) (h : NoT w p) : Calls Try.prog 14 #[.pointer p, .int .i64 n] w (No (.tuple #[.agg #[.int .i64 0, .int .i64 0], .int .i64 2]) w) := by
  have h' := h.kn (kn_alloc w (.cells #[.int .i64 0, .int .i64 0] 23))
  go_enter Try.func14, Try.ntmps14
  go_wp2_with (go_at_call 27; refine (looks_no _ _ h').mono ?_; rintro e w' ⟨rfl, k⟩; obtain ⟨r0, r1, r2, r3⟩ := cells2 (k.blk (heap_alloc_same _ _) id))
  refine bodyPost_ret (v := .tuple #[.agg #[.int .i64 0, .int .i64 0], .int .i64 2]) (by simp [results, Try.results14, go_sem, r0, r1, r2, r3]) rfl ⟨rfl, ?_⟩
  exact (((kn_alloc _ _).then k (fun _ h => h.elim)).setCell (.inr (Nat.le_refl _)) _).setCell (.inr (Nat.le_refl _)) _
theorem retire_no (n : Int) (h : NoT w p) : Calls Try.prog 12 #[.pointer p, .int .i64 n] w (No (.int .i64 2) w) := by
  go_enter Try.func12, Try.ntmps12
  go_wp2_with (go_at_call 27; refine (looks_no _ _ h).mono ?_; rintro e w' ⟨rfl, k⟩)
  go_ret
  exact ⟨rfl, k⟩
theorem release_no (n : Int) (h : NoT w p) : Calls Try.prog 13 #[.pointer p, .int .i64 n] w (No (.int .i64 2) w) := by
  go_enter Try.func13, Try.ntmps13
  go_wp2_with (go_at_call 27; refine (looks_no _ _ h).mono ?_; rintro e w' ⟨rfl, k⟩)
  go_ret
  exact ⟨rfl, k⟩
theorem state_no (n : Int) (h : NoT w p) : Calls Try.prog 21 #[.pointer p, .int .i64 n] w (No (.int .i64 0) w) := by
  go_enter Try.func21, Try.ntmps21
  go_wp2_with (go_at_call 25; refine (none_no h).mono ?_; rintro e w' ⟨rfl, k⟩)
  go_ret
  exact ⟨rfl, k⟩
theorem pages_no (h : NoT w p) : Calls Try.prog 22 #[.pointer p] w (No (.int .i64 0) w) := by
  go_enter Try.func22, Try.ntmps22
  go_wp2_with (go_at_call 25; refine (none_no h).mono ?_; rintro e w' ⟨rfl, k⟩)
  go_ret
  exact ⟨rfl, k⟩
theorem many_no (s : Int) (h : NoT w p) : Calls Try.prog 32 #[.pointer p, .int .i64 s] w (No (.int .i64 0) w) := by
  go_enter Try.func32, Try.ntmps32
  go_wp2_with (go_at_call 25; refine (none_no h).mono ?_; rintro e w' ⟨rfl, k⟩)
  go_ret
  exact ⟨rfl, k⟩
theorem live_no (h : NoT w p) : Calls Try.prog 15 #[.pointer p] w (No (.int .i64 0) w) := by
  go_enter Try.func15, Try.ntmps15
  go_wp2_with (go_at_call 32; refine (many_no _ h).mono ?_; rintro e w' ⟨rfl, k⟩)
  go_ret
  exact ⟨rfl, k⟩
theorem gone_no (h : NoT w p) : Calls Try.prog 16 #[.pointer p] w (No (.int .i64 0) w) := by
  go_enter Try.func16, Try.ntmps16
  go_wp2_with (go_at_call 32; refine (many_no _ h).mono ?_; rintro e w' ⟨rfl, k⟩)
  go_ret
  exact ⟨rfl, k⟩
theorem missed_no (h : NoT w p) : Calls Try.prog 11 #[.pointer p] w (No (.int .i64 0) w) := by
  go_enter Try.func11, Try.ntmps11
  go_wp2_with (go_at_call 25; refine (none_no h).mono ?_; rintro e w' ⟨rfl, k⟩)
  go_ret
  exact ⟨rfl, k⟩
theorem clone_no (h : NoT w p) : Calls Try.prog 23 #[.pointer p] w (No (.pointer none) w) := by
  go_enter Try.func23, Try.ntmps23
  go_wp2_with (go_at_call 25; refine (none_no h).mono ?_; rintro e w' ⟨rfl, k⟩)
  go_ret
  exact ⟨rfl, k⟩
def AllNo (w : World) (e : Ending) (w' : World) : Prop := ∃ b1 b2, e = .returned (.func (.func 48) #[] #[.pointer (some ⟨b1, 0, none⟩), .pointer (some ⟨b2, 0, none⟩)]) ∧ b1 < w'.heap.size ∧ b2 < w'.heap.size ∧ w.heap.size ≤ b1 ∧ w.heap.size ≤ b2 ∧ w'.heap[b1]? = some (.cells #[.slice none 0 0] 77) ∧ w'.heap[b2]? = some (.cells #[.slice none 0 0] 24) ∧ KN w w'
theorem all_no (h : NoT w p) : Calls Try.prog 38 #[.pointer p] w (AllNo w) := by
  have HO := Lib.hid ((One.nil w).alloc2 (.cells #[.slice none 0 0] 77) (.cells #[.slice none 0 0] 24))
  have h' := h.kn HO.out.old
  have hmf : ∀ (fn : Fn) (first cap : Array Value) (w : World), (Instr.makeFunc fn first cap).run Try.prog w = .ok (.func fn first cap) w := fun _ _ _ _ => rfl
  go_enter Try.func38, Try.ntmps38
  go_wp2_with (go_at_call 22; refine (pages_no h').mono ?_; rintro e w1 ⟨rfl, k⟩)
  have HO1 := Lib.hid (HO.out.kn k)
  go_loopw [10] (fun s wr => s = .int .i64 0 ∧ wr = w1) (fun _ _ => 0)
  case atStart => exact ⟨rfl, rfl⟩
  case round =>
    obtain ⟨rfl, rfl⟩ := hrel
    go_wp2
    go_ret
    exact ⟨w.heap.size, w.heap.size + 1, rfl, lt_blk (HO1.out.blk 1 rfl).1, lt_blk (HO1.out.blk 0 rfl).1, Nat.le_refl _, Nat.le_succ _, (HO1.out.blk 1 rfl).1, (HO1.out.blk 0 rfl).1, HO1.out.old⟩
end
end Go.Proofs.Ytkjkaliblkihmaa

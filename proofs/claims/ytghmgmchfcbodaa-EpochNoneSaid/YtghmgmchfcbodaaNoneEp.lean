/- Epochs that no call made: each method's walk. -/
import Derived.Test.YtghmgmchfcbodaaEpochY
namespace Go.Proofs.Ytghmgmchfcbodaa
set_option linter.unusedVariables false
set_option linter.unusedSimpArgs false
open Go Go.RowKit

/-- An epoch that no call made. -/
def NoE (w : World) (p : Option Addr) : Prop := p = none ∨ ∃ b, p = some ⟨b, 0, none⟩ ∧ w.heap[b]? = some (.cells #[.int .i64 0, .pointer none, .pointer none, .pointer none, .pointer none, .pointer none, .pointer none, .pointer none, .pointer none, .pointer none, .pointer none, .pointer none, .pointer none, .pointer none, .pointer none, .pointer none, .pointer none, .pointer none, .slice none 0 0, .slice none 0 0, .slice none 0 0] 67)
theorem NoE.kn {w w' : World} {p : Option Addr} (h : NoE w p) (k : KN w w') : NoE w' p := h.imp id fun ⟨b, hp, hb⟩ => ⟨b, hp, k.blk hb id⟩
def No (v : Value) (w : World) (e : Ending) (w' : World) : Prop := e = .returned v ∧ KN w w'
section
variable {w : World} {p : Option Addr}
theorem none_no' (h : NoE w p) : Calls Try.prog 27 #[.pointer p] w fun e w' => e = .returned (.bool true) ∧ w = w' := by
  rcases h with rfl | ⟨b, rfl, hb⟩
  · go_enter Try.func27, Try.ntmps27
    go_wp2
    go_ret
    exact ⟨rfl, rfl⟩
  · have h2 : w.cell? ⟨b, 0, none⟩ = some (.int .i64 0) := cell_blk hb rfl
    clear hb
    go_enter Try.func27, Try.ntmps27
    go_wp2
    go_ret
    exact ⟨rfl, rfl⟩
theorem none_no (h : NoE w p) : Calls Try.prog 27 #[.pointer p] w (No (.bool true) w) := (none_no' h).mono fun e w' ⟨he, hw⟩ => ⟨he, hw ▸ Kp.refl _ _⟩
theorem looks_no (s : Int) (h : NoE w p) : Calls Try.prog 24 #[.pointer p, .int .i64 s] w (No (.int .i64 2) w) := by
  go_enter Try.func24, Try.ntmps24
  go_wp2_with (go_at_call 27; refine (none_no h).mono ?_; rintro e w' ⟨rfl, k⟩)
  go_ret
  exact ⟨rfl, k⟩
theorem now_no (h : NoE w p) : Calls Try.prog 19 #[.pointer p] w fun e w' => e = .returned (.int .i64 0) ∧ w = w' := by
  go_enter Try.func19, Try.ntmps19
  go_wp2_with (go_at_call 27; refine (none_no' h).mono ?_; rintro e w' ⟨rfl, k⟩; subst k)
  go_ret
  exact ⟨rfl, rfl⟩
theorem pin_no (s : Int) (h : NoE w p) : Calls Try.prog 10 #[.pointer p, .int .i64 s] w (No (.int .i64 2) w) := by
  go_enter Try.func10, Try.ntmps10
  go_wp2_with (go_at_call 24; refine (looks_no s h).mono ?_; rintro e w' ⟨rfl, k⟩)
  go_ret
  exact ⟨rfl, k⟩
theorem unpin_no (s : Int) (h : NoE w p) : Calls Try.prog 11 #[.pointer p, .int .i64 s] w (No (.int .i64 2) w) := by
  go_enter Try.func11, Try.ntmps11
  go_wp2_with (go_at_call 24; refine (looks_no s h).mono ?_; rintro e w' ⟨rfl, k⟩)
  go_ret
  exact ⟨rfl, k⟩
theorem pinned_no (s : Int) (h : NoE w p) : Calls Try.prog 16 #[.pointer p, .int .i64 s] w (No (.tuple #[.int .i64 0, .bool false]) w) := by
  go_enter Try.func16, Try.ntmps16
  go_wp2_with (go_at_call 24; refine (looks_no s h).mono ?_; rintro e w' ⟨rfl, k⟩)
  go_ret2
  exact ⟨rfl, k⟩
theorem retire_no (a b c : Int) (h : NoE w p) : Calls Try.prog 12 #[.pointer p, .agg #[.int .i64 a, .int .i64 b, .int .i64 c]] w (No (.int .i64 2) w) := by
  have h' := h.kn (kn_alloc w (.cells #[.int .i64 a, .int .i64 b, .int .i64 c] 31))
  go_enter Try.func12, Try.ntmps12
  go_wp2_with (go_at_call 27; refine (none_no h').mono ?_; rintro e w' ⟨rfl, k⟩)
  go_ret
  exact ⟨rfl, (kn_alloc _ _).then k (fun _ h => h.elim)⟩
theorem adv_no (h : NoE w p) : Calls Try.prog 13 #[.pointer p] w (No (.tuple #[.slice none 0 0, .int .i64 2]) w) := by
  go_enter Try.func13, Try.ntmps13
  go_wp2_with (go_at_call 27; refine (none_no h).mono ?_; rintro e w' ⟨rfl, k⟩)
  go_ret2
  exact ⟨rfl, k⟩
theorem clone_no (h : NoE w p) : Calls Try.prog 23 #[.pointer p] w (No (.pointer none) w) := by
  go_enter Try.func23, Try.ntmps23
  go_wp2_with (go_at_call 27; refine (none_no h).mono ?_; rintro e w' ⟨rfl, k⟩)
  go_ret
  exact ⟨rfl, k⟩
theorem limbo_no (h : NoE w p) : Calls Try.prog 17 #[.pointer p] w (LimGave [] w) := by
  have HO := Lib.hid ((((One.nil w).nilRow 2 1).nilRow 31 3).alloc2 (.cells #[.slice none 0 0] 77) (.cells #[.slice none 0 0] 37))
  have h' := h.kn HO.out.old
  have hmf : ∀ (fn : Fn) (first cap : Array Value) (w : World), (Instr.makeFunc fn first cap).run Try.prog w = .ok (.func fn first cap) w := fun _ _ _ _ => rfl
  go_enter Try.func17, Try.ntmps17
  go_wp2_with (go_at_call 27; refine (none_no' h').mono ?_; rintro e w1 ⟨rfl, k⟩; subst k)
  go_ret
  have hq := (One.all (l2 := [])).1 (show One w _ (LimL (w.heap.size + 1) w.heap.size none none 0 0 [] ++ []) from by rw [List.append_nil]; exact HO.out)
  exact ⟨w.heap.size + 1, w.heap.size, rfl, (One.imp hq (fun F h => lim_of h)).post 0 rfl⟩
theorem waiting_no (h : NoE w p) : Calls Try.prog 14 #[.pointer p] w fun e w' => e = .returned (.int .i64 0) ∧ KN w w' :=
  (callsIn_wide.1 (waiting_in (xs := []) (fun W k => limbo_no (h.kn k)) (by simp))).mono fun e W' ⟨he, hb⟩ => ⟨he, Below.kn' hb⟩
theorem young_no (h : NoE w p) : Calls Try.prog 15 #[.pointer p] w (No (.bool true) w) :=
  (callsIn_wide.1 (young_in (xs := []) (nw := 0) (fun W k => limbo_no (h.kn k)) (fun W k => now_no (h.kn k)) (fun W k => waiting_no (h.kn k)) (fun x hx => by simp at hx) (by omega) (by omega) (by simp))).mono fun e W' ⟨he, hb⟩ => ⟨he, Below.kn' hb⟩
end
end Go.Proofs.Ytghmgmchfcbodaa

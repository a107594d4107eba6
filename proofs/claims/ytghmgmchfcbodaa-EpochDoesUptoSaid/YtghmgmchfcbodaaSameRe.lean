/- The law's same, of one list twice. -/
import Derived.Test.YtghmgmchfcbodaaEpochB
namespace Go.Proofs.Ytghmgmchfcbodaa
set_option linter.unusedVariables false
set_option linter.unusedSimpArgs false
open Go Go.RowKit

set_option maxHeartbeats 2000000 in
theorem same_re {l : List Re} {v u : Value} {w : World} (h1 : Rl Re.enc 3 w v l) (h2 : Rl Re.enc 3 w u l) (hl : l.length ≤ maxLen) : Calls Try.prog 18 #[v, u] w fun e w' => e = .returned (.bool true) ∧ KN w w' := by
  obtain ⟨a1, c1, rfl, _, r1⟩ := h1
  obtain ⟨a2, c2, rfl, _, r2⟩ := h2
  unfold maxLen at hl
  have R1 := Lib.hid r1
  have R2 := Lib.hid r2
  clear r1 r2
  go_enter Try.func18, Try.ntmps18
  go_wp2_with fail
  go_loopw [13] (fun s wr => ∃ k : Nat, k ≤ l.length ∧ s = .int .i64 k ∧ Hid (KN w wr)) (fun s _ => l.length - (intOf s).toNat)
  case atStart => exact ⟨0, Nat.zero_le _, rfl, Lib.hid (Kp.refl _ _)⟩
  case round =>
    obtain ⟨k, hk, rfl, HK⟩ := hrel
    by_cases hlt : k < l.length
    · obtain ⟨x, hx⟩ : ∃ x, l[k]? = some x := ⟨_, List.getElem?_eq_getElem hlt⟩
      obtain ⟨b1, o1, rfl, _, p0, p1, p2⟩ := rd3 (R1.out.kn HK.out) hx
      obtain ⟨b2, o2, rfl, _, q0, q1, q2⟩ := rd3 (R2.out.kn HK.out) hx
      obtain ⟨xk, ⟨xl, xg⟩⟩ := x
      simp only at p0 p1 p2 q0 q1 q2
      have hne : ∀ w, (binOp .neq 31 (.agg #[.int .i64 xk, .int .i64 xl, .int .i64 xg]) (.agg #[.int .i64 xk, .int .i64 xl, .int .i64 xg])).run Try.prog w = .ok (.bool false) w := fun w => by
        have := run_neq_ren ⟨xk, ⟨xl, xg⟩⟩ ⟨xk, ⟨xl, xg⟩⟩ w
        rw [eqRe_iff.2 rfl] at this
        exact this
      go_wp2
      go_quiet (fail)
      go_wp2
      go_roundw
      case rel => exact ⟨k + 1, by omega, by go_num, Lib.hid (HK.out.drewN _)⟩
      case measure => simp [intOf]; omega
    · go_wp2
      go_ret
      exact ⟨rfl, HK.out⟩
end Go.Proofs.Ytghmgmchfcbodaa

/- The walks of keys and of what asks a page's range. -/
import Derived.Test.YtkdlodjpambelaaPagePlain
import Derived.WalkLawsBesides
namespace Go.Proofs.Ytkdlodjpambelaa
set_option linter.unusedVariables false
set_option linter.unusedSimpArgs false
open Go Go.RowKit

theorem bytesLe (a b : List UInt8) : (Op.bytesLess a b || a == b) = !Op.bytesLess b a := by
  cases h : Op.bytesLess a b with
  | true =>
    cases k : Op.bytesLess b a with
    | false => rfl
    | true => have := less_trans h k; rw [less_irrefl] at this; cases this
  | false =>
    cases k : Op.bytesLess b a with
    | false => rw [less_total h k]; simp
    | true =>
      rw [Bool.false_or, Bool.not_true]
      refine Bool.eq_false_iff.2 (fun e => ?_)
      rw [beq_iff_eq] at e; subst e
      rw [less_irrefl] at k; cases k

theorem in_k (low high key : ByteArray) (w : World) : Calls Try.prog 55 #[.agg #[.string low, .string high], .string key] w fun e w' => e = .returned (.bool (inR low high key)) ∧ KN w w' := by
  unfold inR ltS
  go_enter Try.func55, Try.ntmps55
  go_wp2
  all_goals (go_ret; exact ⟨by simp_all, (Kp.refl _ w).alloc _⟩)
theorem empty_k (low high : ByteArray) (w : World) : Calls Try.prog 59 #[.agg #[.string low, .string high]] w fun e w' => e = .returned (.bool (emptyR low high)) ∧ KN w w' := by
  unfold emptyR ltS
  go_enter Try.func59, Try.ntmps59
  go_wp2
  all_goals (go_ret; exact ⟨by simp_all [bytesLe], (Kp.refl _ w).alloc _⟩)
theorem rng_k (lf : Bool) (low high : ByteArray) (r : Int) (v : Value) (w : World) : Calls Try.prog 56 #[.agg #[.bool lf, .string low, .string high, .int .i64 r, v]] w fun e w' => e = .returned (.agg #[.string low, .string high]) ∧ KN w w' := by
  go_enter Try.func56, Try.ntmps56
  go_wp2
  refine bodyPost_ret (v := .agg #[.string low, .string high]) (by simp [results, Try.results56, go_sem]) rfl ⟨rfl, ?_⟩
  repeat (first | exact Kp.refl _ _ | apply Kp.alloc | apply Kp.drewN | apply Kp.drew | refine Kp.setCell ?_ (.inr (by simp; try omega)) _)
theorem has_k (lf : Bool) (low high : ByteArray) (r : Int) (v : Value) (key : ByteArray) (w : World) : Calls Try.prog 37 #[.agg #[.bool lf, .string low, .string high, .int .i64 r, v], .string key] w fun e w' => e = .returned (.bool (inR low high key)) ∧ KN w w' := by
  go_enter Try.func37, Try.ntmps37
  go_wp2_with fail
  refine (rng_k _ _ _ _ _ _).mono ?_
  rintro e w1 ⟨rfl, k1⟩
  go_wp2_with fail
  refine (in_k _ _ _ _).mono ?_
  rintro e w2 ⟨rfl, k2⟩
  go_wp2_with fail
  go_ret
  exact ⟨rfl, (((Kp.refl _ w).alloc _).then k1 (fun _ h => h.elim)).then k2 (fun _ h => h.elim)⟩

theorem in_r (low high key : ByteArray) (w : World) : Calls Try.prog 41 #[.agg #[.string low, .string high], .string key] w fun e w' => e = .returned (.bool (inR low high key)) ∧ KN w w' := by
  unfold inR ltS
  go_enter Try.func41, Try.ntmps41
  go_wp2
  all_goals (go_ret; exact ⟨by simp_all, (Kp.refl _ w).alloc _⟩)
theorem empty_r (low high : ByteArray) (w : World) : Calls Try.prog 30 #[.agg #[.string low, .string high]] w fun e w' => e = .returned (.bool (emptyR low high)) ∧ KN w w' := by
  unfold emptyR ltS
  go_enter Try.func30, Try.ntmps30
  go_wp2
  all_goals (go_ret; exact ⟨by simp_all [bytesLe], (Kp.refl _ w).alloc _⟩)
theorem rng_r (lf : Bool) (low high : ByteArray) (r : Int) (v : Value) (w : World) : Calls Try.prog 31 #[.agg #[.bool lf, .string low, .string high, .int .i64 r, v]] w fun e w' => e = .returned (.agg #[.string low, .string high]) ∧ KN w w' := by
  go_enter Try.func31, Try.ntmps31
  go_wp2
  refine bodyPost_ret (v := .agg #[.string low, .string high]) (by simp [results, Try.results31, go_sem]) rfl ⟨rfl, ?_⟩
  repeat (first | exact Kp.refl _ _ | apply Kp.alloc | apply Kp.drewN | apply Kp.drew | refine Kp.setCell ?_ (.inr (by simp; try omega)) _)
theorem has_r (lf : Bool) (low high : ByteArray) (r : Int) (v : Value) (key : ByteArray) (w : World) : Calls Try.prog 19 #[.agg #[.bool lf, .string low, .string high, .int .i64 r, v], .string key] w fun e w' => e = .returned (.bool (inR low high key)) ∧ KN w w' := by
  go_enter Try.func19, Try.ntmps19
  go_wp2_with fail
  refine (rng_r _ _ _ _ _ _).mono ?_
  rintro e w1 ⟨rfl, k1⟩
  go_wp2_with fail
  refine (in_r _ _ _ _).mono ?_
  rintro e w2 ⟨rfl, k2⟩
  go_wp2_with fail
  go_ret
  exact ⟨rfl, (((Kp.refl _ w).alloc _).then k1 (fun _ h => h.elim)).then k2 (fun _ h => h.elim)⟩
end Go.Proofs.Ytkdlodjpambelaa

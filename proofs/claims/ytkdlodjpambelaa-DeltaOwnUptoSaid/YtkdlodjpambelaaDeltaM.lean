/- reference: bare, Check. -/
import Derived.Test.YtkdlodjpambelaaDeltaB4
namespace Go.Proofs.Ytkdlodjpambelaa
set_option linter.unusedVariables false
set_option linter.unusedSimpArgs false
open Go Go.RowKit

theorem bare_ref (d : Dl) (w : World) {v : Value} (hr : Rl En.enc 4 w v d.right.list) (hl : d.right.list.length ≤ maxLen) : Calls Try.prog 47 #[dlv d v] w (GaveB d v w) := by
  obtain ⟨k, ⟨ek, ⟨es, eg⟩, ec⟩, key, pg, p⟩ := d
  by_cases h1 : k = 1
  · subst h1; exact bare_d1 ek es eg ec key pg p w hr hl
  by_cases h2 : k = 2
  · subst h2; exact bare_d2 ek es eg ec key pg p w hr hl
  by_cases h3 : k = 3
  · subst h3
    by_cases hp : pg < 1
    · exact bare_d3a ek es eg ec key pg p hp w hr hl
    · cases hk : key.toList.isEmpty
      · exact bare_d3c ek es eg ec key pg p hp hk w hr hl
      · exact bare_d3b ek es eg ec key pg p hp hk w hr hl
  by_cases h4 : k = 4
  · subst h4; exact bare_d4 ek es eg ec key pg p w hr hl
  by_cases h5 : k = 5
  · subst h5; exact bare_d5 ek es eg ec key pg p w hr hl
  exact bare_dx k h1 h2 h3 h4 h5 ek es eg ec key pg p w hr hl
theorem sameD_iff {a b : Dl} : sameD a b = true ↔ a = b := by
  obtain ⟨k, ⟨ek, ⟨es, eg⟩, ec⟩, key, pg, p⟩ := a
  obtain ⟨k', ⟨ek', ⟨es', eg'⟩, ec'⟩, key', pg', q⟩ := b
  simp only [sameD, Bool.and_eq_true, beq_iff_eq, eqS_iff, sameP_iff, Dl.mk.injEq, En.mk.injEq, Hd.mk.injEq, and_assoc]
theorem sameD_comm (a b : Dl) : sameD a b = sameD b a := by
  rw [Bool.eq_iff_iff, sameD_iff, sameD_iff]
  exact ⟨Eq.symm, Eq.symm⟩
theorem okD_bad (d : Dl) : badD d = !okD d := by
  have hp : decide (d.page < 1) = !decide (1 ≤ d.page) := by rw [← decide_not, decide_eq_decide]; omega
  unfold badD okD
  rw [hp]
  by_cases h1 : d.kind = 1
  · rw [if_pos h1, if_pos h1]; rfl
  rw [if_neg h1, if_neg h1]
  by_cases h2 : d.kind = 2
  · rw [if_pos h2, if_pos h2]; rfl
  rw [if_neg h2, if_neg h2]
  by_cases h3 : d.kind = 3
  · rw [if_pos h3, if_pos h3]; cases decide (1 ≤ d.page) <;> cases d.key.toList.isEmpty <;> rfl
  rw [if_neg h3, if_neg h3]
  by_cases h4 : d.kind = 4
  · rw [if_pos h4, if_pos h4]; rfl
  rw [if_neg h4, if_neg h4]
  by_cases h5 : d.kind = 5
  · rw [if_pos h5, if_pos h5]
  rw [if_neg h5, if_neg h5]; rfl
theorem check_okD (d : Dl) : checkD d = if okD d && sameD (bareD d) d then 0 else 90 := by
  unfold checkD
  rw [okD_bad, sameD_comm]
  cases okD d <;> cases sameD (bareD d) d <;> rfl
theorem rl_bare (d : Dl) {w : World} {v : Value} (hr : Rl En.enc 4 w v d.right.list) : Rl En.enc 4 w (if d.kind = 4 then v else .slice none 0 0) (bareD d).right.list ∧ (bareD d).right.list.length ≤ d.right.list.length := by
  unfold bareD
  by_cases h4 : d.kind = 4
  · simp only [h4]; simpa using hr
  · rw [if_neg h4]
    repeat' split
    all_goals first | contradiction | exact ⟨Rl.nil _ _ _, Nat.zero_le _⟩
set_option maxHeartbeats 1000000 in
theorem check_dref (d : Dl) (w : World) {v : Value} (hr : Rl En.enc 4 w v d.right.list) (hl : d.right.list.length ≤ maxLen) : Calls Try.prog 29 #[dlv d v] w fun e w' => e = .returned (.int .i64 (checkD d)) ∧ KN w w' := by
  have HC := Lib.hid (fun W (k' : KN w W) => bare_ref d W (hr.kn k') hl)
  have HS := Lib.hid (fun W (k' : KN w W) => same_dref (bareD d) d W (rl_bare d (hr.kn k')).1 (hr.kn k') (Nat.le_trans (rl_bare d hr).2 hl))
  rw [check_okD]
  unfold GaveB at HC
  obtain ⟨sv, hsv⟩ : ∃ x, sameD (bareD d) d = x := ⟨_, rfl⟩
  obtain ⟨ok, hok⟩ : ∃ x, okD d = x := ⟨_, rfl⟩
  rw [hsv] at HS ⊢
  rw [hok] at HC ⊢
  obtain ⟨a0, c0, rfl, hc0, hrd⟩ := hr
  clear hsv hok hrd
  obtain ⟨ba, bn, bc, hbv⟩ : ∃ ba bn bc, (if d.kind = 4 then (.slice a0 d.right.list.length c0 : Value) else .slice none 0 0) = .slice ba bn bc := by split <;> exact ⟨_, _, _, rfl⟩
  rw [hbv] at HC HS
  clear hbv
  obtain ⟨x, hx⟩ : ∃ x, bareD d = x := ⟨_, rfl⟩
  rw [hx] at HC HS
  clear hx
  obtain ⟨k, ⟨ek, ⟨es, eg⟩, ec⟩, key, pg, ⟨lf, lo, hi, r, l⟩⟩ := d
  obtain ⟨xk, ⟨xek, ⟨xes, xeg⟩, xec⟩, xkey, xpg, ⟨xlf, xlo, xhi, xr, xl⟩⟩ := x
  unfold dlv at HC HS ⊢
  simp only at HC HS ⊢
  have HO0 := Lib.hid ((One.nil w).alloc (.cells #[.int .i64 k, .string ek, .int .i64 es, .int .i64 eg, .int .i64 ec, .string key, .int .i64 pg, .bool lf, .string lo, .string hi, .int .i64 r, .slice a0 l.length c0] 30))
  go_enter Try.func29, Try.ntmps29
  obtain ⟨x0_0a, x0_0b, x0_0c, x0_0d, x0_0e, x0_0f, x0_0g, x0_0h, x0_0i, x0_0j, x0_0k, x0_0l, x0_0m⟩ := cells12 (HO0.out.blk 0 rfl).1
  go_wp2_with fail
  refine (HC.out _ HO0.out.old).mono ?_
  rintro e w1 ⟨rfl, k1⟩
  have HO1 := Lib.hid (HO0.out.kn k1)
  clear k1 HO0 x0_0a x0_0b x0_0c x0_0d x0_0e x0_0f x0_0g x0_0h x0_0i x0_0j x0_0k x0_0l x0_0m
  go_upto_region 2 with fail
  have HO2 := Lib.hid (HO1.out.alloc (.cells #[.int .i64 xk, .string xek, .int .i64 xes, .int .i64 xeg, .int .i64 xec, .string xkey, .int .i64 xpg, .bool xlf, .string xlo, .string xhi, .int .i64 xr, .slice ba bn bc] 30))
  clear HO1 
  generalize (w1.alloc (.cells #[.int .i64 xk, .string xek, .int .i64 xes, .int .i64 xeg, .int .i64 xec, .string xkey, .int .i64 xpg, .bool xlf, .string xlo, .string xhi, .int .i64 xr, .slice ba bn bc] 30)) = w2 at *
  generalize w1.heap.size = g2 at *
  obtain ⟨x2_0a, x2_0b, x2_0c, x2_0d, x2_0e, x2_0f, x2_0g, x2_0h, x2_0i, x2_0j, x2_0k, x2_0l, x2_0m⟩ := cells12 (HO2.out.blk 0 rfl).1
  obtain ⟨x2_1a, x2_1b, x2_1c, x2_1d, x2_1e, x2_1f, x2_1g, x2_1h, x2_1i, x2_1j, x2_1k, x2_1l, x2_1m⟩ := cells12 (HO2.out.blk 1 rfl).1
  cases ok
  case false =>
    go_wp2
    go_ret
    exact ⟨rfl, HO2.out.old⟩
  go_wp2_with fail
  refine (HS.out _ HO2.out.old).mono ?_
  rintro e wz ⟨rfl, kz⟩
  have HZ := Lib.hid (HO2.out.kn kz)
  cases sv
  all_goals
    go_wp2
    go_ret
    exact ⟨rfl, HZ.out.old⟩
end Go.Proofs.Ytkdlodjpambelaa

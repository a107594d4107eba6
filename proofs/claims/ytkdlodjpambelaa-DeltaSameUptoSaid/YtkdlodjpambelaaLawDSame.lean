/- DeltaSame: its walk. -/
import Derived.Test.YtkdlodjpambelaaLiveD
import Derived.Deep.RegionHeld3
namespace Go.Proofs.Ytkdlodjpambelaa
set_option linter.unusedVariables false
set_option linter.unusedSimpArgs false
open Go Go.RowKit

theorem lift24 {w W W' : World} {g h : Nat} {v0 v1 v2 v3 v4 v5 v6 v7 v8 v9 v10 v11 u0 u1 u2 u3 u4 u5 u6 u7 u8 u9 u10 u11 : Value} (q : KN w W ∧ W.cell? ⟨g, 0, none⟩ = some (v0) ∧ W.cell? ⟨g, 1, none⟩ = some (v1) ∧ W.cell? ⟨g, 2, none⟩ = some (v2) ∧ W.cell? ⟨g, 3, none⟩ = some (v3) ∧ W.cell? ⟨g, 4, none⟩ = some (v4) ∧ W.cell? ⟨g, 5, none⟩ = some (v5) ∧ W.cell? ⟨g, 6, none⟩ = some (v6) ∧ W.cell? ⟨g, 7, none⟩ = some (v7) ∧ W.cell? ⟨g, 8, none⟩ = some (v8) ∧ W.cell? ⟨g, 9, none⟩ = some (v9) ∧ W.cell? ⟨g, 10, none⟩ = some (v10) ∧ W.cell? ⟨g, 11, none⟩ = some (v11) ∧ W.cell? ⟨h, 0, none⟩ = some (u0) ∧ W.cell? ⟨h, 1, none⟩ = some (u1) ∧ W.cell? ⟨h, 2, none⟩ = some (u2) ∧ W.cell? ⟨h, 3, none⟩ = some (u3) ∧ W.cell? ⟨h, 4, none⟩ = some (u4) ∧ W.cell? ⟨h, 5, none⟩ = some (u5) ∧ W.cell? ⟨h, 6, none⟩ = some (u6) ∧ W.cell? ⟨h, 7, none⟩ = some (u7) ∧ W.cell? ⟨h, 8, none⟩ = some (u8) ∧ W.cell? ⟨h, 9, none⟩ = some (u9) ∧ W.cell? ⟨h, 10, none⟩ = some (u10) ∧ W.cell? ⟨h, 11, none⟩ = some (u11)) (k : KN W W') : KN w W' ∧ W'.cell? ⟨g, 0, none⟩ = some (v0) ∧ W'.cell? ⟨g, 1, none⟩ = some (v1) ∧ W'.cell? ⟨g, 2, none⟩ = some (v2) ∧ W'.cell? ⟨g, 3, none⟩ = some (v3) ∧ W'.cell? ⟨g, 4, none⟩ = some (v4) ∧ W'.cell? ⟨g, 5, none⟩ = some (v5) ∧ W'.cell? ⟨g, 6, none⟩ = some (v6) ∧ W'.cell? ⟨g, 7, none⟩ = some (v7) ∧ W'.cell? ⟨g, 8, none⟩ = some (v8) ∧ W'.cell? ⟨g, 9, none⟩ = some (v9) ∧ W'.cell? ⟨g, 10, none⟩ = some (v10) ∧ W'.cell? ⟨g, 11, none⟩ = some (v11) ∧ W'.cell? ⟨h, 0, none⟩ = some (u0) ∧ W'.cell? ⟨h, 1, none⟩ = some (u1) ∧ W'.cell? ⟨h, 2, none⟩ = some (u2) ∧ W'.cell? ⟨h, 3, none⟩ = some (u3) ∧ W'.cell? ⟨h, 4, none⟩ = some (u4) ∧ W'.cell? ⟨h, 5, none⟩ = some (u5) ∧ W'.cell? ⟨h, 6, none⟩ = some (u6) ∧ W'.cell? ⟨h, 7, none⟩ = some (u7) ∧ W'.cell? ⟨h, 8, none⟩ = some (u8) ∧ W'.cell? ⟨h, 9, none⟩ = some (u9) ∧ W'.cell? ⟨h, 10, none⟩ = some (u10) ∧ W'.cell? ⟨h, 11, none⟩ = some (u11) :=
  let ⟨q, q0, q1, q2, q3, q4, q5, q6, q7, q8, q9, q10, q11, q12, q13, q14, q15, q16, q17, q18, q19, q20, q21, q22, q23⟩ := q
  ⟨q.then k (fun _ h => h.elim), cell_kp k id q0, cell_kp k id q1, cell_kp k id q2, cell_kp k id q3, cell_kp k id q4, cell_kp k id q5, cell_kp k id q6, cell_kp k id q7, cell_kp k id q8, cell_kp k id q9, cell_kp k id q10, cell_kp k id q11, cell_kp k id q12, cell_kp k id q13, cell_kp k id q14, cell_kp k id q15, cell_kp k id q16, cell_kp k id q17, cell_kp k id q18, cell_kp k id q19, cell_kp k id q20, cell_kp k id q21, cell_kp k id q22, cell_kp k id q23⟩
set_option maxHeartbeats 4000000 in
set_option maxRecDepth 100000 in
theorem same_walk (a b : Dl) (w : World) {v u : Value} (hr : Rl En.enc 4 w v a.right.list) (hs : Rl En.enc 4 w u b.right.list) (hl : a.right.list.length ≤ 1048576) : Calls Try.prog 6 #[dlv a v, dlv b u] w fun e w' => e = .returned (.bool true) ∧ KN w w' := by
  obtain ⟨aA, cA, rfl, hcA, hrd⟩ := hr
  obtain ⟨aB, cB, rfl, hcB, hsd⟩ := hs
  have hR := Rl.of_rd hrd hcA
  have hR2 := Rl.of_rd hsd hcB
  have hm : a.right.list.length ≤ maxLen := by unfold maxLen; omega
  have HSab := Lib.hid (fun W (k' : KN w W) => same_delta a b W (hR.kn k') (hR2.kn k') hm)
  have HRab := Lib.hid (fun W (k' : KN w W) => same_dref a b W (hR.kn k') (hR2.kn k') hm)
  have HSaa := Lib.hid (fun W (k' : KN w W) => (sameD_iff (a := a) (b := a)).2 rfl ▸ same_delta a a W (hR.kn k') (hR.kn k') hm)
  have HSca := Lib.hid (fun W x (k' : KN w W) (hx : Rl En.enc 4 W x a.right.list) => (sameD_iff (a := a) (b := a)).2 rfl ▸ same_delta a a W hx (hR.kn k') hm)
  have HCl := Lib.hid (fun W (k' : KN w W) => clone_delta a W (hR.kn k') hm (by omega))
  obtain ⟨sv, hsv⟩ : ∃ x, sameD a b = x := ⟨_, rfl⟩
  rw [hsv] at HSab HRab
  clear hrd hsd hR hR2 hm hsv
  have hb1 : (sv == sv) = true := by simp
  obtain ⟨k, ⟨ek, ⟨es, eg⟩, ec⟩, key, pg, ⟨lf, lo, hi, r, l⟩⟩ := a
  obtain ⟨k2, ⟨ek2, ⟨es2, eg2⟩, ec2⟩, key2, pg2, ⟨lf2, lo2, hi2, r2, l2⟩⟩ := b
  unfold dlv at HSab HRab HSaa HSca HCl ⊢
  unfold GaveD at HCl
  unfold dlv at HCl
  simp only at HSab HRab HSaa HSca HCl hl hcA hcB ⊢
  have HO0 := Lib.hid ((One.nil w).alloc2 (.cells #[.int .i64 k, .string ek, .int .i64 es, .int .i64 eg, .int .i64 ec, .string key, .int .i64 pg, .bool lf, .string lo, .string hi, .int .i64 r, .slice aA l.length cA] 30) (.cells #[.int .i64 k2, .string ek2, .int .i64 es2, .int .i64 eg2, .int .i64 ec2, .string key2, .int .i64 pg2, .bool lf2, .string lo2, .string hi2, .int .i64 r2, .slice aB l2.length cB] 30))
  go_enter Try.func6, Try.ntmps6
  go_upto_region 1 with fail
  obtain ⟨x0_0a, x0_0b, x0_0c, x0_0d, x0_0e, x0_0f, x0_0g, x0_0h, x0_0i, x0_0j, x0_0k, x0_0l, x0_0m⟩ := cells12 (HO0.out.blk 0 rfl).1
  obtain ⟨x0_1a, x0_1b, x0_1c, x0_1d, x0_1e, x0_1f, x0_1g, x0_1h, x0_1i, x0_1j, x0_1k, x0_1l, x0_1m⟩ := cells12 (HO0.out.blk 1 rfl).1
  clear x0_0a x0_0b x0_0c x0_0d x0_0e x0_0f x0_0g x0_0h x0_0i x0_0j x0_0k x0_0l x0_0m x0_1a x0_1b x0_1c x0_1d x0_1e x0_1f x0_1g x0_1h x0_1i x0_1j x0_1k x0_1l x0_1m
  generalize ((w.alloc (.cells #[.int .i64 k, .string ek, .int .i64 es, .int .i64 eg, .int .i64 ec, .string key, .int .i64 pg, .bool lf, .string lo, .string hi, .int .i64 r, .slice aA l.length cA] 30)).alloc (.cells #[.int .i64 k2, .string ek2, .int .i64 es2, .int .i64 eg2, .int .i64 ec2, .string key2, .int .i64 pg2, .bool lf2, .string lo2, .string hi2, .int .i64 r2, .slice aB l2.length cB] 30)) = w1 at *
  obtain ⟨x1_0a, x1_0b, x1_0c, x1_0d, x1_0e, x1_0f, x1_0g, x1_0h, x1_0i, x1_0j, x1_0k, x1_0l, x1_0m⟩ := cells12 (HO0.out.blk 0 rfl).1
  obtain ⟨x1_1a, x1_1b, x1_1c, x1_1d, x1_1e, x1_1f, x1_1g, x1_1h, x1_1i, x1_1j, x1_1k, x1_1l, x1_1m⟩ := cells12 (HO0.out.blk 1 rfl).1
  have s0 : KN w w1.drew ∧ w1.drew.cell? ⟨w.heap.size, 0, none⟩ = some (.int .i64 k) ∧ w1.drew.cell? ⟨w.heap.size, 1, none⟩ = some (.string ek) ∧ w1.drew.cell? ⟨w.heap.size, 2, none⟩ = some (.int .i64 es) ∧ w1.drew.cell? ⟨w.heap.size, 3, none⟩ = some (.int .i64 eg) ∧ w1.drew.cell? ⟨w.heap.size, 4, none⟩ = some (.int .i64 ec) ∧ w1.drew.cell? ⟨w.heap.size, 5, none⟩ = some (.string key) ∧ w1.drew.cell? ⟨w.heap.size, 6, none⟩ = some (.int .i64 pg) ∧ w1.drew.cell? ⟨w.heap.size, 7, none⟩ = some (.bool lf) ∧ w1.drew.cell? ⟨w.heap.size, 8, none⟩ = some (.string lo) ∧ w1.drew.cell? ⟨w.heap.size, 9, none⟩ = some (.string hi) ∧ w1.drew.cell? ⟨w.heap.size, 10, none⟩ = some (.int .i64 r) ∧ w1.drew.cell? ⟨w.heap.size, 11, none⟩ = some (.slice aA l.length cA) ∧ w1.drew.cell? ⟨w.heap.size + 1, 0, none⟩ = some (.int .i64 k2) ∧ w1.drew.cell? ⟨w.heap.size + 1, 1, none⟩ = some (.string ek2) ∧ w1.drew.cell? ⟨w.heap.size + 1, 2, none⟩ = some (.int .i64 es2) ∧ w1.drew.cell? ⟨w.heap.size + 1, 3, none⟩ = some (.int .i64 eg2) ∧ w1.drew.cell? ⟨w.heap.size + 1, 4, none⟩ = some (.int .i64 ec2) ∧ w1.drew.cell? ⟨w.heap.size + 1, 5, none⟩ = some (.string key2) ∧ w1.drew.cell? ⟨w.heap.size + 1, 6, none⟩ = some (.int .i64 pg2) ∧ w1.drew.cell? ⟨w.heap.size + 1, 7, none⟩ = some (.bool lf2) ∧ w1.drew.cell? ⟨w.heap.size + 1, 8, none⟩ = some (.string lo2) ∧ w1.drew.cell? ⟨w.heap.size + 1, 9, none⟩ = some (.string hi2) ∧ w1.drew.cell? ⟨w.heap.size + 1, 10, none⟩ = some (.int .i64 r2) ∧ w1.drew.cell? ⟨w.heap.size + 1, 11, none⟩ = some (.slice aB l2.length cB) := ⟨HO0.out.old.drew, x1_1a, x1_1b, x1_1c, x1_1d, x1_1e, x1_1f, x1_1g, x1_1h, x1_1i, x1_1j, x1_1k, x1_1l, x1_0a, x1_0b, x1_0c, x1_0d, x1_0e, x1_0f, x1_0g, x1_0h, x1_0i, x1_0j, x1_0k, x1_0l⟩
  clear x1_0a x1_0b x1_0c x1_0d x1_0e x1_0f x1_0g x1_0h x1_0i x1_0j x1_0k x1_0l x1_0m x1_1a x1_1b x1_1c x1_1d x1_1e x1_1f x1_1g x1_1h x1_1i x1_1j x1_1k x1_1l x1_1m
  go_region_held3 (fun w' => KN w w' ∧ w'.cell? ⟨w.heap.size, 0, none⟩ = some (.int .i64 k) ∧ w'.cell? ⟨w.heap.size, 1, none⟩ = some (.string ek) ∧ w'.cell? ⟨w.heap.size, 2, none⟩ = some (.int .i64 es) ∧ w'.cell? ⟨w.heap.size, 3, none⟩ = some (.int .i64 eg) ∧ w'.cell? ⟨w.heap.size, 4, none⟩ = some (.int .i64 ec) ∧ w'.cell? ⟨w.heap.size, 5, none⟩ = some (.string key) ∧ w'.cell? ⟨w.heap.size, 6, none⟩ = some (.int .i64 pg) ∧ w'.cell? ⟨w.heap.size, 7, none⟩ = some (.bool lf) ∧ w'.cell? ⟨w.heap.size, 8, none⟩ = some (.string lo) ∧ w'.cell? ⟨w.heap.size, 9, none⟩ = some (.string hi) ∧ w'.cell? ⟨w.heap.size, 10, none⟩ = some (.int .i64 r) ∧ w'.cell? ⟨w.heap.size, 11, none⟩ = some (.slice aA l.length cA) ∧ w'.cell? ⟨w.heap.size + 1, 0, none⟩ = some (.int .i64 k2) ∧ w'.cell? ⟨w.heap.size + 1, 1, none⟩ = some (.string ek2) ∧ w'.cell? ⟨w.heap.size + 1, 2, none⟩ = some (.int .i64 es2) ∧ w'.cell? ⟨w.heap.size + 1, 3, none⟩ = some (.int .i64 eg2) ∧ w'.cell? ⟨w.heap.size + 1, 4, none⟩ = some (.int .i64 ec2) ∧ w'.cell? ⟨w.heap.size + 1, 5, none⟩ = some (.string key2) ∧ w'.cell? ⟨w.heap.size + 1, 6, none⟩ = some (.int .i64 pg2) ∧ w'.cell? ⟨w.heap.size + 1, 7, none⟩ = some (.bool lf2) ∧ w'.cell? ⟨w.heap.size + 1, 8, none⟩ = some (.string lo2) ∧ w'.cell? ⟨w.heap.size + 1, 9, none⟩ = some (.string hi2) ∧ w'.cell? ⟨w.heap.size + 1, 10, none⟩ = some (.int .i64 r2) ∧ w'.cell? ⟨w.heap.size + 1, 11, none⟩ = some (.slice aB l2.length cB)) (first | with_reducible exact s0 | with_reducible exact sL | with_reducible exact s1 | with_reducible exact s2 | with_reducible exact s3 | with_reducible exact sC | with_reducible exact s4)
    (first
      | (go_at_call 11; refine (live_true _).mono ?_; rintro e wL ⟨rfl, kL⟩; have sL := lift24 s0 kL)
      | (go_at_call 20; refine (HSca.out _ _ sC.1 rC).mono ?_; rintro e wT ⟨rfl, kT⟩; have s4 := lift24 sC kT)
      | (go_at_call 20; refine (HSaa.out _ s2.1).mono ?_; rintro e wE ⟨rfl, kE⟩; have s3 := lift24 s2 kE)
      | (go_at_call 20; refine (HSab.out _ sL.1).mono ?_; rintro e wS ⟨rfl, kS⟩; have s1 := lift24 sL kS)
      | (go_at_call 21; refine (HRab.out _ s1.1).mono ?_; rintro e wR ⟨rfl, kR⟩; have s2 := lift24 s1 kR)
      | (go_at_call 22; refine (HCl.out _ s3.1).mono ?_; rintro e wC ⟨aC, cC, rfl, FC, hC1, hC2, hC3⟩; have sC := lift24 s3 hC2; have rC := RowE.rl hC1))
  all_goals
    go_wp2
    go_ret
    exact ⟨by simp, s4.1⟩
end Go.Proofs.Ytkdlodjpambelaa

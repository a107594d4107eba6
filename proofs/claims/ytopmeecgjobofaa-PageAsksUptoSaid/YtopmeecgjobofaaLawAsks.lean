/- PageAsks: its walk. -/
import Derived.Test.YtopmeecgjobofaaLawParts
import Derived.Test.YtopmeecgjobofaaFromP
import Derived.Test.YtopmeecgjobofaaTellsP
import Derived.Test.YtopmeecgjobofaaClones
import Derived.Test.YtopmeecgjobofaaCheckP
import Derived.Test.YtopmeecgjobofaaCheckR
import Derived.Test.YtopmeecgjobofaaSameP
import Derived.Test.YtopmeecgjobofaaQuietB
import Derived.Deep.RegionHeld3
namespace Go.Proofs.Ytopmeecgjobofaa
set_option linter.unusedVariables false
set_option linter.unusedSimpArgs false
open Go Go.RowKit Go.Sort

theorem Below.kn' {w w' : World} (h : Below w.heap.size w w') : KN w w' := ⟨h.os, h.tape, h.output, h.size, fun k hk _ => h.block k hk⟩
theorem tells_law (b1 : Nat) (xs : List En) (hlen : xs.length ≤ 1048576) (stop : Int) (w : World) (a : Option Addr) (c : Nat) (hc : w.cell? ⟨b1, 0, none⟩ = some (.slice a xs.length c)) (hr : Rd En.enc 4 w a xs) (a2 : Option Addr) (c2 : Nat) (hr2 : Rd En.enc 4 w a2 xs) :
    Calls Try.prog 31 #[.func (.func 54) #[] #[.pointer (some ⟨b1, 0, none⟩)], .slice a2 xs.length c2, .int .i64 stop] w fun e W' => e = .returned (.bool true) ∧ KN w W' :=
  ((callsIn_wide (n := 3)).1 (tells_in Fence.wide 3 trivial trivial rfl (by omega) b1 xs hlen stop w a c hc hr a2 c2 hr2)).mono fun _ _ ⟨h, k⟩ => ⟨h, Below.kn' k⟩
theorem liftS {w W W' : World} {b : Nat} {v0 v1 v2 v3 v4 : Value} (h : KN w W ∧ W.cell? ⟨b, 0, none⟩ = some v0 ∧ W.cell? ⟨b, 1, none⟩ = some v1 ∧ W.cell? ⟨b, 2, none⟩ = some v2 ∧ W.cell? ⟨b, 3, none⟩ = some v3 ∧ W.cell? ⟨b, 4, none⟩ = some v4) (k : KN W W') :
    KN w W' ∧ W'.cell? ⟨b, 0, none⟩ = some v0 ∧ W'.cell? ⟨b, 1, none⟩ = some v1 ∧ W'.cell? ⟨b, 2, none⟩ = some v2 ∧ W'.cell? ⟨b, 3, none⟩ = some v3 ∧ W'.cell? ⟨b, 4, none⟩ = some v4 :=
  ⟨h.1.then k (fun _ h => h.elim), cell_kp k id h.2.1, cell_kp k id h.2.2.1, cell_kp k id h.2.2.2.1, cell_kp k id h.2.2.2.2.1, cell_kp k id h.2.2.2.2.2⟩
set_option maxHeartbeats 4000000 in
set_option maxRecDepth 100000 in
theorem asks_walk (p : Pg) (key : ByteArray) (stop : Int) (w : World) {v : Value} (hr : Rl En.enc 4 w v p.list) (hb : p.list.length ≤ 1048576) : Calls Try.prog 9 #[pgv p v, .string key, .int .i64 stop] w fun e w' => e = .returned (.bool true) ∧ KN w w' := by
  obtain ⟨a0, cp, rfl, hc0, hrd⟩ := hr
  have HR := Lib.hid (Rl.of_rd hrd hc0)
  clear hrd
  have hlx : (fromP p key).length ≤ 1048576 := Nat.le_trans (List.dropWhile_sublist _).length_le hb
  obtain ⟨fe, hfe⟩ : ∃ x, findP p key = x := ⟨_, rfl⟩
  obtain ⟨cv, hcv⟩ : ∃ x, checkP p = x := ⟨_, rfl⟩
  obtain ⟨hv', hhv⟩ : ∃ x, inR p.low p.high key = x := ⟨_, rfl⟩
  have HF := Lib.hid (hfe ▸ fun W (k : KN w W) => find_page p key W (HR.out.kn k) (by unfold maxLen; omega))
  have HF2 := Lib.hid (hfe ▸ fun W (k : KN w W) => find_ref p key W (HR.out.kn k) (by unfold maxLen; omega))
  have HC := Lib.hid (hcv ▸ fun W (k : KN w W) => check_page p W (HR.out.kn k) (by unfold maxLen; omega))
  have HC2 := Lib.hid (hcv ▸ fun W (k : KN w W) => check_ref p W (HR.out.kn k) (by unfold maxLen; omega))
  have HSp := Lib.hid (fun W (k : KN w W) => (sameP_iff (p := p) (q := p)).2 rfl ▸ same_page p p W (HR.out.kn k) (HR.out.kn k) (by unfold maxLen; omega))
  have HSq := Lib.hid (fun W v (k : KN w W) (h : Rl En.enc 4 W v p.list) => (sameP_iff (p := p) (q := p)).2 rfl ▸ same_page p p W h (HR.out.kn k) (by unfold maxLen; omega))
  have HCl := Lib.hid (fun W (k : KN w W) => clone_page p W (HR.out.kn k) (by unfold maxLen; omega) (by omega))
  have HFr := Lib.hid (fun W (k : KN w W) => from_page p key W (HR.out.kn k) (by omega))
  have HFr2 := Lib.hid (fun W (k : KN w W) => from_ref p key W (HR.out.kn k) (by omega))
  clear hfe hcv
  generalize fromP p key = xs at *
  obtain ⟨lf, lo, hi, r, l⟩ := p
  obtain ⟨⟨fk, ⟨fs, fg⟩, fc⟩, fb⟩ := fe
  have HH := Lib.hid (fun W => hhv ▸ has_k lf lo hi r (.slice a0 l.length cp) key W)
  have HH2 := Lib.hid (fun W => hhv ▸ has_r lf lo hi r (.slice a0 l.length cp) key W)
  clear hhv
  simp only at hb hc0 HR HSp HSq
  have HO0 := Lib.hid ((One.nil w).alloc (.cells #[.bool lf, .string lo, .string hi, .int .i64 r, .slice a0 l.length cp] 24))
  go_enter Try.func9, Try.ntmps9
  obtain ⟨x0_0a, x0_0b, x0_0c, x0_0d, x0_0e, x0_0f⟩ := cells5 (HO0.out.blk 0 rfl).1
  go_wp2_with fail
  refine (HF.out _ HO0.out.old).mono ?_
  rintro e w1 ⟨rfl, k1⟩
  have HO1 := Lib.hid (HO0.out.kn k1)
  clear k1 HO0 x0_0a x0_0b x0_0c x0_0d x0_0e x0_0f
  go_upto_region 2 with fail
  have HO2 := Lib.hid (HO1.out.alloc (.cells #[.string fk, .int .i64 fs, .int .i64 fg, .int .i64 fc] 34))
  clear HO1 
  generalize (w1.alloc (.cells #[.string fk, .int .i64 fs, .int .i64 fg, .int .i64 fc] 34)) = w2 at *
  generalize w1.heap.size = g2 at *
  obtain ⟨x2_0a, x2_0b, x2_0c, x2_0d, x2_0e⟩ := cells4 (HO2.out.blk 0 rfl).1
  obtain ⟨x2_1a, x2_1b, x2_1c, x2_1d, x2_1e, x2_1f⟩ := cells5 (HO2.out.blk 1 rfl).1
  go_wp2_with fail
  refine (HF2.out _ HO2.out.old).mono ?_
  rintro e w3 ⟨rfl, k3⟩
  have HO3 := Lib.hid (HO2.out.kn k3)
  clear k3 HO2 x2_0a x2_0b x2_0c x2_0d x2_0e x2_1a x2_1b x2_1c x2_1d x2_1e x2_1f
  go_upto_region 3 with fail
  have HO4 := Lib.hid (HO3.out.alloc (.cells #[.string fk, .int .i64 fs, .int .i64 fg, .int .i64 fc] 34))
  clear HO3 
  generalize (w3.alloc (.cells #[.string fk, .int .i64 fs, .int .i64 fg, .int .i64 fc] 34)) = w4 at *
  generalize w3.heap.size = g4 at *
  obtain ⟨x4_0a, x4_0b, x4_0c, x4_0d, x4_0e⟩ := cells4 (HO4.out.blk 0 rfl).1
  obtain ⟨x4_1a, x4_1b, x4_1c, x4_1d, x4_1e⟩ := cells4 (HO4.out.blk 1 rfl).1
  obtain ⟨x4_2a, x4_2b, x4_2c, x4_2d, x4_2e, x4_2f⟩ := cells5 (HO4.out.blk 2 rfl).1
  have q5_0 := cell_regrown x4_0a
  have q5_1 := cell_regrown x4_0b
  have q5_2 := cell_regrown x4_0c
  have q5_3 := cell_regrown x4_0d
  have q5_5 := cell_regrown x4_1a
  have q5_6 := cell_regrown x4_1b
  have q5_7 := cell_regrown x4_1c
  have q5_8 := cell_regrown x4_1d
  have q5_10 := cell_regrown x4_2a
  have q5_11 := cell_regrown x4_2b
  have q5_12 := cell_regrown x4_2c
  have q5_13 := cell_regrown x4_2d
  have q5_14 := cell_regrown x4_2e
  have cL : ∀ d os, Calls Try.prog 12 #[] (grow (redrawn w4 d) os) fun e w'' => e = .returned (.bool true) ∧ ∃ p : Regrown, w'' = grow (redrawn w4 p.d) p.os := fun d os => quiet_kn (live_true _)
  have cC : ∀ d os, Calls Try.prog 26 #[.agg #[.bool lf, .string lo, .string hi, .int .i64 r, .slice a0 l.length cp]] (grow (redrawn w4 d) os) fun e w'' => e = .returned (.int .i64 cv) ∧ ∃ p : Regrown, w'' = grow (redrawn w4 p.d) p.os := fun d os => quiet_kn (HC.out _ (HO4.out.old.then (kn_regrown w4 d os) (fun _ h => h.elim)))
  have cD : ∀ d os, Calls Try.prog 11 #[.agg #[.bool lf, .string lo, .string hi, .int .i64 r, .slice a0 l.length cp]] (grow (redrawn w4 d) os) fun e w'' => e = .returned (.int .i64 cv) ∧ ∃ p : Regrown, w'' = grow (redrawn w4 p.d) p.os := fun d os => quiet_kn (HC2.out _ (HO4.out.old.then (kn_regrown w4 d os) (fun _ h => h.elim)))
  have cH : ∀ d os, Calls Try.prog 13 #[.agg #[.bool lf, .string lo, .string hi, .int .i64 r, .slice a0 l.length cp], .string key] (grow (redrawn w4 d) os) fun e w'' => e = .returned (.bool hv') ∧ ∃ p : Regrown, w'' = grow (redrawn w4 p.d) p.os := fun d os => quiet_kn (HH.out _)
  have cI : ∀ d os, Calls Try.prog 28 #[.agg #[.bool lf, .string lo, .string hi, .int .i64 r, .slice a0 l.length cp], .string key] (grow (redrawn w4 d) os) fun e w'' => e = .returned (.bool hv') ∧ ∃ p : Regrown, w'' = grow (redrawn w4 p.d) p.os := fun d os => quiet_kn (HH2.out _)
  have hb1 : (cv == cv) = true := by simp
  have hb2 : (hv' == hv') = true := by simp
  have hb3 : (fb == fb) = true := by simp
  clear x4_0a x4_0b x4_0c x4_0d x4_0e x4_1a x4_1b x4_1c x4_1d x4_1e x4_2a x4_2b x4_2c x4_2d x4_2e x4_2f
  refine wp_region_quiet_below (by kernel_rfl) (by kernel_rfl) ?_
  repeat (go_big_quiet_step (first | (go_at_call 12; with_reducible exact cL _ _) | (go_at_call 26; with_reducible exact cC _ _) | (go_at_call 11; with_reducible exact cD _ _) | (go_at_call 13; with_reducible exact cH _ _) | (go_at_call 28; with_reducible exact cI _ _)))
  refine wpQuiet_nil ?_
  intro _ hw'
  obtain ⟨⟨dq, osq⟩, hw''⟩ := hw'
  subst hw''
  have HO5 := Lib.hid (HO4.out.kn (kn_regrown _ dq osq))
  clear HO4 q5_0 q5_1 q5_2 q5_3 q5_5 q5_6 q5_7 q5_8 q5_10 q5_11 q5_12 q5_13 q5_14
  generalize grow (redrawn w4 dq) osq = w5 at *
  obtain ⟨x5_0a, x5_0b, x5_0c, x5_0d, x5_0e⟩ := cells4 (HO5.out.blk 0 rfl).1
  obtain ⟨x5_1a, x5_1b, x5_1c, x5_1d, x5_1e⟩ := cells4 (HO5.out.blk 1 rfl).1
  obtain ⟨x5_2a, x5_2b, x5_2c, x5_2d, x5_2e, x5_2f⟩ := cells5 (HO5.out.blk 2 rfl).1
  go_wp2_with fail
  refine (HFr2.out _ HO5.out.old).mono ?_
  rintro e w6 ⟨aw, cw, rfl, hW, k6⟩
  have HO6 := Lib.hid (HO5.out.kn k6)
  clear k6 HO5 x5_0a x5_0b x5_0c x5_0d x5_0e x5_1a x5_1b x5_1c x5_1d x5_1e x5_2a x5_2b x5_2c x5_2d x5_2e x5_2f
  obtain ⟨x6_0a, x6_0b, x6_0c, x6_0d, x6_0e⟩ := cells4 (HO6.out.blk 0 rfl).1
  obtain ⟨x6_1a, x6_1b, x6_1c, x6_1d, x6_1e⟩ := cells4 (HO6.out.blk 1 rfl).1
  obtain ⟨x6_2a, x6_2b, x6_2c, x6_2d, x6_2e, x6_2f⟩ := cells5 (HO6.out.blk 2 rfl).1
  have HW := Lib.hid hW
  clear hW
  go_wp2_with fail
  refine (HFr.out _ HO6.out.old).mono ?_
  rintro e w7 ⟨b1, ab, cb, rfl, hcB, hB, k7⟩
  have HT := Lib.hid (fun W (k : KN w7 W) (stop : Int) => tells_law b1 xs hlx stop W ab cb (cell_kp k id hcB) (hB.kn k) aw cw (HW.out.kn (k7.then k (fun _ h => h.elim))))
  have HO7 := Lib.hid (HO6.out.kn k7)
  clear k7 hcB hB HO6 x6_0a x6_0b x6_0c x6_0d x6_0e x6_1a x6_1b x6_1c x6_1d x6_1e x6_2a x6_2b x6_2c x6_2d x6_2e x6_2f
  obtain ⟨x7_0a, x7_0b, x7_0c, x7_0d, x7_0e⟩ := cells4 (HO7.out.blk 0 rfl).1
  obtain ⟨x7_1a, x7_1b, x7_1c, x7_1d, x7_1e⟩ := cells4 (HO7.out.blk 1 rfl).1
  obtain ⟨x7_2a, x7_2b, x7_2c, x7_2d, x7_2e, x7_2f⟩ := cells5 (HO7.out.blk 2 rfl).1
  go_wp2_with fail
  refine (HT.out _ (Kp.refl _ _) _).mono ?_
  rintro e w8 ⟨rfl, k8⟩
  have HO8 := Lib.hid (HO7.out.kn k8)
  have HT := Lib.hid (HT.out _ k8 0)
  clear k8 HO7 x7_0a x7_0b x7_0c x7_0d x7_0e x7_1a x7_1b x7_1c x7_1d x7_1e x7_2a x7_2b x7_2c x7_2d x7_2e x7_2f
  obtain ⟨x8_0a, x8_0b, x8_0c, x8_0d, x8_0e⟩ := cells4 (HO8.out.blk 0 rfl).1
  obtain ⟨x8_1a, x8_1b, x8_1c, x8_1d, x8_1e⟩ := cells4 (HO8.out.blk 1 rfl).1
  obtain ⟨x8_2a, x8_2b, x8_2c, x8_2d, x8_2e, x8_2f⟩ := cells5 (HO8.out.blk 2 rfl).1
  go_wp2_with fail
  refine (HT.out).mono ?_
  rintro e w9 ⟨rfl, k9⟩
  have HO9 := Lib.hid (HO8.out.kn k9)
  clear k9 HO8 x8_0a x8_0b x8_0c x8_0d x8_0e x8_1a x8_1b x8_1c x8_1d x8_1e x8_2a x8_2b x8_2c x8_2d x8_2e x8_2f
  obtain ⟨x9_0a, x9_0b, x9_0c, x9_0d, x9_0e⟩ := cells4 (HO9.out.blk 0 rfl).1
  obtain ⟨x9_1a, x9_1b, x9_1c, x9_1d, x9_1e⟩ := cells4 (HO9.out.blk 1 rfl).1
  obtain ⟨x9_2a, x9_2b, x9_2c, x9_2d, x9_2e, x9_2f⟩ := cells5 (HO9.out.blk 2 rfl).1
  go_upto_region 9 with fail
  have s0 : KN w w9.drew ∧ w9.drew.cell? ⟨w.heap.size, 0, none⟩ = some (.bool lf) ∧ w9.drew.cell? ⟨w.heap.size, 1, none⟩ = some (.string lo) ∧ w9.drew.cell? ⟨w.heap.size, 2, none⟩ = some (.string hi) ∧ w9.drew.cell? ⟨w.heap.size, 3, none⟩ = some (.int .i64 r) ∧ w9.drew.cell? ⟨w.heap.size, 4, none⟩ = some (.slice a0 l.length cp) := ⟨HO9.out.old.drew, x9_2a, x9_2b, x9_2c, x9_2d, x9_2e⟩
  obtain ⟨f8, h8⟩ : ∃ b, decide (8 < l.length) = b := ⟨_, rfl⟩
  obtain ⟨f2, h2⟩ : ∃ b, decide (l.length < 2) = b := ⟨_, rfl⟩
  have i8 : decide ((8 : Int) < (l.length : Int)) = f8 := by rw [← h8]; congr 1; simp; omega
  have i2 : decide ((l.length : Int) < (2 : Int)) = f2 := by rw [← h2]; congr 1; simp; omega
  have HFu := Lib.hid (fun W => h8 ▸ full_page lf lo hi r a0 l.length cp W)
  have HSm := Lib.hid (fun W => h2 ▸ small_page lf lo hi r a0 l.length cp W)
  have e8 : (f8 == f8) = true := by simp
  have e2 : (f2 == f2) = true := by simp
  clear x9_0a x9_0b x9_0c x9_0d x9_0e x9_1a x9_1b x9_1c x9_1d x9_1e x9_2a x9_2b x9_2c x9_2d x9_2e x9_2f
  go_region_held3 (fun w' => KN w w' ∧ w'.cell? ⟨w.heap.size, 0, none⟩ = some (.bool lf) ∧ w'.cell? ⟨w.heap.size, 1, none⟩ = some (.string lo) ∧ w'.cell? ⟨w.heap.size, 2, none⟩ = some (.string hi) ∧ w'.cell? ⟨w.heap.size, 3, none⟩ = some (.int .i64 r) ∧ w'.cell? ⟨w.heap.size, 4, none⟩ = some (.slice a0 l.length cp)) (first | exact s0 | exact sF | exact sS | exact sE | exact sC | exact sT)
    (first | (go_at_call 32; refine (HFu.out _).mono ?_; rintro e wF ⟨rfl, kF⟩; have sF := liftS s0 kF)
           | (go_at_call 33; refine (HSm.out _).mono ?_; rintro e wS ⟨rfl, kS⟩; have sS := liftS sF kS)
           | (go_at_call 25; refine (HCl.out _ sE.1).mono ?_; rintro e wC ⟨aC, cC, rfl, FC, hC1, hC2, hC3⟩; have sC := liftS sE hC2; have rC := RowE.rl hC1)
           | (go_at_call 19; refine (HSq.out _ _ sC.1 rC).mono ?_; rintro e wT ⟨rfl, kT⟩; have sT := liftS sC kT)
           | (go_at_call 19; refine (HSp.out _ sS.1).mono ?_; rintro e wE ⟨rfl, kE⟩; have sE := liftS sS kE))
  all_goals
    go_wp2
    go_ret
    exact ⟨by simp, sT.1⟩
end Go.Proofs.Ytopmeecgjobofaa

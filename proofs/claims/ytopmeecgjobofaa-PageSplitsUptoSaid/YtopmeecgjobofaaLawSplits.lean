/- PageSplits: its walk. -/
import Derived.Test.YtopmeecgjobofaaLawParts
import Derived.Test.YtopmeecgjobofaaSplitR
import Derived.Test.YtopmeecgjobofaaMergeP
namespace Go.Proofs.Ytopmeecgjobofaa
set_option linter.unusedVariables false
set_option linter.unusedSimpArgs false
open Go Go.RowKit Go.Sort

theorem split_len {p a b : Pg} {id c : Int} (h : splitP p id = (a, b, c)) : a.list.length ≤ p.list.length ∧ b.list.length ≤ p.list.length := by
  unfold splitP at h
  split at h
  · cases h; simp [zeroPg]
  · split at h
    · cases h; simp [zeroPg]
    · split at h
      · cases h; simp only [List.length_take, List.length_drop]; omega
      · cases h; simp [zeroPg]
theorem merge_len {p q a : Pg} {c : Int} (h : mergeP p q = (a, c)) : a.list.length ≤ p.list.length + q.list.length := by
  unfold mergeP at h
  split at h <;> cases h
  · simp
  · simp [zeroPg]
set_option maxHeartbeats 4000000 in
set_option maxRecDepth 100000 in
theorem splits_walk (p q : Pg) (id : Int) (w : World) {v u : Value} (hr : Rl En.enc 4 w v p.list) (hf : Fits p) (hb : p.list.length ≤ 1048576) (hr2 : Rl En.enc 4 w u q.list) (hb2 : q.list.length ≤ 1048576) : Calls Try.prog 4 #[pgv p v, pgv q u, .int .i64 id] w fun e w' => e = .returned (.bool true) ∧ KN w w' := by
  obtain ⟨a0, cp, rfl, hc0, hrd⟩ := hr
  obtain ⟨a0', cq, rfl, hc0', hrd'⟩ := hr2
  have HR := Lib.hid (Rl.of_rd hrd hc0)
  have HR' := Lib.hid (Rl.of_rd hrd' hc0')
  clear hrd hrd'
  obtain ⟨a, b, c, hs⟩ : ∃ a b c, splitP p id = (a, b, c) := ⟨_, _, _, rfl⟩
  obtain ⟨x, cx, hm⟩ : ∃ a c, mergeP p q = (a, c) := ⟨_, _, rfl⟩
  have HS := Lib.hid (hs ▸ fun W (k : KN w W) => split_page p id W (HR.out.kn k) hf)
  have HS2 := Lib.hid (hs ▸ fun W (k : KN w W) => split_ref p id W (HR.out.kn k) hf)
  have HM := Lib.hid (hm ▸ fun W (k : KN w W) => merge_page p q W (HR.out.kn k) (HR'.out.kn k) (by omega))
  have HM2 := Lib.hid (hm ▸ fun W (k : KN w W) => merge_ref p q W (HR.out.kn k) (HR'.out.kn k) (by omega))
  have hl := split_len hs
  have hl2 := merge_len hm
  have HSa := Lib.hid (fun W v u (h : Rl En.enc 4 W v a.list) (h' : Rl En.enc 4 W u a.list) => (sameP_iff (p := a) (q := a)).2 rfl ▸ same_ref a a W h h' (by unfold maxLen; omega))
  have HSb := Lib.hid (fun W v u (h : Rl En.enc 4 W v b.list) (h' : Rl En.enc 4 W u b.list) => (sameP_iff (p := b) (q := b)).2 rfl ▸ same_ref b b W h h' (by unfold maxLen; omega))
  have HSx := Lib.hid (fun W v u (h : Rl En.enc 4 W v x.list) (h' : Rl En.enc 4 W u x.list) => (sameP_iff (p := x) (q := x)).2 rfl ▸ same_ref x x W h h' (by unfold maxLen; omega))
  obtain ⟨sv, hsv⟩ : ∃ s, sameP p q = s := ⟨_, rfl⟩
  have HSp := Lib.hid (hsv ▸ fun W (k : KN w W) => same_page p q W (HR.out.kn k) (HR'.out.kn k) (by unfold maxLen; omega))
  have HSq := Lib.hid (hsv ▸ fun W (k : KN w W) => same_ref p q W (HR.out.kn k) (HR'.out.kn k) (by unfold maxLen; omega))
  clear hl hl2 hs hm hsv hf
  obtain ⟨lf, lo, hi, r, l⟩ := p
  obtain ⟨lf', lo', hi', r', l'⟩ := q
  obtain ⟨af, al, ah, ar, as'⟩ := a
  obtain ⟨bf, bl, bh, br, bs'⟩ := b
  obtain ⟨xf, xl, xh, xr, xs'⟩ := x
  simp only at HR HR' HSa HSb HSx
  have HO0 := Lib.hid ((One.nil w).alloc2 (.cells #[.bool lf, .string lo, .string hi, .int .i64 r, .slice a0 l.length cp] 24) (.cells #[.bool lf', .string lo', .string hi', .int .i64 r', .slice a0' l'.length cq] 24))
  go_enter Try.func4, Try.ntmps4
  obtain ⟨x0_0a, x0_0b, x0_0c, x0_0d, x0_0e, x0_0f⟩ := cells5 (HO0.out.blk 0 rfl).1
  obtain ⟨x0_1a, x0_1b, x0_1c, x0_1d, x0_1e, x0_1f⟩ := cells5 (HO0.out.blk 1 rfl).1
  go_wp2_with fail
  refine (HS.out _ HO0.out.old).mono ?_
  rintro e w1 ⟨a1, c1, b1, d1, rfl, k1⟩
  have HO1 := Lib.hid (HO0.out.more k1)
  clear k1 HO0 x0_0a x0_0b x0_0c x0_0d x0_0e x0_0f x0_1a x0_1b x0_1c x0_1d x0_1e x0_1f
  go_upto_region 2 with fail
  have HO2 := Lib.hid (HO1.out.alloc2 (.cells #[.bool af, .string al, .string ah, .int .i64 ar, .slice a1 as'.length c1] 24) (.cells #[.bool bf, .string bl, .string bh, .int .i64 br, .slice b1 bs'.length d1] 24))
  clear HO1 
  generalize ((w1.alloc (.cells #[.bool af, .string al, .string ah, .int .i64 ar, .slice a1 as'.length c1] 24)).alloc (.cells #[.bool bf, .string bl, .string bh, .int .i64 br, .slice b1 bs'.length d1] 24)) = w2 at *
  generalize w1.heap.size = g2 at *
  obtain ⟨x2_0a, x2_0b, x2_0c, x2_0d, x2_0e, x2_0f⟩ := cells5 (HO2.out.blk 0 rfl).1
  obtain ⟨x2_1a, x2_1b, x2_1c, x2_1d, x2_1e, x2_1f⟩ := cells5 (HO2.out.blk 1 rfl).1
  obtain ⟨x2_4a, x2_4b, x2_4c, x2_4d, x2_4e, x2_4f⟩ := cells5 (HO2.out.blk 4 rfl).1
  obtain ⟨x2_5a, x2_5b, x2_5c, x2_5d, x2_5e, x2_5f⟩ := cells5 (HO2.out.blk 5 rfl).1
  go_wp2_with fail
  refine (HS2.out _ HO2.out.old).mono ?_
  rintro e w3 ⟨a3, c3, b3, d3, rfl, k3⟩
  have HO3 := Lib.hid (HO2.out.more k3)
  clear k3 HO2 x2_0a x2_0b x2_0c x2_0d x2_0e x2_0f x2_1a x2_1b x2_1c x2_1d x2_1e x2_1f x2_4a x2_4b x2_4c x2_4d x2_4e x2_4f x2_5a x2_5b x2_5c x2_5d x2_5e x2_5f
  go_upto_region 3 with fail
  have HO4 := Lib.hid (HO3.out.alloc2 (.cells #[.bool af, .string al, .string ah, .int .i64 ar, .slice a3 as'.length c3] 24) (.cells #[.bool bf, .string bl, .string bh, .int .i64 br, .slice b3 bs'.length d3] 24))
  clear HO3 
  generalize ((w3.alloc (.cells #[.bool af, .string al, .string ah, .int .i64 ar, .slice a3 as'.length c3] 24)).alloc (.cells #[.bool bf, .string bl, .string bh, .int .i64 br, .slice b3 bs'.length d3] 24)) = w4 at *
  generalize w3.heap.size = g4 at *
  obtain ⟨x4_0a, x4_0b, x4_0c, x4_0d, x4_0e, x4_0f⟩ := cells5 (HO4.out.blk 0 rfl).1
  obtain ⟨x4_1a, x4_1b, x4_1c, x4_1d, x4_1e, x4_1f⟩ := cells5 (HO4.out.blk 1 rfl).1
  obtain ⟨x4_4a, x4_4b, x4_4c, x4_4d, x4_4e, x4_4f⟩ := cells5 (HO4.out.blk 4 rfl).1
  obtain ⟨x4_5a, x4_5b, x4_5c, x4_5d, x4_5e, x4_5f⟩ := cells5 (HO4.out.blk 5 rfl).1
  obtain ⟨x4_8a, x4_8b, x4_8c, x4_8d, x4_8e, x4_8f⟩ := cells5 (HO4.out.blk 8 rfl).1
  obtain ⟨x4_9a, x4_9b, x4_9c, x4_9d, x4_9e, x4_9f⟩ := cells5 (HO4.out.blk 9 rfl).1
  go_wp2_with fail
  refine (HM.out _ HO4.out.old).mono ?_
  rintro e w5 ⟨a5, c5, rfl, k5⟩
  have HO5 := Lib.hid (HO4.out.add k5)
  clear k5 HO4 x4_0a x4_0b x4_0c x4_0d x4_0e x4_0f x4_1a x4_1b x4_1c x4_1d x4_1e x4_1f x4_4a x4_4b x4_4c x4_4d x4_4e x4_4f x4_5a x4_5b x4_5c x4_5d x4_5e x4_5f x4_8a x4_8b x4_8c x4_8d x4_8e x4_8f x4_9a x4_9b x4_9c x4_9d x4_9e x4_9f
  go_upto_region 4 with fail
  have HO6 := Lib.hid (HO5.out.alloc (.cells #[.bool xf, .string xl, .string xh, .int .i64 xr, .slice a5 xs'.length c5] 24))
  clear HO5 
  generalize (w5.alloc (.cells #[.bool xf, .string xl, .string xh, .int .i64 xr, .slice a5 xs'.length c5] 24)) = w6 at *
  generalize w5.heap.size = g6 at *
  obtain ⟨x6_0a, x6_0b, x6_0c, x6_0d, x6_0e, x6_0f⟩ := cells5 (HO6.out.blk 0 rfl).1
  obtain ⟨x6_2a, x6_2b, x6_2c, x6_2d, x6_2e, x6_2f⟩ := cells5 (HO6.out.blk 2 rfl).1
  obtain ⟨x6_3a, x6_3b, x6_3c, x6_3d, x6_3e, x6_3f⟩ := cells5 (HO6.out.blk 3 rfl).1
  obtain ⟨x6_6a, x6_6b, x6_6c, x6_6d, x6_6e, x6_6f⟩ := cells5 (HO6.out.blk 6 rfl).1
  obtain ⟨x6_7a, x6_7b, x6_7c, x6_7d, x6_7e, x6_7f⟩ := cells5 (HO6.out.blk 7 rfl).1
  obtain ⟨x6_10a, x6_10b, x6_10c, x6_10d, x6_10e, x6_10f⟩ := cells5 (HO6.out.blk 10 rfl).1
  obtain ⟨x6_11a, x6_11b, x6_11c, x6_11d, x6_11e, x6_11f⟩ := cells5 (HO6.out.blk 11 rfl).1
  go_wp2_with fail
  refine (HM2.out _ HO6.out.old).mono ?_
  rintro e w7 ⟨a7, c7, rfl, k7⟩
  have HO7 := Lib.hid (HO6.out.add k7)
  clear k7 HO6 x6_0a x6_0b x6_0c x6_0d x6_0e x6_0f x6_2a x6_2b x6_2c x6_2d x6_2e x6_2f x6_3a x6_3b x6_3c x6_3d x6_3e x6_3f x6_6a x6_6b x6_6c x6_6d x6_6e x6_6f x6_7a x6_7b x6_7c x6_7d x6_7e x6_7f x6_10a x6_10b x6_10c x6_10d x6_10e x6_10f x6_11a x6_11b x6_11c x6_11d x6_11e x6_11f
  go_upto_region 5 with fail
  have HO8 := Lib.hid (HO7.out.alloc (.cells #[.bool xf, .string xl, .string xh, .int .i64 xr, .slice a7 xs'.length c7] 24))
  clear HO7 
  generalize (w7.alloc (.cells #[.bool xf, .string xl, .string xh, .int .i64 xr, .slice a7 xs'.length c7] 24)) = w8 at *
  generalize w7.heap.size = g8 at *
  obtain ⟨x8_0a, x8_0b, x8_0c, x8_0d, x8_0e, x8_0f⟩ := cells5 (HO8.out.blk 0 rfl).1
  obtain ⟨x8_2a, x8_2b, x8_2c, x8_2d, x8_2e, x8_2f⟩ := cells5 (HO8.out.blk 2 rfl).1
  obtain ⟨x8_4a, x8_4b, x8_4c, x8_4d, x8_4e, x8_4f⟩ := cells5 (HO8.out.blk 4 rfl).1
  obtain ⟨x8_5a, x8_5b, x8_5c, x8_5d, x8_5e, x8_5f⟩ := cells5 (HO8.out.blk 5 rfl).1
  obtain ⟨x8_8a, x8_8b, x8_8c, x8_8d, x8_8e, x8_8f⟩ := cells5 (HO8.out.blk 8 rfl).1
  obtain ⟨x8_9a, x8_9b, x8_9c, x8_9d, x8_9e, x8_9f⟩ := cells5 (HO8.out.blk 9 rfl).1
  obtain ⟨x8_12a, x8_12b, x8_12c, x8_12d, x8_12e, x8_12f⟩ := cells5 (HO8.out.blk 12 rfl).1
  obtain ⟨x8_13a, x8_13b, x8_13c, x8_13d, x8_13e, x8_13f⟩ := cells5 (HO8.out.blk 13 rfl).1
  have q9_0 := cell_regrown x8_0a
  have q9_1 := cell_regrown x8_0b
  have q9_2 := cell_regrown x8_0c
  have q9_3 := cell_regrown x8_0d
  have q9_4 := cell_regrown x8_0e
  have q9_6 := cell_regrown x8_2a
  have q9_7 := cell_regrown x8_2b
  have q9_8 := cell_regrown x8_2c
  have q9_9 := cell_regrown x8_2d
  have q9_10 := cell_regrown x8_2e
  have q9_12 := cell_regrown x8_4a
  have q9_13 := cell_regrown x8_4b
  have q9_14 := cell_regrown x8_4c
  have q9_15 := cell_regrown x8_4d
  have q9_16 := cell_regrown x8_4e
  have q9_18 := cell_regrown x8_5a
  have q9_19 := cell_regrown x8_5b
  have q9_20 := cell_regrown x8_5c
  have q9_21 := cell_regrown x8_5d
  have q9_22 := cell_regrown x8_5e
  have q9_24 := cell_regrown x8_8a
  have q9_25 := cell_regrown x8_8b
  have q9_26 := cell_regrown x8_8c
  have q9_27 := cell_regrown x8_8d
  have q9_28 := cell_regrown x8_8e
  have q9_30 := cell_regrown x8_9a
  have q9_31 := cell_regrown x8_9b
  have q9_32 := cell_regrown x8_9c
  have q9_33 := cell_regrown x8_9d
  have q9_34 := cell_regrown x8_9e
  have q9_36 := cell_regrown x8_12a
  have q9_37 := cell_regrown x8_12b
  have q9_38 := cell_regrown x8_12c
  have q9_39 := cell_regrown x8_12d
  have q9_40 := cell_regrown x8_12e
  have q9_42 := cell_regrown x8_13a
  have q9_43 := cell_regrown x8_13b
  have q9_44 := cell_regrown x8_13c
  have q9_45 := cell_regrown x8_13d
  have q9_46 := cell_regrown x8_13e
  have cL : ∀ d os, Calls Try.prog 12 #[] (grow (redrawn w8 d) os) fun e w'' => e = .returned (.bool true) ∧ ∃ p : Regrown, w'' = grow (redrawn w8 p.d) p.os := fun d os => quiet_kn (live_true _)
  have cA : ∀ d os, Calls Try.prog 18 #[.agg #[.bool af, .string al, .string ah, .int .i64 ar, .slice a1 as'.length c1], .agg #[.bool af, .string al, .string ah, .int .i64 ar, .slice a3 as'.length c3]] (grow (redrawn w8 d) os) fun e w'' => e = .returned (.bool true) ∧ ∃ p : Regrown, w'' = grow (redrawn w8 p.d) p.os := fun d os => quiet_kn (HSa.out _ _ _ ((HO8.out.rlE 11 rfl).kn (kn_regrown w8 d os)) ((HO8.out.rlE 7 rfl).kn (kn_regrown w8 d os)))
  have cB : ∀ d os, Calls Try.prog 18 #[.agg #[.bool bf, .string bl, .string bh, .int .i64 br, .slice b1 bs'.length d1], .agg #[.bool bf, .string bl, .string bh, .int .i64 br, .slice b3 bs'.length d3]] (grow (redrawn w8 d) os) fun e w'' => e = .returned (.bool true) ∧ ∃ p : Regrown, w'' = grow (redrawn w8 p.d) p.os := fun d os => quiet_kn (HSb.out _ _ _ ((HO8.out.rlE 10 rfl).kn (kn_regrown w8 d os)) ((HO8.out.rlE 6 rfl).kn (kn_regrown w8 d os)))
  have cX : ∀ d os, Calls Try.prog 18 #[.agg #[.bool xf, .string xl, .string xh, .int .i64 xr, .slice a5 xs'.length c5], .agg #[.bool xf, .string xl, .string xh, .int .i64 xr, .slice a7 xs'.length c7]] (grow (redrawn w8 d) os) fun e w'' => e = .returned (.bool true) ∧ ∃ p : Regrown, w'' = grow (redrawn w8 p.d) p.os := fun d os => quiet_kn (HSx.out _ _ _ ((HO8.out.rlE 3 rfl).kn (kn_regrown w8 d os)) ((HO8.out.rlE 1 rfl).kn (kn_regrown w8 d os)))
  have cP : ∀ d os, Calls Try.prog 19 #[.agg #[.bool lf, .string lo, .string hi, .int .i64 r, .slice a0 l.length cp], .agg #[.bool lf', .string lo', .string hi', .int .i64 r', .slice a0' l'.length cq]] (grow (redrawn w8 d) os) fun e w'' => e = .returned (.bool sv) ∧ ∃ p : Regrown, w'' = grow (redrawn w8 p.d) p.os := fun d os => quiet_kn (HSp.out _ (HO8.out.old.then (kn_regrown w8 d os) (fun _ h => h.elim)))
  have cQ : ∀ d os, Calls Try.prog 18 #[.agg #[.bool lf, .string lo, .string hi, .int .i64 r, .slice a0 l.length cp], .agg #[.bool lf', .string lo', .string hi', .int .i64 r', .slice a0' l'.length cq]] (grow (redrawn w8 d) os) fun e w'' => e = .returned (.bool sv) ∧ ∃ p : Regrown, w'' = grow (redrawn w8 p.d) p.os := fun d os => quiet_kn (HSq.out _ (HO8.out.old.then (kn_regrown w8 d os) (fun _ h => h.elim)))
  have hb1 : (c == c) = true := by simp
  have hb2 : (cx == cx) = true := by simp
  have hb3 : (sv == sv) = true := by simp
  clear x8_0a x8_0b x8_0c x8_0d x8_0e x8_0f x8_2a x8_2b x8_2c x8_2d x8_2e x8_2f x8_4a x8_4b x8_4c x8_4d x8_4e x8_4f x8_5a x8_5b x8_5c x8_5d x8_5e x8_5f x8_8a x8_8b x8_8c x8_8d x8_8e x8_8f x8_9a x8_9b x8_9c x8_9d x8_9e x8_9f x8_12a x8_12b x8_12c x8_12d x8_12e x8_12f x8_13a x8_13b x8_13c x8_13d x8_13e x8_13f
  refine wp_region_quiet_below (by kernel_rfl) (by kernel_rfl) ?_
  repeat (go_big_quiet_step (first | (go_at_call 12; with_reducible exact cL _ _) | (go_at_call 18; with_reducible exact cA _ _) | (go_at_call 18; with_reducible exact cB _ _) | (go_at_call 18; with_reducible exact cX _ _) | (go_at_call 18; with_reducible exact cQ _ _) | (go_at_call 19; with_reducible exact cP _ _)))
  refine wpQuiet_nil ?_
  intro _ hw'
  obtain ⟨⟨dq, osq⟩, hw''⟩ := hw'
  subst hw''
  have HO9 := Lib.hid (HO8.out.kn (kn_regrown _ dq osq))
  clear HO8 q9_0 q9_1 q9_2 q9_3 q9_4 q9_6 q9_7 q9_8 q9_9 q9_10 q9_12 q9_13 q9_14 q9_15 q9_16 q9_18 q9_19 q9_20 q9_21 q9_22 q9_24 q9_25 q9_26 q9_27 q9_28 q9_30 q9_31 q9_32 q9_33 q9_34 q9_36 q9_37 q9_38 q9_39 q9_40 q9_42 q9_43 q9_44 q9_45 q9_46
  generalize grow (redrawn w8 dq) osq = w9 at *
  go_wp2
  go_ret
  exact ⟨by simp, HO9.out.old⟩
end Go.Proofs.Ytopmeecgjobofaa

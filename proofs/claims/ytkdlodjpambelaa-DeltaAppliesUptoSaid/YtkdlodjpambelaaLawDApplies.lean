/- DeltaApplies: its walk. -/
import Derived.Test.YtkdlodjpambelaaLiveD
import Derived.Test.YtkdlodjpambelaaUndoR
import Derived.Test.YtkdlodjpambelaaQuietB
namespace Go.Proofs.Ytkdlodjpambelaa
set_option linter.unusedVariables false
set_option linter.unusedSimpArgs false
open Go Go.RowKit Go.Sort

theorem undoD_right (p : Pg) (d : Dl) : (undoD p d).1.right.list = [] := by
  unfold undoD
  split
  · rfl
  · simp only
    split <;> rfl
set_option maxHeartbeats 4000000 in
set_option maxRecDepth 100000 in
theorem applies_walk (p : Pg) (d : Dl) (w : World) {v u : Value} (hr : Rl En.enc 4 w v p.list) (hs : Rl En.enc 4 w u d.right.list) (hl : p.list.length ≤ 1048576) (hl2 : d.right.list.length ≤ 1048576) : Calls Try.prog 8 #[pgv p v, dlv d u] w fun e w' => e = .returned (.bool true) ∧ KN w w' := by
  have hb : (p.list.length + d.right.list.length + 1) * 40 ≤ 140737488355328 := Nat.le_trans (Nat.mul_le_mul_right 40 (show _ ≤ 2097153 by omega)) (by decide)
  have hql := applyD_len p d
  have HA := Lib.hid (fun W (k : KN w W) => apply1_delta p d W (hr.kn k) (hs.kn k) hb)
  have HA2 := Lib.hid (fun W (k : KN w W) => apply_ref p d W (hr.kn k) (hs.kn k) hb)
  have HU := Lib.hid (fun W (k : KN w W) => undo_all p d W (hr.kn k) (hs.kn k) hb)
  have HU2 := Lib.hid (fun W (k : KN w W) => rundo_all p d W (hr.kn k) (hs.kn k) hb)
  have HC := Lib.hid (fun W (k : KN w W) => check_delta d W (hs.kn k) (by unfold maxLen; omega))
  have HC2 := Lib.hid (fun W (k : KN w W) => check_dref d W (hs.kn k) (by unfold maxLen; omega))
  obtain ⟨cv, hcv⟩ : ∃ x, checkD d = x := ⟨_, rfl⟩
  rw [hcv] at HC HC2
  obtain ⟨⟨⟨qf, qlo, qh, qr, ql⟩, qc⟩, hq⟩ : ∃ x, applyD p d = x := ⟨_, rfl⟩
  rw [hq] at HA HA2 hql
  simp only at hql
  obtain ⟨⟨⟨uk, ⟨uek, ⟨ues, ueg⟩, uec⟩, ukey, upg, ⟨ulf, ulo, uhi, ur, ul⟩⟩, ub⟩, hu⟩ : ∃ x, undoD p d = x := ⟨_, rfl⟩
  have hul : ul = [] := by
    have h := undoD_right p d
    rw [hu] at h
    exact h
  subst hul
  rw [hu] at HU HU2
  clear hcv hq hu hb
  have HS := Lib.hid (fun W x y (hx : Rl En.enc 4 W x ql) (hy : Rl En.enc 4 W y ql) => (sameP_iff (p := ⟨qf, qlo, qh, qr, ql⟩) (q := ⟨qf, qlo, qh, qr, ql⟩)).2 rfl ▸ same_ref ⟨qf, qlo, qh, qr, ql⟩ ⟨qf, qlo, qh, qr, ql⟩ W hx hy (by show ql.length ≤ maxLen; unfold maxLen; omega))
  have HSD := Lib.hid (fun W => (sameD_iff (a := ⟨uk, ⟨uek, ⟨ues, ueg⟩, uec⟩, ukey, upg, ⟨ulf, ulo, uhi, ur, []⟩⟩) (b := ⟨uk, ⟨uek, ⟨ues, ueg⟩, uec⟩, ukey, upg, ⟨ulf, ulo, uhi, ur, []⟩⟩)).2 rfl ▸ same_dref ⟨uk, ⟨uek, ⟨ues, ueg⟩, uec⟩, ukey, upg, ⟨ulf, ulo, uhi, ur, []⟩⟩ ⟨uk, ⟨uek, ⟨ues, ueg⟩, uec⟩, ukey, upg, ⟨ulf, ulo, uhi, ur, []⟩⟩ W (Rl.nil _ _ _) (Rl.nil _ _ _) (Nat.zero_le _))
  clear hql
  obtain ⟨a0, c0, rfl, hc0, hrd⟩ := hr
  obtain ⟨aD, cD, rfl, hcD, hsd⟩ := hs
  clear hrd hsd
  obtain ⟨lf, lo, hi, r, l⟩ := p
  obtain ⟨k, ⟨ek, ⟨es, eg⟩, ec⟩, key, pg, ⟨lf2, lo2, hi2, r2, l2⟩⟩ := d
  unfold GaveU at HU HU2
  unfold dlv at HA HA2 HU HU2 HC HC2 HSD ⊢
  simp only at HA HA2 HU HU2 HC HC2 HSD HS hl hl2 hc0 hcD ⊢
  have HO0 := Lib.hid ((One.nil w).alloc2 (.cells #[.bool lf, .string lo, .string hi, .int .i64 r, .slice a0 l.length c0] 24) (.cells #[.int .i64 k, .string ek, .int .i64 es, .int .i64 eg, .int .i64 ec, .string key, .int .i64 pg, .bool lf2, .string lo2, .string hi2, .int .i64 r2, .slice aD l2.length cD] 30))
  go_enter Try.func8, Try.ntmps8
  obtain ⟨x0_0a, x0_0b, x0_0c, x0_0d, x0_0e, x0_0f, x0_0g, x0_0h, x0_0i, x0_0j, x0_0k, x0_0l, x0_0m⟩ := cells12 (HO0.out.blk 0 rfl).1
  obtain ⟨x0_1a, x0_1b, x0_1c, x0_1d, x0_1e, x0_1f⟩ := cells5 (HO0.out.blk 1 rfl).1
  go_wp2_with fail
  refine (HA.out _ HO0.out.old).mono ?_
  rintro e w1 ⟨a1, c1, rfl, k1⟩
  have HO1 := Lib.hid (HO0.out.add k1)
  clear k1 HO0 x0_0a x0_0b x0_0c x0_0d x0_0e x0_0f x0_0g x0_0h x0_0i x0_0j x0_0k x0_0l x0_0m x0_1a x0_1b x0_1c x0_1d x0_1e x0_1f
  go_upto_region 2 with fail
  have HO2 := Lib.hid (HO1.out.alloc (.cells #[.bool qf, .string qlo, .string qh, .int .i64 qr, .slice a1 ql.length c1] 24))
  clear HO1 
  generalize (w1.alloc (.cells #[.bool qf, .string qlo, .string qh, .int .i64 qr, .slice a1 ql.length c1] 24)) = w2 at *
  generalize w1.heap.size = g2 at *
  obtain ⟨x2_0a, x2_0b, x2_0c, x2_0d, x2_0e, x2_0f⟩ := cells5 (HO2.out.blk 0 rfl).1
  obtain ⟨x2_2a, x2_2b, x2_2c, x2_2d, x2_2e, x2_2f, x2_2g, x2_2h, x2_2i, x2_2j, x2_2k, x2_2l, x2_2m⟩ := cells12 (HO2.out.blk 2 rfl).1
  obtain ⟨x2_3a, x2_3b, x2_3c, x2_3d, x2_3e, x2_3f⟩ := cells5 (HO2.out.blk 3 rfl).1
  go_wp2_with fail
  refine (HA2.out _ HO2.out.old).mono ?_
  rintro e w3 ⟨v3, rfl, hr3, k3⟩
  obtain ⟨a3, c3, hv3, _⟩ := hr3.form
  simp only at hv3 hr3
  subst hv3
  have HR3 := Lib.hid hr3
  have HO3 := Lib.hid (HO2.out.kn k3)
  clear k3 hr3 HO2 x2_0a x2_0b x2_0c x2_0d x2_0e x2_0f x2_2a x2_2b x2_2c x2_2d x2_2e x2_2f x2_2g x2_2h x2_2i x2_2j x2_2k x2_2l x2_2m x2_3a x2_3b x2_3c x2_3d x2_3e x2_3f
  go_upto_region 3 with fail
  have HO4 := Lib.hid (HO3.out.alloc (.cells #[.bool qf, .string qlo, .string qh, .int .i64 qr, .slice a3 ql.length c3] 24))
  have HR3 := Lib.hid (HR3.out.kn (Kp.alloc (Kp.refl _ w3) (.cells #[.bool qf, .string qlo, .string qh, .int .i64 qr, .slice a3 ql.length c3] 24)))
  clear HO3 
  generalize (w3.alloc (.cells #[.bool qf, .string qlo, .string qh, .int .i64 qr, .slice a3 ql.length c3] 24)) = w4 at *
  generalize w3.heap.size = g4 at *
  obtain ⟨x4_0a, x4_0b, x4_0c, x4_0d, x4_0e, x4_0f⟩ := cells5 (HO4.out.blk 0 rfl).1
  obtain ⟨x4_1a, x4_1b, x4_1c, x4_1d, x4_1e, x4_1f⟩ := cells5 (HO4.out.blk 1 rfl).1
  obtain ⟨x4_3a, x4_3b, x4_3c, x4_3d, x4_3e, x4_3f, x4_3g, x4_3h, x4_3i, x4_3j, x4_3k, x4_3l, x4_3m⟩ := cells12 (HO4.out.blk 3 rfl).1
  obtain ⟨x4_4a, x4_4b, x4_4c, x4_4d, x4_4e, x4_4f⟩ := cells5 (HO4.out.blk 4 rfl).1
  go_wp2_with fail
  refine (HU.out _ HO4.out.old).mono ?_
  rintro e w5 ⟨rfl, k5⟩
  have HO5 := Lib.hid (HO4.out.kn k5)
  have HR3 := Lib.hid (HR3.out.kn k5)
  clear k5 HO4 x4_0a x4_0b x4_0c x4_0d x4_0e x4_0f x4_1a x4_1b x4_1c x4_1d x4_1e x4_1f x4_3a x4_3b x4_3c x4_3d x4_3e x4_3f x4_3g x4_3h x4_3i x4_3j x4_3k x4_3l x4_3m x4_4a x4_4b x4_4c x4_4d x4_4e x4_4f
  go_upto_region 4 with fail
  have HO6 := Lib.hid (HO5.out.alloc (.cells #[.int .i64 uk, .string uek, .int .i64 ues, .int .i64 ueg, .int .i64 uec, .string ukey, .int .i64 upg, .bool ulf, .string ulo, .string uhi, .int .i64 ur, .slice none 0 0] 30))
  have HR3 := Lib.hid (HR3.out.kn (Kp.alloc (Kp.refl _ w5) (.cells #[.int .i64 uk, .string uek, .int .i64 ues, .int .i64 ueg, .int .i64 uec, .string ukey, .int .i64 upg, .bool ulf, .string ulo, .string uhi, .int .i64 ur, .slice none 0 0] 30)))
  clear HO5 
  generalize (w5.alloc (.cells #[.int .i64 uk, .string uek, .int .i64 ues, .int .i64 ueg, .int .i64 uec, .string ukey, .int .i64 upg, .bool ulf, .string ulo, .string uhi, .int .i64 ur, .slice none 0 0] 30)) = w6 at *
  generalize w5.heap.size = g6 at *
  obtain ⟨x6_0a, x6_0b, x6_0c, x6_0d, x6_0e, x6_0f, x6_0g, x6_0h, x6_0i, x6_0j, x6_0k, x6_0l, x6_0m⟩ := cells12 (HO6.out.blk 0 rfl).1
  obtain ⟨x6_1a, x6_1b, x6_1c, x6_1d, x6_1e, x6_1f⟩ := cells5 (HO6.out.blk 1 rfl).1
  obtain ⟨x6_2a, x6_2b, x6_2c, x6_2d, x6_2e, x6_2f⟩ := cells5 (HO6.out.blk 2 rfl).1
  obtain ⟨x6_4a, x6_4b, x6_4c, x6_4d, x6_4e, x6_4f, x6_4g, x6_4h, x6_4i, x6_4j, x6_4k, x6_4l, x6_4m⟩ := cells12 (HO6.out.blk 4 rfl).1
  obtain ⟨x6_5a, x6_5b, x6_5c, x6_5d, x6_5e, x6_5f⟩ := cells5 (HO6.out.blk 5 rfl).1
  go_wp2_with fail
  refine (HU2.out _ HO6.out.old).mono ?_
  rintro e w7 ⟨rfl, k7⟩
  have HO7 := Lib.hid (HO6.out.kn k7)
  have HR3 := Lib.hid (HR3.out.kn k7)
  clear k7 HO6 x6_0a x6_0b x6_0c x6_0d x6_0e x6_0f x6_0g x6_0h x6_0i x6_0j x6_0k x6_0l x6_0m x6_1a x6_1b x6_1c x6_1d x6_1e x6_1f x6_2a x6_2b x6_2c x6_2d x6_2e x6_2f x6_4a x6_4b x6_4c x6_4d x6_4e x6_4f x6_4g x6_4h x6_4i x6_4j x6_4k x6_4l x6_4m x6_5a x6_5b x6_5c x6_5d x6_5e x6_5f
  go_upto_region 5 with fail
  have HO8 := Lib.hid (HO7.out.alloc (.cells #[.int .i64 uk, .string uek, .int .i64 ues, .int .i64 ueg, .int .i64 uec, .string ukey, .int .i64 upg, .bool ulf, .string ulo, .string uhi, .int .i64 ur, .slice none 0 0] 30))
  have HR3 := Lib.hid (HR3.out.kn (Kp.alloc (Kp.refl _ w7) (.cells #[.int .i64 uk, .string uek, .int .i64 ues, .int .i64 ueg, .int .i64 uec, .string ukey, .int .i64 upg, .bool ulf, .string ulo, .string uhi, .int .i64 ur, .slice none 0 0] 30)))
  clear HO7 
  generalize (w7.alloc (.cells #[.int .i64 uk, .string uek, .int .i64 ues, .int .i64 ueg, .int .i64 uec, .string ukey, .int .i64 upg, .bool ulf, .string ulo, .string uhi, .int .i64 ur, .slice none 0 0] 30)) = w8 at *
  generalize w7.heap.size = g8 at *
  have HR1 := Lib.hid (HO8.out.rlE 4 rfl)
  obtain ⟨x8_0a, x8_0b, x8_0c, x8_0d, x8_0e, x8_0f, x8_0g, x8_0h, x8_0i, x8_0j, x8_0k, x8_0l, x8_0m⟩ := cells12 (HO8.out.blk 0 rfl).1
  obtain ⟨x8_1a, x8_1b, x8_1c, x8_1d, x8_1e, x8_1f, x8_1g, x8_1h, x8_1i, x8_1j, x8_1k, x8_1l, x8_1m⟩ := cells12 (HO8.out.blk 1 rfl).1
  obtain ⟨x8_2a, x8_2b, x8_2c, x8_2d, x8_2e, x8_2f⟩ := cells5 (HO8.out.blk 2 rfl).1
  obtain ⟨x8_3a, x8_3b, x8_3c, x8_3d, x8_3e, x8_3f⟩ := cells5 (HO8.out.blk 3 rfl).1
  obtain ⟨x8_5a, x8_5b, x8_5c, x8_5d, x8_5e, x8_5f, x8_5g, x8_5h, x8_5i, x8_5j, x8_5k, x8_5l, x8_5m⟩ := cells12 (HO8.out.blk 5 rfl).1
  obtain ⟨x8_6a, x8_6b, x8_6c, x8_6d, x8_6e, x8_6f⟩ := cells5 (HO8.out.blk 6 rfl).1
  have q9_0 := cell_regrown x8_0a
  have q9_1 := cell_regrown x8_0b
  have q9_2 := cell_regrown x8_0c
  have q9_3 := cell_regrown x8_0d
  have q9_4 := cell_regrown x8_0e
  have q9_5 := cell_regrown x8_0f
  have q9_6 := cell_regrown x8_0g
  have q9_7 := cell_regrown x8_0h
  have q9_8 := cell_regrown x8_0i
  have q9_9 := cell_regrown x8_0j
  have q9_10 := cell_regrown x8_0k
  have q9_11 := cell_regrown x8_0l
  have q9_13 := cell_regrown x8_1a
  have q9_14 := cell_regrown x8_1b
  have q9_15 := cell_regrown x8_1c
  have q9_16 := cell_regrown x8_1d
  have q9_17 := cell_regrown x8_1e
  have q9_18 := cell_regrown x8_1f
  have q9_19 := cell_regrown x8_1g
  have q9_20 := cell_regrown x8_1h
  have q9_21 := cell_regrown x8_1i
  have q9_22 := cell_regrown x8_1j
  have q9_23 := cell_regrown x8_1k
  have q9_24 := cell_regrown x8_1l
  have q9_26 := cell_regrown x8_2a
  have q9_27 := cell_regrown x8_2b
  have q9_28 := cell_regrown x8_2c
  have q9_29 := cell_regrown x8_2d
  have q9_30 := cell_regrown x8_2e
  have q9_32 := cell_regrown x8_3a
  have q9_33 := cell_regrown x8_3b
  have q9_34 := cell_regrown x8_3c
  have q9_35 := cell_regrown x8_3d
  have q9_36 := cell_regrown x8_3e
  have q9_38 := cell_regrown x8_5a
  have q9_39 := cell_regrown x8_5b
  have q9_40 := cell_regrown x8_5c
  have q9_41 := cell_regrown x8_5d
  have q9_42 := cell_regrown x8_5e
  have q9_43 := cell_regrown x8_5f
  have q9_44 := cell_regrown x8_5g
  have q9_45 := cell_regrown x8_5h
  have q9_46 := cell_regrown x8_5i
  have q9_47 := cell_regrown x8_5j
  have q9_48 := cell_regrown x8_5k
  have q9_49 := cell_regrown x8_5l
  have q9_51 := cell_regrown x8_6a
  have q9_52 := cell_regrown x8_6b
  have q9_53 := cell_regrown x8_6c
  have q9_54 := cell_regrown x8_6d
  have q9_55 := cell_regrown x8_6e
  have cL : ∀ d os, Calls Try.prog 11 #[] (grow (redrawn w8 d) os) fun e w'' => e = .returned (.bool true) ∧ ∃ p : Regrown, w'' = grow (redrawn w8 p.d) p.os := fun d os => quiet_kn (live_true _)
  have cC : ∀ d os, Calls Try.prog 28 #[.agg #[.int .i64 k, .string ek, .int .i64 es, .int .i64 eg, .int .i64 ec, .string key, .int .i64 pg, .bool lf2, .string lo2, .string hi2, .int .i64 r2, .slice aD l2.length cD]] (grow (redrawn w8 d) os) fun e w'' => e = .returned (.int .i64 cv) ∧ ∃ p : Regrown, w'' = grow (redrawn w8 p.d) p.os := fun d os => quiet_kn (HC.out _ (HO8.out.old.then (kn_regrown w8 d os) (fun _ h => h.elim)))
  have cD : ∀ d os, Calls Try.prog 29 #[.agg #[.int .i64 k, .string ek, .int .i64 es, .int .i64 eg, .int .i64 ec, .string key, .int .i64 pg, .bool lf2, .string lo2, .string hi2, .int .i64 r2, .slice aD l2.length cD]] (grow (redrawn w8 d) os) fun e w'' => e = .returned (.int .i64 cv) ∧ ∃ p : Regrown, w'' = grow (redrawn w8 p.d) p.os := fun d os => quiet_kn (HC2.out _ (HO8.out.old.then (kn_regrown w8 d os) (fun _ h => h.elim)))
  have cS : ∀ d os, Calls Try.prog 13 #[.agg #[.bool qf, .string qlo, .string qh, .int .i64 qr, .slice a1 ql.length c1], .agg #[.bool qf, .string qlo, .string qh, .int .i64 qr, .slice a3 ql.length c3]] (grow (redrawn w8 d) os) fun e w'' => e = .returned (.bool true) ∧ ∃ p : Regrown, w'' = grow (redrawn w8 p.d) p.os := fun d os => quiet_kn (HS.out _ _ _ (HR1.out.kn (kn_regrown w8 d os)) (HR3.out.kn (kn_regrown w8 d os)))
  have cU : ∀ d os, Calls Try.prog 21 #[.agg #[.int .i64 uk, .string uek, .int .i64 ues, .int .i64 ueg, .int .i64 uec, .string ukey, .int .i64 upg, .bool ulf, .string ulo, .string uhi, .int .i64 ur, .slice none 0 0], .agg #[.int .i64 uk, .string uek, .int .i64 ues, .int .i64 ueg, .int .i64 uec, .string ukey, .int .i64 upg, .bool ulf, .string ulo, .string uhi, .int .i64 ur, .slice none 0 0]] (grow (redrawn w8 d) os) fun e w'' => e = .returned (.bool true) ∧ ∃ p : Regrown, w'' = grow (redrawn w8 p.d) p.os := fun d os => quiet_kn (HSD.out _)
  have hb1 : (cv == cv) = true := by simp
  have hb2 : (qc == qc) = true := by simp
  have hb3 : (ub == ub) = true := by simp
  clear x8_0a x8_0b x8_0c x8_0d x8_0e x8_0f x8_0g x8_0h x8_0i x8_0j x8_0k x8_0l x8_0m x8_1a x8_1b x8_1c x8_1d x8_1e x8_1f x8_1g x8_1h x8_1i x8_1j x8_1k x8_1l x8_1m x8_2a x8_2b x8_2c x8_2d x8_2e x8_2f x8_3a x8_3b x8_3c x8_3d x8_3e x8_3f x8_5a x8_5b x8_5c x8_5d x8_5e x8_5f x8_5g x8_5h x8_5i x8_5j x8_5k x8_5l x8_5m x8_6a x8_6b x8_6c x8_6d x8_6e x8_6f
  refine wp_region_quiet_below (by kernel_rfl) (by kernel_rfl) ?_
  repeat (go_big_quiet_step (first | (go_at_call 11; with_reducible exact cL _ _) | (go_at_call 28; with_reducible exact cC _ _) | (go_at_call 29; with_reducible exact cD _ _) | (go_at_call 13; with_reducible exact cS _ _) | (go_at_call 21; with_reducible exact cU _ _)))
  refine wpQuiet_nil ?_
  intro _ hw'
  obtain ⟨⟨dq, osq⟩, hw''⟩ := hw'
  subst hw''
  have HO9 := Lib.hid (HO8.out.kn (kn_regrown _ dq osq))
  clear HO8 q9_0 q9_1 q9_2 q9_3 q9_4 q9_5 q9_6 q9_7 q9_8 q9_9 q9_10 q9_11 q9_13 q9_14 q9_15 q9_16 q9_17 q9_18 q9_19 q9_20 q9_21 q9_22 q9_23 q9_24 q9_26 q9_27 q9_28 q9_29 q9_30 q9_32 q9_33 q9_34 q9_35 q9_36 q9_38 q9_39 q9_40 q9_41 q9_42 q9_43 q9_44 q9_45 q9_46 q9_47 q9_48 q9_49 q9_51 q9_52 q9_53 q9_54 q9_55
  generalize grow (redrawn w8 dq) osq = w9 at *
  go_wp2
  go_ret
  exact ⟨by simp, HO9.out.old⟩
end Go.Proofs.Ytkdlodjpambelaa

/- DeltaFolds: its walk. -/
import Derived.Test.YtkdlodjpambelaaLiveD
import Derived.Test.YtkdlodjpambelaaLookR
import Derived.Test.YtkdlodjpambelaaUndoP
namespace Go.Proofs.Ytkdlodjpambelaa
set_option linter.unusedVariables false
set_option linter.unusedSimpArgs false
open Go Go.RowKit

theorem run_eql_sp (k : ByteArray) (s g c : Int) (f : Bool) (n : Int) (w : World) : (binOp .eql 41 (.agg #[.string k, .int .i64 s, .int .i64 g, .int .i64 c, .bool f, .int .i64 n]) (.agg #[.string k, .int .i64 s, .int .i64 g, .int .i64 c, .bool f, .int .i64 n])).run Try.prog w = .ok (.bool true) w := by
  go_simp
set_option maxHeartbeats 4000000 in
set_option maxRecDepth 100000 in
theorem folds_walk (p : Pg) (key : ByteArray) (ds : List Dl) (w : World) {v u : Value} (hr : Rl En.enc 4 w v p.list) (hd : RlD w u ds) (hl : p.list.length ≤ 1048576) (hs : sumD ds ≤ 1099512676352) : Calls Try.prog 4 #[pgv p v, .string key, u] w fun e w' => e = .returned (.bool true) ∧ KN w w' := by
  have hsum : p.list.length + sumD ds ≤ 1099513724928 := by omega
  have hb : (p.list.length + sumD ds) * 40 ≤ 140737488355328 := Nat.le_trans (Nat.mul_le_mul_right 40 hsum) (by decide)
  have hql := foldD_len p ds
  have hls := len_sumD ds
  obtain ⟨ua, uc, rfl, huc⟩ := hd.form
  have HA := Lib.hid (fun W (k : KN w W) => fold_delta p ds W (hr.kn k) (hd.kn k) hb)
  have HA2 := Lib.hid (fun W (k : KN w W) => fold_ref p ds W (hr.kn k) (hd.kn k) hb)
  have HL := Lib.hid (fun W (k : KN w W) => look_delta p key ds W (hr.kn k) (hd.kn k) hb)
  have HL2 := Lib.hid (fun W (k : KN w W) => look_ref p key ds W (hr.kn k) (hd.kn k) hb)
  have hlen : ds.length ≤ 3518437208883 := by omega
  obtain ⟨f6, h6⟩ : ∃ b, decide (6 < ds.length) = b := ⟨_, rfl⟩
  have i6 : decide ((6 : Int) < (ds.length : Int)) = f6 := by rw [← h6]; congr 1; simp; omega
  have HLo := Lib.hid (fun W => h6 ▸ long_delta ua ds.length uc W hlen)
  obtain ⟨⟨⟨qf, qlo, qh, qr, ql⟩, qc⟩, hq⟩ : ∃ x, foldD p ds = x := ⟨_, rfl⟩
  rw [hq] at HA HA2 hql
  simp only at hql
  obtain ⟨⟨⟨⟨sk, ⟨ss, sg⟩, sc⟩, sf, sn⟩, se⟩, hu⟩ : ∃ x, lookD p key ds = x := ⟨_, rfl⟩
  rw [hu] at HL HL2
  clear hq hu hb hd h6
  have HS := Lib.hid (fun W x y (hx : Rl En.enc 4 W x ql) (hy : Rl En.enc 4 W y ql) => (sameP_iff (p := ⟨qf, qlo, qh, qr, ql⟩) (q := ⟨qf, qlo, qh, qr, ql⟩)).2 rfl ▸ same_ref ⟨qf, qlo, qh, qr, ql⟩ ⟨qf, qlo, qh, qr, ql⟩ W hx hy (by show ql.length ≤ maxLen; unfold maxLen; omega))
  clear hql
  obtain ⟨a0, c0, rfl, hc0, hrd⟩ := hr
  clear hrd
  obtain ⟨lf, lo, hi, r, l⟩ := p
  unfold GaveS spv at HL HL2
  simp only at HA HA2 HL HL2 HS hl hc0 hsum ⊢
  have hsp := run_eql_sp
  have hb1 : (qc == qc) = true := by simp
  have hb2 : (se == se) = true := by simp
  have hb3 : (f6 == f6) = true := by simp
  have HO0 := Lib.hid ((One.nil w).alloc (.cells #[.bool lf, .string lo, .string hi, .int .i64 r, .slice a0 l.length c0] 24))
  go_enter Try.func4, Try.ntmps4
  obtain ⟨x0_0a, x0_0b, x0_0c, x0_0d, x0_0e, x0_0f⟩ := cells5 (HO0.out.blk 0 rfl).1
  go_wp2_with fail
  refine (HA.out _ HO0.out.old).mono ?_
  rintro e w1 ⟨a1, c1, rfl, k1⟩
  have HO1 := Lib.hid (HO0.out.add k1)
  clear k1 HO0 x0_0a x0_0b x0_0c x0_0d x0_0e x0_0f
  go_upto_region 2 with fail
  have HO2 := Lib.hid (HO1.out.alloc (.cells #[.bool qf, .string qlo, .string qh, .int .i64 qr, .slice a1 ql.length c1] 24))
  clear HO1 
  generalize (w1.alloc (.cells #[.bool qf, .string qlo, .string qh, .int .i64 qr, .slice a1 ql.length c1] 24)) = w2 at *
  generalize w1.heap.size = g2 at *
  obtain ⟨x2_0a, x2_0b, x2_0c, x2_0d, x2_0e, x2_0f⟩ := cells5 (HO2.out.blk 0 rfl).1
  obtain ⟨x2_2a, x2_2b, x2_2c, x2_2d, x2_2e, x2_2f⟩ := cells5 (HO2.out.blk 2 rfl).1
  go_wp2_with fail
  refine (HA2.out _ HO2.out.old).mono ?_
  rintro e w3 ⟨v3, rfl, hr3, k3⟩
  obtain ⟨a3, c3, hv3, _⟩ := hr3.form
  simp only at hv3 hr3
  subst hv3
  have HR3 := Lib.hid hr3
  have HO3 := Lib.hid (HO2.out.kn k3)
  clear k3 hr3 HO2 x2_0a x2_0b x2_0c x2_0d x2_0e x2_0f x2_2a x2_2b x2_2c x2_2d x2_2e x2_2f
  go_upto_region 3 with fail
  have HO4 := Lib.hid (HO3.out.alloc (.cells #[.bool qf, .string qlo, .string qh, .int .i64 qr, .slice a3 ql.length c3] 24))
  have HR3 := Lib.hid (HR3.out.kn (Kp.alloc (Kp.refl _ w3) (.cells #[.bool qf, .string qlo, .string qh, .int .i64 qr, .slice a3 ql.length c3] 24)))
  clear HO3 
  generalize (w3.alloc (.cells #[.bool qf, .string qlo, .string qh, .int .i64 qr, .slice a3 ql.length c3] 24)) = w4 at *
  generalize w3.heap.size = g4 at *
  obtain ⟨x4_0a, x4_0b, x4_0c, x4_0d, x4_0e, x4_0f⟩ := cells5 (HO4.out.blk 0 rfl).1
  obtain ⟨x4_1a, x4_1b, x4_1c, x4_1d, x4_1e, x4_1f⟩ := cells5 (HO4.out.blk 1 rfl).1
  obtain ⟨x4_3a, x4_3b, x4_3c, x4_3d, x4_3e, x4_3f⟩ := cells5 (HO4.out.blk 3 rfl).1
  go_wp2_with fail
  refine (HL.out _ HO4.out.old).mono ?_
  rintro e w5 ⟨rfl, k5⟩
  have HO5 := Lib.hid (HO4.out.kn k5)
  have HR3 := Lib.hid (HR3.out.kn k5)
  clear k5 HO4 x4_0a x4_0b x4_0c x4_0d x4_0e x4_0f x4_1a x4_1b x4_1c x4_1d x4_1e x4_1f x4_3a x4_3b x4_3c x4_3d x4_3e x4_3f
  go_upto_region 4 with fail
  have HO6 := Lib.hid (HO5.out.alloc (.cells #[.string sk, .int .i64 ss, .int .i64 sg, .int .i64 sc, .bool sf, .int .i64 sn] 41))
  have HR3 := Lib.hid (HR3.out.kn (Kp.alloc (Kp.refl _ w5) (.cells #[.string sk, .int .i64 ss, .int .i64 sg, .int .i64 sc, .bool sf, .int .i64 sn] 41)))
  clear HO5 
  generalize (w5.alloc (.cells #[.string sk, .int .i64 ss, .int .i64 sg, .int .i64 sc, .bool sf, .int .i64 sn] 41)) = w6 at *
  generalize w5.heap.size = g6 at *
  obtain ⟨x6_1a, x6_1b, x6_1c, x6_1d, x6_1e, x6_1f⟩ := cells5 (HO6.out.blk 1 rfl).1
  obtain ⟨x6_2a, x6_2b, x6_2c, x6_2d, x6_2e, x6_2f⟩ := cells5 (HO6.out.blk 2 rfl).1
  obtain ⟨x6_4a, x6_4b, x6_4c, x6_4d, x6_4e, x6_4f⟩ := cells5 (HO6.out.blk 4 rfl).1
  obtain ⟨x6_0a, x6_0b, x6_0c, x6_0d, x6_0e, x6_0f, x6_0g⟩ := cells6 (HO6.out.blk 0 rfl).1
  go_wp2_with fail
  refine (HL2.out _ HO6.out.old).mono ?_
  rintro e w7 ⟨rfl, k7⟩
  have HO7 := Lib.hid (HO6.out.kn k7)
  have HR3 := Lib.hid (HR3.out.kn k7)
  clear k7 HO6 x6_1a x6_1b x6_1c x6_1d x6_1e x6_1f x6_2a x6_2b x6_2c x6_2d x6_2e x6_2f x6_4a x6_4b x6_4c x6_4d x6_4e x6_4f x6_0a x6_0b x6_0c x6_0d x6_0e x6_0f x6_0g
  go_upto_region 5 with fail
  have HO8 := Lib.hid (HO7.out.alloc (.cells #[.string sk, .int .i64 ss, .int .i64 sg, .int .i64 sc, .bool sf, .int .i64 sn] 41))
  have HR3 := Lib.hid (HR3.out.kn (Kp.alloc (Kp.refl _ w7) (.cells #[.string sk, .int .i64 ss, .int .i64 sg, .int .i64 sc, .bool sf, .int .i64 sn] 41)))
  clear HO7 
  generalize (w7.alloc (.cells #[.string sk, .int .i64 ss, .int .i64 sg, .int .i64 sc, .bool sf, .int .i64 sn] 41)) = w8 at *
  generalize w7.heap.size = g8 at *
  obtain ⟨x8_2a, x8_2b, x8_2c, x8_2d, x8_2e, x8_2f⟩ := cells5 (HO8.out.blk 2 rfl).1
  obtain ⟨x8_3a, x8_3b, x8_3c, x8_3d, x8_3e, x8_3f⟩ := cells5 (HO8.out.blk 3 rfl).1
  obtain ⟨x8_5a, x8_5b, x8_5c, x8_5d, x8_5e, x8_5f⟩ := cells5 (HO8.out.blk 5 rfl).1
  obtain ⟨x8_0a, x8_0b, x8_0c, x8_0d, x8_0e, x8_0f, x8_0g⟩ := cells6 (HO8.out.blk 0 rfl).1
  obtain ⟨x8_1a, x8_1b, x8_1c, x8_1d, x8_1e, x8_1f, x8_1g⟩ := cells6 (HO8.out.blk 1 rfl).1
  go_wp2_with fail
  refine (live_true _).mono ?_
  rintro e w9 ⟨rfl, k9⟩
  have HO9 := Lib.hid (HO8.out.kn k9)
  have HR3 := Lib.hid (HR3.out.kn k9)
  clear k9 HO8 x8_2a x8_2b x8_2c x8_2d x8_2e x8_2f x8_3a x8_3b x8_3c x8_3d x8_3e x8_3f x8_5a x8_5b x8_5c x8_5d x8_5e x8_5f x8_0a x8_0b x8_0c x8_0d x8_0e x8_0f x8_0g x8_1a x8_1b x8_1c x8_1d x8_1e x8_1f x8_1g
  obtain ⟨x9_2a, x9_2b, x9_2c, x9_2d, x9_2e, x9_2f⟩ := cells5 (HO9.out.blk 2 rfl).1
  obtain ⟨x9_3a, x9_3b, x9_3c, x9_3d, x9_3e, x9_3f⟩ := cells5 (HO9.out.blk 3 rfl).1
  obtain ⟨x9_5a, x9_5b, x9_5c, x9_5d, x9_5e, x9_5f⟩ := cells5 (HO9.out.blk 5 rfl).1
  obtain ⟨x9_0a, x9_0b, x9_0c, x9_0d, x9_0e, x9_0f, x9_0g⟩ := cells6 (HO9.out.blk 0 rfl).1
  obtain ⟨x9_1a, x9_1b, x9_1c, x9_1d, x9_1e, x9_1f, x9_1g⟩ := cells6 (HO9.out.blk 1 rfl).1
  go_wp2_with fail
  refine (HS.out _ _ _ (HO9.out.rlE 4 rfl) HR3.out).mono ?_
  rintro e w10 ⟨rfl, k10⟩
  have HO10 := Lib.hid (HO9.out.kn k10)
  have HR3 := Lib.hid (HR3.out.kn k10)
  clear k10 HO9 x9_2a x9_2b x9_2c x9_2d x9_2e x9_2f x9_3a x9_3b x9_3c x9_3d x9_3e x9_3f x9_5a x9_5b x9_5c x9_5d x9_5e x9_5f x9_0a x9_0b x9_0c x9_0d x9_0e x9_0f x9_0g x9_1a x9_1b x9_1c x9_1d x9_1e x9_1f x9_1g
  obtain ⟨x10_2a, x10_2b, x10_2c, x10_2d, x10_2e, x10_2f⟩ := cells5 (HO10.out.blk 2 rfl).1
  obtain ⟨x10_3a, x10_3b, x10_3c, x10_3d, x10_3e, x10_3f⟩ := cells5 (HO10.out.blk 3 rfl).1
  obtain ⟨x10_5a, x10_5b, x10_5c, x10_5d, x10_5e, x10_5f⟩ := cells5 (HO10.out.blk 5 rfl).1
  obtain ⟨x10_0a, x10_0b, x10_0c, x10_0d, x10_0e, x10_0f, x10_0g⟩ := cells6 (HO10.out.blk 0 rfl).1
  obtain ⟨x10_1a, x10_1b, x10_1c, x10_1d, x10_1e, x10_1f, x10_1g⟩ := cells6 (HO10.out.blk 1 rfl).1
  go_wp2_with fail
  refine (HLo.out _).mono ?_
  rintro e w11 ⟨rfl, k11⟩
  have HO11 := Lib.hid (HO10.out.kn k11)
  have HR3 := Lib.hid (HR3.out.kn k11)
  clear k11 HO10 x10_2a x10_2b x10_2c x10_2d x10_2e x10_2f x10_3a x10_3b x10_3c x10_3d x10_3e x10_3f x10_5a x10_5b x10_5c x10_5d x10_5e x10_5f x10_0a x10_0b x10_0c x10_0d x10_0e x10_0f x10_0g x10_1a x10_1b x10_1c x10_1d x10_1e x10_1f x10_1g
  go_wp2
  go_ret
  exact ⟨by simp, HO11.out.old⟩
end Go.Proofs.Ytkdlodjpambelaa

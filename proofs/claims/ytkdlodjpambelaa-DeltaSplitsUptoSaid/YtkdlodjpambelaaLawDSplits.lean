/- DeltaSplits: its walk. -/
import Derived.Test.YtkdlodjpambelaaLiveD
import Derived.Test.YtkdlodjpambelaaLookP
import Derived.Test.YtkdlodjpambelaaDeltaLaw
import Derived.Test.YtkdlodjpambelaaApplyR
import Derived.Test.YtkdlodjpambelaaUndoP
import Derived.Test.YtkdlodjpambelaaCheckR
import Derived.BigRegion
namespace Go.Proofs.Ytkdlodjpambelaa
set_option linter.unusedVariables false
set_option linter.unusedSimpArgs false
open Go Go.RowKit

theorem run_eql_sp' (k k' : ByteArray) (s g c : Int) (f : Bool) (n : Int) (w : World) (h : k = k') : (binOp .eql 41 (.agg #[.string k, .int .i64 s, .int .i64 g, .int .i64 c, .bool f, .int .i64 n]) (.agg #[.string k', .int .i64 s, .int .i64 g, .int .i64 c, .bool f, .int .i64 n])).run Try.prog w = .ok (.bool true) w := by
  subst h
  go_simp
set_option maxHeartbeats 4000000 in
set_option maxRecDepth 100000 in
theorem splits_walk (p : Pg) (sep : ByteArray) (id : Int) (key : ByteArray) (w : World) {v : Value} (hr : Rl En.enc 4 w v p.list) (hl : p.list.length ≤ 1048576) : Calls Try.prog 5 #[pgv p v, .agg #[.string sep, .int .i64 id, .string key]] w fun e w' => e = .returned (.bool true) ∧ KN w w' := by
  have hb : (p.list.length + (dSplit sep id).right.list.length + 1) * 40 ≤ 140737488355328 := Nat.le_trans (Nat.mul_le_mul_right 40 (show _ ≤ 2097153 by show p.list.length + 0 + 1 ≤ _; omega)) (by decide)
  have hb1 : (p.list.length + sumD [dSplit sep id]) * 40 ≤ 140737488355328 := hb
  have hb0 : (p.list.length + sumD []) * 40 ≤ 140737488355328 := Nat.le_trans (Nat.mul_le_mul_right 40 (show _ ≤ 2097153 by show p.list.length + 0 ≤ _; omega)) (by decide)
  have HA := Lib.hid (fun W (k : KN w W) => apply1_delta p (dSplit sep id) W (hr.kn k) (Rl.nil _ _ _) hb)
  have HC := Lib.hid (fun W (k : KN w W) => check_ref p W (hr.kn k) (by unfold maxLen; omega))
  have HL := Lib.hid (fun W u (k : KN w W) (hd : RlD W u [dSplit sep id]) => look_delta p key [dSplit sep id] W (hr.kn k) hd hb1)
  have HLn := Lib.hid (fun W (k : KN w W) => look_delta p key [] W (hr.kn k) (u := .slice none 0 0) ⟨[], rfl, Rl.nil _ _ _, fun x hx => by cases hx⟩ hb0)
  have HX := Lib.hid (fun (W : World) (k' : KN w W) (g : Nat) (h : W.heap[g]? = some (Obj.cells (([(dSplit sep id, .slice none 0 0)] : List (Dl × Value)).flatMap dlc).toArray 30)) => show RlD W (.slice (some ⟨g, 0, none⟩) 1 1) [dSplit sep id] from rlD_blk (cap := 1) (n := 1) (xs := [(dSplit sep id, .slice none 0 0)]) h rfl rfl (Nat.le_refl _) (fun x hx => by
    rw [List.mem_singleton] at hx
    subst hx
    exact Rl.nil _ _ _))
  obtain ⟨cv, hcv⟩ : ∃ x, checkP p = x := ⟨_, rfl⟩
  rw [hcv] at HC
  have HHi := Lib.hid (fun h h1 h2 => split_hi (p := p) (sep := sep) (key := key) (id := id) h h1 h2)
  have HLo := Lib.hid (fun h h1 => split_lo (p := p) (sep := sep) (key := key) (id := id) h h1)
  obtain ⟨⟨⟨qf, qlo, qh, qr, ql⟩, qc⟩, hq⟩ : ∃ x, applyD p (dSplit sep id) = x := ⟨_, rfl⟩
  rw [hq] at HA HHi HLo
  obtain ⟨⟨⟨⟨sk, ⟨ss, sg⟩, sc⟩, sf, sn⟩, se⟩, hu⟩ : ∃ x, lookD p key [dSplit sep id] = x := ⟨_, rfl⟩
  rw [hu] at HL HHi HLo
  clear hcv hq hu hb hb1 hb0
  obtain ⟨a0, c0, rfl, hc0, hrd⟩ := hr
  clear hrd
  obtain ⟨lf, lo, hi, r, l⟩ := p
  have HH := Lib.hid (fun W v => has_r qf qlo qh qr v key W)
  unfold GaveS spv at HL
  unfold dSplit dlv at HA
  simp only [zeroEn, zeroPg, empS] at HA
  simp only at HL HHi HLo hl hc0
  have HO0 := Lib.hid ((One.nil w).alloc2 (.cells #[.bool lf, .string lo, .string hi, .int .i64 r, .slice a0 l.length c0] 24) (.cells #[.string sep, .int .i64 id, .string key] 48))
  go_enter Try.func5, Try.ntmps5
  go_upto_region 1 with fail
  generalize (w.alloc (.cells #[.bool lf, .string lo, .string hi, .int .i64 r, .slice a0 l.length c0] 24)).alloc (.cells #[.string sep, .int .i64 id, .string key] 48) = w1 at *
  obtain ⟨c0', c1', c2', cf0, cf1, cf2⟩ := cells3 (HO0.out.blk 0 rfl).1
  go_region
  have HO1 := Lib.hid (HO0.out.kn ((Kp.refl _ _).drew))
  clear HO0 c0' c1' c2' cf0 cf1 cf2
  generalize w1.drew = w2 at *
  go_upto_region 3 with fail
  have HO3 := Lib.hid (HO1.out.alloc (.cells #[.int .i64 3, .string ⟨#[]⟩, .int .i64 0, .int .i64 0, .int .i64 0, .string sep, .int .i64 id, .bool false, .string ⟨#[]⟩, .string ⟨#[]⟩, .int .i64 0, .slice none 0 0] 30))
  clear HO1 
  generalize (w2.alloc (.cells #[.int .i64 3, .string ⟨#[]⟩, .int .i64 0, .int .i64 0, .int .i64 0, .string sep, .int .i64 id, .bool false, .string ⟨#[]⟩, .string ⟨#[]⟩, .int .i64 0, .slice none 0 0] 30)) = w3 at *
  generalize w2.heap.size = g3 at *
  obtain ⟨x3_0a, x3_0b, x3_0c, x3_0d, x3_0e, x3_0f, x3_0g, x3_0h, x3_0i, x3_0j, x3_0k, x3_0l, x3_0m⟩ := cells12 (HO3.out.blk 0 rfl).1
  obtain ⟨x3_2a, x3_2b, x3_2c, x3_2d, x3_2e, x3_2f⟩ := cells5 (HO3.out.blk 2 rfl).1
  go_wp2_with fail
  refine (HA.out _ HO3.out.old).mono ?_
  rintro e w4 ⟨a4, c4, rfl, k4⟩
  have HO4 := Lib.hid (HO3.out.add k4)
  clear k4 HO3 x3_0a x3_0b x3_0c x3_0d x3_0e x3_0f x3_0g x3_0h x3_0i x3_0j x3_0k x3_0l x3_0m x3_2a x3_2b x3_2c x3_2d x3_2e x3_2f
  go_upto_region 4 with fail
  have HO5 := Lib.hid (HO4.out.alloc (.cells #[.bool qf, .string qlo, .string qh, .int .i64 qr, .slice a4 ql.length c4] 24))
  clear HO4 
  generalize (w4.alloc (.cells #[.bool qf, .string qlo, .string qh, .int .i64 qr, .slice a4 ql.length c4] 24)) = w5 at *
  generalize w4.heap.size = g5 at *
  by_cases hc : qc = 0
  case neg =>
    have hc1 : (qc != 0) = true := by simpa using hc
    obtain ⟨x5_0a, x5_0b, x5_0c, x5_0d, x5_0e, x5_0f⟩ := cells5 (HO5.out.blk 0 rfl).1
    obtain ⟨x5_2a, x5_2b, x5_2c, x5_2d, x5_2e, x5_2f, x5_2g, x5_2h, x5_2i, x5_2j, x5_2k, x5_2l, x5_2m⟩ := cells12 (HO5.out.blk 2 rfl).1
    obtain ⟨x5_4a, x5_4b, x5_4c, x5_4d, x5_4e, x5_4f⟩ := cells5 (HO5.out.blk 4 rfl).1
    go_wp2_with fail
    refine (live_true _).mono ?_
    rintro e wl ⟨rfl, kl⟩
    go_wp2
    go_ret
    exact ⟨rfl, (HO5.out.kn kl).old⟩
  subst hc
  obtain ⟨x5_0a, x5_0b, x5_0c, x5_0d, x5_0e, x5_0f⟩ := cells5 (HO5.out.blk 0 rfl).1
  obtain ⟨x5_2a, x5_2b, x5_2c, x5_2d, x5_2e, x5_2f, x5_2g, x5_2h, x5_2i, x5_2j, x5_2k, x5_2l, x5_2m⟩ := cells12 (HO5.out.blk 2 rfl).1
  obtain ⟨x5_4a, x5_4b, x5_4c, x5_4d, x5_4e, x5_4f⟩ := cells5 (HO5.out.blk 4 rfl).1
  go_wp2_with fail
  refine (HC.out _ HO5.out.old).mono ?_
  rintro e w6 ⟨rfl, k6⟩
  have HO6 := Lib.hid (HO5.out.kn k6)
  clear k6 HO5 x5_0a x5_0b x5_0c x5_0d x5_0e x5_0f x5_2a x5_2b x5_2c x5_2d x5_2e x5_2f x5_2g x5_2h x5_2i x5_2j x5_2k x5_2l x5_2m x5_4a x5_4b x5_4c x5_4d x5_4e x5_4f
  by_cases hc : cv = 0
  case neg =>
    have hc1 : (cv != 0) = true := by simpa using hc
    go_wp2_with fail
    refine (live_true _).mono ?_
    rintro e wl ⟨rfl, kl⟩
    go_wp2
    go_ret
    exact ⟨rfl, (HO6.out.kn kl).old⟩
  subst hc
  obtain ⟨x6_0a, x6_0b, x6_0c, x6_0d, x6_0e, x6_0f⟩ := cells5 (HO6.out.blk 0 rfl).1
  obtain ⟨x6_2a, x6_2b, x6_2c, x6_2d, x6_2e, x6_2f, x6_2g, x6_2h, x6_2i, x6_2j, x6_2k, x6_2l, x6_2m⟩ := cells12 (HO6.out.blk 2 rfl).1
  obtain ⟨x6_4a, x6_4b, x6_4c, x6_4d, x6_4e, x6_4f⟩ := cells5 (HO6.out.blk 4 rfl).1
  go_wp2_with fail
  refine (live_true _).mono ?_
  rintro e w7 ⟨rfl, k7⟩
  have HO7 := Lib.hid (HO6.out.kn k7)
  clear k7 HO6 x6_0a x6_0b x6_0c x6_0d x6_0e x6_0f x6_2a x6_2b x6_2c x6_2d x6_2e x6_2f x6_2g x6_2h x6_2i x6_2j x6_2k x6_2l x6_2m x6_4a x6_4b x6_4c x6_4d x6_4e x6_4f
  obtain ⟨x7_0a, x7_0b, x7_0c, x7_0d, x7_0e, x7_0f⟩ := cells5 (HO7.out.blk 0 rfl).1
  obtain ⟨x7_2a, x7_2b, x7_2c, x7_2d, x7_2e, x7_2f, x7_2g, x7_2h, x7_2i, x7_2j, x7_2k, x7_2l, x7_2m⟩ := cells12 (HO7.out.blk 2 rfl).1
  obtain ⟨x7_4a, x7_4b, x7_4c, x7_4d, x7_4e, x7_4f⟩ := cells5 (HO7.out.blk 4 rfl).1
  have HA7 := Lib.hid (HO7.out.alloc (.cells #[.int .i64 3, .string ⟨#[]⟩, .int .i64 0, .int .i64 0, .int .i64 0, .string sep, .int .i64 id, .bool false, .string ⟨#[]⟩, .string ⟨#[]⟩, .int .i64 0, .slice none 0 0] 30))
  clear HO7
  go_wp2_with fail
  clear x7_0a x7_0b x7_0c x7_0d x7_0e x7_0f x7_2a x7_2b x7_2c x7_2d x7_2e x7_2f x7_2g x7_2h x7_2i x7_2j x7_2k x7_2l x7_2m x7_4a x7_4b x7_4c x7_4d x7_4e x7_4f
  refine (HL.out _ _ HA7.out.old (HX.out _ HA7.out.old _ (HA7.out.blk 0 rfl).1)).mono ?_
  rintro e w8 ⟨rfl, k8⟩
  have HO8 := Lib.hid (HA7.out.kn k8)
  clear k8 HA7 
  go_upto_region 7 with fail
  have HO9 := Lib.hid (HO8.out.alloc (.cells #[.string sk, .int .i64 ss, .int .i64 sg, .int .i64 sc, .bool sf, .int .i64 sn] 41))
  clear HO8 
  generalize (w8.alloc (.cells #[.string sk, .int .i64 ss, .int .i64 sg, .int .i64 sc, .bool sf, .int .i64 sn] 41)) = w9 at *
  generalize w8.heap.size = g9 at *
  cases h1 : Op.bytesLess key.toList sep.toList with
  | true =>
    have hlo := HLo.out (by simp) (.inl h1)
    rw [← hlo] at HLn
    unfold GaveS spv at HLn
    simp only at HLn
    obtain ⟨x9_2a, x9_2b, x9_2c, x9_2d, x9_2e, x9_2f⟩ := cells5 (HO9.out.blk 2 rfl).1
    obtain ⟨x9_4a, x9_4b, x9_4c, x9_4d, x9_4e, x9_4f, x9_4g, x9_4h, x9_4i, x9_4j, x9_4k, x9_4l, x9_4m⟩ := cells12 (HO9.out.blk 4 rfl).1
    obtain ⟨x9_6a, x9_6b, x9_6c, x9_6d, x9_6e, x9_6f⟩ := cells5 (HO9.out.blk 6 rfl).1
    obtain ⟨x9_0a, x9_0b, x9_0c, x9_0d, x9_0e, x9_0f, x9_0g⟩ := cells6 (HO9.out.blk 0 rfl).1
    go_wp2_with fail
    refine (HLn.out _ HO9.out.old).mono ?_
    rintro e w10 ⟨rfl, k10⟩
    have HO10 := Lib.hid (HO9.out.kn k10)
    clear k10 HO9 x9_2a x9_2b x9_2c x9_2d x9_2e x9_2f x9_4a x9_4b x9_4c x9_4d x9_4e x9_4f x9_4g x9_4h x9_4i x9_4j x9_4k x9_4l x9_4m x9_6a x9_6b x9_6c x9_6d x9_6e x9_6f x9_0a x9_0b x9_0c x9_0d x9_0e x9_0f x9_0g
    go_upto_region 10 with fail
    have HO11 := Lib.hid (HO10.out.alloc (.cells #[.string sk, .int .i64 ss, .int .i64 sg, .int .i64 sc, .bool sf, .int .i64 sn] 41))
    clear HO10 
    generalize (w10.alloc (.cells #[.string sk, .int .i64 ss, .int .i64 sg, .int .i64 sc, .bool sf, .int .i64 sn] 41)) = w11 at *
    generalize w10.heap.size = g11 at *
    obtain ⟨x11_3a, x11_3b, x11_3c, x11_3d, x11_3e, x11_3f⟩ := cells5 (HO11.out.blk 3 rfl).1
    obtain ⟨x11_5a, x11_5b, x11_5c, x11_5d, x11_5e, x11_5f, x11_5g, x11_5h, x11_5i, x11_5j, x11_5k, x11_5l, x11_5m⟩ := cells12 (HO11.out.blk 5 rfl).1
    obtain ⟨x11_7a, x11_7b, x11_7c, x11_7d, x11_7e, x11_7f⟩ := cells5 (HO11.out.blk 7 rfl).1
    obtain ⟨x11_0a, x11_0b, x11_0c, x11_0d, x11_0e, x11_0f, x11_0g⟩ := cells6 (HO11.out.blk 0 rfl).1
    obtain ⟨x11_1a, x11_1b, x11_1c, x11_1d, x11_1e, x11_1f, x11_1g⟩ := cells6 (HO11.out.blk 1 rfl).1
    have hsp := run_eql_sp' sk sk ss sg sc sf sn
    have he : (se == se) = true := by simp
    go_wp2
    go_ret
    exact ⟨by simp, HO11.out.old⟩
  | false =>
    cases h2 : Op.bytesLess key.toList lo.toList with
    | true =>
      have hlo := HLo.out (by simp) (.inr h2)
      rw [← hlo] at HLn
      unfold GaveS spv at HLn
      simp only at HLn
      obtain ⟨x19_2a, x19_2b, x19_2c, x19_2d, x19_2e, x19_2f⟩ := cells5 (HO9.out.blk 2 rfl).1
      obtain ⟨x19_4a, x19_4b, x19_4c, x19_4d, x19_4e, x19_4f, x19_4g, x19_4h, x19_4i, x19_4j, x19_4k, x19_4l, x19_4m⟩ := cells12 (HO9.out.blk 4 rfl).1
      obtain ⟨x19_6a, x19_6b, x19_6c, x19_6d, x19_6e, x19_6f⟩ := cells5 (HO9.out.blk 6 rfl).1
      obtain ⟨x19_0a, x19_0b, x19_0c, x19_0d, x19_0e, x19_0f, x19_0g⟩ := cells6 (HO9.out.blk 0 rfl).1
      go_wp2_with fail
      refine (HLn.out _ HO9.out.old).mono ?_
      rintro e w20 ⟨rfl, k20⟩
      have HO20 := Lib.hid (HO9.out.kn k20)
      clear k20 HO9 x19_2a x19_2b x19_2c x19_2d x19_2e x19_2f x19_4a x19_4b x19_4c x19_4d x19_4e x19_4f x19_4g x19_4h x19_4i x19_4j x19_4k x19_4l x19_4m x19_6a x19_6b x19_6c x19_6d x19_6e x19_6f x19_0a x19_0b x19_0c x19_0d x19_0e x19_0f x19_0g
      go_upto_region 10 with fail
      have HO21 := Lib.hid (HO20.out.alloc (.cells #[.string sk, .int .i64 ss, .int .i64 sg, .int .i64 sc, .bool sf, .int .i64 sn] 41))
      clear HO20 
      generalize (w20.alloc (.cells #[.string sk, .int .i64 ss, .int .i64 sg, .int .i64 sc, .bool sf, .int .i64 sn] 41)) = w21 at *
      generalize w20.heap.size = g21 at *
      obtain ⟨x21_3a, x21_3b, x21_3c, x21_3d, x21_3e, x21_3f⟩ := cells5 (HO21.out.blk 3 rfl).1
      obtain ⟨x21_5a, x21_5b, x21_5c, x21_5d, x21_5e, x21_5f, x21_5g, x21_5h, x21_5i, x21_5j, x21_5k, x21_5l, x21_5m⟩ := cells12 (HO21.out.blk 5 rfl).1
      obtain ⟨x21_7a, x21_7b, x21_7c, x21_7d, x21_7e, x21_7f⟩ := cells5 (HO21.out.blk 7 rfl).1
      obtain ⟨x21_0a, x21_0b, x21_0c, x21_0d, x21_0e, x21_0f, x21_0g⟩ := cells6 (HO21.out.blk 0 rfl).1
      obtain ⟨x21_1a, x21_1b, x21_1c, x21_1d, x21_1e, x21_1f, x21_1g⟩ := cells6 (HO21.out.blk 1 rfl).1
      have hsp := run_eql_sp' sk sk ss sg sc sf sn
      have he : (se == se) = true := by simp
      go_wp2
      go_ret
      exact ⟨by simp, HO21.out.old⟩
    | false =>
      obtain ⟨heq, hin⟩ := HHi.out (by simp) h1 h2
      simp only [zeroEn, Prod.mk.injEq, Spo.mk.injEq, En.mk.injEq, Hd.mk.injEq] at heq
      obtain ⟨⟨⟨hk, ⟨rfl, rfl⟩, rfl⟩, rfl, rfl⟩, rfl⟩ := heq
      have hk : sk = (⟨#[]⟩ : ByteArray) := hk
      subst hk
      have HHf := Lib.hid (fun W v => hin ▸ HH.out W v)
      clear hin
      obtain ⟨x29_2a, x29_2b, x29_2c, x29_2d, x29_2e, x29_2f⟩ := cells5 (HO9.out.blk 2 rfl).1
      obtain ⟨x29_4a, x29_4b, x29_4c, x29_4d, x29_4e, x29_4f, x29_4g, x29_4h, x29_4i, x29_4j, x29_4k, x29_4l, x29_4m⟩ := cells12 (HO9.out.blk 4 rfl).1
      obtain ⟨x29_6a, x29_6b, x29_6c, x29_6d, x29_6e, x29_6f⟩ := cells5 (HO9.out.blk 6 rfl).1
      obtain ⟨x29_0a, x29_0b, x29_0c, x29_0d, x29_0e, x29_0f, x29_0g⟩ := cells6 (HO9.out.blk 0 rfl).1
      go_wp2_with fail
      refine (HHf.out _ _).mono ?_
      rintro e w30 ⟨rfl, k30⟩
      have HO30 := Lib.hid (HO9.out.kn k30)
      clear k30 HO9 x29_2a x29_2b x29_2c x29_2d x29_2e x29_2f x29_4a x29_4b x29_4c x29_4d x29_4e x29_4f x29_4g x29_4h x29_4i x29_4j x29_4k x29_4l x29_4m x29_6a x29_6b x29_6c x29_6d x29_6e x29_6f x29_0a x29_0b x29_0c x29_0d x29_0e x29_0f x29_0g
      go_wp2
      go_ret
      exact ⟨rfl, HO30.out.old⟩
end Go.Proofs.Ytkdlodjpambelaa

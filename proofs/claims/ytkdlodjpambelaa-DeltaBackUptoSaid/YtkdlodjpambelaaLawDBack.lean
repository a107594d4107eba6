/- DeltaBack: its walk. -/
import Derived.Test.YtkdlodjpambelaaLiveD
import Derived.Test.YtkdlodjpambelaaUndoP
import Derived.Test.YtkdlodjpambelaaDeltaLaw
import Derived.Test.YtkdlodjpambelaaApplyR
import Derived.Test.YtkdlodjpambelaaCheckR
namespace Go.Proofs.Ytkdlodjpambelaa
set_option linter.unusedVariables false
set_option linter.unusedSimpArgs false
open Go Go.RowKit

theorem undoD_right' (p : Pg) (d : Dl) : (undoD p d).1.right.list = [] := by
  unfold undoD
  split
  · rfl
  · simp only
    split <;> rfl
set_option maxHeartbeats 4000000 in
set_option maxRecDepth 100000 in
theorem back_walk (p : Pg) (d : Dl) (w : World) {v u : Value} (hr : Rl En.enc 4 w v p.list) (hs : Rl En.enc 4 w u d.right.list) (hl : p.list.length ≤ 1048576) (hl2 : d.right.list.length ≤ 1048576) : Calls Try.prog 9 #[pgv p v, dlv d u] w fun e w' => e = .returned (.bool true) ∧ KN w w' := by
  have hb : (p.list.length + d.right.list.length + 1) * 40 ≤ 140737488355328 := Nat.le_trans (Nat.mul_le_mul_right 40 (show _ ≤ 2097153 by omega)) (by decide)
  have HU := Lib.hid (fun W (k : KN w W) => undo_all p d W (hr.kn k) (hs.kn k) hb)
  have HC := Lib.hid (fun W (k : KN w W) => check_ref p W (hr.kn k) (by unfold maxLen; omega))
  obtain ⟨cv, hcv⟩ : ∃ x, checkP p = x := ⟨_, rfl⟩
  rw [hcv] at HC
  obtain ⟨⟨⟨uk, ⟨uek, ⟨ues, ueg⟩, uec⟩, ukey, upg, ⟨ulf, ulo, uhi, ur, ul⟩⟩, ub⟩, hu⟩ : ∃ x, undoD p d = x := ⟨_, rfl⟩
  have hul : ul = [] := by
    have h := undoD_right' p d
    rw [hu] at h
    exact h
  subst hul
  rw [hu] at HU
  have HF := Lib.hid (fun (h1 : cv = 0) (h2 : ub = true) W u' (k : KN w W) (hd : RlD W u' [(⟨uk, ⟨uek, ⟨ues, ueg⟩, uec⟩, ukey, upg, ⟨ulf, ulo, uhi, ur, []⟩⟩ : Dl), d]) => (back_law (u := (⟨uk, ⟨uek, ⟨ues, ueg⟩, uec⟩, ukey, upg, ⟨ulf, ulo, uhi, ur, []⟩⟩ : Dl)) (hcv.trans h1) (hu.trans (by rw [h2]))) ▸ fold_delta p [(⟨uk, ⟨uek, ⟨ues, ueg⟩, uec⟩, ukey, upg, ⟨ulf, ulo, uhi, ur, []⟩⟩ : Dl), d] W (hr.kn k) hd (Nat.le_trans (Nat.mul_le_mul_right 40 (show _ ≤ 2097154 by rw [sumD_cons, sumD_cons, show sumD [] = 0 from rfl]; simp only [List.length_nil]; omega)) (by decide)))
  have HX := Lib.hid (fun (W : World) (k' : KN w W) (g : Nat) (h : W.heap[g]? = some (Obj.cells (([((⟨uk, ⟨uek, ⟨ues, ueg⟩, uec⟩, ukey, upg, ⟨ulf, ulo, uhi, ur, []⟩⟩ : Dl), .slice none 0 0), (d, u)] : List (Dl × Value)).flatMap dlc).toArray 30)) => show RlD W (.slice (some ⟨g, 0, none⟩) 2 2) [(⟨uk, ⟨uek, ⟨ues, ueg⟩, uec⟩, ukey, upg, ⟨ulf, ulo, uhi, ur, []⟩⟩ : Dl), d] from rlD_blk (cap := 2) (n := 2) (xs := [((⟨uk, ⟨uek, ⟨ues, ueg⟩, uec⟩, ukey, upg, ⟨ulf, ulo, uhi, ur, []⟩⟩ : Dl), .slice none 0 0), (d, u)]) h rfl rfl (Nat.le_refl _) (fun x hx => by
    simp only [List.mem_cons, List.not_mem_nil, or_false] at hx
    rcases hx with rfl | rfl
    · exact Rl.nil _ _ _
    · exact hs.kn k'))
  have HS := Lib.hid (fun W x (k : KN w W) (hx : Rl En.enc 4 W x p.list) => (sameP_iff (p := p) (q := p)).2 rfl ▸ same_ref p p W hx (hr.kn k) (by unfold maxLen; omega))
  clear hcv hu hb
  obtain ⟨a0, c0, rfl, hc0, hrd⟩ := hr
  obtain ⟨aD, cD, rfl, hcD, hsd⟩ := hs
  clear hrd hsd
  obtain ⟨lf, lo, hi, r, l⟩ := p
  obtain ⟨k2, ⟨ek2, ⟨es2, eg2⟩, ec2⟩, key2, pg2, ⟨lf2, lo2, hi2, r2, l2⟩⟩ := d
  unfold GaveU at HU
  unfold dlv at HU ⊢
  simp only at HU HC HS hl hl2 hc0 hcD ⊢
  have HO0 := Lib.hid ((One.nil w).alloc2 (.cells #[.bool lf, .string lo, .string hi, .int .i64 r, .slice a0 l.length c0] 24) (.cells #[.int .i64 k2, .string ek2, .int .i64 es2, .int .i64 eg2, .int .i64 ec2, .string key2, .int .i64 pg2, .bool lf2, .string lo2, .string hi2, .int .i64 r2, .slice aD l2.length cD] 30))
  go_enter Try.func9, Try.ntmps9
  obtain ⟨x0_0a, x0_0b, x0_0c, x0_0d, x0_0e, x0_0f, x0_0g, x0_0h, x0_0i, x0_0j, x0_0k, x0_0l, x0_0m⟩ := cells12 (HO0.out.blk 0 rfl).1
  obtain ⟨x0_1a, x0_1b, x0_1c, x0_1d, x0_1e, x0_1f⟩ := cells5 (HO0.out.blk 1 rfl).1
  go_wp2_with fail
  refine (HU.out _ HO0.out.old).mono ?_
  rintro e w1 ⟨rfl, k1⟩
  have HO1 := Lib.hid (HO0.out.kn k1)
  clear k1 HO0 x0_0a x0_0b x0_0c x0_0d x0_0e x0_0f x0_0g x0_0h x0_0i x0_0j x0_0k x0_0l x0_0m x0_1a x0_1b x0_1c x0_1d x0_1e x0_1f
  go_upto_region 2 with fail
  have HO2 := Lib.hid (HO1.out.alloc (.cells #[.int .i64 uk, .string uek, .int .i64 ues, .int .i64 ueg, .int .i64 uec, .string ukey, .int .i64 upg, .bool ulf, .string ulo, .string uhi, .int .i64 ur, .slice none 0 0] 30))
  clear HO1 
  generalize (w1.alloc (.cells #[.int .i64 uk, .string uek, .int .i64 ues, .int .i64 ueg, .int .i64 uec, .string ukey, .int .i64 upg, .bool ulf, .string ulo, .string uhi, .int .i64 ur, .slice none 0 0] 30)) = w2 at *
  generalize w1.heap.size = g2 at *
  cases ub
  case false =>
    go_wp2_with fail
    refine (live_true _).mono ?_
    rintro e wl ⟨rfl, kl⟩
    go_wp2
    go_ret
    exact ⟨rfl, (HO2.out.kn kl).old⟩
  obtain ⟨x2_0a, x2_0b, x2_0c, x2_0d, x2_0e, x2_0f, x2_0g, x2_0h, x2_0i, x2_0j, x2_0k, x2_0l, x2_0m⟩ := cells12 (HO2.out.blk 0 rfl).1
  obtain ⟨x2_1a, x2_1b, x2_1c, x2_1d, x2_1e, x2_1f, x2_1g, x2_1h, x2_1i, x2_1j, x2_1k, x2_1l, x2_1m⟩ := cells12 (HO2.out.blk 1 rfl).1
  obtain ⟨x2_2a, x2_2b, x2_2c, x2_2d, x2_2e, x2_2f⟩ := cells5 (HO2.out.blk 2 rfl).1
  go_wp2_with fail
  refine (HC.out _ HO2.out.old).mono ?_
  rintro e w3 ⟨rfl, k3⟩
  have HO3 := Lib.hid (HO2.out.kn k3)
  clear k3 HO2 x2_0a x2_0b x2_0c x2_0d x2_0e x2_0f x2_0g x2_0h x2_0i x2_0j x2_0k x2_0l x2_0m x2_1a x2_1b x2_1c x2_1d x2_1e x2_1f x2_1g x2_1h x2_1i x2_1j x2_1k x2_1l x2_1m x2_2a x2_2b x2_2c x2_2d x2_2e x2_2f
  by_cases hc : cv = 0
  case neg =>
    have hc1 : (cv != 0) = true := by simpa using hc
    go_wp2_with fail
    refine (live_true _).mono ?_
    rintro e wl ⟨rfl, kl⟩
    go_wp2
    go_ret
    exact ⟨rfl, (HO3.out.kn kl).old⟩
  subst hc
  obtain ⟨x3_0a, x3_0b, x3_0c, x3_0d, x3_0e, x3_0f, x3_0g, x3_0h, x3_0i, x3_0j, x3_0k, x3_0l, x3_0m⟩ := cells12 (HO3.out.blk 0 rfl).1
  obtain ⟨x3_1a, x3_1b, x3_1c, x3_1d, x3_1e, x3_1f, x3_1g, x3_1h, x3_1i, x3_1j, x3_1k, x3_1l, x3_1m⟩ := cells12 (HO3.out.blk 1 rfl).1
  obtain ⟨x3_2a, x3_2b, x3_2c, x3_2d, x3_2e, x3_2f⟩ := cells5 (HO3.out.blk 2 rfl).1
  go_wp2_with fail
  refine (live_true _).mono ?_
  rintro e w4 ⟨rfl, k4⟩
  have HO4 := Lib.hid (HO3.out.kn k4)
  clear k4 HO3 x3_0a x3_0b x3_0c x3_0d x3_0e x3_0f x3_0g x3_0h x3_0i x3_0j x3_0k x3_0l x3_0m x3_1a x3_1b x3_1c x3_1d x3_1e x3_1f x3_1g x3_1h x3_1i x3_1j x3_1k x3_1l x3_1m x3_2a x3_2b x3_2c x3_2d x3_2e x3_2f
  obtain ⟨x4_0a, x4_0b, x4_0c, x4_0d, x4_0e, x4_0f, x4_0g, x4_0h, x4_0i, x4_0j, x4_0k, x4_0l, x4_0m⟩ := cells12 (HO4.out.blk 0 rfl).1
  obtain ⟨x4_1a, x4_1b, x4_1c, x4_1d, x4_1e, x4_1f, x4_1g, x4_1h, x4_1i, x4_1j, x4_1k, x4_1l, x4_1m⟩ := cells12 (HO4.out.blk 1 rfl).1
  obtain ⟨x4_2a, x4_2b, x4_2c, x4_2d, x4_2e, x4_2f⟩ := cells5 (HO4.out.blk 2 rfl).1
  have HA4 := Lib.hid (HO4.out.alloc (.cells #[.int .i64 uk, .string uek, .int .i64 ues, .int .i64 ueg, .int .i64 uec, .string ukey, .int .i64 upg, .bool ulf, .string ulo, .string uhi, .int .i64 ur, .slice none 0 0, .int .i64 k2, .string ek2, .int .i64 es2, .int .i64 eg2, .int .i64 ec2, .string key2, .int .i64 pg2, .bool lf2, .string lo2, .string hi2, .int .i64 r2, .slice aD l2.length cD] 30))
  clear HO4
  go_wp2_with fail
  clear x4_0a x4_0b x4_0c x4_0d x4_0e x4_0f x4_0g x4_0h x4_0i x4_0j x4_0k x4_0l x4_0m x4_1a x4_1b x4_1c x4_1d x4_1e x4_1f x4_1g x4_1h x4_1i x4_1j x4_1k x4_1l x4_1m x4_2a x4_2b x4_2c x4_2d x4_2e x4_2f
  refine (HF.out (by simp) (by simp) _ _ HA4.out.old (HX.out _ HA4.out.old _ (HA4.out.blk 0 rfl).1)).mono ?_
  rintro e w5 ⟨a5, c5, rfl, k5⟩
  have HO5 := Lib.hid (HA4.out.add k5)
  clear k5 HA4 
  go_upto_region 5 with fail
  have HO6 := Lib.hid (HO5.out.alloc (.cells #[.bool lf, .string lo, .string hi, .int .i64 r, .slice a5 l.length c5] 24))
  clear HO5 
  generalize (w5.alloc (.cells #[.bool lf, .string lo, .string hi, .int .i64 r, .slice a5 l.length c5] 24)) = w6 at *
  generalize w5.heap.size = g6 at *
  obtain ⟨x6_0a, x6_0b, x6_0c, x6_0d, x6_0e, x6_0f⟩ := cells5 (HO6.out.blk 0 rfl).1
  obtain ⟨x6_3a, x6_3b, x6_3c, x6_3d, x6_3e, x6_3f, x6_3g, x6_3h, x6_3i, x6_3j, x6_3k, x6_3l, x6_3m⟩ := cells12 (HO6.out.blk 3 rfl).1
  obtain ⟨x6_4a, x6_4b, x6_4c, x6_4d, x6_4e, x6_4f, x6_4g, x6_4h, x6_4i, x6_4j, x6_4k, x6_4l, x6_4m⟩ := cells12 (HO6.out.blk 4 rfl).1
  obtain ⟨x6_5a, x6_5b, x6_5c, x6_5d, x6_5e, x6_5f⟩ := cells5 (HO6.out.blk 5 rfl).1
  go_wp2_with fail
  refine (HS.out _ _ HO6.out.old (HO6.out.rlE 1 rfl)).mono ?_
  rintro e w7 ⟨rfl, k7⟩
  have HO7 := Lib.hid (HO6.out.kn k7)
  clear k7 HO6 x6_0a x6_0b x6_0c x6_0d x6_0e x6_0f x6_3a x6_3b x6_3c x6_3d x6_3e x6_3f x6_3g x6_3h x6_3i x6_3j x6_3k x6_3l x6_3m x6_4a x6_4b x6_4c x6_4d x6_4e x6_4f x6_4g x6_4h x6_4i x6_4j x6_4k x6_4l x6_4m x6_5a x6_5b x6_5c x6_5d x6_5e x6_5f
  go_wp2
  go_ret
  exact ⟨rfl, HO7.out.old⟩
end Go.Proofs.Ytkdlodjpambelaa

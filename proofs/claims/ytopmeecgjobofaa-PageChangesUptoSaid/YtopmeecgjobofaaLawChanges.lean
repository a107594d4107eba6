/- PageChanges: its walk. -/
import Derived.Test.YtopmeecgjobofaaLawParts
import Derived.Test.YtopmeecgjobofaaPutR
namespace Go.Proofs.Ytopmeecgjobofaa
set_option linter.unusedVariables false
set_option linter.unusedSimpArgs false
open Go Go.RowKit Go.Sort

theorem putP_len {p q : Pg} {e : En} {c : Int} (h : putP p e = (q, c)) : q.list.length ≤ p.list.length + 1 := by
  unfold putP at h
  split at h <;> cases h
  · exact putAt_len _ _
  · simp [zeroPg]
set_option maxHeartbeats 4000000 in
set_option maxRecDepth 100000 in
theorem changes_walk (p : Pg) (e : En) (key : ByteArray) (w : World) {v : Value} (hr : Rl En.enc 4 w v p.list) (hb : p.list.length ≤ 1048576) : Calls Try.prog 5 #[pgv p v, env e, .string key] w fun e w' => e = .returned (.bool true) ∧ KN w w' := by
  obtain ⟨a0, cp, rfl, hc0, hrd⟩ := hr
  have HR := Lib.hid (Rl.of_rd hrd hc0)
  clear hrd
  obtain ⟨a, c, hs⟩ : ∃ a c, putP p e = (a, c) := ⟨_, _, rfl⟩
  obtain ⟨x, cx, hm⟩ : ∃ a c, removeP p key = (a, c) := ⟨_, _, rfl⟩
  have HS := Lib.hid (hs ▸ fun W (k : KN w W) => put_page p e W (HR.out.kn k) (by omega))
  have HS2 := Lib.hid (hs ▸ fun W (k : KN w W) => put_ref p e W (HR.out.kn k) (by omega))
  have HM := Lib.hid (hm ▸ fun W (k : KN w W) => remove_page p key W (HR.out.kn k) (by omega))
  have HM2 := Lib.hid (hm ▸ fun W (k : KN w W) => remove_ref p key W (HR.out.kn k) (by omega))
  have hl := putP_len hs
  have hl2 := removeP_len p key
  rw [hm] at hl2
  have HSa := Lib.hid (fun W v u (h : Rl En.enc 4 W v a.list) (h' : Rl En.enc 4 W u a.list) => (sameP_iff (p := a) (q := a)).2 rfl ▸ same_ref a a W h h' (by unfold maxLen; omega))
  have HSx := Lib.hid (fun W v u (h : Rl En.enc 4 W v x.list) (h' : Rl En.enc 4 W u x.list) => (sameP_iff (p := x) (q := x)).2 rfl ▸ same_ref x x W h h' (by simp only at hl2; unfold maxLen; omega))
  clear hl hl2 hs hm
  obtain ⟨lf, lo, hi, r, l⟩ := p
  obtain ⟨ek, ⟨es, eg⟩, ec⟩ := e
  obtain ⟨af, al, ah, ar, as'⟩ := a
  obtain ⟨xf, xl, xh, xr, xs'⟩ := x
  simp only at HR HSa HSx
  have HO0 := Lib.hid ((One.nil w).alloc2 (.cells #[.bool lf, .string lo, .string hi, .int .i64 r, .slice a0 l.length cp] 24) (.cells #[.string ek, .int .i64 es, .int .i64 eg, .int .i64 ec] 34))
  go_enter Try.func5, Try.ntmps5
  obtain ⟨x0_0a, x0_0b, x0_0c, x0_0d, x0_0e⟩ := cells4 (HO0.out.blk 0 rfl).1
  obtain ⟨x0_1a, x0_1b, x0_1c, x0_1d, x0_1e, x0_1f⟩ := cells5 (HO0.out.blk 1 rfl).1
  go_wp2_with fail
  refine (HS.out _ HO0.out.old).mono ?_
  rintro e w1 ⟨a1, c1, rfl, k1⟩
  have HO1 := Lib.hid (HO0.out.add k1)
  clear k1 HO0 x0_0a x0_0b x0_0c x0_0d x0_0e x0_1a x0_1b x0_1c x0_1d x0_1e x0_1f
  go_upto_region 2 with fail
  have HO2 := Lib.hid (HO1.out.alloc (.cells #[.bool af, .string al, .string ah, .int .i64 ar, .slice a1 as'.length c1] 24))
  clear HO1 
  generalize (w1.alloc (.cells #[.bool af, .string al, .string ah, .int .i64 ar, .slice a1 as'.length c1] 24)) = w2 at *
  generalize w1.heap.size = g2 at *
  obtain ⟨x2_0a, x2_0b, x2_0c, x2_0d, x2_0e, x2_0f⟩ := cells5 (HO2.out.blk 0 rfl).1
  obtain ⟨x2_2a, x2_2b, x2_2c, x2_2d, x2_2e⟩ := cells4 (HO2.out.blk 2 rfl).1
  obtain ⟨x2_3a, x2_3b, x2_3c, x2_3d, x2_3e, x2_3f⟩ := cells5 (HO2.out.blk 3 rfl).1
  go_wp2_with fail
  refine (HS2.out _ HO2.out.old).mono ?_
  rintro e w3 ⟨a3, c3, rfl, k3⟩
  have HO3 := Lib.hid (HO2.out.add k3)
  clear k3 HO2 x2_0a x2_0b x2_0c x2_0d x2_0e x2_0f x2_2a x2_2b x2_2c x2_2d x2_2e x2_3a x2_3b x2_3c x2_3d x2_3e x2_3f
  go_upto_region 3 with fail
  have HO4 := Lib.hid (HO3.out.alloc (.cells #[.bool af, .string al, .string ah, .int .i64 ar, .slice a3 as'.length c3] 24))
  clear HO3 
  generalize (w3.alloc (.cells #[.bool af, .string al, .string ah, .int .i64 ar, .slice a3 as'.length c3] 24)) = w4 at *
  generalize w3.heap.size = g4 at *
  obtain ⟨x4_0a, x4_0b, x4_0c, x4_0d, x4_0e, x4_0f⟩ := cells5 (HO4.out.blk 0 rfl).1
  obtain ⟨x4_2a, x4_2b, x4_2c, x4_2d, x4_2e, x4_2f⟩ := cells5 (HO4.out.blk 2 rfl).1
  obtain ⟨x4_4a, x4_4b, x4_4c, x4_4d, x4_4e⟩ := cells4 (HO4.out.blk 4 rfl).1
  obtain ⟨x4_5a, x4_5b, x4_5c, x4_5d, x4_5e, x4_5f⟩ := cells5 (HO4.out.blk 5 rfl).1
  go_wp2_with fail
  refine (HM.out _ HO4.out.old).mono ?_
  rintro e w5 ⟨a5, c5, rfl, k5⟩
  have HO5 := Lib.hid (HO4.out.add k5)
  clear k5 HO4 x4_0a x4_0b x4_0c x4_0d x4_0e x4_0f x4_2a x4_2b x4_2c x4_2d x4_2e x4_2f x4_4a x4_4b x4_4c x4_4d x4_4e x4_5a x4_5b x4_5c x4_5d x4_5e x4_5f
  go_upto_region 4 with fail
  have HO6 := Lib.hid (HO5.out.alloc (.cells #[.bool xf, .string xl, .string xh, .int .i64 xr, .slice a5 xs'.length c5] 24))
  clear HO5 
  generalize (w5.alloc (.cells #[.bool xf, .string xl, .string xh, .int .i64 xr, .slice a5 xs'.length c5] 24)) = w6 at *
  generalize w5.heap.size = g6 at *
  obtain ⟨x6_0a, x6_0b, x6_0c, x6_0d, x6_0e, x6_0f⟩ := cells5 (HO6.out.blk 0 rfl).1
  obtain ⟨x6_2a, x6_2b, x6_2c, x6_2d, x6_2e, x6_2f⟩ := cells5 (HO6.out.blk 2 rfl).1
  obtain ⟨x6_4a, x6_4b, x6_4c, x6_4d, x6_4e, x6_4f⟩ := cells5 (HO6.out.blk 4 rfl).1
  obtain ⟨x6_6a, x6_6b, x6_6c, x6_6d, x6_6e⟩ := cells4 (HO6.out.blk 6 rfl).1
  obtain ⟨x6_7a, x6_7b, x6_7c, x6_7d, x6_7e, x6_7f⟩ := cells5 (HO6.out.blk 7 rfl).1
  go_wp2_with fail
  refine (HM2.out _ HO6.out.old).mono ?_
  rintro e w7 ⟨a7, c7, rfl, k7⟩
  have HO7 := Lib.hid (HO6.out.add k7)
  clear k7 HO6 x6_0a x6_0b x6_0c x6_0d x6_0e x6_0f x6_2a x6_2b x6_2c x6_2d x6_2e x6_2f x6_4a x6_4b x6_4c x6_4d x6_4e x6_4f x6_6a x6_6b x6_6c x6_6d x6_6e x6_7a x6_7b x6_7c x6_7d x6_7e x6_7f
  go_upto_region 5 with fail
  have HO8 := Lib.hid (HO7.out.alloc (.cells #[.bool xf, .string xl, .string xh, .int .i64 xr, .slice a7 xs'.length c7] 24))
  clear HO7 
  generalize (w7.alloc (.cells #[.bool xf, .string xl, .string xh, .int .i64 xr, .slice a7 xs'.length c7] 24)) = w8 at *
  generalize w7.heap.size = g8 at *
  have hb1 : (c == c) = true := by simp
  have hb2 : (cx == cx) = true := by simp
  obtain ⟨x8_0a, x8_0b, x8_0c, x8_0d, x8_0e, x8_0f⟩ := cells5 (HO8.out.blk 0 rfl).1
  obtain ⟨x8_2a, x8_2b, x8_2c, x8_2d, x8_2e, x8_2f⟩ := cells5 (HO8.out.blk 2 rfl).1
  obtain ⟨x8_4a, x8_4b, x8_4c, x8_4d, x8_4e, x8_4f⟩ := cells5 (HO8.out.blk 4 rfl).1
  obtain ⟨x8_6a, x8_6b, x8_6c, x8_6d, x8_6e, x8_6f⟩ := cells5 (HO8.out.blk 6 rfl).1
  obtain ⟨x8_8a, x8_8b, x8_8c, x8_8d, x8_8e⟩ := cells4 (HO8.out.blk 8 rfl).1
  obtain ⟨x8_9a, x8_9b, x8_9c, x8_9d, x8_9e, x8_9f⟩ := cells5 (HO8.out.blk 9 rfl).1
  go_wp2_with fail
  refine (live_true _).mono ?_
  rintro e w9 ⟨rfl, k9⟩
  have HO9 := Lib.hid (HO8.out.kn k9)
  clear k9 HO8 x8_0a x8_0b x8_0c x8_0d x8_0e x8_0f x8_2a x8_2b x8_2c x8_2d x8_2e x8_2f x8_4a x8_4b x8_4c x8_4d x8_4e x8_4f x8_6a x8_6b x8_6c x8_6d x8_6e x8_6f x8_8a x8_8b x8_8c x8_8d x8_8e x8_9a x8_9b x8_9c x8_9d x8_9e x8_9f
  obtain ⟨x9_0a, x9_0b, x9_0c, x9_0d, x9_0e, x9_0f⟩ := cells5 (HO9.out.blk 0 rfl).1
  obtain ⟨x9_2a, x9_2b, x9_2c, x9_2d, x9_2e, x9_2f⟩ := cells5 (HO9.out.blk 2 rfl).1
  obtain ⟨x9_4a, x9_4b, x9_4c, x9_4d, x9_4e, x9_4f⟩ := cells5 (HO9.out.blk 4 rfl).1
  obtain ⟨x9_6a, x9_6b, x9_6c, x9_6d, x9_6e, x9_6f⟩ := cells5 (HO9.out.blk 6 rfl).1
  obtain ⟨x9_8a, x9_8b, x9_8c, x9_8d, x9_8e⟩ := cells4 (HO9.out.blk 8 rfl).1
  obtain ⟨x9_9a, x9_9b, x9_9c, x9_9d, x9_9e, x9_9f⟩ := cells5 (HO9.out.blk 9 rfl).1
  go_wp2_with fail
  refine (HSa.out _ _ _ (HO9.out.rlE 7 rfl) (HO9.out.rlE 5 rfl)).mono ?_
  rintro e w10 ⟨rfl, k10⟩
  have HO10 := Lib.hid (HO9.out.kn k10)
  clear k10 HO9 x9_0a x9_0b x9_0c x9_0d x9_0e x9_0f x9_2a x9_2b x9_2c x9_2d x9_2e x9_2f x9_4a x9_4b x9_4c x9_4d x9_4e x9_4f x9_6a x9_6b x9_6c x9_6d x9_6e x9_6f x9_8a x9_8b x9_8c x9_8d x9_8e x9_9a x9_9b x9_9c x9_9d x9_9e x9_9f
  obtain ⟨x10_0a, x10_0b, x10_0c, x10_0d, x10_0e, x10_0f⟩ := cells5 (HO10.out.blk 0 rfl).1
  obtain ⟨x10_2a, x10_2b, x10_2c, x10_2d, x10_2e, x10_2f⟩ := cells5 (HO10.out.blk 2 rfl).1
  obtain ⟨x10_4a, x10_4b, x10_4c, x10_4d, x10_4e, x10_4f⟩ := cells5 (HO10.out.blk 4 rfl).1
  obtain ⟨x10_6a, x10_6b, x10_6c, x10_6d, x10_6e, x10_6f⟩ := cells5 (HO10.out.blk 6 rfl).1
  obtain ⟨x10_8a, x10_8b, x10_8c, x10_8d, x10_8e⟩ := cells4 (HO10.out.blk 8 rfl).1
  obtain ⟨x10_9a, x10_9b, x10_9c, x10_9d, x10_9e, x10_9f⟩ := cells5 (HO10.out.blk 9 rfl).1
  go_wp2_with fail
  refine (HSx.out _ _ _ (HO10.out.rlE 3 rfl) (HO10.out.rlE 1 rfl)).mono ?_
  rintro e w11 ⟨rfl, k11⟩
  have HO11 := Lib.hid (HO10.out.kn k11)
  clear k11 HO10 x10_0a x10_0b x10_0c x10_0d x10_0e x10_0f x10_2a x10_2b x10_2c x10_2d x10_2e x10_2f x10_4a x10_4b x10_4c x10_4d x10_4e x10_4f x10_6a x10_6b x10_6c x10_6d x10_6e x10_6f x10_8a x10_8b x10_8c x10_8d x10_8e x10_9a x10_9b x10_9c x10_9d x10_9e x10_9f
  go_wp2_with fail
  go_ret
  exact ⟨rfl, HO11.out.old⟩
end Go.Proofs.Ytopmeecgjobofaa

/- PageKeeps: its walk. -/
import Derived.Test.YtopmeecgjobofaaLawParts
import Derived.Test.YtopmeecgjobofaaKeepLaw
import Derived.Test.YtopmeecgjobofaaPutP2
namespace Go.Proofs.Ytopmeecgjobofaa
set_option linter.unusedVariables false
set_option linter.unusedSimpArgs false
open Go Go.RowKit Go.Sort
set_option maxHeartbeats 2000000 in
set_option maxRecDepth 100000 in
theorem keeps_no (p : Pg) (e : En) (other : ByteArray) (w : World) {v : Value} (hr : Rl En.enc 4 w v p.list) (hb : p.list.length ≤ 1048576) (hn : checkP p = 70) : Calls Try.prog 7 #[pgv p v, env e, .string other] w fun e w' => e = .returned (.bool true) ∧ KN w w' := by
  obtain ⟨a0, cp, rfl, hc0, hrd⟩ := hr
  have HR := Lib.hid (Rl.of_rd hrd hc0)
  have HK := Lib.hid (fun W (k : KN w W) => check_ref p W ((Rl.of_rd hrd hc0).kn k) (by unfold maxLen; omega))
  clear hrd
  rw [hn] at HK
  clear hn
  obtain ⟨lf, lo, hi, r, l⟩ := p
  obtain ⟨ek, ⟨es, eg⟩, ec⟩ := e
  have HO0 := Lib.hid ((One.nil w).alloc2 (.cells #[.bool lf, .string lo, .string hi, .int .i64 r, .slice a0 l.length cp] 24) (.cells #[.string ek, .int .i64 es, .int .i64 eg, .int .i64 ec] 34))
  go_enter Try.func7, Try.ntmps7
  obtain ⟨x0_0a, x0_0b, x0_0c, x0_0d, x0_0e⟩ := cells4 (HO0.out.blk 0 rfl).1
  obtain ⟨x0_1a, x0_1b, x0_1c, x0_1d, x0_1e, x0_1f⟩ := cells5 (HO0.out.blk 1 rfl).1
  go_wp2_with fail
  refine (HK.out _ HO0.out.old).mono ?_
  rintro e w1 ⟨rfl, k1⟩
  have HO1 := Lib.hid (HO0.out.kn k1)
  clear k1 HO0 x0_0a x0_0b x0_0c x0_0d x0_0e x0_1a x0_1b x0_1c x0_1d x0_1e x0_1f
  obtain ⟨x1_0a, x1_0b, x1_0c, x1_0d, x1_0e⟩ := cells4 (HO1.out.blk 0 rfl).1
  obtain ⟨x1_1a, x1_1b, x1_1c, x1_1d, x1_1e, x1_1f⟩ := cells5 (HO1.out.blk 1 rfl).1
  go_wp2_with fail
  refine (live_true _).mono ?_
  rintro e w2 ⟨rfl, k2⟩
  have HO2 := Lib.hid (HO1.out.kn k2)
  clear k2 HO1 x1_0a x1_0b x1_0c x1_0d x1_0e x1_1a x1_1b x1_1c x1_1d x1_1e x1_1f
  go_wp2_with fail
  go_ret
  exact ⟨rfl, HO2.out.old⟩
set_option maxHeartbeats 2000000 in
set_option maxRecDepth 100000 in
theorem keeps_inner (p : Pg) (e : En) (other : ByteArray) (w : World) {v : Value} (hr : Rl En.enc 4 w v p.list) (hb : p.list.length ≤ 1048576) (hn : checkP p = 0) (hlf : p.leaf = false) : Calls Try.prog 7 #[pgv p v, env e, .string other] w fun e w' => e = .returned (.bool true) ∧ KN w w' := by
  obtain ⟨a0, cp, rfl, hc0, hrd⟩ := hr
  have HR := Lib.hid (Rl.of_rd hrd hc0)
  have HK := Lib.hid (fun W (k : KN w W) => check_ref p W ((Rl.of_rd hrd hc0).kn k) (by unfold maxLen; omega))
  clear hrd
  rw [hn] at HK
  clear hn
  obtain ⟨lf, lo, hi, r, l⟩ := p
  obtain ⟨ek, ⟨es, eg⟩, ec⟩ := e
  simp only at hlf
  subst hlf
  have HO0 := Lib.hid ((One.nil w).alloc2 (.cells #[.bool false, .string lo, .string hi, .int .i64 r, .slice a0 l.length cp] 24) (.cells #[.string ek, .int .i64 es, .int .i64 eg, .int .i64 ec] 34))
  go_enter Try.func7, Try.ntmps7
  obtain ⟨x0_0a, x0_0b, x0_0c, x0_0d, x0_0e⟩ := cells4 (HO0.out.blk 0 rfl).1
  obtain ⟨x0_1a, x0_1b, x0_1c, x0_1d, x0_1e, x0_1f⟩ := cells5 (HO0.out.blk 1 rfl).1
  go_wp2_with fail
  refine (HK.out _ HO0.out.old).mono ?_
  rintro e w1 ⟨rfl, k1⟩
  have HO1 := Lib.hid (HO0.out.kn k1)
  clear k1 HO0 x0_0a x0_0b x0_0c x0_0d x0_0e x0_1a x0_1b x0_1c x0_1d x0_1e x0_1f
  obtain ⟨x1_0a, x1_0b, x1_0c, x1_0d, x1_0e⟩ := cells4 (HO1.out.blk 0 rfl).1
  obtain ⟨x1_1a, x1_1b, x1_1c, x1_1d, x1_1e, x1_1f⟩ := cells5 (HO1.out.blk 1 rfl).1
  clear x1_0a x1_0b x1_0c x1_0d x1_0e x1_1a x1_1b x1_1c x1_1d x1_1e x1_1f
  obtain ⟨x1_0a, x1_0b, x1_0c, x1_0d, x1_0e⟩ := cells4 (HO1.out.blk 0 rfl).1
  obtain ⟨x1_1a, x1_1b, x1_1c, x1_1d, x1_1e, x1_1f⟩ := cells5 (HO1.out.blk 1 rfl).1
  go_wp2_with fail
  refine (live_true _).mono ?_
  rintro e w2 ⟨rfl, k2⟩
  have HO2 := Lib.hid (HO1.out.kn k2)
  clear k2 HO1 x1_0a x1_0b x1_0c x1_0d x1_0e x1_1a x1_1b x1_1c x1_1d x1_1e x1_1f
  go_wp2_with fail
  go_ret
  exact ⟨rfl, HO2.out.old⟩
set_option maxHeartbeats 2000000 in
set_option maxRecDepth 100000 in
theorem keeps_out (p : Pg) (e : En) (other : ByteArray) (w : World) {v : Value} (hr : Rl En.enc 4 w v p.list) (hb : p.list.length ≤ 1048576) (hn : checkP p = 0) (hlf : p.leaf = true) (hin : inR p.low p.high e.key = false) : Calls Try.prog 7 #[pgv p v, env e, .string other] w fun e w' => e = .returned (.bool true) ∧ KN w w' := by
  obtain ⟨a0, cp, rfl, hc0, hrd⟩ := hr
  have HR := Lib.hid (Rl.of_rd hrd hc0)
  have HK := Lib.hid (fun W (k : KN w W) => check_ref p W ((Rl.of_rd hrd hc0).kn k) (by unfold maxLen; omega))
  clear hrd
  rw [hn] at HK
  clear hn
  have HP := Lib.hid (put_miss hin ▸ fun W (k : KN w W) => put_page p e W (HR.out.kn k) (by omega))
  rw [show zeroPg = ⟨false, ⟨#[]⟩, ⟨#[]⟩, 0, []⟩ from rfl] at HP
  obtain ⟨fo, hfo⟩ : ∃ f, findP p other = f := ⟨_, rfl⟩
  have HF := Lib.hid (hfo ▸ fun W (k : KN w W) => find_page p other W (HR.out.kn k) (by unfold maxLen; omega))
  clear hfo
  obtain ⟨lf, lo, hi, r, l⟩ := p
  obtain ⟨ek, ⟨es, eg⟩, ec⟩ := e
  simp only at hlf hin
  subst hlf
  obtain ⟨⟨fk, ⟨fs, fg⟩, fc⟩, fb⟩ := fo
  have HI := Lib.hid (fun W => hin ▸ has_k true lo hi r (.slice a0 l.length cp) ek W)
  clear hin
  have HO0 := Lib.hid ((One.nil w).alloc2 (.cells #[.bool true, .string lo, .string hi, .int .i64 r, .slice a0 l.length cp] 24) (.cells #[.string ek, .int .i64 es, .int .i64 eg, .int .i64 ec] 34))
  go_enter Try.func7, Try.ntmps7
  obtain ⟨x0_0a, x0_0b, x0_0c, x0_0d, x0_0e⟩ := cells4 (HO0.out.blk 0 rfl).1
  obtain ⟨x0_1a, x0_1b, x0_1c, x0_1d, x0_1e, x0_1f⟩ := cells5 (HO0.out.blk 1 rfl).1
  go_wp2_with fail
  refine (HK.out _ HO0.out.old).mono ?_
  rintro e w1 ⟨rfl, k1⟩
  have HO1 := Lib.hid (HO0.out.kn k1)
  clear k1 HO0 x0_0a x0_0b x0_0c x0_0d x0_0e x0_1a x0_1b x0_1c x0_1d x0_1e x0_1f
  obtain ⟨x1_0a, x1_0b, x1_0c, x1_0d, x1_0e⟩ := cells4 (HO1.out.blk 0 rfl).1
  obtain ⟨x1_1a, x1_1b, x1_1c, x1_1d, x1_1e, x1_1f⟩ := cells5 (HO1.out.blk 1 rfl).1
  go_wp2_with fail
  refine (live_true _).mono ?_
  rintro e w2 ⟨rfl, k2⟩
  have HO2 := Lib.hid (HO1.out.kn k2)
  clear k2 HO1 x1_0a x1_0b x1_0c x1_0d x1_0e x1_1a x1_1b x1_1c x1_1d x1_1e x1_1f
  obtain ⟨x2_0a, x2_0b, x2_0c, x2_0d, x2_0e⟩ := cells4 (HO2.out.blk 0 rfl).1
  obtain ⟨x2_1a, x2_1b, x2_1c, x2_1d, x2_1e, x2_1f⟩ := cells5 (HO2.out.blk 1 rfl).1
  go_wp2_with fail
  refine (HF.out _ HO2.out.old).mono ?_
  rintro e w3 ⟨rfl, k3⟩
  have HO3 := Lib.hid (HO2.out.kn k3)
  clear k3 HO2 x2_0a x2_0b x2_0c x2_0d x2_0e x2_1a x2_1b x2_1c x2_1d x2_1e x2_1f
  obtain ⟨x3_0a, x3_0b, x3_0c, x3_0d, x3_0e⟩ := cells4 (HO3.out.blk 0 rfl).1
  obtain ⟨x3_1a, x3_1b, x3_1c, x3_1d, x3_1e, x3_1f⟩ := cells5 (HO3.out.blk 1 rfl).1
  go_upto_region 4 with fail
  have HO4 := Lib.hid (HO3.out.alloc (.cells #[.string fk, .int .i64 fs, .int .i64 fg, .int .i64 fc] 34))
  clear HO3 x3_0a x3_0b x3_0c x3_0d x3_0e x3_1a x3_1b x3_1c x3_1d x3_1e x3_1f
  generalize (w3.alloc (.cells #[.string fk, .int .i64 fs, .int .i64 fg, .int .i64 fc] 34)) = w4 at *
  generalize w3.heap.size = g4 at *
  obtain ⟨x4_0a, x4_0b, x4_0c, x4_0d, x4_0e⟩ := cells4 (HO4.out.blk 0 rfl).1
  obtain ⟨x4_1a, x4_1b, x4_1c, x4_1d, x4_1e⟩ := cells4 (HO4.out.blk 1 rfl).1
  obtain ⟨x4_2a, x4_2b, x4_2c, x4_2d, x4_2e, x4_2f⟩ := cells5 (HO4.out.blk 2 rfl).1
  go_wp2_with fail
  refine (HP.out _ HO4.out.old).mono ?_
  rintro e w5 ⟨a5, c5, rfl, k5⟩
  have HO5 := Lib.hid (HO4.out.add k5)
  clear k5 HO4 x4_0a x4_0b x4_0c x4_0d x4_0e x4_1a x4_1b x4_1c x4_1d x4_1e x4_2a x4_2b x4_2c x4_2d x4_2e x4_2f
  go_upto_region 5 with fail
  have HO6 := Lib.hid (HO5.out.alloc (.cells #[.bool false, .string ⟨#[]⟩, .string ⟨#[]⟩, .int .i64 0, (.slice a5 0 c5)] 24))
  clear HO5 
  generalize (w5.alloc (.cells #[.bool false, .string ⟨#[]⟩, .string ⟨#[]⟩, .int .i64 0, (.slice a5 0 c5)] 24)) = w6 at *
  generalize w5.heap.size = g6 at *
  obtain ⟨x6_0a, x6_0b, x6_0c, x6_0d, x6_0e, x6_0f⟩ := cells5 (HO6.out.blk 0 rfl).1
  obtain ⟨x6_2a, x6_2b, x6_2c, x6_2d, x6_2e⟩ := cells4 (HO6.out.blk 2 rfl).1
  obtain ⟨x6_3a, x6_3b, x6_3c, x6_3d, x6_3e⟩ := cells4 (HO6.out.blk 3 rfl).1
  obtain ⟨x6_4a, x6_4b, x6_4c, x6_4d, x6_4e, x6_4f⟩ := cells5 (HO6.out.blk 4 rfl).1
  go_wp2_with fail
  refine (HI.out _).mono ?_
  rintro e w7 ⟨rfl, k7⟩
  have HO7 := Lib.hid (HO6.out.kn k7)
  clear k7 HO6 x6_0a x6_0b x6_0c x6_0d x6_0e x6_0f x6_2a x6_2b x6_2c x6_2d x6_2e x6_3a x6_3b x6_3c x6_3d x6_3e x6_4a x6_4b x6_4c x6_4d x6_4e x6_4f
  go_wp2_with fail
  go_ret
  exact ⟨rfl, HO7.out.old⟩
set_option maxHeartbeats 2000000 in
set_option maxRecDepth 100000 in
theorem keeps_yes (p : Pg) (e : En) (other : ByteArray) (w : World) {v : Value} (hr : Rl En.enc 4 w v p.list) (hb : p.list.length ≤ 1048576) (hn : checkP p = 0) (hlf : p.leaf = true) (hin : inR p.low p.high e.key = true) : Calls Try.prog 7 #[pgv p v, env e, .string other] w fun e w' => e = .returned (.bool true) ∧ KN w w' := by
  obtain ⟨a0, cp, rfl, hc0, hrd⟩ := hr
  have HR := Lib.hid (Rl.of_rd hrd hc0)
  have HK := Lib.hid (fun W (k : KN w W) => check_ref p W ((Rl.of_rd hrd hc0).kn k) (by unfold maxLen; omega))
  clear hrd
  obtain ⟨q, g, hq⟩ := keeps (ok_iff.1 hn) hlf e hin
  rw [hn] at HK
  have HP := Lib.hid (hq.put ▸ fun W (k : KN w W) => put_page p e W (HR.out.kn k) (by omega))
  have hlq := hq.len
  have hlg := hq.lenG
  have HFq := Lib.hid (fun W v (h : Rl En.enc 4 W v q.list) => hq.hit ▸ find_page q e.key W h (by unfold maxLen; omega))
  have HFqo := Lib.hid (fun W v (h : Rl En.enc 4 W v q.list) => find_page q other W h (by unfold maxLen; omega))
  have HRm := Lib.hid (fun W v (h : Rl En.enc 4 W v q.list) => hq.rem ▸ remove_page q e.key W h (by omega))
  have HFg := Lib.hid (fun W v (h : Rl En.enc 4 W v g.list) => find_page g e.key W h (by unfold maxLen; omega))
  have HFgo := Lib.hid (fun W v (h : Rl En.enc 4 W v g.list) => find_page g other W h (by unfold maxLen; omega))
  have HF := Lib.hid (fun W (k : KN w W) => find_page p other W (HR.out.kn k) (by unfold maxLen; omega))
  have HQ := Lib.hid hq
  clear hn hlq hlg hq hin
  obtain ⟨fo, hfo⟩ : ∃ f, findP p other = f := ⟨_, rfl⟩
  obtain ⟨go, hgo⟩ : ∃ f, findP q other = f := ⟨_, rfl⟩
  obtain ⟨ho, hho⟩ : ∃ f, findP g other = f := ⟨_, rfl⟩
  obtain ⟨xo, hxo⟩ : ∃ f, findP g e.key = f := ⟨_, rfl⟩
  rw [hfo] at HF
  rw [hgo] at HFqo
  rw [hho] at HFgo
  rw [hxo] at HFg
  have hxb : xo.2 = false := by rw [← hxo]; exact HQ.out.gone
  have HE1 := Lib.hid (show other ≠ e.key → go = fo by intro h; rw [← hgo, ← hfo]; exact HQ.out.keep other h)
  have HE2 := Lib.hid (show other ≠ e.key → ho = fo by intro h; rw [← hho, ← hfo]; exact HQ.out.keep2 other h)
  clear hfo hgo hho hxo HQ
  obtain ⟨⟨xk, ⟨xs, xg⟩, xc⟩, xb⟩ := xo
  simp only at hxb
  subst hxb
  obtain ⟨lf, lo, hi, r, l⟩ := p
  obtain ⟨ek, ⟨es, eg⟩, ec⟩ := e
  simp only at hlf HE1 HE2
  subst hlf
  obtain ⟨⟨fk, ⟨fs, fg⟩, fc⟩, fb⟩ := fo
  obtain ⟨⟨gk, ⟨gs, gg⟩, gc⟩, gb⟩ := go
  obtain ⟨⟨hk, ⟨hs, hg⟩, hc⟩, hb'⟩ := ho
  obtain ⟨qf, ql, qh, qr, qs⟩ := q
  obtain ⟨gf, gl, gh, gr, gs'⟩ := g
  have HO0 := Lib.hid ((One.nil w).alloc2 (.cells #[.bool true, .string lo, .string hi, .int .i64 r, .slice a0 l.length cp] 24) (.cells #[.string ek, .int .i64 es, .int .i64 eg, .int .i64 ec] 34))
  go_enter Try.func7, Try.ntmps7
  obtain ⟨x0_0a, x0_0b, x0_0c, x0_0d, x0_0e⟩ := cells4 (HO0.out.blk 0 rfl).1
  obtain ⟨x0_1a, x0_1b, x0_1c, x0_1d, x0_1e, x0_1f⟩ := cells5 (HO0.out.blk 1 rfl).1
  go_wp2_with fail
  refine (HK.out _ HO0.out.old).mono ?_
  rintro e w1 ⟨rfl, k1⟩
  have HO1 := Lib.hid (HO0.out.kn k1)
  clear k1 HO0 x0_0a x0_0b x0_0c x0_0d x0_0e x0_1a x0_1b x0_1c x0_1d x0_1e x0_1f
  obtain ⟨x1_0a, x1_0b, x1_0c, x1_0d, x1_0e⟩ := cells4 (HO1.out.blk 0 rfl).1
  obtain ⟨x1_1a, x1_1b, x1_1c, x1_1d, x1_1e, x1_1f⟩ := cells5 (HO1.out.blk 1 rfl).1
  go_wp2_with fail
  refine (live_true _).mono ?_
  rintro e w2 ⟨rfl, k2⟩
  have HO2 := Lib.hid (HO1.out.kn k2)
  clear k2 HO1 x1_0a x1_0b x1_0c x1_0d x1_0e x1_1a x1_1b x1_1c x1_1d x1_1e x1_1f
  obtain ⟨x2_0a, x2_0b, x2_0c, x2_0d, x2_0e⟩ := cells4 (HO2.out.blk 0 rfl).1
  obtain ⟨x2_1a, x2_1b, x2_1c, x2_1d, x2_1e, x2_1f⟩ := cells5 (HO2.out.blk 1 rfl).1
  go_wp2_with fail
  refine (HF.out _ HO2.out.old).mono ?_
  rintro e w3 ⟨rfl, k3⟩
  have HO3 := Lib.hid (HO2.out.kn k3)
  clear k3 HO2 x2_0a x2_0b x2_0c x2_0d x2_0e x2_1a x2_1b x2_1c x2_1d x2_1e x2_1f
  go_upto_region 4 with fail
  have HO4 := Lib.hid (HO3.out.alloc (.cells #[.string fk, .int .i64 fs, .int .i64 fg, .int .i64 fc] 34))
  clear HO3 
  generalize (w3.alloc (.cells #[.string fk, .int .i64 fs, .int .i64 fg, .int .i64 fc] 34)) = w4 at *
  generalize w3.heap.size = g4 at *
  obtain ⟨x4_0a, x4_0b, x4_0c, x4_0d, x4_0e⟩ := cells4 (HO4.out.blk 0 rfl).1
  obtain ⟨x4_1a, x4_1b, x4_1c, x4_1d, x4_1e⟩ := cells4 (HO4.out.blk 1 rfl).1
  obtain ⟨x4_2a, x4_2b, x4_2c, x4_2d, x4_2e, x4_2f⟩ := cells5 (HO4.out.blk 2 rfl).1
  go_wp2_with fail
  refine (HP.out _ HO4.out.old).mono ?_
  rintro e w5 ⟨a5, c5, rfl, k5⟩
  have HO5 := Lib.hid (HO4.out.add k5)
  clear k5 HO4 x4_0a x4_0b x4_0c x4_0d x4_0e x4_1a x4_1b x4_1c x4_1d x4_1e x4_2a x4_2b x4_2c x4_2d x4_2e x4_2f
  go_upto_region 5 with fail
  have HO6 := Lib.hid (HO5.out.alloc (.cells #[.bool qf, .string ql, .string qh, .int .i64 qr, .slice a5 qs.length c5] 24))
  clear HO5 
  generalize (w5.alloc (.cells #[.bool qf, .string ql, .string qh, .int .i64 qr, .slice a5 qs.length c5] 24)) = w6 at *
  generalize w5.heap.size = g6 at *
  obtain ⟨x6_0a, x6_0b, x6_0c, x6_0d, x6_0e, x6_0f⟩ := cells5 (HO6.out.blk 0 rfl).1
  obtain ⟨x6_2a, x6_2b, x6_2c, x6_2d, x6_2e⟩ := cells4 (HO6.out.blk 2 rfl).1
  obtain ⟨x6_3a, x6_3b, x6_3c, x6_3d, x6_3e⟩ := cells4 (HO6.out.blk 3 rfl).1
  obtain ⟨x6_4a, x6_4b, x6_4c, x6_4d, x6_4e, x6_4f⟩ := cells5 (HO6.out.blk 4 rfl).1
  go_wp2_with fail
  refine (HFq.out _ _ (HO6.out.rlE 1 rfl)).mono ?_
  rintro e w7 ⟨rfl, k7⟩
  have HO7 := Lib.hid (HO6.out.kn k7)
  clear k7 HO6 x6_0a x6_0b x6_0c x6_0d x6_0e x6_0f x6_2a x6_2b x6_2c x6_2d x6_2e x6_3a x6_3b x6_3c x6_3d x6_3e x6_4a x6_4b x6_4c x6_4d x6_4e x6_4f
  go_upto_region 8 with fail
  have HO8 := Lib.hid (HO7.out.alloc (.cells #[.string ek, .int .i64 es, .int .i64 eg, .int .i64 ec] 34))
  clear HO7 
  generalize (w7.alloc (.cells #[.string ek, .int .i64 es, .int .i64 eg, .int .i64 ec] 34)) = w8 at *
  generalize w7.heap.size = g8 at *
  have hq1 : ∀ w, (binOp .neq 34 (env ⟨ek, ⟨es, eg⟩, ec⟩) (env ⟨ek, ⟨es, eg⟩, ec⟩)).run Try.prog w = .ok (.bool false) w := fun w => by rw [run_neq_env, eqE_iff.2 rfl]; rfl
  obtain ⟨x8_0a, x8_0b, x8_0c, x8_0d, x8_0e⟩ := cells4 (HO8.out.blk 0 rfl).1
  obtain ⟨x8_1a, x8_1b, x8_1c, x8_1d, x8_1e, x8_1f⟩ := cells5 (HO8.out.blk 1 rfl).1
  obtain ⟨x8_3a, x8_3b, x8_3c, x8_3d, x8_3e⟩ := cells4 (HO8.out.blk 3 rfl).1
  obtain ⟨x8_4a, x8_4b, x8_4c, x8_4d, x8_4e⟩ := cells4 (HO8.out.blk 4 rfl).1
  obtain ⟨x8_5a, x8_5b, x8_5c, x8_5d, x8_5e, x8_5f⟩ := cells5 (HO8.out.blk 5 rfl).1
  go_wp2_with fail
  refine (HFqo.out _ _ (HO8.out.rlE 2 rfl)).mono ?_
  rintro e w9 ⟨rfl, k9⟩
  have HO9 := Lib.hid (HO8.out.kn k9)
  clear k9 HO8 x8_0a x8_0b x8_0c x8_0d x8_0e x8_1a x8_1b x8_1c x8_1d x8_1e x8_1f x8_3a x8_3b x8_3c x8_3d x8_3e x8_4a x8_4b x8_4c x8_4d x8_4e x8_5a x8_5b x8_5c x8_5d x8_5e x8_5f
  clear hq1
  go_upto_region 11 with fail
  have HO10 := Lib.hid (HO9.out.alloc (.cells #[.string gk, .int .i64 gs, .int .i64 gg, .int .i64 gc] 34))
  clear HO9 
  generalize (w9.alloc (.cells #[.string gk, .int .i64 gs, .int .i64 gg, .int .i64 gc] 34)) = w10 at *
  generalize w9.heap.size = g10 at *
  by_cases he : other = ek
  · skip
    have hs1 : (other.toList != ek.toList) = false := by rw [he]; simp
    have hs2 : (other.toList == ek.toList) = true := by rw [he]; simp
    clear he
    obtain ⟨x10_0a, x10_0b, x10_0c, x10_0d, x10_0e⟩ := cells4 (HO10.out.blk 0 rfl).1
    obtain ⟨x10_1a, x10_1b, x10_1c, x10_1d, x10_1e⟩ := cells4 (HO10.out.blk 1 rfl).1
    obtain ⟨x10_2a, x10_2b, x10_2c, x10_2d, x10_2e, x10_2f⟩ := cells5 (HO10.out.blk 2 rfl).1
    obtain ⟨x10_4a, x10_4b, x10_4c, x10_4d, x10_4e⟩ := cells4 (HO10.out.blk 4 rfl).1
    obtain ⟨x10_5a, x10_5b, x10_5c, x10_5d, x10_5e⟩ := cells4 (HO10.out.blk 5 rfl).1
    obtain ⟨x10_6a, x10_6b, x10_6c, x10_6d, x10_6e, x10_6f⟩ := cells5 (HO10.out.blk 6 rfl).1
    go_wp2_with fail
    refine (HRm.out _ _ (HO10.out.rlE 3 rfl)).mono ?_
    rintro e w11 ⟨a11, c11, rfl, k11⟩
    have HO11 := Lib.hid (HO10.out.add k11)
    clear k11 HO10 x10_0a x10_0b x10_0c x10_0d x10_0e x10_1a x10_1b x10_1c x10_1d x10_1e x10_2a x10_2b x10_2c x10_2d x10_2e x10_2f x10_4a x10_4b x10_4c x10_4d x10_4e x10_5a x10_5b x10_5c x10_5d x10_5e x10_6a x10_6b x10_6c x10_6d x10_6e x10_6f
    go_upto_region 14 with fail
    have HO12 := Lib.hid (HO11.out.alloc (.cells #[.bool gf, .string gl, .string gh, .int .i64 gr, .slice a11 gs'.length c11] 24))
    clear HO11 
    generalize (w11.alloc (.cells #[.bool gf, .string gl, .string gh, .int .i64 gr, .slice a11 gs'.length c11] 24)) = w12 at *
    generalize w11.heap.size = g12 at *
    obtain ⟨x12_0a, x12_0b, x12_0c, x12_0d, x12_0e, x12_0f⟩ := cells5 (HO12.out.blk 0 rfl).1
    obtain ⟨x12_2a, x12_2b, x12_2c, x12_2d, x12_2e⟩ := cells4 (HO12.out.blk 2 rfl).1
    obtain ⟨x12_3a, x12_3b, x12_3c, x12_3d, x12_3e⟩ := cells4 (HO12.out.blk 3 rfl).1
    obtain ⟨x12_4a, x12_4b, x12_4c, x12_4d, x12_4e, x12_4f⟩ := cells5 (HO12.out.blk 4 rfl).1
    obtain ⟨x12_6a, x12_6b, x12_6c, x12_6d, x12_6e⟩ := cells4 (HO12.out.blk 6 rfl).1
    obtain ⟨x12_7a, x12_7b, x12_7c, x12_7d, x12_7e⟩ := cells4 (HO12.out.blk 7 rfl).1
    obtain ⟨x12_8a, x12_8b, x12_8c, x12_8d, x12_8e, x12_8f⟩ := cells5 (HO12.out.blk 8 rfl).1
    go_wp2_with fail
    refine (HFg.out _ _ (HO12.out.rlE 1 rfl)).mono ?_
    rintro e w13 ⟨rfl, k13⟩
    have HO13 := Lib.hid (HO12.out.kn k13)
    clear k13 HO12 x12_0a x12_0b x12_0c x12_0d x12_0e x12_0f x12_2a x12_2b x12_2c x12_2d x12_2e x12_3a x12_3b x12_3c x12_3d x12_3e x12_4a x12_4b x12_4c x12_4d x12_4e x12_4f x12_6a x12_6b x12_6c x12_6d x12_6e x12_7a x12_7b x12_7c x12_7d x12_7e x12_8a x12_8b x12_8c x12_8d x12_8e x12_8f
    go_upto_region 17 with fail
    have HO14 := Lib.hid (HO13.out.alloc (.cells #[.string xk, .int .i64 xs, .int .i64 xg, .int .i64 xc] 34))
    clear HO13 
    generalize (w13.alloc (.cells #[.string xk, .int .i64 xs, .int .i64 xg, .int .i64 xc] 34)) = w14 at *
    generalize w13.heap.size = g14 at *
    obtain ⟨x14_0a, x14_0b, x14_0c, x14_0d, x14_0e⟩ := cells4 (HO14.out.blk 0 rfl).1
    obtain ⟨x14_1a, x14_1b, x14_1c, x14_1d, x14_1e, x14_1f⟩ := cells5 (HO14.out.blk 1 rfl).1
    obtain ⟨x14_3a, x14_3b, x14_3c, x14_3d, x14_3e⟩ := cells4 (HO14.out.blk 3 rfl).1
    obtain ⟨x14_4a, x14_4b, x14_4c, x14_4d, x14_4e⟩ := cells4 (HO14.out.blk 4 rfl).1
    obtain ⟨x14_5a, x14_5b, x14_5c, x14_5d, x14_5e, x14_5f⟩ := cells5 (HO14.out.blk 5 rfl).1
    obtain ⟨x14_7a, x14_7b, x14_7c, x14_7d, x14_7e⟩ := cells4 (HO14.out.blk 7 rfl).1
    obtain ⟨x14_8a, x14_8b, x14_8c, x14_8d, x14_8e⟩ := cells4 (HO14.out.blk 8 rfl).1
    obtain ⟨x14_9a, x14_9b, x14_9c, x14_9d, x14_9e, x14_9f⟩ := cells5 (HO14.out.blk 9 rfl).1
    go_wp2_with fail
    refine (HFgo.out _ _ (HO14.out.rlE 2 rfl)).mono ?_
    rintro e w15 ⟨rfl, k15⟩
    have HO15 := Lib.hid (HO14.out.kn k15)
    clear k15 HO14 x14_0a x14_0b x14_0c x14_0d x14_0e x14_1a x14_1b x14_1c x14_1d x14_1e x14_1f x14_3a x14_3b x14_3c x14_3d x14_3e x14_4a x14_4b x14_4c x14_4d x14_4e x14_5a x14_5b x14_5c x14_5d x14_5e x14_5f x14_7a x14_7b x14_7c x14_7d x14_7e x14_8a x14_8b x14_8c x14_8d x14_8e x14_9a x14_9b x14_9c x14_9d x14_9e x14_9f
    go_upto_region 20 with fail
    have HO16 := Lib.hid (HO15.out.alloc (.cells #[.string hk, .int .i64 hs, .int .i64 hg, .int .i64 hc] 34))
    clear HO15 
    generalize (w15.alloc (.cells #[.string hk, .int .i64 hs, .int .i64 hg, .int .i64 hc] 34)) = w16 at *
    generalize w15.heap.size = g16 at *
    obtain ⟨x16_0a, x16_0b, x16_0c, x16_0d, x16_0e⟩ := cells4 (HO16.out.blk 0 rfl).1
    obtain ⟨x16_1a, x16_1b, x16_1c, x16_1d, x16_1e⟩ := cells4 (HO16.out.blk 1 rfl).1
    obtain ⟨x16_2a, x16_2b, x16_2c, x16_2d, x16_2e, x16_2f⟩ := cells5 (HO16.out.blk 2 rfl).1
    obtain ⟨x16_4a, x16_4b, x16_4c, x16_4d, x16_4e⟩ := cells4 (HO16.out.blk 4 rfl).1
    obtain ⟨x16_5a, x16_5b, x16_5c, x16_5d, x16_5e⟩ := cells4 (HO16.out.blk 5 rfl).1
    obtain ⟨x16_6a, x16_6b, x16_6c, x16_6d, x16_6e, x16_6f⟩ := cells5 (HO16.out.blk 6 rfl).1
    obtain ⟨x16_8a, x16_8b, x16_8c, x16_8d, x16_8e⟩ := cells4 (HO16.out.blk 8 rfl).1
    obtain ⟨x16_9a, x16_9b, x16_9c, x16_9d, x16_9e⟩ := cells4 (HO16.out.blk 9 rfl).1
    obtain ⟨x16_10a, x16_10b, x16_10c, x16_10d, x16_10e, x16_10f⟩ := cells5 (HO16.out.blk 10 rfl).1
    go_wp2_with fail
    go_ret
    exact ⟨by simp, HO16.out.old⟩
  · skip
    have hs1 : (other.toList != ek.toList) = true := by unfold bne; rw [beq_str_false he]; rfl
    have hs2 : (other.toList == ek.toList) = false := beq_str_false he
    have e1 := HE1.out he
    have e2 := HE2.out he
    cases e1
    cases e2
    clear he
    have hq1 : ∀ w, (binOp .neq 34 (env ⟨fk, ⟨fs, fg⟩, fc⟩) (env ⟨fk, ⟨fs, fg⟩, fc⟩)).run Try.prog w = .ok (.bool false) w := fun w => by rw [run_neq_env, eqE_iff.2 rfl]; rfl
    have hq2 : ∀ w, (binOp .eql 34 (env ⟨fk, ⟨fs, fg⟩, fc⟩) (env ⟨fk, ⟨fs, fg⟩, fc⟩)).run Try.prog w = .ok (.bool true) w := fun w => by rw [run_eql_env, eqE_iff.2 rfl]
    have hq3 : (fb != fb) = false := by simp
    have hq4 : (fb == fb) = true := by simp
    obtain ⟨x10_0a, x10_0b, x10_0c, x10_0d, x10_0e⟩ := cells4 (HO10.out.blk 0 rfl).1
    obtain ⟨x10_1a, x10_1b, x10_1c, x10_1d, x10_1e⟩ := cells4 (HO10.out.blk 1 rfl).1
    obtain ⟨x10_2a, x10_2b, x10_2c, x10_2d, x10_2e, x10_2f⟩ := cells5 (HO10.out.blk 2 rfl).1
    obtain ⟨x10_4a, x10_4b, x10_4c, x10_4d, x10_4e⟩ := cells4 (HO10.out.blk 4 rfl).1
    obtain ⟨x10_5a, x10_5b, x10_5c, x10_5d, x10_5e⟩ := cells4 (HO10.out.blk 5 rfl).1
    obtain ⟨x10_6a, x10_6b, x10_6c, x10_6d, x10_6e, x10_6f⟩ := cells5 (HO10.out.blk 6 rfl).1
    go_wp2_with fail
    refine (HRm.out _ _ (HO10.out.rlE 3 rfl)).mono ?_
    rintro e w11 ⟨a11, c11, rfl, k11⟩
    have HO11 := Lib.hid (HO10.out.add k11)
    clear k11 HO10 x10_0a x10_0b x10_0c x10_0d x10_0e x10_1a x10_1b x10_1c x10_1d x10_1e x10_2a x10_2b x10_2c x10_2d x10_2e x10_2f x10_4a x10_4b x10_4c x10_4d x10_4e x10_5a x10_5b x10_5c x10_5d x10_5e x10_6a x10_6b x10_6c x10_6d x10_6e x10_6f
    go_upto_region 14 with fail
    have HO12 := Lib.hid (HO11.out.alloc (.cells #[.bool gf, .string gl, .string gh, .int .i64 gr, .slice a11 gs'.length c11] 24))
    clear HO11 
    generalize (w11.alloc (.cells #[.bool gf, .string gl, .string gh, .int .i64 gr, .slice a11 gs'.length c11] 24)) = w12 at *
    generalize w11.heap.size = g12 at *
    obtain ⟨x12_0a, x12_0b, x12_0c, x12_0d, x12_0e, x12_0f⟩ := cells5 (HO12.out.blk 0 rfl).1
    obtain ⟨x12_2a, x12_2b, x12_2c, x12_2d, x12_2e⟩ := cells4 (HO12.out.blk 2 rfl).1
    obtain ⟨x12_3a, x12_3b, x12_3c, x12_3d, x12_3e⟩ := cells4 (HO12.out.blk 3 rfl).1
    obtain ⟨x12_4a, x12_4b, x12_4c, x12_4d, x12_4e, x12_4f⟩ := cells5 (HO12.out.blk 4 rfl).1
    obtain ⟨x12_6a, x12_6b, x12_6c, x12_6d, x12_6e⟩ := cells4 (HO12.out.blk 6 rfl).1
    obtain ⟨x12_7a, x12_7b, x12_7c, x12_7d, x12_7e⟩ := cells4 (HO12.out.blk 7 rfl).1
    obtain ⟨x12_8a, x12_8b, x12_8c, x12_8d, x12_8e, x12_8f⟩ := cells5 (HO12.out.blk 8 rfl).1
    go_wp2_with fail
    refine (HFg.out _ _ (HO12.out.rlE 1 rfl)).mono ?_
    rintro e w13 ⟨rfl, k13⟩
    have HO13 := Lib.hid (HO12.out.kn k13)
    clear k13 HO12 x12_0a x12_0b x12_0c x12_0d x12_0e x12_0f x12_2a x12_2b x12_2c x12_2d x12_2e x12_3a x12_3b x12_3c x12_3d x12_3e x12_4a x12_4b x12_4c x12_4d x12_4e x12_4f x12_6a x12_6b x12_6c x12_6d x12_6e x12_7a x12_7b x12_7c x12_7d x12_7e x12_8a x12_8b x12_8c x12_8d x12_8e x12_8f
    go_upto_region 17 with fail
    have HO14 := Lib.hid (HO13.out.alloc (.cells #[.string xk, .int .i64 xs, .int .i64 xg, .int .i64 xc] 34))
    clear HO13 
    generalize (w13.alloc (.cells #[.string xk, .int .i64 xs, .int .i64 xg, .int .i64 xc] 34)) = w14 at *
    generalize w13.heap.size = g14 at *
    obtain ⟨x14_0a, x14_0b, x14_0c, x14_0d, x14_0e⟩ := cells4 (HO14.out.blk 0 rfl).1
    obtain ⟨x14_1a, x14_1b, x14_1c, x14_1d, x14_1e, x14_1f⟩ := cells5 (HO14.out.blk 1 rfl).1
    obtain ⟨x14_3a, x14_3b, x14_3c, x14_3d, x14_3e⟩ := cells4 (HO14.out.blk 3 rfl).1
    obtain ⟨x14_4a, x14_4b, x14_4c, x14_4d, x14_4e⟩ := cells4 (HO14.out.blk 4 rfl).1
    obtain ⟨x14_5a, x14_5b, x14_5c, x14_5d, x14_5e, x14_5f⟩ := cells5 (HO14.out.blk 5 rfl).1
    obtain ⟨x14_7a, x14_7b, x14_7c, x14_7d, x14_7e⟩ := cells4 (HO14.out.blk 7 rfl).1
    obtain ⟨x14_8a, x14_8b, x14_8c, x14_8d, x14_8e⟩ := cells4 (HO14.out.blk 8 rfl).1
    obtain ⟨x14_9a, x14_9b, x14_9c, x14_9d, x14_9e, x14_9f⟩ := cells5 (HO14.out.blk 9 rfl).1
    go_wp2_with fail
    refine (HFgo.out _ _ (HO14.out.rlE 2 rfl)).mono ?_
    rintro e w15 ⟨rfl, k15⟩
    have HO15 := Lib.hid (HO14.out.kn k15)
    clear k15 HO14 x14_0a x14_0b x14_0c x14_0d x14_0e x14_1a x14_1b x14_1c x14_1d x14_1e x14_1f x14_3a x14_3b x14_3c x14_3d x14_3e x14_4a x14_4b x14_4c x14_4d x14_4e x14_5a x14_5b x14_5c x14_5d x14_5e x14_5f x14_7a x14_7b x14_7c x14_7d x14_7e x14_8a x14_8b x14_8c x14_8d x14_8e x14_9a x14_9b x14_9c x14_9d x14_9e x14_9f
    go_upto_region 20 with fail
    have HO16 := Lib.hid (HO15.out.alloc (.cells #[.string fk, .int .i64 fs, .int .i64 fg, .int .i64 fc] 34))
    clear HO15 
    generalize (w15.alloc (.cells #[.string fk, .int .i64 fs, .int .i64 fg, .int .i64 fc] 34)) = w16 at *
    generalize w15.heap.size = g16 at *
    obtain ⟨x16_0a, x16_0b, x16_0c, x16_0d, x16_0e⟩ := cells4 (HO16.out.blk 0 rfl).1
    obtain ⟨x16_1a, x16_1b, x16_1c, x16_1d, x16_1e⟩ := cells4 (HO16.out.blk 1 rfl).1
    obtain ⟨x16_2a, x16_2b, x16_2c, x16_2d, x16_2e, x16_2f⟩ := cells5 (HO16.out.blk 2 rfl).1
    obtain ⟨x16_4a, x16_4b, x16_4c, x16_4d, x16_4e⟩ := cells4 (HO16.out.blk 4 rfl).1
    obtain ⟨x16_5a, x16_5b, x16_5c, x16_5d, x16_5e⟩ := cells4 (HO16.out.blk 5 rfl).1
    obtain ⟨x16_6a, x16_6b, x16_6c, x16_6d, x16_6e, x16_6f⟩ := cells5 (HO16.out.blk 6 rfl).1
    obtain ⟨x16_8a, x16_8b, x16_8c, x16_8d, x16_8e⟩ := cells4 (HO16.out.blk 8 rfl).1
    obtain ⟨x16_9a, x16_9b, x16_9c, x16_9d, x16_9e⟩ := cells4 (HO16.out.blk 9 rfl).1
    obtain ⟨x16_10a, x16_10b, x16_10c, x16_10d, x16_10e, x16_10f⟩ := cells5 (HO16.out.blk 10 rfl).1
    go_wp2_with fail
    go_ret
    exact ⟨by simp, HO16.out.old⟩
theorem keeps_walk (p : Pg) (e : En) (other : ByteArray) (w : World) {v : Value} (hr : Rl En.enc 4 w v p.list) (hb : p.list.length ≤ 1048576) : Calls Try.prog 7 #[pgv p v, env e, .string other] w fun e w' => e = .returned (.bool true) ∧ KN w w' := by
  rcases check_two p with h | h
  · cases hl : p.leaf with
    | false => exact keeps_inner p e other w hr hb h hl
    | true =>
      cases hi : inR p.low p.high e.key with
      | false => exact keeps_out p e other w hr hb h hl hi
      | true => exact keeps_yes p e other w hr hb h hl hi
  · exact keeps_no p e other w hr hb h
end Go.Proofs.Ytopmeecgjobofaa

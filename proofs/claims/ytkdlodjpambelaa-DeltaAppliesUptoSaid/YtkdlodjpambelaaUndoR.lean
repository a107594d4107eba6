/- cressetref09.Undo. -/
import Derived.Test.YtkdlodjpambelaaUndoP
import Derived.Test.YtkdlodjpambelaaApplyT
import Derived.Test.YtkdlodjpambelaaFindP
import Derived.Test.YtkdlodjpambelaaDeltaC
namespace Go.Proofs.Ytkdlodjpambelaa
set_option linter.unusedVariables false
set_option linter.unusedSimpArgs false
open Go Go.RowKit

set_option maxHeartbeats 2000000 in
theorem rundo_bad (k : Int) (lf : Bool) (lo hi : ByteArray) (r : Int) (l : List En) (ek : ByteArray) (es eg ec : Int) (key : ByteArray) (pg : Int) (lf2 : Bool) (lo2 hi2 : ByteArray) (r2 : Int) (l2 : List En) (hc : (applyD ⟨lf, lo, hi, r, l⟩ ⟨k, ⟨ek, ⟨es, eg⟩, ec⟩, key, pg, ⟨lf2, lo2, hi2, r2, l2⟩⟩).2 ≠ 0) (w : World) {v u : Value} (hr : Rl En.enc 4 w v l) (hs : Rl En.enc 4 w u l2) (hb : (l.length + l2.length + 1) * 40 ≤ 140737488355328) :
    Calls Try.prog 27 #[pgv ⟨lf, lo, hi, r, l⟩ v, dlv ⟨k, ⟨ek, ⟨es, eg⟩, ec⟩, key, pg, ⟨lf2, lo2, hi2, r2, l2⟩⟩ u] w (GaveU (undoD ⟨lf, lo, hi, r, l⟩ ⟨k, ⟨ek, ⟨es, eg⟩, ec⟩, key, pg, ⟨lf2, lo2, hi2, r2, l2⟩⟩) w) := by
  have HP := Lib.hid (fun W (k' : KN w W) => apply_ref ⟨lf, lo, hi, r, l⟩ ⟨k, ⟨ek, ⟨es, eg⟩, ec⟩, key, pg, ⟨lf2, lo2, hi2, r2, l2⟩⟩ W (hr.kn k') (hs.kn k') hb)
  obtain ⟨a0, c0, rfl, hc0, hrd⟩ := hr
  obtain ⟨aD, cD, rfl, hcD, hsd⟩ := hs
  have HRd := Lib.hid hrd
  have hlen : l.length ≤ 3518437208883 := by omega
  clear hrd hsd hb
  obtain ⟨⟨⟨qf, qlo, qh, qr, ql⟩, qc⟩, hq⟩ : ∃ q, applyD ⟨lf, lo, hi, r, l⟩ ⟨k, ⟨ek, ⟨es, eg⟩, ec⟩, key, pg, ⟨lf2, lo2, hi2, r2, l2⟩⟩ = q := ⟨_, rfl⟩
  rw [hq] at HP hc
  simp only at hc
  have HQ := Lib.hid hq
  clear hq
  unfold dlv at HP ⊢
  simp only at HP ⊢
  have hc0 : (qc != 0) = true := by simpa using hc
  have HV := Lib.hid (show undoD ⟨lf, lo, hi, r, l⟩ ⟨k, ⟨ek, ⟨es, eg⟩, ec⟩, key, pg, ⟨lf2, lo2, hi2, r2, l2⟩⟩ = (zeroDl, false) from by unfold undoD; rw [HQ.out, if_pos (Or.inl hc)])
  have HO0 := Lib.hid ((One.nil w).alloc3 (.cells #[.bool lf, .string lo, .string hi, .int .i64 r, .slice a0 l.length c0] 24) (.cells #[.int .i64 k, .string ek, .int .i64 es, .int .i64 eg, .int .i64 ec, .string key, .int .i64 pg, .bool lf2, .string lo2, .string hi2, .int .i64 r2, .slice aD l2.length cD] 30) (.cells #[.int .i64 0, .string ⟨#[]⟩, .int .i64 0, .int .i64 0, .int .i64 0, .string ⟨#[]⟩, .int .i64 0, .bool false, .string ⟨#[]⟩, .string ⟨#[]⟩, .int .i64 0, .slice none 0 0] 30))
  go_enter Try.func27, Try.ntmps27
  obtain ⟨x0_0a, x0_0b, x0_0c, x0_0d, x0_0e, x0_0f, x0_0g, x0_0h, x0_0i, x0_0j, x0_0k, x0_0l, x0_0m⟩ := cells12 (HO0.out.blk 0 rfl).1
  obtain ⟨x0_1a, x0_1b, x0_1c, x0_1d, x0_1e, x0_1f, x0_1g, x0_1h, x0_1i, x0_1j, x0_1k, x0_1l, x0_1m⟩ := cells12 (HO0.out.blk 1 rfl).1
  obtain ⟨x0_2a, x0_2b, x0_2c, x0_2d, x0_2e, x0_2f⟩ := cells5 (HO0.out.blk 2 rfl).1
  go_wp2_with fail
  refine (HP.out _ HO0.out.old).mono ?_
  rintro e w1 ⟨v2, rfl, hr2, k2⟩
  obtain ⟨a1, c1, hv2, _⟩ := hr2.form
  simp only at hv2
  subst hv2
  have HO1 := Lib.hid (HO0.out.kn k2)
  clear k2 hr2 HO0 x0_0a x0_0b x0_0c x0_0d x0_0e x0_0f x0_0g x0_0h x0_0i x0_0j x0_0k x0_0l x0_0m x0_1a x0_1b x0_1c x0_1d x0_1e x0_1f x0_1g x0_1h x0_1i x0_1j x0_1k x0_1l x0_1m x0_2a x0_2b x0_2c x0_2d x0_2e x0_2f
  go_upto_region 2 with fail
  have HO2 := Lib.hid (HO1.out.alloc (.cells #[.bool qf, .string qlo, .string qh, .int .i64 qr, .slice a1 ql.length c1] 24))
  clear HO1 
  generalize (w1.alloc (.cells #[.bool qf, .string qlo, .string qh, .int .i64 qr, .slice a1 ql.length c1] 24)) = w2 at *
  generalize w1.heap.size = g2 at *
  obtain ⟨x2_0a, x2_0b, x2_0c, x2_0d, x2_0e, x2_0f⟩ := cells5 (HO2.out.blk 0 rfl).1
  obtain ⟨x2_1a, x2_1b, x2_1c, x2_1d, x2_1e, x2_1f, x2_1g, x2_1h, x2_1i, x2_1j, x2_1k, x2_1l, x2_1m⟩ := cells12 (HO2.out.blk 1 rfl).1
  obtain ⟨x2_2a, x2_2b, x2_2c, x2_2d, x2_2e, x2_2f, x2_2g, x2_2h, x2_2i, x2_2j, x2_2k, x2_2l, x2_2m⟩ := cells12 (HO2.out.blk 2 rfl).1
  obtain ⟨x2_3a, x2_3b, x2_3c, x2_3d, x2_3e, x2_3f⟩ := cells5 (HO2.out.blk 3 rfl).1
  go_wp2_with fail
  have HZ := Lib.hid (HO2.out.set12 1 rfl (.int .i64 0) (.string ⟨#[]⟩) (.int .i64 0) (.int .i64 0) (.int .i64 0) (.string ⟨#[]⟩) (.int .i64 0) (.bool false) (.string ⟨#[]⟩) (.string ⟨#[]⟩) (.int .i64 0) (.slice none 0 0))
  show bodyPost Try.prog Try.f27 (GaveU _ w) Exit.ret _ _
  exact bodyPost_ret (res_c1t rfl rfl (load_dl (HZ.out.blk 1 rfl).1) rfl) rfl (by rw [HV.out]; exact ⟨rfl, HZ.out.old⟩)
set_option maxHeartbeats 2000000 in
theorem rundo_else (k : Int) (h1 : k ≠ 1) (h2 : k ≠ 2) (lf : Bool) (lo hi : ByteArray) (r : Int) (l : List En) (ek : ByteArray) (es eg ec : Int) (key : ByteArray) (pg : Int) (lf2 : Bool) (lo2 hi2 : ByteArray) (r2 : Int) (l2 : List En) (hc : (applyD ⟨lf, lo, hi, r, l⟩ ⟨k, ⟨ek, ⟨es, eg⟩, ec⟩, key, pg, ⟨lf2, lo2, hi2, r2, l2⟩⟩).2 = 0) (w : World) {v u : Value} (hr : Rl En.enc 4 w v l) (hs : Rl En.enc 4 w u l2) (hb : (l.length + l2.length + 1) * 40 ≤ 140737488355328) :
    Calls Try.prog 27 #[pgv ⟨lf, lo, hi, r, l⟩ v, dlv ⟨k, ⟨ek, ⟨es, eg⟩, ec⟩, key, pg, ⟨lf2, lo2, hi2, r2, l2⟩⟩ u] w (GaveU (undoD ⟨lf, lo, hi, r, l⟩ ⟨k, ⟨ek, ⟨es, eg⟩, ec⟩, key, pg, ⟨lf2, lo2, hi2, r2, l2⟩⟩) w) := by
  have HP := Lib.hid (fun W (k' : KN w W) => apply_ref ⟨lf, lo, hi, r, l⟩ ⟨k, ⟨ek, ⟨es, eg⟩, ec⟩, key, pg, ⟨lf2, lo2, hi2, r2, l2⟩⟩ W (hr.kn k') (hs.kn k') hb)
  obtain ⟨a0, c0, rfl, hc0, hrd⟩ := hr
  obtain ⟨aD, cD, rfl, hcD, hsd⟩ := hs
  have HRd := Lib.hid hrd
  have hlen : l.length ≤ 3518437208883 := by omega
  clear hrd hsd hb
  obtain ⟨⟨⟨qf, qlo, qh, qr, ql⟩, qc⟩, hq⟩ : ∃ q, applyD ⟨lf, lo, hi, r, l⟩ ⟨k, ⟨ek, ⟨es, eg⟩, ec⟩, key, pg, ⟨lf2, lo2, hi2, r2, l2⟩⟩ = q := ⟨_, rfl⟩
  rw [hq] at HP hc
  simp only at hc
  have HQ := Lib.hid hq
  clear hq
  unfold dlv at HP ⊢
  simp only at HP ⊢
  subst hc
  have e1 : (k != 1) = true := by simpa using h1
  have e2 : (k != 2) = true := by simpa using h2
  have e3 : (k == 1) = false := beq_false_of_ne h1
  have HV := Lib.hid (show undoD ⟨lf, lo, hi, r, l⟩ ⟨k, ⟨ek, ⟨es, eg⟩, ec⟩, key, pg, ⟨lf2, lo2, hi2, r2, l2⟩⟩ = (zeroDl, false) from by unfold undoD; rw [HQ.out, if_pos (Or.inr ⟨h1, h2⟩)])
  have HO0 := Lib.hid ((One.nil w).alloc3 (.cells #[.bool lf, .string lo, .string hi, .int .i64 r, .slice a0 l.length c0] 24) (.cells #[.int .i64 k, .string ek, .int .i64 es, .int .i64 eg, .int .i64 ec, .string key, .int .i64 pg, .bool lf2, .string lo2, .string hi2, .int .i64 r2, .slice aD l2.length cD] 30) (.cells #[.int .i64 0, .string ⟨#[]⟩, .int .i64 0, .int .i64 0, .int .i64 0, .string ⟨#[]⟩, .int .i64 0, .bool false, .string ⟨#[]⟩, .string ⟨#[]⟩, .int .i64 0, .slice none 0 0] 30))
  go_enter Try.func27, Try.ntmps27
  obtain ⟨x0_0a, x0_0b, x0_0c, x0_0d, x0_0e, x0_0f, x0_0g, x0_0h, x0_0i, x0_0j, x0_0k, x0_0l, x0_0m⟩ := cells12 (HO0.out.blk 0 rfl).1
  obtain ⟨x0_1a, x0_1b, x0_1c, x0_1d, x0_1e, x0_1f, x0_1g, x0_1h, x0_1i, x0_1j, x0_1k, x0_1l, x0_1m⟩ := cells12 (HO0.out.blk 1 rfl).1
  obtain ⟨x0_2a, x0_2b, x0_2c, x0_2d, x0_2e, x0_2f⟩ := cells5 (HO0.out.blk 2 rfl).1
  go_wp2_with fail
  refine (HP.out _ HO0.out.old).mono ?_
  rintro e w1 ⟨v2, rfl, hr2, k2⟩
  obtain ⟨a1, c1, hv2, _⟩ := hr2.form
  simp only at hv2
  subst hv2
  have HO1 := Lib.hid (HO0.out.kn k2)
  clear k2 hr2 HO0 x0_0a x0_0b x0_0c x0_0d x0_0e x0_0f x0_0g x0_0h x0_0i x0_0j x0_0k x0_0l x0_0m x0_1a x0_1b x0_1c x0_1d x0_1e x0_1f x0_1g x0_1h x0_1i x0_1j x0_1k x0_1l x0_1m x0_2a x0_2b x0_2c x0_2d x0_2e x0_2f
  go_upto_region 2 with fail
  have HO2 := Lib.hid (HO1.out.alloc (.cells #[.bool qf, .string qlo, .string qh, .int .i64 qr, .slice a1 ql.length c1] 24))
  clear HO1 
  generalize (w1.alloc (.cells #[.bool qf, .string qlo, .string qh, .int .i64 qr, .slice a1 ql.length c1] 24)) = w2 at *
  generalize w1.heap.size = g2 at *
  obtain ⟨x2_0a, x2_0b, x2_0c, x2_0d, x2_0e, x2_0f⟩ := cells5 (HO2.out.blk 0 rfl).1
  obtain ⟨x2_1a, x2_1b, x2_1c, x2_1d, x2_1e, x2_1f, x2_1g, x2_1h, x2_1i, x2_1j, x2_1k, x2_1l, x2_1m⟩ := cells12 (HO2.out.blk 1 rfl).1
  obtain ⟨x2_2a, x2_2b, x2_2c, x2_2d, x2_2e, x2_2f, x2_2g, x2_2h, x2_2i, x2_2j, x2_2k, x2_2l, x2_2m⟩ := cells12 (HO2.out.blk 2 rfl).1
  obtain ⟨x2_3a, x2_3b, x2_3c, x2_3d, x2_3e, x2_3f⟩ := cells5 (HO2.out.blk 3 rfl).1
  go_wp2_with fail
  have HZ := Lib.hid (HO2.out.set12 1 rfl (.int .i64 0) (.string ⟨#[]⟩) (.int .i64 0) (.int .i64 0) (.int .i64 0) (.string ⟨#[]⟩) (.int .i64 0) (.bool false) (.string ⟨#[]⟩) (.string ⟨#[]⟩) (.int .i64 0) (.slice none 0 0))
  show bodyPost Try.prog Try.f27 (GaveU _ w) Exit.ret _ _
  exact bodyPost_ret (res_c1t rfl rfl (load_dl (HZ.out.blk 1 rfl).1) rfl) rfl (by rw [HV.out]; exact ⟨rfl, HZ.out.old⟩)
set_option maxHeartbeats 2000000 in
theorem rundo_1 (lf : Bool) (lo hi : ByteArray) (r : Int) (l : List En) (ek : ByteArray) (es eg ec : Int) (key : ByteArray) (pg : Int) (lf2 : Bool) (lo2 hi2 : ByteArray) (r2 : Int) (l2 : List En) (hc : (applyD ⟨lf, lo, hi, r, l⟩ ⟨1, ⟨ek, ⟨es, eg⟩, ec⟩, key, pg, ⟨lf2, lo2, hi2, r2, l2⟩⟩).2 = 0) (w : World) {v u : Value} (hr : Rl En.enc 4 w v l) (hs : Rl En.enc 4 w u l2) (hb : (l.length + l2.length + 1) * 40 ≤ 140737488355328) :
    Calls Try.prog 27 #[pgv ⟨lf, lo, hi, r, l⟩ v, dlv ⟨1, ⟨ek, ⟨es, eg⟩, ec⟩, key, pg, ⟨lf2, lo2, hi2, r2, l2⟩⟩ u] w (GaveU (undoD ⟨lf, lo, hi, r, l⟩ ⟨1, ⟨ek, ⟨es, eg⟩, ec⟩, key, pg, ⟨lf2, lo2, hi2, r2, l2⟩⟩) w) := by
  have HP := Lib.hid (fun W (k' : KN w W) => apply_ref ⟨lf, lo, hi, r, l⟩ ⟨1, ⟨ek, ⟨es, eg⟩, ec⟩, key, pg, ⟨lf2, lo2, hi2, r2, l2⟩⟩ W (hr.kn k') (hs.kn k') hb)
  obtain ⟨a0, c0, rfl, hc0, hrd⟩ := hr
  obtain ⟨aD, cD, rfl, hcD, hsd⟩ := hs
  have HRd := Lib.hid hrd
  have hlen : l.length ≤ 3518437208883 := by omega
  clear hrd hsd hb
  obtain ⟨⟨⟨qf, qlo, qh, qr, ql⟩, qc⟩, hq⟩ : ∃ q, applyD ⟨lf, lo, hi, r, l⟩ ⟨1, ⟨ek, ⟨es, eg⟩, ec⟩, key, pg, ⟨lf2, lo2, hi2, r2, l2⟩⟩ = q := ⟨_, rfl⟩
  rw [hq] at HP hc
  simp only at hc
  have HQ := Lib.hid hq
  clear hq
  unfold dlv at HP ⊢
  simp only at HP ⊢
  subst hc
  have HV := Lib.hid (show undoD ⟨lf, lo, hi, r, l⟩ ⟨1, ⟨ek, ⟨es, eg⟩, ec⟩, key, pg, ⟨lf2, lo2, hi2, r2, l2⟩⟩ = (match l.find? (fun x => eqS x.key ek) with
    | some x => (⟨1, x, empS, 0, zeroPg⟩, true)
    | none => (⟨2, zeroEn, ek, 0, zeroPg⟩, true)) from by unfold undoD; rw [HQ.out, if_neg (by simp)]; rfl)
  have HO0 := Lib.hid ((One.nil w).alloc3 (.cells #[.bool lf, .string lo, .string hi, .int .i64 r, .slice a0 l.length c0] 24) (.cells #[.int .i64 1, .string ek, .int .i64 es, .int .i64 eg, .int .i64 ec, .string key, .int .i64 pg, .bool lf2, .string lo2, .string hi2, .int .i64 r2, .slice aD l2.length cD] 30) (.cells #[.int .i64 0, .string ⟨#[]⟩, .int .i64 0, .int .i64 0, .int .i64 0, .string ⟨#[]⟩, .int .i64 0, .bool false, .string ⟨#[]⟩, .string ⟨#[]⟩, .int .i64 0, .slice none 0 0] 30))
  go_enter Try.func27, Try.ntmps27
  obtain ⟨x0_0a, x0_0b, x0_0c, x0_0d, x0_0e, x0_0f, x0_0g, x0_0h, x0_0i, x0_0j, x0_0k, x0_0l, x0_0m⟩ := cells12 (HO0.out.blk 0 rfl).1
  obtain ⟨x0_1a, x0_1b, x0_1c, x0_1d, x0_1e, x0_1f, x0_1g, x0_1h, x0_1i, x0_1j, x0_1k, x0_1l, x0_1m⟩ := cells12 (HO0.out.blk 1 rfl).1
  obtain ⟨x0_2a, x0_2b, x0_2c, x0_2d, x0_2e, x0_2f⟩ := cells5 (HO0.out.blk 2 rfl).1
  go_wp2_with fail
  refine (HP.out _ HO0.out.old).mono ?_
  rintro e w1 ⟨v2, rfl, hr2, k2⟩
  obtain ⟨a1, c1, hv2, _⟩ := hr2.form
  simp only at hv2
  subst hv2
  have HO1 := Lib.hid (HO0.out.kn k2)
  clear k2 hr2 HO0 x0_0a x0_0b x0_0c x0_0d x0_0e x0_0f x0_0g x0_0h x0_0i x0_0j x0_0k x0_0l x0_0m x0_1a x0_1b x0_1c x0_1d x0_1e x0_1f x0_1g x0_1h x0_1i x0_1j x0_1k x0_1l x0_1m x0_2a x0_2b x0_2c x0_2d x0_2e x0_2f
  go_upto_region 2 with fail
  have HO2 := Lib.hid (HO1.out.alloc (.cells #[.bool qf, .string qlo, .string qh, .int .i64 qr, .slice a1 ql.length c1] 24))
  clear HO1 
  generalize (w1.alloc (.cells #[.bool qf, .string qlo, .string qh, .int .i64 qr, .slice a1 ql.length c1] 24)) = w2 at *
  generalize w1.heap.size = g2 at *
  obtain ⟨x2_0a, x2_0b, x2_0c, x2_0d, x2_0e, x2_0f⟩ := cells5 (HO2.out.blk 0 rfl).1
  obtain ⟨x2_1a, x2_1b, x2_1c, x2_1d, x2_1e, x2_1f, x2_1g, x2_1h, x2_1i, x2_1j, x2_1k, x2_1l, x2_1m⟩ := cells12 (HO2.out.blk 1 rfl).1
  obtain ⟨x2_2a, x2_2b, x2_2c, x2_2d, x2_2e, x2_2f, x2_2g, x2_2h, x2_2i, x2_2j, x2_2k, x2_2l, x2_2m⟩ := cells12 (HO2.out.blk 2 rfl).1
  obtain ⟨x2_3a, x2_3b, x2_3c, x2_3d, x2_3e, x2_3f⟩ := cells5 (HO2.out.blk 3 rfl).1
  go_wp2_with fail
  clear x2_0a x2_0b x2_0c x2_0d x2_0e x2_0f x2_1a x2_1b x2_1c x2_1d x2_1e x2_1f x2_1g x2_1h x2_1i x2_1j x2_1k x2_1l x2_1m x2_2a x2_2b x2_2c x2_2d x2_2e x2_2f x2_2g x2_2h x2_2i x2_2j x2_2k x2_2l x2_2m x2_3a x2_3b x2_3c x2_3d x2_3e x2_3f
  go_loopw [9] (fun s wr => ∃ k : Nat, k ≤ l.length ∧ s = .int .i64 k ∧ Hid (One w wr [Blk (g2) (.cells #[.bool qf, .string qlo, .string qh, .int .i64 qr, .slice a1 ql.length c1] 24), Blk (w.heap.size + 1 + 1) (.cells #[.int .i64 0, .string ⟨#[]⟩, .int .i64 0, .int .i64 0, .int .i64 0, .string ⟨#[]⟩, .int .i64 0, .bool false, .string ⟨#[]⟩, .string ⟨#[]⟩, .int .i64 0, .slice none 0 0] 30), Blk (w.heap.size + 1) (.cells #[.int .i64 1, .string ek, .int .i64 es, .int .i64 eg, .int .i64 ec, .string key, .int .i64 pg, .bool lf2, .string lo2, .string hi2, .int .i64 r2, .slice aD l2.length cD] 30), Blk (w.heap.size) (.cells #[.bool lf, .string lo, .string hi, .int .i64 r, .slice a0 l.length c0] 24)]) ∧ Hid (∀ (j : Nat) y, j < k → l[j]? = some y → eqS y.key ek = false)) (fun s _ => l.length - (intOf s).toNat)
  case atStart => exact ⟨0, Nat.zero_le _, rfl, HO2, Lib.hid (fun j y h => by omega)⟩
  case round =>
    obtain ⟨k, hk, rfl, HW, HM⟩ := hrel
    by_cases hlt : k < l.length
    · obtain ⟨y, hy⟩ : ∃ y, l[k]? = some y := ⟨_, List.getElem?_eq_getElem hlt⟩
      have hz1 : (k : Int) < (l.length : Int) := by omega
      obtain ⟨b, off, hab, _, f0, f1, f2, f3⟩ := rd4 (HRd.out.kn HW.out.old) hy
      cases hab
      have HY := Lib.hid hy
      clear hy
      cases hq : (y.key.toList == ek.toList) with
      | true =>
        have HVH := Lib.hid (show undoD ⟨lf, lo, hi, r, l⟩ ⟨1, ⟨ek, ⟨es, eg⟩, ec⟩, key, pg, ⟨lf2, lo2, hi2, r2, l2⟩⟩ = (⟨1, y, empS, 0, zeroPg⟩, true) from by rw [HV.out, find_hit HY.out (show eqS y.key ek = true from hq) HM.out])
        obtain ⟨x3_0a, x3_0b, x3_0c, x3_0d, x3_0e, x3_0f⟩ := cells5 (HW.out.blk 0 rfl).1
        obtain ⟨x3_1a, x3_1b, x3_1c, x3_1d, x3_1e, x3_1f, x3_1g, x3_1h, x3_1i, x3_1j, x3_1k, x3_1l, x3_1m⟩ := cells12 (HW.out.blk 1 rfl).1
        obtain ⟨x3_2a, x3_2b, x3_2c, x3_2d, x3_2e, x3_2f, x3_2g, x3_2h, x3_2i, x3_2j, x3_2k, x3_2l, x3_2m⟩ := cells12 (HW.out.blk 2 rfl).1
        obtain ⟨x3_3a, x3_3b, x3_3c, x3_3d, x3_3e, x3_3f⟩ := cells5 (HW.out.blk 3 rfl).1
        go_wp2_with fail
        have HZ := Lib.hid (HW.out.set12 1 rfl (.int .i64 1) (.string y.key) (.int .i64 y.ref.slot) (.int .i64 y.ref.gen) (.int .i64 y.child) (.string ⟨#[]⟩) (.int .i64 0) (.bool false) (.string ⟨#[]⟩) (.string ⟨#[]⟩) (.int .i64 0) (.slice none 0 0))
        show bodyPost Try.prog Try.f27 (GaveU _ w) Exit.ret _ _
        exact bodyPost_ret (res_c1t rfl rfl (load_dl (HZ.out.blk 1 rfl).1) rfl) rfl (by rw [HVH.out]; exact ⟨rfl, HZ.out.old⟩)
      | false =>
        obtain ⟨x3_0a, x3_0b, x3_0c, x3_0d, x3_0e, x3_0f⟩ := cells5 (HW.out.blk 0 rfl).1
        obtain ⟨x3_1a, x3_1b, x3_1c, x3_1d, x3_1e, x3_1f, x3_1g, x3_1h, x3_1i, x3_1j, x3_1k, x3_1l, x3_1m⟩ := cells12 (HW.out.blk 1 rfl).1
        obtain ⟨x3_2a, x3_2b, x3_2c, x3_2d, x3_2e, x3_2f, x3_2g, x3_2h, x3_2i, x3_2j, x3_2k, x3_2l, x3_2m⟩ := cells12 (HW.out.blk 2 rfl).1
        obtain ⟨x3_3a, x3_3b, x3_3c, x3_3d, x3_3e, x3_3f⟩ := cells5 (HW.out.blk 3 rfl).1
        go_wp2_with fail
        clear x3_0a x3_0b x3_0c x3_0d x3_0e x3_0f x3_1a x3_1b x3_1c x3_1d x3_1e x3_1f x3_1g x3_1h x3_1i x3_1j x3_1k x3_1l x3_1m x3_2a x3_2b x3_2c x3_2d x3_2e x3_2f x3_2g x3_2h x3_2i x3_2j x3_2k x3_2l x3_2m x3_3a x3_3b x3_3c x3_3d x3_3e x3_3f
        go_roundw
        case rel => exact ⟨k + 1, by omega, by go_num, HW, Lib.hid (fun j z hj hz => by
          by_cases e : j = k
          · subst e; rw [HY.out] at hz; cases hz; exact hq
          · exact HM.out j z (by omega) hz)⟩
        case measure => simp [intOf]; omega
    · obtain rfl : k = l.length := by omega
      have HVM := Lib.hid (show undoD ⟨lf, lo, hi, r, l⟩ ⟨1, ⟨ek, ⟨es, eg⟩, ec⟩, key, pg, ⟨lf2, lo2, hi2, r2, l2⟩⟩ = (⟨2, zeroEn, ek, 0, zeroPg⟩, true) from by rw [HV.out, find_miss (fun j z hz => HM.out j z (List.getElem?_eq_some_iff.1 hz).1 hz)])
      obtain ⟨x4_0a, x4_0b, x4_0c, x4_0d, x4_0e, x4_0f⟩ := cells5 (HW.out.blk 0 rfl).1
      obtain ⟨x4_1a, x4_1b, x4_1c, x4_1d, x4_1e, x4_1f, x4_1g, x4_1h, x4_1i, x4_1j, x4_1k, x4_1l, x4_1m⟩ := cells12 (HW.out.blk 1 rfl).1
      obtain ⟨x4_2a, x4_2b, x4_2c, x4_2d, x4_2e, x4_2f, x4_2g, x4_2h, x4_2i, x4_2j, x4_2k, x4_2l, x4_2m⟩ := cells12 (HW.out.blk 2 rfl).1
      obtain ⟨x4_3a, x4_3b, x4_3c, x4_3d, x4_3e, x4_3f⟩ := cells5 (HW.out.blk 3 rfl).1
      go_wp2_with fail
      have HZ := Lib.hid (HW.out.set12 1 rfl (.int .i64 2) (.string ⟨#[]⟩) (.int .i64 0) (.int .i64 0) (.int .i64 0) (.string ek) (.int .i64 0) (.bool false) (.string ⟨#[]⟩) (.string ⟨#[]⟩) (.int .i64 0) (.slice none 0 0))
      show bodyPost Try.prog Try.f27 (GaveU _ w) Exit.ret _ _
      exact bodyPost_ret (res_c1t rfl rfl (load_dl (HZ.out.blk 1 rfl).1) rfl) rfl (by rw [HVM.out]; exact ⟨rfl, HZ.out.old⟩)
set_option maxHeartbeats 2000000 in
theorem rundo_2 (lf : Bool) (lo hi : ByteArray) (r : Int) (l : List En) (ek : ByteArray) (es eg ec : Int) (key : ByteArray) (pg : Int) (lf2 : Bool) (lo2 hi2 : ByteArray) (r2 : Int) (l2 : List En) (hc : (applyD ⟨lf, lo, hi, r, l⟩ ⟨2, ⟨ek, ⟨es, eg⟩, ec⟩, key, pg, ⟨lf2, lo2, hi2, r2, l2⟩⟩).2 = 0) (w : World) {v u : Value} (hr : Rl En.enc 4 w v l) (hs : Rl En.enc 4 w u l2) (hb : (l.length + l2.length + 1) * 40 ≤ 140737488355328) :
    Calls Try.prog 27 #[pgv ⟨lf, lo, hi, r, l⟩ v, dlv ⟨2, ⟨ek, ⟨es, eg⟩, ec⟩, key, pg, ⟨lf2, lo2, hi2, r2, l2⟩⟩ u] w (GaveU (undoD ⟨lf, lo, hi, r, l⟩ ⟨2, ⟨ek, ⟨es, eg⟩, ec⟩, key, pg, ⟨lf2, lo2, hi2, r2, l2⟩⟩) w) := by
  have HP := Lib.hid (fun W (k' : KN w W) => apply_ref ⟨lf, lo, hi, r, l⟩ ⟨2, ⟨ek, ⟨es, eg⟩, ec⟩, key, pg, ⟨lf2, lo2, hi2, r2, l2⟩⟩ W (hr.kn k') (hs.kn k') hb)
  obtain ⟨a0, c0, rfl, hc0, hrd⟩ := hr
  obtain ⟨aD, cD, rfl, hcD, hsd⟩ := hs
  have HRd := Lib.hid hrd
  have hlen : l.length ≤ 3518437208883 := by omega
  clear hrd hsd hb
  obtain ⟨⟨⟨qf, qlo, qh, qr, ql⟩, qc⟩, hq⟩ : ∃ q, applyD ⟨lf, lo, hi, r, l⟩ ⟨2, ⟨ek, ⟨es, eg⟩, ec⟩, key, pg, ⟨lf2, lo2, hi2, r2, l2⟩⟩ = q := ⟨_, rfl⟩
  rw [hq] at HP hc
  simp only at hc
  have HQ := Lib.hid hq
  clear hq
  unfold dlv at HP ⊢
  simp only at HP ⊢
  subst hc
  have HV := Lib.hid (show undoD ⟨lf, lo, hi, r, l⟩ ⟨2, ⟨ek, ⟨es, eg⟩, ec⟩, key, pg, ⟨lf2, lo2, hi2, r2, l2⟩⟩ = (match l.find? (fun x => eqS x.key key) with
    | some x => (⟨1, x, empS, 0, zeroPg⟩, true)
    | none => (⟨2, zeroEn, key, 0, zeroPg⟩, true)) from by unfold undoD; rw [HQ.out, if_neg (by simp)]; rfl)
  have HO0 := Lib.hid ((One.nil w).alloc3 (.cells #[.bool lf, .string lo, .string hi, .int .i64 r, .slice a0 l.length c0] 24) (.cells #[.int .i64 2, .string ek, .int .i64 es, .int .i64 eg, .int .i64 ec, .string key, .int .i64 pg, .bool lf2, .string lo2, .string hi2, .int .i64 r2, .slice aD l2.length cD] 30) (.cells #[.int .i64 0, .string ⟨#[]⟩, .int .i64 0, .int .i64 0, .int .i64 0, .string ⟨#[]⟩, .int .i64 0, .bool false, .string ⟨#[]⟩, .string ⟨#[]⟩, .int .i64 0, .slice none 0 0] 30))
  go_enter Try.func27, Try.ntmps27
  obtain ⟨x0_0a, x0_0b, x0_0c, x0_0d, x0_0e, x0_0f, x0_0g, x0_0h, x0_0i, x0_0j, x0_0k, x0_0l, x0_0m⟩ := cells12 (HO0.out.blk 0 rfl).1
  obtain ⟨x0_1a, x0_1b, x0_1c, x0_1d, x0_1e, x0_1f, x0_1g, x0_1h, x0_1i, x0_1j, x0_1k, x0_1l, x0_1m⟩ := cells12 (HO0.out.blk 1 rfl).1
  obtain ⟨x0_2a, x0_2b, x0_2c, x0_2d, x0_2e, x0_2f⟩ := cells5 (HO0.out.blk 2 rfl).1
  go_wp2_with fail
  refine (HP.out _ HO0.out.old).mono ?_
  rintro e w1 ⟨v2, rfl, hr2, k2⟩
  obtain ⟨a1, c1, hv2, _⟩ := hr2.form
  simp only at hv2
  subst hv2
  have HO1 := Lib.hid (HO0.out.kn k2)
  clear k2 hr2 HO0 x0_0a x0_0b x0_0c x0_0d x0_0e x0_0f x0_0g x0_0h x0_0i x0_0j x0_0k x0_0l x0_0m x0_1a x0_1b x0_1c x0_1d x0_1e x0_1f x0_1g x0_1h x0_1i x0_1j x0_1k x0_1l x0_1m x0_2a x0_2b x0_2c x0_2d x0_2e x0_2f
  go_upto_region 2 with fail
  have HO2 := Lib.hid (HO1.out.alloc (.cells #[.bool qf, .string qlo, .string qh, .int .i64 qr, .slice a1 ql.length c1] 24))
  clear HO1 
  generalize (w1.alloc (.cells #[.bool qf, .string qlo, .string qh, .int .i64 qr, .slice a1 ql.length c1] 24)) = w2 at *
  generalize w1.heap.size = g2 at *
  obtain ⟨x2_0a, x2_0b, x2_0c, x2_0d, x2_0e, x2_0f⟩ := cells5 (HO2.out.blk 0 rfl).1
  obtain ⟨x2_1a, x2_1b, x2_1c, x2_1d, x2_1e, x2_1f, x2_1g, x2_1h, x2_1i, x2_1j, x2_1k, x2_1l, x2_1m⟩ := cells12 (HO2.out.blk 1 rfl).1
  obtain ⟨x2_2a, x2_2b, x2_2c, x2_2d, x2_2e, x2_2f, x2_2g, x2_2h, x2_2i, x2_2j, x2_2k, x2_2l, x2_2m⟩ := cells12 (HO2.out.blk 2 rfl).1
  obtain ⟨x2_3a, x2_3b, x2_3c, x2_3d, x2_3e, x2_3f⟩ := cells5 (HO2.out.blk 3 rfl).1
  go_wp2_with fail
  clear x2_0a x2_0b x2_0c x2_0d x2_0e x2_0f x2_1a x2_1b x2_1c x2_1d x2_1e x2_1f x2_1g x2_1h x2_1i x2_1j x2_1k x2_1l x2_1m x2_2a x2_2b x2_2c x2_2d x2_2e x2_2f x2_2g x2_2h x2_2i x2_2j x2_2k x2_2l x2_2m x2_3a x2_3b x2_3c x2_3d x2_3e x2_3f
  go_loopw [9] (fun s wr => ∃ k : Nat, k ≤ l.length ∧ s = .int .i64 k ∧ Hid (One w wr [Blk (g2) (.cells #[.bool qf, .string qlo, .string qh, .int .i64 qr, .slice a1 ql.length c1] 24), Blk (w.heap.size + 1 + 1) (.cells #[.int .i64 0, .string ⟨#[]⟩, .int .i64 0, .int .i64 0, .int .i64 0, .string ⟨#[]⟩, .int .i64 0, .bool false, .string ⟨#[]⟩, .string ⟨#[]⟩, .int .i64 0, .slice none 0 0] 30), Blk (w.heap.size + 1) (.cells #[.int .i64 2, .string ek, .int .i64 es, .int .i64 eg, .int .i64 ec, .string key, .int .i64 pg, .bool lf2, .string lo2, .string hi2, .int .i64 r2, .slice aD l2.length cD] 30), Blk (w.heap.size) (.cells #[.bool lf, .string lo, .string hi, .int .i64 r, .slice a0 l.length c0] 24)]) ∧ Hid (∀ (j : Nat) y, j < k → l[j]? = some y → eqS y.key key = false)) (fun s _ => l.length - (intOf s).toNat)
  case atStart => exact ⟨0, Nat.zero_le _, rfl, HO2, Lib.hid (fun j y h => by omega)⟩
  case round =>
    obtain ⟨k, hk, rfl, HW, HM⟩ := hrel
    by_cases hlt : k < l.length
    · obtain ⟨y, hy⟩ : ∃ y, l[k]? = some y := ⟨_, List.getElem?_eq_getElem hlt⟩
      have hz1 : (k : Int) < (l.length : Int) := by omega
      obtain ⟨b, off, hab, _, f0, f1, f2, f3⟩ := rd4 (HRd.out.kn HW.out.old) hy
      cases hab
      have HY := Lib.hid hy
      clear hy
      cases hq : (y.key.toList == key.toList) with
      | true =>
        have HVH := Lib.hid (show undoD ⟨lf, lo, hi, r, l⟩ ⟨2, ⟨ek, ⟨es, eg⟩, ec⟩, key, pg, ⟨lf2, lo2, hi2, r2, l2⟩⟩ = (⟨1, y, empS, 0, zeroPg⟩, true) from by rw [HV.out, find_hit HY.out (show eqS y.key key = true from hq) HM.out])
        obtain ⟨x3_0a, x3_0b, x3_0c, x3_0d, x3_0e, x3_0f⟩ := cells5 (HW.out.blk 0 rfl).1
        obtain ⟨x3_1a, x3_1b, x3_1c, x3_1d, x3_1e, x3_1f, x3_1g, x3_1h, x3_1i, x3_1j, x3_1k, x3_1l, x3_1m⟩ := cells12 (HW.out.blk 1 rfl).1
        obtain ⟨x3_2a, x3_2b, x3_2c, x3_2d, x3_2e, x3_2f, x3_2g, x3_2h, x3_2i, x3_2j, x3_2k, x3_2l, x3_2m⟩ := cells12 (HW.out.blk 2 rfl).1
        obtain ⟨x3_3a, x3_3b, x3_3c, x3_3d, x3_3e, x3_3f⟩ := cells5 (HW.out.blk 3 rfl).1
        go_wp2_with fail
        have HZ := Lib.hid (HW.out.set12 1 rfl (.int .i64 1) (.string y.key) (.int .i64 y.ref.slot) (.int .i64 y.ref.gen) (.int .i64 y.child) (.string ⟨#[]⟩) (.int .i64 0) (.bool false) (.string ⟨#[]⟩) (.string ⟨#[]⟩) (.int .i64 0) (.slice none 0 0))
        show bodyPost Try.prog Try.f27 (GaveU _ w) Exit.ret _ _
        exact bodyPost_ret (res_c1t rfl rfl (load_dl (HZ.out.blk 1 rfl).1) rfl) rfl (by rw [HVH.out]; exact ⟨rfl, HZ.out.old⟩)
      | false =>
        obtain ⟨x3_0a, x3_0b, x3_0c, x3_0d, x3_0e, x3_0f⟩ := cells5 (HW.out.blk 0 rfl).1
        obtain ⟨x3_1a, x3_1b, x3_1c, x3_1d, x3_1e, x3_1f, x3_1g, x3_1h, x3_1i, x3_1j, x3_1k, x3_1l, x3_1m⟩ := cells12 (HW.out.blk 1 rfl).1
        obtain ⟨x3_2a, x3_2b, x3_2c, x3_2d, x3_2e, x3_2f, x3_2g, x3_2h, x3_2i, x3_2j, x3_2k, x3_2l, x3_2m⟩ := cells12 (HW.out.blk 2 rfl).1
        obtain ⟨x3_3a, x3_3b, x3_3c, x3_3d, x3_3e, x3_3f⟩ := cells5 (HW.out.blk 3 rfl).1
        go_wp2_with fail
        clear x3_0a x3_0b x3_0c x3_0d x3_0e x3_0f x3_1a x3_1b x3_1c x3_1d x3_1e x3_1f x3_1g x3_1h x3_1i x3_1j x3_1k x3_1l x3_1m x3_2a x3_2b x3_2c x3_2d x3_2e x3_2f x3_2g x3_2h x3_2i x3_2j x3_2k x3_2l x3_2m x3_3a x3_3b x3_3c x3_3d x3_3e x3_3f
        go_roundw
        case rel => exact ⟨k + 1, by omega, by go_num, HW, Lib.hid (fun j z hj hz => by
          by_cases e : j = k
          · subst e; rw [HY.out] at hz; cases hz; exact hq
          · exact HM.out j z (by omega) hz)⟩
        case measure => simp [intOf]; omega
    · obtain rfl : k = l.length := by omega
      have HVM := Lib.hid (show undoD ⟨lf, lo, hi, r, l⟩ ⟨2, ⟨ek, ⟨es, eg⟩, ec⟩, key, pg, ⟨lf2, lo2, hi2, r2, l2⟩⟩ = (⟨2, zeroEn, key, 0, zeroPg⟩, true) from by rw [HV.out, find_miss (fun j z hz => HM.out j z (List.getElem?_eq_some_iff.1 hz).1 hz)])
      obtain ⟨x4_0a, x4_0b, x4_0c, x4_0d, x4_0e, x4_0f⟩ := cells5 (HW.out.blk 0 rfl).1
      obtain ⟨x4_1a, x4_1b, x4_1c, x4_1d, x4_1e, x4_1f, x4_1g, x4_1h, x4_1i, x4_1j, x4_1k, x4_1l, x4_1m⟩ := cells12 (HW.out.blk 1 rfl).1
      obtain ⟨x4_2a, x4_2b, x4_2c, x4_2d, x4_2e, x4_2f, x4_2g, x4_2h, x4_2i, x4_2j, x4_2k, x4_2l, x4_2m⟩ := cells12 (HW.out.blk 2 rfl).1
      obtain ⟨x4_3a, x4_3b, x4_3c, x4_3d, x4_3e, x4_3f⟩ := cells5 (HW.out.blk 3 rfl).1
      go_wp2_with fail
      have HZ := Lib.hid (HW.out.set12 1 rfl (.int .i64 2) (.string ⟨#[]⟩) (.int .i64 0) (.int .i64 0) (.int .i64 0) (.string key) (.int .i64 0) (.bool false) (.string ⟨#[]⟩) (.string ⟨#[]⟩) (.int .i64 0) (.slice none 0 0))
      show bodyPost Try.prog Try.f27 (GaveU _ w) Exit.ret _ _
      exact bodyPost_ret (res_c1t rfl rfl (load_dl (HZ.out.blk 1 rfl).1) rfl) rfl (by rw [HVM.out]; exact ⟨rfl, HZ.out.old⟩)
theorem rundo_all (p : Pg) (d : Dl) (w : World) {v u : Value} (hr : Rl En.enc 4 w v p.list) (hs : Rl En.enc 4 w u d.right.list) (hb : (p.list.length + d.right.list.length + 1) * 40 ≤ 140737488355328) : Calls Try.prog 27 #[pgv p v, dlv d u] w (GaveU (undoD p d) w) := by
  obtain ⟨k, ⟨ek, ⟨es, eg⟩, ec⟩, key, pg, ⟨lf2, lo2, hi2, r2, l2⟩⟩ := d
  obtain ⟨lf, lo, hi, r, l⟩ := p
  by_cases hc : (applyD ⟨lf, lo, hi, r, l⟩ ⟨k, ⟨ek, ⟨es, eg⟩, ec⟩, key, pg, ⟨lf2, lo2, hi2, r2, l2⟩⟩).2 = 0
  case neg => exact rundo_bad k lf lo hi r l ek es eg ec key pg lf2 lo2 hi2 r2 l2 hc w hr hs hb
  by_cases h1 : k = 1
  · subst h1; exact rundo_1 lf lo hi r l ek es eg ec key pg lf2 lo2 hi2 r2 l2 hc w hr hs hb
  by_cases h2 : k = 2
  · subst h2; exact rundo_2 lf lo hi r l ek es eg ec key pg lf2 lo2 hi2 r2 l2 hc w hr hs hb
  exact rundo_else k h1 h2 lf lo hi r l ek es eg ec key pg lf2 lo2 hi2 r2 l2 hc w hr hs hb
end Go.Proofs.Ytkdlodjpambelaa

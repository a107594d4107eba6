/- delta.apply: case by case. -/
import Derived.Test.YtkdlodjpambelaaDeltaK
import Derived.Test.YtkdlodjpambelaaCatchD
import Derived.Test.YtkdlodjpambelaaPutP2
import Derived.Test.YtkdlodjpambelaaMergeP
import Derived.Test.YtkdlodjpambelaaDeltaL
import Derived.Test.YtkdlodjpambelaaDeltaC
namespace Go.Proofs.Ytkdlodjpambelaa
set_option linter.unusedVariables false
set_option linter.unusedSimpArgs false
open Go Go.RowKit

/-- A page, or a panic with the code. -/
def GaveA (q : Pg × Int) (w : World) (e : Ending) (w' : World) : Prop := (q.2 = 0 ∧ GaveP q.1 w e w') ∨ (q.2 ≠ 0 ∧ e = .panicked [{ v := failv q.2, recovered := false }] ∧ KN w w')
set_option maxHeartbeats 1000000 in
theorem apply_bad (k : Int) (lf : Bool) (lo hi : ByteArray) (r : Int) (l : List En) (ek : ByteArray) (es eg ec : Int) (key : ByteArray) (pg : Int) (lf2 : Bool) (lo2 hi2 : ByteArray) (r2 : Int) (l2 : List En) (hc0 : checkD ⟨k, ⟨ek, ⟨es, eg⟩, ec⟩, key, pg, ⟨lf2, lo2, hi2, r2, l2⟩⟩ ≠ 0) (w : World) {v u : Value} (hr : Rl En.enc 4 w v l) (hs : Rl En.enc 4 w u l2) (hl2 : l2.length ≤ maxLen) (hb : l.length * 40 ≤ 140737488355328) :
    Calls Try.prog 35 #[pgv ⟨lf, lo, hi, r, l⟩ v, dlv ⟨k, ⟨ek, ⟨es, eg⟩, ec⟩, key, pg, ⟨lf2, lo2, hi2, r2, l2⟩⟩ u] w (GaveA (applyD ⟨lf, lo, hi, r, l⟩ ⟨k, ⟨ek, ⟨es, eg⟩, ec⟩, key, pg, ⟨lf2, lo2, hi2, r2, l2⟩⟩) w) := by
  have hc : checkD ⟨k, ⟨ek, ⟨es, eg⟩, ec⟩, key, pg, ⟨lf2, lo2, hi2, r2, l2⟩⟩ = 90 := by
    revert hc0
    unfold checkD
    split <;> simp
  have HV := Lib.hid (show applyD ⟨lf, lo, hi, r, l⟩ ⟨k, ⟨ek, ⟨es, eg⟩, ec⟩, key, pg, ⟨lf2, lo2, hi2, r2, l2⟩⟩ = (zeroPg, 90) from by unfold applyD; rw [if_pos hc0])
  obtain ⟨a0, c0, rfl, hc0, hrd⟩ := hr
  obtain ⟨aD, cD, rfl, hcD, hsd⟩ := hs
  have HC := Lib.hid (fun W (k' : KN w W) => check_delta ⟨k, ⟨ek, ⟨es, eg⟩, ec⟩, key, pg, ⟨lf2, lo2, hi2, r2, l2⟩⟩ W ((Rl.of_rd hsd hcD).kn k') hl2)
  rw [hc] at HC
  have HR := Lib.hid (Rl.of_rd hrd hc0)
  have HR2 := Lib.hid (Rl.of_rd hsd hcD)
  clear hrd hsd
  rw [HV.out]
  unfold dlv at HC ⊢
  simp only at HC ⊢
  clear hc HV
  have HO0 := Lib.hid ((One.nil w).alloc3 (.cells #[.bool lf, .string lo, .string hi, .int .i64 r, .slice a0 l.length c0] 24) (.cells #[.int .i64 k, .string ek, .int .i64 es, .int .i64 eg, .int .i64 ec, .string key, .int .i64 pg, .bool lf2, .string lo2, .string hi2, .int .i64 r2, .slice aD l2.length cD] 30) (.cells #[.bool false, .string ⟨#[]⟩, .string ⟨#[]⟩, .int .i64 0, .slice none 0 0] 24))
  go_enter Try.func35, Try.ntmps35
  obtain ⟨x0_0a, x0_0b, x0_0c, x0_0d, x0_0e, x0_0f⟩ := cells5 (HO0.out.blk 0 rfl).1
  obtain ⟨x0_1a, x0_1b, x0_1c, x0_1d, x0_1e, x0_1f, x0_1g, x0_1h, x0_1i, x0_1j, x0_1k, x0_1l, x0_1m⟩ := cells12 (HO0.out.blk 1 rfl).1
  obtain ⟨x0_2a, x0_2b, x0_2c, x0_2d, x0_2e, x0_2f⟩ := cells5 (HO0.out.blk 2 rfl).1
  go_wp2_with fail
  refine (HC.out _ HO0.out.old).mono ?_
  rintro e w1 ⟨rfl, k1⟩
  have HO1 := Lib.hid (HO0.out.kn k1)
  clear k1 HO0 x0_0a x0_0b x0_0c x0_0d x0_0e x0_0f x0_1a x0_1b x0_1c x0_1d x0_1e x0_1f x0_1g x0_1h x0_1i x0_1j x0_1k x0_1l x0_1m x0_2a x0_2b x0_2c x0_2d x0_2e x0_2f
  go_wp2_with fail
  refine (must_no 90 (by decide) _).mono ?_
  rintro e wm ⟨rfl, rfl⟩
  exact ⟨rfl, .inr ⟨by decide, rfl, HO1.out.old⟩⟩
set_option maxHeartbeats 1000000 in
theorem apply_1 (lf : Bool) (lo hi : ByteArray) (r : Int) (l : List En) (ek : ByteArray) (es eg ec : Int) (key : ByteArray) (pg : Int) (lf2 : Bool) (lo2 hi2 : ByteArray) (r2 : Int) (l2 : List En) (hc : checkD ⟨1, ⟨ek, ⟨es, eg⟩, ec⟩, key, pg, ⟨lf2, lo2, hi2, r2, l2⟩⟩ = 0) (w : World) {v u : Value} (hr : Rl En.enc 4 w v l) (hs : Rl En.enc 4 w u l2) (hl2 : l2.length ≤ maxLen) (hb : (l.length + 1) * 40 ≤ 140737488355328) :
    Calls Try.prog 35 #[pgv ⟨lf, lo, hi, r, l⟩ v, dlv ⟨1, ⟨ek, ⟨es, eg⟩, ec⟩, key, pg, ⟨lf2, lo2, hi2, r2, l2⟩⟩ u] w (GaveA (applyD ⟨lf, lo, hi, r, l⟩ ⟨1, ⟨ek, ⟨es, eg⟩, ec⟩, key, pg, ⟨lf2, lo2, hi2, r2, l2⟩⟩) w) := by
  have HV := Lib.hid (show applyD ⟨lf, lo, hi, r, l⟩ ⟨1, ⟨ek, ⟨es, eg⟩, ec⟩, key, pg, ⟨lf2, lo2, hi2, r2, l2⟩⟩ = putP ⟨lf, lo, hi, r, l⟩ ⟨ek, ⟨es, eg⟩, ec⟩ from by unfold applyD; simp [hc])
  obtain ⟨a0, c0, rfl, hc0, hrd⟩ := hr
  obtain ⟨aD, cD, rfl, hcD, hsd⟩ := hs
  have HC := Lib.hid (fun W (k' : KN w W) => check_delta ⟨1, ⟨ek, ⟨es, eg⟩, ec⟩, key, pg, ⟨lf2, lo2, hi2, r2, l2⟩⟩ W ((Rl.of_rd hsd hcD).kn k') hl2)
  rw [hc] at HC
  have HR := Lib.hid (Rl.of_rd hrd hc0)
  have HR2 := Lib.hid (Rl.of_rd hsd hcD)
  clear hrd hsd
  rw [HV.out]
  unfold dlv at HC ⊢
  simp only at HC ⊢
  clear hc HV
  have HP := Lib.hid (fun W (k' : KN w W) => put_page ⟨lf, lo, hi, r, l⟩ ⟨ek, ⟨es, eg⟩, ec⟩ W (HR.out.kn k') hb)
  obtain ⟨⟨⟨qf, qlo, qh, qr, ql⟩, qc⟩, hq⟩ : ∃ q, putP ⟨lf, lo, hi, r, l⟩ ⟨ek, ⟨es, eg⟩, ec⟩ = q := ⟨_, rfl⟩
  rw [hq] at HP ⊢
  clear hq
  have HO0 := Lib.hid ((One.nil w).alloc3 (.cells #[.bool lf, .string lo, .string hi, .int .i64 r, .slice a0 l.length c0] 24) (.cells #[.int .i64 1, .string ek, .int .i64 es, .int .i64 eg, .int .i64 ec, .string key, .int .i64 pg, .bool lf2, .string lo2, .string hi2, .int .i64 r2, .slice aD l2.length cD] 30) (.cells #[.bool false, .string ⟨#[]⟩, .string ⟨#[]⟩, .int .i64 0, .slice none 0 0] 24))
  go_enter Try.func35, Try.ntmps35
  obtain ⟨x0_0a, x0_0b, x0_0c, x0_0d, x0_0e, x0_0f⟩ := cells5 (HO0.out.blk 0 rfl).1
  obtain ⟨x0_1a, x0_1b, x0_1c, x0_1d, x0_1e, x0_1f, x0_1g, x0_1h, x0_1i, x0_1j, x0_1k, x0_1l, x0_1m⟩ := cells12 (HO0.out.blk 1 rfl).1
  obtain ⟨x0_2a, x0_2b, x0_2c, x0_2d, x0_2e, x0_2f⟩ := cells5 (HO0.out.blk 2 rfl).1
  go_wp2_with fail
  refine (HC.out _ HO0.out.old).mono ?_
  rintro e w1 ⟨rfl, k1⟩
  have HO1 := Lib.hid (HO0.out.kn k1)
  clear k1 HO0 x0_0a x0_0b x0_0c x0_0d x0_0e x0_0f x0_1a x0_1b x0_1c x0_1d x0_1e x0_1f x0_1g x0_1h x0_1i x0_1j x0_1k x0_1l x0_1m x0_2a x0_2b x0_2c x0_2d x0_2e x0_2f
  go_wp2_with fail
  refine (must_ok _).mono ?_
  rintro e wm ⟨rfl, rfl⟩
  obtain ⟨x1_0a, x1_0b, x1_0c, x1_0d, x1_0e, x1_0f⟩ := cells5 (HO1.out.blk 0 rfl).1
  obtain ⟨x1_1a, x1_1b, x1_1c, x1_1d, x1_1e, x1_1f, x1_1g, x1_1h, x1_1i, x1_1j, x1_1k, x1_1l, x1_1m⟩ := cells12 (HO1.out.blk 1 rfl).1
  obtain ⟨x1_2a, x1_2b, x1_2c, x1_2d, x1_2e, x1_2f⟩ := cells5 (HO1.out.blk 2 rfl).1
  go_wp2_with fail
  refine (HP.out _ HO1.out.old).mono ?_
  rintro e w2 ⟨a2, c2, rfl, k2⟩
  have HO2 := Lib.hid (HO1.out.add k2)
  clear k2 HO1 x1_0a x1_0b x1_0c x1_0d x1_0e x1_0f x1_1a x1_1b x1_1c x1_1d x1_1e x1_1f x1_1g x1_1h x1_1i x1_1j x1_1k x1_1l x1_1m x1_2a x1_2b x1_2c x1_2d x1_2e x1_2f
  go_upto_region 5 with fail
  have HO3 := Lib.hid (HO2.out.alloc (.cells #[.bool qf, .string qlo, .string qh, .int .i64 qr, .slice a2 ql.length c2] 24))
  clear HO2 
  generalize (w2.alloc (.cells #[.bool qf, .string qlo, .string qh, .int .i64 qr, .slice a2 ql.length c2] 24)) = w3 at *
  generalize w2.heap.size = g3 at *
  obtain ⟨x3_0a, x3_0b, x3_0c, x3_0d, x3_0e, x3_0f⟩ := cells5 (HO3.out.blk 0 rfl).1
  obtain ⟨x3_2a, x3_2b, x3_2c, x3_2d, x3_2e, x3_2f⟩ := cells5 (HO3.out.blk 2 rfl).1
  obtain ⟨x3_3a, x3_3b, x3_3c, x3_3d, x3_3e, x3_3f, x3_3g, x3_3h, x3_3i, x3_3j, x3_3k, x3_3l, x3_3m⟩ := cells12 (HO3.out.blk 3 rfl).1
  obtain ⟨x3_4a, x3_4b, x3_4c, x3_4d, x3_4e, x3_4f⟩ := cells5 (HO3.out.blk 4 rfl).1
  go_wp2_with fail
  by_cases hq : qc = 0
  case neg =>
    refine (must_no qc hq _).mono ?_
    rintro e wm ⟨rfl, rfl⟩
    exact ⟨rfl, .inr ⟨hq, rfl, HO3.out.old⟩⟩
  subst hq
  refine (must_ok _).mono ?_
  rintro e wm ⟨rfl, rfl⟩
  go_wp2_with fail
  have HO4 := Lib.hid (show One w (((((w3.setCell ⟨w.heap.size + 1 + 1, 0, none⟩ (.bool qf)).setCell ⟨w.heap.size + 1 + 1, 1, none⟩ (.string qlo)).setCell ⟨w.heap.size + 1 + 1, 2, none⟩ (.string qh)).setCell ⟨w.heap.size + 1 + 1, 3, none⟩ (.int .i64 qr)).setCell ⟨w.heap.size + 1 + 1, 4, none⟩ (.slice a2 ql.length c2)) [Blk (g3) (.cells #[.bool qf, .string qlo, .string qh, .int .i64 qr, .slice a2 ql.length c2] 24), RowE a2 c2 ql, Blk (w.heap.size + 1 + 1) (.cells #[.bool qf, .string qlo, .string qh, .int .i64 qr, .slice a2 ql.length c2] 24), Blk (w.heap.size + 1) (.cells #[.int .i64 1, .string ek, .int .i64 es, .int .i64 eg, .int .i64 ec, .string key, .int .i64 pg, .bool lf2, .string lo2, .string hi2, .int .i64 r2, .slice aD l2.length cD] 30), Blk (w.heap.size) (.cells #[.bool lf, .string lo, .string hi, .int .i64 r, .slice a0 l.length c0] 24)] from HO3.out.set5 2 rfl (.bool qf) (.string qlo) (.string qh) (.int .i64 qr) (.slice a2 ql.length c2))
  clear HO3 x3_0a x3_0b x3_0c x3_0d x3_0e x3_0f x3_2a x3_2b x3_2c x3_2d x3_2e x3_2f x3_3a x3_3b x3_3c x3_3d x3_3e x3_3f x3_3g x3_3h x3_3i x3_3j x3_3k x3_3l x3_3m x3_4a x3_4b x3_4c x3_4d x3_4e x3_4f
  generalize (((((w3.setCell ⟨w.heap.size + 1 + 1, 0, none⟩ (.bool qf)).setCell ⟨w.heap.size + 1 + 1, 1, none⟩ (.string qlo)).setCell ⟨w.heap.size + 1 + 1, 2, none⟩ (.string qh)).setCell ⟨w.heap.size + 1 + 1, 3, none⟩ (.int .i64 qr)).setCell ⟨w.heap.size + 1 + 1, 4, none⟩ (.slice a2 ql.length c2)) = w4 at *
  exact bodyPost_ret (res_c1 rfl rfl (load_pg (HO4.out.blk 2 rfl).1)) rfl (.inl ⟨rfl, _, _, rfl, HO4.out.post 1 rfl⟩)
set_option maxHeartbeats 1000000 in
theorem apply_4 (lf : Bool) (lo hi : ByteArray) (r : Int) (l : List En) (ek : ByteArray) (es eg ec : Int) (key : ByteArray) (pg : Int) (lf2 : Bool) (lo2 hi2 : ByteArray) (r2 : Int) (l2 : List En) (hc : checkD ⟨4, ⟨ek, ⟨es, eg⟩, ec⟩, key, pg, ⟨lf2, lo2, hi2, r2, l2⟩⟩ = 0) (w : World) {v u : Value} (hr : Rl En.enc 4 w v l) (hs : Rl En.enc 4 w u l2) (hl2 : l2.length ≤ maxLen) (hb : (l.length + l2.length) * 40 ≤ 140737488355328) :
    Calls Try.prog 35 #[pgv ⟨lf, lo, hi, r, l⟩ v, dlv ⟨4, ⟨ek, ⟨es, eg⟩, ec⟩, key, pg, ⟨lf2, lo2, hi2, r2, l2⟩⟩ u] w (GaveA (applyD ⟨lf, lo, hi, r, l⟩ ⟨4, ⟨ek, ⟨es, eg⟩, ec⟩, key, pg, ⟨lf2, lo2, hi2, r2, l2⟩⟩) w) := by
  have HV := Lib.hid (show applyD ⟨lf, lo, hi, r, l⟩ ⟨4, ⟨ek, ⟨es, eg⟩, ec⟩, key, pg, ⟨lf2, lo2, hi2, r2, l2⟩⟩ = mergeP ⟨lf, lo, hi, r, l⟩ ⟨lf2, lo2, hi2, r2, l2⟩ from by unfold applyD; simp [hc])
  obtain ⟨a0, c0, rfl, hc0, hrd⟩ := hr
  obtain ⟨aD, cD, rfl, hcD, hsd⟩ := hs
  have HC := Lib.hid (fun W (k' : KN w W) => check_delta ⟨4, ⟨ek, ⟨es, eg⟩, ec⟩, key, pg, ⟨lf2, lo2, hi2, r2, l2⟩⟩ W ((Rl.of_rd hsd hcD).kn k') hl2)
  rw [hc] at HC
  have HR := Lib.hid (Rl.of_rd hrd hc0)
  have HR2 := Lib.hid (Rl.of_rd hsd hcD)
  clear hrd hsd
  rw [HV.out]
  unfold dlv at HC ⊢
  simp only at HC ⊢
  clear hc HV
  have HP := Lib.hid (fun W (k' : KN w W) => merge_page ⟨lf, lo, hi, r, l⟩ ⟨lf2, lo2, hi2, r2, l2⟩ W (HR.out.kn k') (HR2.out.kn k') hb)
  obtain ⟨⟨⟨qf, qlo, qh, qr, ql⟩, qc⟩, hq⟩ : ∃ q, mergeP ⟨lf, lo, hi, r, l⟩ ⟨lf2, lo2, hi2, r2, l2⟩ = q := ⟨_, rfl⟩
  rw [hq] at HP ⊢
  clear hq
  have HO0 := Lib.hid ((One.nil w).alloc3 (.cells #[.bool lf, .string lo, .string hi, .int .i64 r, .slice a0 l.length c0] 24) (.cells #[.int .i64 4, .string ek, .int .i64 es, .int .i64 eg, .int .i64 ec, .string key, .int .i64 pg, .bool lf2, .string lo2, .string hi2, .int .i64 r2, .slice aD l2.length cD] 30) (.cells #[.bool false, .string ⟨#[]⟩, .string ⟨#[]⟩, .int .i64 0, .slice none 0 0] 24))
  go_enter Try.func35, Try.ntmps35
  obtain ⟨x0_0a, x0_0b, x0_0c, x0_0d, x0_0e, x0_0f⟩ := cells5 (HO0.out.blk 0 rfl).1
  obtain ⟨x0_1a, x0_1b, x0_1c, x0_1d, x0_1e, x0_1f, x0_1g, x0_1h, x0_1i, x0_1j, x0_1k, x0_1l, x0_1m⟩ := cells12 (HO0.out.blk 1 rfl).1
  obtain ⟨x0_2a, x0_2b, x0_2c, x0_2d, x0_2e, x0_2f⟩ := cells5 (HO0.out.blk 2 rfl).1
  go_wp2_with fail
  refine (HC.out _ HO0.out.old).mono ?_
  rintro e w1 ⟨rfl, k1⟩
  have HO1 := Lib.hid (HO0.out.kn k1)
  clear k1 HO0 x0_0a x0_0b x0_0c x0_0d x0_0e x0_0f x0_1a x0_1b x0_1c x0_1d x0_1e x0_1f x0_1g x0_1h x0_1i x0_1j x0_1k x0_1l x0_1m x0_2a x0_2b x0_2c x0_2d x0_2e x0_2f
  go_wp2_with fail
  refine (must_ok _).mono ?_
  rintro e wm ⟨rfl, rfl⟩
  obtain ⟨x1_0a, x1_0b, x1_0c, x1_0d, x1_0e, x1_0f⟩ := cells5 (HO1.out.blk 0 rfl).1
  obtain ⟨x1_1a, x1_1b, x1_1c, x1_1d, x1_1e, x1_1f, x1_1g, x1_1h, x1_1i, x1_1j, x1_1k, x1_1l, x1_1m⟩ := cells12 (HO1.out.blk 1 rfl).1
  obtain ⟨x1_2a, x1_2b, x1_2c, x1_2d, x1_2e, x1_2f⟩ := cells5 (HO1.out.blk 2 rfl).1
  go_wp2_with fail
  refine (HP.out _ HO1.out.old).mono ?_
  rintro e w2 ⟨a2, c2, rfl, k2⟩
  have HO2 := Lib.hid (HO1.out.add k2)
  clear k2 HO1 x1_0a x1_0b x1_0c x1_0d x1_0e x1_0f x1_1a x1_1b x1_1c x1_1d x1_1e x1_1f x1_1g x1_1h x1_1i x1_1j x1_1k x1_1l x1_1m x1_2a x1_2b x1_2c x1_2d x1_2e x1_2f
  go_upto_region 23 with fail
  have HO3 := Lib.hid (HO2.out.alloc (.cells #[.bool qf, .string qlo, .string qh, .int .i64 qr, .slice a2 ql.length c2] 24))
  clear HO2 
  generalize (w2.alloc (.cells #[.bool qf, .string qlo, .string qh, .int .i64 qr, .slice a2 ql.length c2] 24)) = w3 at *
  generalize w2.heap.size = g3 at *
  obtain ⟨x3_0a, x3_0b, x3_0c, x3_0d, x3_0e, x3_0f⟩ := cells5 (HO3.out.blk 0 rfl).1
  obtain ⟨x3_2a, x3_2b, x3_2c, x3_2d, x3_2e, x3_2f⟩ := cells5 (HO3.out.blk 2 rfl).1
  obtain ⟨x3_3a, x3_3b, x3_3c, x3_3d, x3_3e, x3_3f, x3_3g, x3_3h, x3_3i, x3_3j, x3_3k, x3_3l, x3_3m⟩ := cells12 (HO3.out.blk 3 rfl).1
  obtain ⟨x3_4a, x3_4b, x3_4c, x3_4d, x3_4e, x3_4f⟩ := cells5 (HO3.out.blk 4 rfl).1
  go_wp2_with fail
  by_cases hq : qc = 0
  case neg =>
    refine (must_no qc hq _).mono ?_
    rintro e wm ⟨rfl, rfl⟩
    exact ⟨rfl, .inr ⟨hq, rfl, HO3.out.old⟩⟩
  subst hq
  refine (must_ok _).mono ?_
  rintro e wm ⟨rfl, rfl⟩
  go_wp2_with fail
  have HO4 := Lib.hid (show One w (((((w3.setCell ⟨w.heap.size + 1 + 1, 0, none⟩ (.bool qf)).setCell ⟨w.heap.size + 1 + 1, 1, none⟩ (.string qlo)).setCell ⟨w.heap.size + 1 + 1, 2, none⟩ (.string qh)).setCell ⟨w.heap.size + 1 + 1, 3, none⟩ (.int .i64 qr)).setCell ⟨w.heap.size + 1 + 1, 4, none⟩ (.slice a2 ql.length c2)) [Blk (g3) (.cells #[.bool qf, .string qlo, .string qh, .int .i64 qr, .slice a2 ql.length c2] 24), RowE a2 c2 ql, Blk (w.heap.size + 1 + 1) (.cells #[.bool qf, .string qlo, .string qh, .int .i64 qr, .slice a2 ql.length c2] 24), Blk (w.heap.size + 1) (.cells #[.int .i64 4, .string ek, .int .i64 es, .int .i64 eg, .int .i64 ec, .string key, .int .i64 pg, .bool lf2, .string lo2, .string hi2, .int .i64 r2, .slice aD l2.length cD] 30), Blk (w.heap.size) (.cells #[.bool lf, .string lo, .string hi, .int .i64 r, .slice a0 l.length c0] 24)] from HO3.out.set5 2 rfl (.bool qf) (.string qlo) (.string qh) (.int .i64 qr) (.slice a2 ql.length c2))
  clear HO3 x3_0a x3_0b x3_0c x3_0d x3_0e x3_0f x3_2a x3_2b x3_2c x3_2d x3_2e x3_2f x3_3a x3_3b x3_3c x3_3d x3_3e x3_3f x3_3g x3_3h x3_3i x3_3j x3_3k x3_3l x3_3m x3_4a x3_4b x3_4c x3_4d x3_4e x3_4f
  generalize (((((w3.setCell ⟨w.heap.size + 1 + 1, 0, none⟩ (.bool qf)).setCell ⟨w.heap.size + 1 + 1, 1, none⟩ (.string qlo)).setCell ⟨w.heap.size + 1 + 1, 2, none⟩ (.string qh)).setCell ⟨w.heap.size + 1 + 1, 3, none⟩ (.int .i64 qr)).setCell ⟨w.heap.size + 1 + 1, 4, none⟩ (.slice a2 ql.length c2)) = w4 at *
  exact bodyPost_ret (res_c1 rfl rfl (load_pg (HO4.out.blk 2 rfl).1)) rfl (.inl ⟨rfl, _, _, rfl, HO4.out.post 1 rfl⟩)
set_option maxHeartbeats 1000000 in
theorem apply_5 (k : Int) (h1 : k ≠ 1) (h2 : k ≠ 2) (h3 : k ≠ 3) (h4 : k ≠ 4) (lf : Bool) (lo hi : ByteArray) (r : Int) (l : List En) (ek : ByteArray) (es eg ec : Int) (key : ByteArray) (pg : Int) (lf2 : Bool) (lo2 hi2 : ByteArray) (r2 : Int) (l2 : List En) (hc : checkD ⟨k, ⟨ek, ⟨es, eg⟩, ec⟩, key, pg, ⟨lf2, lo2, hi2, r2, l2⟩⟩ = 0) (w : World) {v u : Value} (hr : Rl En.enc 4 w v l) (hs : Rl En.enc 4 w u l2) (hl2 : l2.length ≤ maxLen) (hb : l.length * 40 ≤ 140737488355328) :
    Calls Try.prog 35 #[pgv ⟨lf, lo, hi, r, l⟩ v, dlv ⟨k, ⟨ek, ⟨es, eg⟩, ec⟩, key, pg, ⟨lf2, lo2, hi2, r2, l2⟩⟩ u] w (GaveA (applyD ⟨lf, lo, hi, r, l⟩ ⟨k, ⟨ek, ⟨es, eg⟩, ec⟩, key, pg, ⟨lf2, lo2, hi2, r2, l2⟩⟩) w) := by
  have HV := Lib.hid (show applyD ⟨lf, lo, hi, r, l⟩ ⟨k, ⟨ek, ⟨es, eg⟩, ec⟩, key, pg, ⟨lf2, lo2, hi2, r2, l2⟩⟩ = (zeroPg, 91) from by unfold applyD; simp [hc, h1, h2, h3, h4])
  obtain ⟨a0, c0, rfl, hc0, hrd⟩ := hr
  obtain ⟨aD, cD, rfl, hcD, hsd⟩ := hs
  have HC := Lib.hid (fun W (k' : KN w W) => check_delta ⟨k, ⟨ek, ⟨es, eg⟩, ec⟩, key, pg, ⟨lf2, lo2, hi2, r2, l2⟩⟩ W ((Rl.of_rd hsd hcD).kn k') hl2)
  rw [hc] at HC
  have HR := Lib.hid (Rl.of_rd hrd hc0)
  have HR2 := Lib.hid (Rl.of_rd hsd hcD)
  clear hrd hsd
  rw [HV.out]
  unfold dlv at HC ⊢
  simp only at HC ⊢
  clear hc HV
  have e1 : (k == 1) = false := beq_false_of_ne h1
  have e2 : (k == 2) = false := beq_false_of_ne h2
  have e3 : (k == 3) = false := beq_false_of_ne h3
  have e4 : (k == 4) = false := beq_false_of_ne h4
  have HO0 := Lib.hid ((One.nil w).alloc3 (.cells #[.bool lf, .string lo, .string hi, .int .i64 r, .slice a0 l.length c0] 24) (.cells #[.int .i64 k, .string ek, .int .i64 es, .int .i64 eg, .int .i64 ec, .string key, .int .i64 pg, .bool lf2, .string lo2, .string hi2, .int .i64 r2, .slice aD l2.length cD] 30) (.cells #[.bool false, .string ⟨#[]⟩, .string ⟨#[]⟩, .int .i64 0, .slice none 0 0] 24))
  go_enter Try.func35, Try.ntmps35
  obtain ⟨x0_0a, x0_0b, x0_0c, x0_0d, x0_0e, x0_0f⟩ := cells5 (HO0.out.blk 0 rfl).1
  obtain ⟨x0_1a, x0_1b, x0_1c, x0_1d, x0_1e, x0_1f, x0_1g, x0_1h, x0_1i, x0_1j, x0_1k, x0_1l, x0_1m⟩ := cells12 (HO0.out.blk 1 rfl).1
  obtain ⟨x0_2a, x0_2b, x0_2c, x0_2d, x0_2e, x0_2f⟩ := cells5 (HO0.out.blk 2 rfl).1
  go_wp2_with fail
  refine (HC.out _ HO0.out.old).mono ?_
  rintro e w1 ⟨rfl, k1⟩
  have HO1 := Lib.hid (HO0.out.kn k1)
  clear k1 HO0 x0_0a x0_0b x0_0c x0_0d x0_0e x0_0f x0_1a x0_1b x0_1c x0_1d x0_1e x0_1f x0_1g x0_1h x0_1i x0_1j x0_1k x0_1l x0_1m x0_2a x0_2b x0_2c x0_2d x0_2e x0_2f
  go_wp2_with fail
  refine (must_ok _).mono ?_
  rintro e wm ⟨rfl, rfl⟩
  obtain ⟨x1_0a, x1_0b, x1_0c, x1_0d, x1_0e, x1_0f⟩ := cells5 (HO1.out.blk 0 rfl).1
  obtain ⟨x1_1a, x1_1b, x1_1c, x1_1d, x1_1e, x1_1f, x1_1g, x1_1h, x1_1i, x1_1j, x1_1k, x1_1l, x1_1m⟩ := cells12 (HO1.out.blk 1 rfl).1
  obtain ⟨x1_2a, x1_2b, x1_2c, x1_2d, x1_2e, x1_2f⟩ := cells5 (HO1.out.blk 2 rfl).1
  go_wp2_with fail
  refine (must_no 91 (by decide) _).mono ?_
  rintro e wm ⟨rfl, rfl⟩
  exact ⟨rfl, .inr ⟨by decide, rfl, HO1.out.old⟩⟩
set_option maxHeartbeats 1000000 in
theorem apply_2no (lf : Bool) (lo hi : ByteArray) (r : Int) (l : List En) (ek : ByteArray) (es eg ec : Int) (key : ByteArray) (pg : Int) (lf2 : Bool) (lo2 hi2 : ByteArray) (r2 : Int) (l2 : List En) (hc : checkD ⟨2, ⟨ek, ⟨es, eg⟩, ec⟩, key, pg, ⟨lf2, lo2, hi2, r2, l2⟩⟩ = 0) (hin : inR lo hi key = false) (w : World) {v u : Value} (hr : Rl En.enc 4 w v l) (hs : Rl En.enc 4 w u l2) (hl2 : l2.length ≤ maxLen) (hb : l.length * 40 ≤ 140737488355328) :
    Calls Try.prog 35 #[pgv ⟨lf, lo, hi, r, l⟩ v, dlv ⟨2, ⟨ek, ⟨es, eg⟩, ec⟩, key, pg, ⟨lf2, lo2, hi2, r2, l2⟩⟩ u] w (GaveA (applyD ⟨lf, lo, hi, r, l⟩ ⟨2, ⟨ek, ⟨es, eg⟩, ec⟩, key, pg, ⟨lf2, lo2, hi2, r2, l2⟩⟩) w) := by
  have HV := Lib.hid (show applyD ⟨lf, lo, hi, r, l⟩ ⟨2, ⟨ek, ⟨es, eg⟩, ec⟩, key, pg, ⟨lf2, lo2, hi2, r2, l2⟩⟩ = (zeroPg, 73) from by unfold applyD; simp [hc, hin])
  obtain ⟨a0, c0, rfl, hc0, hrd⟩ := hr
  obtain ⟨aD, cD, rfl, hcD, hsd⟩ := hs
  have HC := Lib.hid (fun W (k' : KN w W) => check_delta ⟨2, ⟨ek, ⟨es, eg⟩, ec⟩, key, pg, ⟨lf2, lo2, hi2, r2, l2⟩⟩ W ((Rl.of_rd hsd hcD).kn k') hl2)
  rw [hc] at HC
  have HR := Lib.hid (Rl.of_rd hrd hc0)
  have HR2 := Lib.hid (Rl.of_rd hsd hcD)
  clear hrd hsd
  rw [HV.out]
  unfold dlv at HC ⊢
  simp only at HC ⊢
  clear hc HV
  have HH := Lib.hid (fun W => hin ▸ has_k lf lo hi r (.slice a0 l.length c0) key W)
  have HO0 := Lib.hid ((One.nil w).alloc3 (.cells #[.bool lf, .string lo, .string hi, .int .i64 r, .slice a0 l.length c0] 24) (.cells #[.int .i64 2, .string ek, .int .i64 es, .int .i64 eg, .int .i64 ec, .string key, .int .i64 pg, .bool lf2, .string lo2, .string hi2, .int .i64 r2, .slice aD l2.length cD] 30) (.cells #[.bool false, .string ⟨#[]⟩, .string ⟨#[]⟩, .int .i64 0, .slice none 0 0] 24))
  go_enter Try.func35, Try.ntmps35
  obtain ⟨x0_0a, x0_0b, x0_0c, x0_0d, x0_0e, x0_0f⟩ := cells5 (HO0.out.blk 0 rfl).1
  obtain ⟨x0_1a, x0_1b, x0_1c, x0_1d, x0_1e, x0_1f, x0_1g, x0_1h, x0_1i, x0_1j, x0_1k, x0_1l, x0_1m⟩ := cells12 (HO0.out.blk 1 rfl).1
  obtain ⟨x0_2a, x0_2b, x0_2c, x0_2d, x0_2e, x0_2f⟩ := cells5 (HO0.out.blk 2 rfl).1
  go_wp2_with fail
  refine (HC.out _ HO0.out.old).mono ?_
  rintro e w1 ⟨rfl, k1⟩
  have HO1 := Lib.hid (HO0.out.kn k1)
  clear k1 HO0 x0_0a x0_0b x0_0c x0_0d x0_0e x0_0f x0_1a x0_1b x0_1c x0_1d x0_1e x0_1f x0_1g x0_1h x0_1i x0_1j x0_1k x0_1l x0_1m x0_2a x0_2b x0_2c x0_2d x0_2e x0_2f
  go_wp2_with fail
  refine (must_ok _).mono ?_
  rintro e wm ⟨rfl, rfl⟩
  obtain ⟨x1_0a, x1_0b, x1_0c, x1_0d, x1_0e, x1_0f⟩ := cells5 (HO1.out.blk 0 rfl).1
  obtain ⟨x1_1a, x1_1b, x1_1c, x1_1d, x1_1e, x1_1f, x1_1g, x1_1h, x1_1i, x1_1j, x1_1k, x1_1l, x1_1m⟩ := cells12 (HO1.out.blk 1 rfl).1
  obtain ⟨x1_2a, x1_2b, x1_2c, x1_2d, x1_2e, x1_2f⟩ := cells5 (HO1.out.blk 2 rfl).1
  go_wp2_with fail
  refine (HH.out _).mono ?_
  rintro e w2 ⟨rfl, k2⟩
  have HO2 := Lib.hid (HO1.out.kn k2)
  clear k2 HO1 x1_0a x1_0b x1_0c x1_0d x1_0e x1_0f x1_1a x1_1b x1_1c x1_1d x1_1e x1_1f x1_1g x1_1h x1_1i x1_1j x1_1k x1_1l x1_1m x1_2a x1_2b x1_2c x1_2d x1_2e x1_2f
  obtain ⟨x2_0a, x2_0b, x2_0c, x2_0d, x2_0e, x2_0f⟩ := cells5 (HO2.out.blk 0 rfl).1
  obtain ⟨x2_1a, x2_1b, x2_1c, x2_1d, x2_1e, x2_1f, x2_1g, x2_1h, x2_1i, x2_1j, x2_1k, x2_1l, x2_1m⟩ := cells12 (HO2.out.blk 1 rfl).1
  obtain ⟨x2_2a, x2_2b, x2_2c, x2_2d, x2_2e, x2_2f⟩ := cells5 (HO2.out.blk 2 rfl).1
  go_wp2_with fail
  refine (must_no 73 (by decide) _).mono ?_
  rintro e wm ⟨rfl, rfl⟩
  exact ⟨rfl, .inr ⟨by decide, rfl, HO2.out.old⟩⟩
set_option maxHeartbeats 1000000 in
theorem apply_2yes (lf : Bool) (lo hi : ByteArray) (r : Int) (l : List En) (ek : ByteArray) (es eg ec : Int) (key : ByteArray) (pg : Int) (lf2 : Bool) (lo2 hi2 : ByteArray) (r2 : Int) (l2 : List En) (hc : checkD ⟨2, ⟨ek, ⟨es, eg⟩, ec⟩, key, pg, ⟨lf2, lo2, hi2, r2, l2⟩⟩ = 0) (hin : inR lo hi key = true) (hm : (removeP ⟨lf, lo, hi, r, l⟩ key).2 = 0) (w : World) {v u : Value} (hr : Rl En.enc 4 w v l) (hs : Rl En.enc 4 w u l2) (hl2 : l2.length ≤ maxLen) (hb : l.length * 40 ≤ 140737488355328) :
    Calls Try.prog 35 #[pgv ⟨lf, lo, hi, r, l⟩ v, dlv ⟨2, ⟨ek, ⟨es, eg⟩, ec⟩, key, pg, ⟨lf2, lo2, hi2, r2, l2⟩⟩ u] w (GaveA (applyD ⟨lf, lo, hi, r, l⟩ ⟨2, ⟨ek, ⟨es, eg⟩, ec⟩, key, pg, ⟨lf2, lo2, hi2, r2, l2⟩⟩) w) := by
  have HV := Lib.hid (show applyD ⟨lf, lo, hi, r, l⟩ ⟨2, ⟨ek, ⟨es, eg⟩, ec⟩, key, pg, ⟨lf2, lo2, hi2, r2, l2⟩⟩ = removeP ⟨lf, lo, hi, r, l⟩ key from by unfold applyD; simp [hc, hin, hm])
  obtain ⟨a0, c0, rfl, hc0, hrd⟩ := hr
  obtain ⟨aD, cD, rfl, hcD, hsd⟩ := hs
  have HC := Lib.hid (fun W (k' : KN w W) => check_delta ⟨2, ⟨ek, ⟨es, eg⟩, ec⟩, key, pg, ⟨lf2, lo2, hi2, r2, l2⟩⟩ W ((Rl.of_rd hsd hcD).kn k') hl2)
  rw [hc] at HC
  have HR := Lib.hid (Rl.of_rd hrd hc0)
  have HR2 := Lib.hid (Rl.of_rd hsd hcD)
  clear hrd hsd
  rw [HV.out]
  unfold dlv at HC ⊢
  simp only at HC ⊢
  clear hc HV
  have HH := Lib.hid (fun W => hin ▸ has_k lf lo hi r (.slice a0 l.length c0) key W)
  have HP := Lib.hid (fun W (k' : KN w W) => remove_page ⟨lf, lo, hi, r, l⟩ key W (HR.out.kn k') hb)
  obtain ⟨⟨⟨qf, qlo, qh, qr, ql⟩, qc⟩, hq⟩ : ∃ q, removeP ⟨lf, lo, hi, r, l⟩ key = q := ⟨_, rfl⟩
  rw [hq] at HP hm ⊢
  simp only at hm
  clear hq
  subst hm
  have HO0 := Lib.hid ((One.nil w).alloc3 (.cells #[.bool lf, .string lo, .string hi, .int .i64 r, .slice a0 l.length c0] 24) (.cells #[.int .i64 2, .string ek, .int .i64 es, .int .i64 eg, .int .i64 ec, .string key, .int .i64 pg, .bool lf2, .string lo2, .string hi2, .int .i64 r2, .slice aD l2.length cD] 30) (.cells #[.bool false, .string ⟨#[]⟩, .string ⟨#[]⟩, .int .i64 0, .slice none 0 0] 24))
  go_enter Try.func35, Try.ntmps35
  obtain ⟨x0_0a, x0_0b, x0_0c, x0_0d, x0_0e, x0_0f⟩ := cells5 (HO0.out.blk 0 rfl).1
  obtain ⟨x0_1a, x0_1b, x0_1c, x0_1d, x0_1e, x0_1f, x0_1g, x0_1h, x0_1i, x0_1j, x0_1k, x0_1l, x0_1m⟩ := cells12 (HO0.out.blk 1 rfl).1
  obtain ⟨x0_2a, x0_2b, x0_2c, x0_2d, x0_2e, x0_2f⟩ := cells5 (HO0.out.blk 2 rfl).1
  go_wp2_with fail
  refine (HC.out _ HO0.out.old).mono ?_
  rintro e w1 ⟨rfl, k1⟩
  have HO1 := Lib.hid (HO0.out.kn k1)
  clear k1 HO0 x0_0a x0_0b x0_0c x0_0d x0_0e x0_0f x0_1a x0_1b x0_1c x0_1d x0_1e x0_1f x0_1g x0_1h x0_1i x0_1j x0_1k x0_1l x0_1m x0_2a x0_2b x0_2c x0_2d x0_2e x0_2f
  go_wp2_with fail
  refine (must_ok _).mono ?_
  rintro e wm ⟨rfl, rfl⟩
  obtain ⟨x1_0a, x1_0b, x1_0c, x1_0d, x1_0e, x1_0f⟩ := cells5 (HO1.out.blk 0 rfl).1
  obtain ⟨x1_1a, x1_1b, x1_1c, x1_1d, x1_1e, x1_1f, x1_1g, x1_1h, x1_1i, x1_1j, x1_1k, x1_1l, x1_1m⟩ := cells12 (HO1.out.blk 1 rfl).1
  obtain ⟨x1_2a, x1_2b, x1_2c, x1_2d, x1_2e, x1_2f⟩ := cells5 (HO1.out.blk 2 rfl).1
  go_wp2_with fail
  refine (HH.out _).mono ?_
  rintro e w2 ⟨rfl, k2⟩
  have HO2 := Lib.hid (HO1.out.kn k2)
  clear k2 HO1 x1_0a x1_0b x1_0c x1_0d x1_0e x1_0f x1_1a x1_1b x1_1c x1_1d x1_1e x1_1f x1_1g x1_1h x1_1i x1_1j x1_1k x1_1l x1_1m x1_2a x1_2b x1_2c x1_2d x1_2e x1_2f
  obtain ⟨x2_0a, x2_0b, x2_0c, x2_0d, x2_0e, x2_0f⟩ := cells5 (HO2.out.blk 0 rfl).1
  obtain ⟨x2_1a, x2_1b, x2_1c, x2_1d, x2_1e, x2_1f, x2_1g, x2_1h, x2_1i, x2_1j, x2_1k, x2_1l, x2_1m⟩ := cells12 (HO2.out.blk 1 rfl).1
  obtain ⟨x2_2a, x2_2b, x2_2c, x2_2d, x2_2e, x2_2f⟩ := cells5 (HO2.out.blk 2 rfl).1
  go_wp2_with fail
  refine (HP.out _ HO2.out.old).mono ?_
  rintro e w3 ⟨a3, c3, rfl, k3⟩
  have HO3 := Lib.hid (HO2.out.add k3)
  clear k3 HO2 x2_0a x2_0b x2_0c x2_0d x2_0e x2_0f x2_1a x2_1b x2_1c x2_1d x2_1e x2_1f x2_1g x2_1h x2_1i x2_1j x2_1k x2_1l x2_1m x2_2a x2_2b x2_2c x2_2d x2_2e x2_2f
  go_upto_region 11 with fail
  have HO4 := Lib.hid (HO3.out.alloc (.cells #[.bool qf, .string qlo, .string qh, .int .i64 qr, .slice a3 ql.length c3] 24))
  clear HO3 
  generalize (w3.alloc (.cells #[.bool qf, .string qlo, .string qh, .int .i64 qr, .slice a3 ql.length c3] 24)) = w4 at *
  generalize w3.heap.size = g4 at *
  obtain ⟨x4_0a, x4_0b, x4_0c, x4_0d, x4_0e, x4_0f⟩ := cells5 (HO4.out.blk 0 rfl).1
  obtain ⟨x4_2a, x4_2b, x4_2c, x4_2d, x4_2e, x4_2f⟩ := cells5 (HO4.out.blk 2 rfl).1
  obtain ⟨x4_3a, x4_3b, x4_3c, x4_3d, x4_3e, x4_3f, x4_3g, x4_3h, x4_3i, x4_3j, x4_3k, x4_3l, x4_3m⟩ := cells12 (HO4.out.blk 3 rfl).1
  obtain ⟨x4_4a, x4_4b, x4_4c, x4_4d, x4_4e, x4_4f⟩ := cells5 (HO4.out.blk 4 rfl).1
  go_wp2_with fail
  have HO5 := Lib.hid (show One w (((((w4.setCell ⟨w.heap.size + 1 + 1, 0, none⟩ (.bool qf)).setCell ⟨w.heap.size + 1 + 1, 1, none⟩ (.string qlo)).setCell ⟨w.heap.size + 1 + 1, 2, none⟩ (.string qh)).setCell ⟨w.heap.size + 1 + 1, 3, none⟩ (.int .i64 qr)).setCell ⟨w.heap.size + 1 + 1, 4, none⟩ (.slice a3 ql.length c3)) [Blk (g4) (.cells #[.bool qf, .string qlo, .string qh, .int .i64 qr, .slice a3 ql.length c3] 24), RowE a3 c3 ql, Blk (w.heap.size + 1 + 1) (.cells #[.bool qf, .string qlo, .string qh, .int .i64 qr, .slice a3 ql.length c3] 24), Blk (w.heap.size + 1) (.cells #[.int .i64 2, .string ek, .int .i64 es, .int .i64 eg, .int .i64 ec, .string key, .int .i64 pg, .bool lf2, .string lo2, .string hi2, .int .i64 r2, .slice aD l2.length cD] 30), Blk (w.heap.size) (.cells #[.bool lf, .string lo, .string hi, .int .i64 r, .slice a0 l.length c0] 24)] from HO4.out.set5 2 rfl (.bool qf) (.string qlo) (.string qh) (.int .i64 qr) (.slice a3 ql.length c3))
  clear HO4 x4_0a x4_0b x4_0c x4_0d x4_0e x4_0f x4_2a x4_2b x4_2c x4_2d x4_2e x4_2f x4_3a x4_3b x4_3c x4_3d x4_3e x4_3f x4_3g x4_3h x4_3i x4_3j x4_3k x4_3l x4_3m x4_4a x4_4b x4_4c x4_4d x4_4e x4_4f
  generalize (((((w4.setCell ⟨w.heap.size + 1 + 1, 0, none⟩ (.bool qf)).setCell ⟨w.heap.size + 1 + 1, 1, none⟩ (.string qlo)).setCell ⟨w.heap.size + 1 + 1, 2, none⟩ (.string qh)).setCell ⟨w.heap.size + 1 + 1, 3, none⟩ (.int .i64 qr)).setCell ⟨w.heap.size + 1 + 1, 4, none⟩ (.slice a3 ql.length c3)) = w5 at *
  exact bodyPost_ret (res_c1 rfl rfl (load_pg (HO5.out.blk 2 rfl).1)) rfl (.inl ⟨rfl, _, _, rfl, HO5.out.post 1 rfl⟩)
set_option maxHeartbeats 1000000 in
theorem apply_2none (lf : Bool) (lo hi : ByteArray) (r : Int) (l : List En) (ek : ByteArray) (es eg ec : Int) (key : ByteArray) (pg : Int) (lf2 : Bool) (lo2 hi2 : ByteArray) (r2 : Int) (l2 : List En) (hc : checkD ⟨2, ⟨ek, ⟨es, eg⟩, ec⟩, key, pg, ⟨lf2, lo2, hi2, r2, l2⟩⟩ = 0) (hin : inR lo hi key = true) (hm : (removeP ⟨lf, lo, hi, r, l⟩ key).2 ≠ 0) (w : World) {v u : Value} (hr : Rl En.enc 4 w v l) (hs : Rl En.enc 4 w u l2) (hl2 : l2.length ≤ maxLen) (hb : l.length * 40 ≤ 140737488355328) :
    Calls Try.prog 35 #[pgv ⟨lf, lo, hi, r, l⟩ v, dlv ⟨2, ⟨ek, ⟨es, eg⟩, ec⟩, key, pg, ⟨lf2, lo2, hi2, r2, l2⟩⟩ u] w (GaveA (applyD ⟨lf, lo, hi, r, l⟩ ⟨2, ⟨ek, ⟨es, eg⟩, ec⟩, key, pg, ⟨lf2, lo2, hi2, r2, l2⟩⟩) w) := by
  have HV := Lib.hid (show applyD ⟨lf, lo, hi, r, l⟩ ⟨2, ⟨ek, ⟨es, eg⟩, ec⟩, key, pg, ⟨lf2, lo2, hi2, r2, l2⟩⟩ = (⟨lf, lo, hi, r, l⟩, 0) from by unfold applyD; simp [hc, hin, hm])
  obtain ⟨a0, c0, rfl, hc0, hrd⟩ := hr
  obtain ⟨aD, cD, rfl, hcD, hsd⟩ := hs
  have HC := Lib.hid (fun W (k' : KN w W) => check_delta ⟨2, ⟨ek, ⟨es, eg⟩, ec⟩, key, pg, ⟨lf2, lo2, hi2, r2, l2⟩⟩ W ((Rl.of_rd hsd hcD).kn k') hl2)
  rw [hc] at HC
  have HR := Lib.hid (Rl.of_rd hrd hc0)
  have HR2 := Lib.hid (Rl.of_rd hsd hcD)
  clear hrd hsd
  rw [HV.out]
  unfold dlv at HC ⊢
  simp only at HC ⊢
  clear hc HV
  have HH := Lib.hid (fun W => hin ▸ has_k lf lo hi r (.slice a0 l.length c0) key W)
  have HP := Lib.hid (fun W (k' : KN w W) => remove_page ⟨lf, lo, hi, r, l⟩ key W (HR.out.kn k') hb)
  obtain ⟨⟨⟨qf, qlo, qh, qr, ql⟩, qc⟩, hq⟩ : ∃ q, removeP ⟨lf, lo, hi, r, l⟩ key = q := ⟨_, rfl⟩
  rw [hq] at HP hm
  simp only at hm
  clear hq
  have hq0 : (qc == 0) = false := beq_false_of_ne hm
  have HCl := Lib.hid (fun W (k' : KN w W) => clone_page ⟨lf, lo, hi, r, l⟩ W (HR.out.kn k') (by show l.length ≤ maxLen; unfold maxLen; omega) hb)
  have HO0 := Lib.hid ((One.nil w).alloc3 (.cells #[.bool lf, .string lo, .string hi, .int .i64 r, .slice a0 l.length c0] 24) (.cells #[.int .i64 2, .string ek, .int .i64 es, .int .i64 eg, .int .i64 ec, .string key, .int .i64 pg, .bool lf2, .string lo2, .string hi2, .int .i64 r2, .slice aD l2.length cD] 30) (.cells #[.bool false, .string ⟨#[]⟩, .string ⟨#[]⟩, .int .i64 0, .slice none 0 0] 24))
  go_enter Try.func35, Try.ntmps35
  obtain ⟨x0_0a, x0_0b, x0_0c, x0_0d, x0_0e, x0_0f⟩ := cells5 (HO0.out.blk 0 rfl).1
  obtain ⟨x0_1a, x0_1b, x0_1c, x0_1d, x0_1e, x0_1f, x0_1g, x0_1h, x0_1i, x0_1j, x0_1k, x0_1l, x0_1m⟩ := cells12 (HO0.out.blk 1 rfl).1
  obtain ⟨x0_2a, x0_2b, x0_2c, x0_2d, x0_2e, x0_2f⟩ := cells5 (HO0.out.blk 2 rfl).1
  go_wp2_with fail
  refine (HC.out _ HO0.out.old).mono ?_
  rintro e w1 ⟨rfl, k1⟩
  have HO1 := Lib.hid (HO0.out.kn k1)
  clear k1 HO0 x0_0a x0_0b x0_0c x0_0d x0_0e x0_0f x0_1a x0_1b x0_1c x0_1d x0_1e x0_1f x0_1g x0_1h x0_1i x0_1j x0_1k x0_1l x0_1m x0_2a x0_2b x0_2c x0_2d x0_2e x0_2f
  go_wp2_with fail
  refine (must_ok _).mono ?_
  rintro e wm ⟨rfl, rfl⟩
  obtain ⟨x1_0a, x1_0b, x1_0c, x1_0d, x1_0e, x1_0f⟩ := cells5 (HO1.out.blk 0 rfl).1
  obtain ⟨x1_1a, x1_1b, x1_1c, x1_1d, x1_1e, x1_1f, x1_1g, x1_1h, x1_1i, x1_1j, x1_1k, x1_1l, x1_1m⟩ := cells12 (HO1.out.blk 1 rfl).1
  obtain ⟨x1_2a, x1_2b, x1_2c, x1_2d, x1_2e, x1_2f⟩ := cells5 (HO1.out.blk 2 rfl).1
  go_wp2_with fail
  refine (HH.out _).mono ?_
  rintro e w2 ⟨rfl, k2⟩
  have HO2 := Lib.hid (HO1.out.kn k2)
  clear k2 HO1 x1_0a x1_0b x1_0c x1_0d x1_0e x1_0f x1_1a x1_1b x1_1c x1_1d x1_1e x1_1f x1_1g x1_1h x1_1i x1_1j x1_1k x1_1l x1_1m x1_2a x1_2b x1_2c x1_2d x1_2e x1_2f
  obtain ⟨x2_0a, x2_0b, x2_0c, x2_0d, x2_0e, x2_0f⟩ := cells5 (HO2.out.blk 0 rfl).1
  obtain ⟨x2_1a, x2_1b, x2_1c, x2_1d, x2_1e, x2_1f, x2_1g, x2_1h, x2_1i, x2_1j, x2_1k, x2_1l, x2_1m⟩ := cells12 (HO2.out.blk 1 rfl).1
  obtain ⟨x2_2a, x2_2b, x2_2c, x2_2d, x2_2e, x2_2f⟩ := cells5 (HO2.out.blk 2 rfl).1
  go_wp2_with fail
  refine (HP.out _ HO2.out.old).mono ?_
  rintro e w3 ⟨a3, c3, rfl, k3⟩
  have HO3 := Lib.hid (HO2.out.add k3)
  clear k3 HO2 x2_0a x2_0b x2_0c x2_0d x2_0e x2_0f x2_1a x2_1b x2_1c x2_1d x2_1e x2_1f x2_1g x2_1h x2_1i x2_1j x2_1k x2_1l x2_1m x2_2a x2_2b x2_2c x2_2d x2_2e x2_2f
  go_upto_region 11 with fail
  have HO4 := Lib.hid (HO3.out.alloc (.cells #[.bool qf, .string qlo, .string qh, .int .i64 qr, .slice a3 ql.length c3] 24))
  clear HO3 
  generalize (w3.alloc (.cells #[.bool qf, .string qlo, .string qh, .int .i64 qr, .slice a3 ql.length c3] 24)) = w4 at *
  generalize w3.heap.size = g4 at *
  obtain ⟨x4_0a, x4_0b, x4_0c, x4_0d, x4_0e, x4_0f⟩ := cells5 (HO4.out.blk 0 rfl).1
  obtain ⟨x4_2a, x4_2b, x4_2c, x4_2d, x4_2e, x4_2f⟩ := cells5 (HO4.out.blk 2 rfl).1
  obtain ⟨x4_3a, x4_3b, x4_3c, x4_3d, x4_3e, x4_3f, x4_3g, x4_3h, x4_3i, x4_3j, x4_3k, x4_3l, x4_3m⟩ := cells12 (HO4.out.blk 3 rfl).1
  obtain ⟨x4_4a, x4_4b, x4_4c, x4_4d, x4_4e, x4_4f⟩ := cells5 (HO4.out.blk 4 rfl).1
  go_wp2_with fail
  refine (HCl.out _ HO4.out.old).mono ?_
  rintro e w5 ⟨a5, c5, rfl, k5⟩
  have HO5 := Lib.hid (HO4.out.add k5)
  clear k5 HO4 x4_0a x4_0b x4_0c x4_0d x4_0e x4_0f x4_2a x4_2b x4_2c x4_2d x4_2e x4_2f x4_3a x4_3b x4_3c x4_3d x4_3e x4_3f x4_3g x4_3h x4_3i x4_3j x4_3k x4_3l x4_3m x4_4a x4_4b x4_4c x4_4d x4_4e x4_4f
  obtain ⟨x5_1a, x5_1b, x5_1c, x5_1d, x5_1e, x5_1f⟩ := cells5 (HO5.out.blk 1 rfl).1
  obtain ⟨x5_3a, x5_3b, x5_3c, x5_3d, x5_3e, x5_3f⟩ := cells5 (HO5.out.blk 3 rfl).1
  obtain ⟨x5_4a, x5_4b, x5_4c, x5_4d, x5_4e, x5_4f, x5_4g, x5_4h, x5_4i, x5_4j, x5_4k, x5_4l, x5_4m⟩ := cells12 (HO5.out.blk 4 rfl).1
  obtain ⟨x5_5a, x5_5b, x5_5c, x5_5d, x5_5e, x5_5f⟩ := cells5 (HO5.out.blk 5 rfl).1
  go_wp2_with fail
  have HO6 := Lib.hid (show One w (((((w5.setCell ⟨w.heap.size + 1 + 1, 0, none⟩ (.bool lf)).setCell ⟨w.heap.size + 1 + 1, 1, none⟩ (.string lo)).setCell ⟨w.heap.size + 1 + 1, 2, none⟩ (.string hi)).setCell ⟨w.heap.size + 1 + 1, 3, none⟩ (.int .i64 r)).setCell ⟨w.heap.size + 1 + 1, 4, none⟩ (.slice a5 l.length c5)) [RowE a5 c5 l, Blk (g4) (.cells #[.bool qf, .string qlo, .string qh, .int .i64 qr, .slice a3 ql.length c3] 24), RowE a3 c3 ql, Blk (w.heap.size + 1 + 1) (.cells #[.bool lf, .string lo, .string hi, .int .i64 r, .slice a5 l.length c5] 24), Blk (w.heap.size + 1) (.cells #[.int .i64 2, .string ek, .int .i64 es, .int .i64 eg, .int .i64 ec, .string key, .int .i64 pg, .bool lf2, .string lo2, .string hi2, .int .i64 r2, .slice aD l2.length cD] 30), Blk (w.heap.size) (.cells #[.bool lf, .string lo, .string hi, .int .i64 r, .slice a0 l.length c0] 24)] from HO5.out.set5 3 rfl (.bool lf) (.string lo) (.string hi) (.int .i64 r) (.slice a5 l.length c5))
  clear HO5 x5_1a x5_1b x5_1c x5_1d x5_1e x5_1f x5_3a x5_3b x5_3c x5_3d x5_3e x5_3f x5_4a x5_4b x5_4c x5_4d x5_4e x5_4f x5_4g x5_4h x5_4i x5_4j x5_4k x5_4l x5_4m x5_5a x5_5b x5_5c x5_5d x5_5e x5_5f
  generalize (((((w5.setCell ⟨w.heap.size + 1 + 1, 0, none⟩ (.bool lf)).setCell ⟨w.heap.size + 1 + 1, 1, none⟩ (.string lo)).setCell ⟨w.heap.size + 1 + 1, 2, none⟩ (.string hi)).setCell ⟨w.heap.size + 1 + 1, 3, none⟩ (.int .i64 r)).setCell ⟨w.heap.size + 1 + 1, 4, none⟩ (.slice a5 l.length c5)) = w6 at *
  exact bodyPost_ret (res_c1 rfl rfl (load_pg (HO6.out.blk 3 rfl).1)) rfl (.inl ⟨rfl, _, _, rfl, HO6.out.post 0 rfl⟩)
end Go.Proofs.Ytkdlodjpambelaa

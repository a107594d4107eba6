/- cressetref09.Gone, Look. -/
import Derived.Test.YtkdlodjpambelaaFoldR
import Derived.Test.YtkdlodjpambelaaLookP
import Derived.Test.YtkdlodjpambelaaDeltaM
namespace Go.Proofs.Ytkdlodjpambelaa
set_option linter.unusedVariables false
set_option linter.unusedSimpArgs false
open Go Go.RowKit

def GaveG (x : Option Int) (w : World) (e : Ending) (w' : World) : Prop := e = .returned (.tuple #[.int .i64 (x.getD 0), .bool x.isSome]) ∧ KN w w'
theorem gone_nil (w : World) (ua : Option Addr) (uc : Nat) : Calls Try.prog 39 #[.slice ua 0 uc] w (GaveG none w) := by
  go_enter Try.func39, Try.ntmps39
  go_wp2
  go_ret2
  exact ⟨rfl, Kp.refl _ _⟩
theorem gone_else (ds : List Dl) (d : Dl) (h0 : ds[0]? = some d) (h5 : d.kind ≠ 5) (w : World) {u : Value} (hd : RlD w u ds) (hl : ds.length ≤ 3518437208883) : Calls Try.prog 39 #[u] w (GaveG none w) := by
  obtain ⟨ua, uc, rfl, huc⟩ := hd.form
  have hlt : (0 : Int) < (ds.length : Int) := by
    have := (List.getElem?_eq_some_iff.1 h0).1
    omega
  have e5 : (d.kind != 5) = true := by simpa using h5
  obtain ⟨b, off, va, vn, vc, rfl, _, hrd, d0, d1, d2, d3, d4, d5, d6, d7, d8, d9, da, db⟩ := hd.at h0
  have e0 : ((ds.length : Int) == 0) = false := beq_false_of_ne (by omega)
  simp only [Nat.zero_mul, Nat.add_zero] at d0 d1 d2 d3 d4 d5 d6 d7 d8 d9 da db
  clear hrd hd h0 d1 d2 d3 d4 d5 d6 d7 d8 d9 da db
  go_enter Try.func39, Try.ntmps39
  go_wp2
  go_ret2
  exact ⟨rfl, Kp.refl _ _⟩
theorem gone_five (ds : List Dl) (ent : En) (dk : ByteArray) (dp : Int) (rt : Pg) (h0 : ds[0]? = some ⟨5, ent, dk, dp, rt⟩) (w : World) {u : Value} (hd : RlD w u ds) (hl : ds.length ≤ 3518437208883) (hlr : rt.list.length ≤ maxLen) : Calls Try.prog 39 #[u] w (GaveG (if checkD ⟨5, ent, dk, dp, rt⟩ = 0 then some dp else none) w) := by
  obtain ⟨ua, uc, rfl, huc⟩ := hd.form
  have hlt : (0 : Int) < (ds.length : Int) := by
    have := (List.getElem?_eq_some_iff.1 h0).1
    omega
  have e0 : ((ds.length : Int) == 0) = false := beq_false_of_ne (by omega)
  obtain ⟨b, off, va, vn, vc, rfl, _, hrd, d0, d1, d2, d3, d4, d5, d6, d7, d8, d9, da, db⟩ := hd.at h0
  simp only [Nat.zero_mul, Nat.add_zero] at d0 d1 d2 d3 d4 d5 d6 d7 d8 d9 da db
  simp only at hrd d0 d1 d2 d3 d4 d5 d6 d7 d8 d9 da db
  have HC := Lib.hid (check_dref ⟨5, ent, dk, dp, rt⟩ w hrd hlr)
  obtain ⟨cv, hcv⟩ : ∃ x, checkD ⟨5, ent, dk, dp, rt⟩ = x := ⟨_, rfl⟩
  rw [hcv] at HC ⊢
  unfold dlv at HC
  simp only at HC
  have HD6 := Lib.hid d6
  clear hrd hd h0 hcv
  by_cases hc : cv = 0
  · subst hc
    go_enter Try.func39, Try.ntmps39
    go_wp2_with fail
    refine HC.out.mono ?_
    rintro e w1 ⟨rfl, k1⟩
    have q6 := cell_kp k1 id HD6.out
    clear d0 d1 d2 d3 d4 d5 d6 d7 d8 d9 da db
    go_wp2
    go_ret2
    exact ⟨rfl, k1⟩
  · have hc1 : (cv != 0) = true := by simpa using hc
    rw [if_neg hc]
    go_enter Try.func39, Try.ntmps39
    go_wp2_with fail
    refine HC.out.mono ?_
    rintro e w1 ⟨rfl, k1⟩
    clear d0 d1 d2 d3 d4 d5 d6 d7 d8 d9 da db
    go_wp2
    go_ret2
    exact ⟨rfl, k1⟩
theorem gone_ref (ds : List Dl) (w : World) {u : Value} (hd : RlD w u ds) (hb : sumD ds ≤ 3518437208883) : Calls Try.prog 39 #[u] w (GaveG (goneD ds) w) := by
  have hls := len_sumD ds
  cases ds with
  | nil =>
    obtain ⟨ua, uc, rfl, huc⟩ := hd.form
    exact gone_nil w ua uc
  | cons d l =>
    unfold goneD
    by_cases h5 : d.kind = 5
    · obtain ⟨k, ent, dk, dp, rt⟩ := d
      simp only at h5
      subst h5
      simp only [true_and]
      exact gone_five _ ent dk dp rt rfl w hd (by omega) (by have := right_sumD (List.mem_cons_self (a := (⟨5, ent, dk, dp, rt⟩ : Dl)) (l := l)); simp only at this; unfold maxLen; omega)
    · simp only [h5, false_and, if_false]; exact gone_else _ d rfl h5 w hd (by omega)
set_option maxHeartbeats 1000000 in
theorem look_ref (p : Pg) (key : ByteArray) (ds : List Dl) (w : World) {v u : Value} (hr : Rl En.enc 4 w v p.list) (hd : RlD w u ds) (hb : (p.list.length + sumD ds) * 40 ≤ 140737488355328) : Calls Try.prog 16 #[pgv p v, .string key, u] w (GaveS (lookD p key ds) w) := by
  obtain ⟨ua, uc, rfl, huc⟩ := hd.form
  have hsum : p.list.length + sumD ds ≤ 3518437208883 := by omega
  have hls := len_sumD ds
  have hql := foldD_len p ds
  have hlen : ds.length ≤ 3518437208883 := by omega
  have HD := Lib.hid hd
  have HFo := Lib.hid (fun W (k : KN w W) => fold_ref p ds W (hr.kn k) (hd.kn k) hb)
  clear hd
  obtain ⟨a0, c0, rfl, hc0, hrd⟩ := hr
  clear hrd hb
  obtain ⟨⟨⟨qf, qlo, qh, qr, ql⟩, qc⟩, hq⟩ : ∃ q, foldD p ds = q := ⟨_, rfl⟩
  rw [hq] at HFo hql
  simp only at hql
  have hql2 : ql.length ≤ 3518437208883 := Nat.le_trans hql hsum
  clear hql
  have HH := Lib.hid (fun W r v => has_r qf qlo qh r v key W)
  have HO := Lib.hid ((One.nil w).alloc2 (.cells #[.bool p.leaf, .string p.low, .string p.high, .int .i64 p.right, .slice a0 p.list.length c0] 24) (.cells #[.string ⟨#[]⟩, .int .i64 0, .int .i64 0, .int .i64 0, .bool false, .int .i64 0] 41))
  have HG := Lib.hid (fun W (k : KN w W) => gone_ref ds W (HD.out.kn k) (Nat.le_trans (Nat.le_add_left _ _) hsum))
  rw [lookD_eq, hq]
  obtain ⟨gv, hg⟩ : ∃ x, goneD ds = x := ⟨_, rfl⟩
  rw [hg] at HG ⊢
  clear hq hg
  go_enter Try.func16, Try.ntmps16
  obtain ⟨x0, x1, x2, x3, x4, xf⟩ := cells5 (HO.out.blk 1 rfl).1
  go_wp2_with fail
  refine (HG.out _ HO.out.old).mono ?_
  rintro e w1 ⟨rfl, k1⟩
  have HX := Lib.hid (HO.out.kn k1)
  clear k1 HO x0 x1 x2 x3 x4 xf
  cases gv with
  | some n =>
    obtain ⟨z0, z1, z2, z3, z4, z5, zf⟩ := cells6 (HX.out.blk 0 rfl).1
    go_wp2_with fail
    have HZ := Lib.hid (HX.out.set6 0 rfl (.string ⟨#[]⟩) (.int .i64 0) (.int .i64 0) (.int .i64 0) (.bool false) (.int .i64 n))
    show bodyPost Try.prog Try.f16 (GaveS _ w) Exit.ret _ _
    exact bodyPost_ret (res_c1t rfl rfl (load_sp (HZ.out.blk 0 rfl).1) rfl) rfl (by exact ⟨rfl, HZ.out.old⟩)
  | none =>
    simp only [Option.getD_none, Option.isSome_none]
    obtain ⟨x0, x1, x2, x3, x4, xf⟩ := cells5 (HX.out.blk 1 rfl).1
    go_wp2_with fail
    clear x0 x1 x2 x3 x4 xf
    refine (HFo.out _ HX.out.old).mono ?_
    rintro e w2 ⟨v2, rfl, hr2, k2⟩
    obtain ⟨a2, c2, hv2, _⟩ := hr2.form
    simp only at hv2 hr2
    subst hv2
    have HQ := Lib.hid hr2
    have H2 := Lib.hid (HX.out.kn k2)
    clear hr2 k2
    go_upto_region 5 with fail
    have H3 := Lib.hid (H2.out.alloc (.cells #[.bool qf, .string qlo, .string qh, .int .i64 qr, .slice a2 ql.length c2] 24))
    have HQ3 := Lib.hid (HQ.out.kn (kn_alloc w2 (.cells #[.bool qf, .string qlo, .string qh, .int .i64 qr, .slice a2 ql.length c2] 24)))
    clear H2 HQ
    generalize w2.alloc (.cells #[.bool qf, .string qlo, .string qh, .int .i64 qr, .slice a2 ql.length c2] 24) = w3 at *
    generalize w2.heap.size = g3 at *
    obtain ⟨y0, y1, y2, y3, y4, yf⟩ := cells5 (H3.out.blk 0 rfl).1
    obtain ⟨z0, z1, z2, z3, z4, z5, zf⟩ := cells6 (H3.out.blk 1 rfl).1
    by_cases hc : qc = 0
    case neg =>
      have hc0 : (qc != 0) = true := by simpa using hc
      have HL := Lib.hid (show lookQ (⟨qf, qlo, qh, qr, ql⟩, qc) key = (⟨zeroEn, false, 0⟩, qc) from by unfold lookQ; rw [if_pos hc])
      go_wp2_with fail
      have HZ := Lib.hid (H3.out.set6 1 rfl (.string ⟨#[]⟩) (.int .i64 0) (.int .i64 0) (.int .i64 0) (.bool false) (.int .i64 0))
      show bodyPost Try.prog Try.f16 (GaveS _ w) Exit.ret _ _
      exact bodyPost_ret (res_c1t rfl rfl (load_sp (HZ.out.blk 1 rfl).1) rfl) rfl (by rw [HL.out]; exact ⟨rfl, HZ.out.old⟩)
    subst hc
    cases hk : Op.bytesLess key.toList qlo.toList with
    | true =>
      have HL := Lib.hid (show lookQ (⟨qf, qlo, qh, qr, ql⟩, 0) key = (⟨zeroEn, false, 0⟩, 73) from by unfold lookQ; simp [show ltS key qlo = true from hk])
      go_wp2_with fail
      have HZ := Lib.hid (H3.out.set6 1 rfl (.string ⟨#[]⟩) (.int .i64 0) (.int .i64 0) (.int .i64 0) (.bool false) (.int .i64 0))
      show bodyPost Try.prog Try.f16 (GaveS _ w) Exit.ret _ _
      exact bodyPost_ret (res_c1t rfl rfl (load_sp (HZ.out.blk 1 rfl).1) rfl) rfl (by rw [HL.out]; exact ⟨rfl, HZ.out.old⟩)
    | false =>
      have HK := Lib.hid (show ltS key qlo = false from hk)
      go_wp2_with fail
      refine (HH.out _ _ _).mono ?_
      rintro e w4 ⟨rfl, k4⟩
      have H4 := Lib.hid (H3.out.kn k4)
      have HQ4 := Lib.hid (HQ3.out.kn k4)
      clear H3 HQ3 k4 y0 y1 y2 y3 y4 yf z0 z1 z2 z3 z4 z5 zf
      obtain ⟨y0, y1, y2, y3, y4, yf⟩ := cells5 (H4.out.blk 0 rfl).1
      obtain ⟨z0, z1, z2, z3, z4, z5, zf⟩ := cells6 (H4.out.blk 1 rfl).1
      cases hin : inR qlo qh key with
      | false =>
        by_cases h0 : qr = 0
        · subst h0
          have HL := Lib.hid (show lookQ (⟨qf, qlo, qh, 0, ql⟩, 0) key = (⟨zeroEn, false, 0⟩, 73) from by unfold lookQ; simp [HK.out, hin])
          clear hk
          go_wp2_with fail
          have HZ := Lib.hid (H4.out.set6 1 rfl (.string ⟨#[]⟩) (.int .i64 0) (.int .i64 0) (.int .i64 0) (.bool false) (.int .i64 0))
          show bodyPost Try.prog Try.f16 (GaveS _ w) Exit.ret _ _
          exact bodyPost_ret (res_c1t rfl rfl (load_sp (HZ.out.blk 1 rfl).1) rfl) rfl (by rw [HL.out]; exact ⟨rfl, HZ.out.old⟩)
        · have h1 : (qr == 0) = false := beq_false_of_ne h0
          have HL := Lib.hid (show lookQ (⟨qf, qlo, qh, qr, ql⟩, 0) key = (⟨zeroEn, false, qr⟩, 0) from by unfold lookQ; simp [HK.out, hin, h0])
          clear hk
          go_wp2_with fail
          have HZ := Lib.hid (H4.out.set6 1 rfl (.string ⟨#[]⟩) (.int .i64 0) (.int .i64 0) (.int .i64 0) (.bool false) (.int .i64 qr))
          show bodyPost Try.prog Try.f16 (GaveS _ w) Exit.ret _ _
          exact bodyPost_ret (res_c1t rfl rfl (load_sp (HZ.out.blk 1 rfl).1) rfl) rfl (by rw [HL.out]; exact ⟨rfl, HZ.out.old⟩)
      | true =>
        obtain ⟨⟨⟨fk, ⟨fs, fg⟩, fc⟩, ff⟩, hf⟩ : ∃ x, findP ⟨qf, qlo, qh, qr, ql⟩ key = x := ⟨_, rfl⟩
        have HFi := Lib.hid (hf ▸ find_ref ⟨qf, qlo, qh, qr, ql⟩ key w4 HQ4.out (by show ql.length ≤ maxLen; unfold maxLen; omega))
        have HL := Lib.hid (show lookQ (⟨qf, qlo, qh, qr, ql⟩, 0) key = if qf then (⟨⟨fk, ⟨fs, fg⟩, fc⟩, ff, 0⟩, 0) else if ff = false then (⟨zeroEn, false, 0⟩, 73) else (⟨⟨fk, ⟨fs, fg⟩, fc⟩, true, fc⟩, 0) from by unfold lookQ; simp [HK.out, hin, hf])
        clear hf hk hin
        go_wp2_with fail
        refine HFi.out.mono ?_
        rintro e w5 ⟨rfl, k5⟩
        have H5 := Lib.hid (H4.out.kn k5)
        clear H4 HQ4 k5 y0 y1 y2 y3 y4 yf z0 z1 z2 z3 z4 z5 zf
        go_upto_region 14 with fail
        have H6 := Lib.hid (H5.out.alloc (.cells #[.string fk, .int .i64 fs, .int .i64 fg, .int .i64 fc] 28))
        clear H5
        generalize w5.alloc (.cells #[.string fk, .int .i64 fs, .int .i64 fg, .int .i64 fc] 28) = w6 at *
        generalize w5.heap.size = g6 at *
        obtain ⟨y0, y1, y2, y3, y4, yf⟩ := cells5 (H6.out.blk 1 rfl).1
        obtain ⟨z0, z1, z2, z3, z4, z5, zf⟩ := cells6 (H6.out.blk 2 rfl).1
        obtain ⟨e0, e1, e2, e3, ef⟩ := cells4 (H6.out.blk 0 rfl).1
        cases qf with
        | true =>
          go_wp2_with fail
          have HZ := Lib.hid (H6.out.set6 2 rfl (.string fk) (.int .i64 fs) (.int .i64 fg) (.int .i64 fc) (.bool ff) (.int .i64 0))
          show bodyPost Try.prog Try.f16 (GaveS _ w) Exit.ret _ _
          exact bodyPost_ret (res_c1t rfl rfl (load_sp (HZ.out.blk 2 rfl).1) rfl) rfl (by rw [HL.out]; exact ⟨rfl, HZ.out.old⟩)
        | false =>
          cases ff with
          | false =>
            go_wp2_with fail
            have HZ := Lib.hid (H6.out.set6 2 rfl (.string ⟨#[]⟩) (.int .i64 0) (.int .i64 0) (.int .i64 0) (.bool false) (.int .i64 0))
            show bodyPost Try.prog Try.f16 (GaveS _ w) Exit.ret _ _
            exact bodyPost_ret (res_c1t rfl rfl (load_sp (HZ.out.blk 2 rfl).1) rfl) rfl (by rw [HL.out]; exact ⟨rfl, HZ.out.old⟩)
          | true =>
            go_wp2_with fail
            have HZ := Lib.hid (H6.out.set6 2 rfl (.string fk) (.int .i64 fs) (.int .i64 fg) (.int .i64 fc) (.bool true) (.int .i64 fc))
            show bodyPost Try.prog Try.f16 (GaveS _ w) Exit.ret _ _
            exact bodyPost_ret (res_c1t rfl rfl (load_sp (HZ.out.blk 2 rfl).1) rfl) rfl (by rw [HL.out]; exact ⟨rfl, HZ.out.old⟩)
end Go.Proofs.Ytkdlodjpambelaa

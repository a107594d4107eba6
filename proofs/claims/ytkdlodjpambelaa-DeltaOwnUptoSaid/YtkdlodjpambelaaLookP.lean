/- delta.Look. -/
import Derived.Test.YtkdlodjpambelaaDeltaF
import Derived.Test.YtkdlodjpambelaaFoldP
import Derived.Test.YtkdlodjpambelaaDeltaK
import Derived.Test.YtkdlodjpambelaaFindP
import Derived.Test.YtkdlodjpambelaaKeys1
import Derived.WalkMore
namespace Go.Proofs.Ytkdlodjpambelaa
set_option linter.unusedVariables false
set_option linter.unusedSimpArgs false
open Go Go.RowKit

theorem cells6 {w : World} {b : Nat} {T : TypeId} {v0 v1 v2 v3 v4 v5 : Value} (h : w.heap[b]? = some (.cells #[v0, v1, v2, v3, v4, v5] T (0, 0))) : w.cell? ⟨b, 0, none⟩ = some v0 ∧ w.cell? ⟨b, 1, none⟩ = some v1 ∧ w.cell? ⟨b, 2, none⟩ = some v2 ∧ w.cell? ⟨b, 3, none⟩ = some v3 ∧ w.cell? ⟨b, 4, none⟩ = some v4 ∧ w.cell? ⟨b, 5, none⟩ = some v5 ∧ (∀ j, w.frozen? ⟨b, j, none⟩ = false) :=
  ⟨cell_blk h rfl, cell_blk h rfl, cell_blk h rfl, cell_blk h rfl, cell_blk h rfl, cell_blk h rfl, fun j => free_blk h⟩
theorem One.set6 {w0 w : World} {l : List Asr} (h : One w0 w l) (i : Nat) {g : Nat} {v0 v1 v2 v3 v4 v5 : Value} {T : TypeId} (hi : l[i]? = some (Blk g (.cells #[v0, v1, v2, v3, v4, v5] T))) (u0 u1 u2 u3 u4 u5 : Value) :
    One w0 ((((((w.setCell ⟨g, 0, none⟩ (u0)).setCell ⟨g, 1, none⟩ (u1)).setCell ⟨g, 2, none⟩ (u2)).setCell ⟨g, 3, none⟩ (u3)).setCell ⟨g, 4, none⟩ (u4)).setCell ⟨g, 5, none⟩ (u5)) (l.set i (Blk g (.cells #[u0, u1, u2, u3, u4, u5] T))) := by
  have hb := (h.blk i hi).1
  have hl := lt_blk hb
  rw [setCell_setB u0 hb, setCell_setB u1 (setB_same _ hl), setB_setB, setCell_setB u2 (setB_same _ hl), setB_setB, setCell_setB u3 (setB_same _ hl), setB_setB, setCell_setB u4 (setB_same _ hl), setB_setB, setCell_setB u5 (setB_same _ hl), setB_setB]
  simp only [List.setIfInBounds_toArray, List.set_cons_zero, List.set_cons_succ]
  exact h.setB i hi _
theorem load_sp {W : World} {g : Nat} {v0 v1 v2 v3 v4 v5 : Value} (h : W.heap[g]? = some (.cells #[v0, v1, v2, v3, v4, v5] 41)) : (loadVar 41 ⟨g, 0, none⟩).run Try.prog W = .ok (.agg #[v0, v1, v2, v3, v4, v5]) W := by
  obtain ⟨z0, z1, z2, z3, z4, z5, zf⟩ := cells6 h
  clear h
  go_simp
def spv (s : Spo) : Value := .agg #[.string s.entry.key, .int .i64 s.entry.ref.slot, .int .i64 s.entry.ref.gen, .int .i64 s.entry.child, .bool s.found, .int .i64 s.go]
def GaveS (s : Spo × Int) (w : World) (e : Ending) (w' : World) : Prop := e = .returned (.tuple #[spv s.1, .int .i64 s.2]) ∧ KN w w'
/-- What the folded page says. -/
def lookQ (q : Pg × Int) (key : ByteArray) : Spo × Int :=
  if q.2 ≠ 0 then (⟨zeroEn, false, 0⟩, q.2)
  else if ltS key q.1.low then (⟨zeroEn, false, 0⟩, 73)
  else if inR q.1.low q.1.high key = false then if q.1.right = 0 then (⟨zeroEn, false, 0⟩, 73) else (⟨zeroEn, false, q.1.right⟩, 0)
  else
    let f := findP q.1 key
    if q.1.leaf then (⟨f.1, f.2, 0⟩, 0) else if f.2 = false then (⟨zeroEn, false, 0⟩, 73) else (⟨f.1, true, f.1.child⟩, 0)
theorem lookD_eq (p : Pg) (key : ByteArray) (l : List Dl) : lookD p key l = match goneD l with | some n => (⟨zeroEn, false, n⟩, 0) | none => lookQ (foldD p l) key := rfl
set_option maxHeartbeats 1000000 in
theorem look_nil (p : Pg) (key : ByteArray) (ds : List Dl) (h0 : ds = []) (w : World) {v u : Value} (hr : Rl En.enc 4 w v p.list) (hd : RlD w u ds) (hb : (p.list.length + sumD ds) * 40 ≤ 140737488355328) : Calls Try.prog 15 #[pgv p v, .string key, u] w (GaveS (lookQ (foldD p ds) key) w) := by
  obtain ⟨ua, uc, rfl, huc⟩ := hd.form
  have hsum : p.list.length + sumD ds ≤ 3518437208883 := by omega
  have hls := len_sumD ds
  have hql := foldD_len p ds
  have hlen : ds.length ≤ 3518437208883 := by omega
  have HD := Lib.hid hd
  have HFo := Lib.hid (fun W (k : KN w W) => fold_delta p ds W (hr.kn k) (hd.kn k) hb)
  clear hd
  obtain ⟨a0, c0, rfl, hc0, hrd⟩ := hr
  clear hrd hb
  obtain ⟨⟨⟨qf, qlo, qh, qr, ql⟩, qc⟩, hq⟩ : ∃ q, foldD p ds = q := ⟨_, rfl⟩
  rw [hq] at HFo hql ⊢
  simp only at hql
  have hql2 : ql.length ≤ 3518437208883 := Nat.le_trans hql hsum
  clear hq hql
  have HH := Lib.hid (fun W r v => has_k qf qlo qh r v key W)
  have HO := Lib.hid ((One.nil w).alloc2 (.cells #[.bool p.leaf, .string p.low, .string p.high, .int .i64 p.right, .slice a0 p.list.length c0] 24) (.cells #[.string ⟨#[]⟩, .int .i64 0, .int .i64 0, .int .i64 0, .bool false, .int .i64 0] 41))
  subst h0
  go_enter Try.func15, Try.ntmps15
  go_wp2_with fail
  try go_step3
  go_wp2_with fail
  try go_step3
  go_wp2_with fail
  generalize (w.alloc (.cells #[.bool p.leaf, .string p.low, .string p.high, .int .i64 p.right, .slice a0 p.list.length c0] 24)).alloc (.cells #[.string ⟨#[]⟩, .int .i64 0, .int .i64 0, .int .i64 0, .bool false, .int .i64 0] 41) = w1 at *
  go_loopw [17] (fun s17 wr => s17 = .int .i64 0 ∧ wr = w1) (fun _ _ => 0)
  case atStart => exact ⟨rfl, rfl⟩
  case round =>
    obtain ⟨rfl, rfl⟩ := hrel
    go_upto_region 7 with fail
    have HX := HO
    clear HO
    obtain ⟨x0, x1, x2, x3, x4, xf⟩ := cells5 (HX.out.blk 1 rfl).1
    go_wp2_with fail
    clear x0 x1 x2 x3 x4 xf
    refine (HFo.out _ HX.out.old).mono ?_
    rintro e w2 ⟨a2, c2, rfl, k2⟩
    have HQ := Lib.hid (Post.rl enc4 k2)
    have H2 := Lib.hid (HX.out.kn k2.knf)
    clear k2
    go_upto_region 8 with fail
    have H3 := Lib.hid (H2.out.alloc (.cells #[.bool qf, .string qlo, .string qh, .int .i64 qr, .slice a2 ql.length c2] 24))
    have HQ3 := Lib.hid (HQ.out.kn (kn_alloc w2 (.cells #[.bool qf, .string qlo, .string qh, .int .i64 qr, .slice a2 ql.length c2] 24)))
    clear H2 HQ
    generalize w2.alloc (.cells #[.bool qf, .string qlo, .string qh, .int .i64 qr, .slice a2 ql.length c2] 24) = w3 at *
    generalize w2.heap.size = g3 at *
    obtain ⟨y0, y1, y2, y3, y4, yf⟩ := cells5 (H3.out.blk 0 rfl).1
    obtain ⟨z0, z1, z2, z3, z4, z5, zf⟩ := cells6 (H3.out.blk 1 rfl).1
    by_cases hc : qc = 0
    case neg =>
      have hc0 : (qc != 0) = true := by simpa using hc
      have HL := Lib.hid (show lookQ (⟨qf, qlo, qh, qr, ql⟩, qc) key = (⟨zeroEn, false, 0⟩, qc) from by unfold lookQ; rw [if_pos hc])
      go_wp2_with fail
      have HZ := Lib.hid (H3.out.set6 1 rfl (.string ⟨#[]⟩) (.int .i64 0) (.int .i64 0) (.int .i64 0) (.bool false) (.int .i64 0))
      show bodyPost Try.prog Try.f15 (GaveS _ w) Exit.ret _ _
      exact bodyPost_ret (res_c1t rfl rfl (load_sp (HZ.out.blk 1 rfl).1) rfl) rfl (by rw [HL.out]; exact ⟨rfl, HZ.out.old⟩)
    subst hc
    cases hk : Op.bytesLess key.toList qlo.toList with
    | true =>
      have HL := Lib.hid (show lookQ (⟨qf, qlo, qh, qr, ql⟩, 0) key = (⟨zeroEn, false, 0⟩, 73) from by unfold lookQ; simp [show ltS key qlo = true from hk])
      go_wp2_with fail
      have HZ := Lib.hid (H3.out.set6 1 rfl (.string ⟨#[]⟩) (.int .i64 0) (.int .i64 0) (.int .i64 0) (.bool false) (.int .i64 0))
      show bodyPost Try.prog Try.f15 (GaveS _ w) Exit.ret _ _
      exact bodyPost_ret (res_c1t rfl rfl (load_sp (HZ.out.blk 1 rfl).1) rfl) rfl (by rw [HL.out]; exact ⟨rfl, HZ.out.old⟩)
    | false =>
      have HK := Lib.hid (show ltS key qlo = false from hk)
      go_wp2_with fail
      refine (HH.out _ _ _).mono ?_
      rintro e w4 ⟨rfl, k4⟩
      have H4 := Lib.hid (H3.out.kn k4)
      have HQ4 := Lib.hid (HQ3.out.kn k4)
      clear H3 HQ3 k4 y0 y1 y2 y3 y4 yf z0 z1 z2 z3 z4 z5 zf
      obtain ⟨y0, y1, y2, y3, y4, yf⟩ := cells5 (H4.out.blk 0 rfl).1
      obtain ⟨z0, z1, z2, z3, z4, z5, zf⟩ := cells6 (H4.out.blk 1 rfl).1
      cases hin : inR qlo qh key with
      | false =>
        by_cases h0 : qr = 0
        · subst h0
          have HL := Lib.hid (show lookQ (⟨qf, qlo, qh, 0, ql⟩, 0) key = (⟨zeroEn, false, 0⟩, 73) from by unfold lookQ; simp [HK.out, hin])
          clear hk
          go_wp2_with fail
          have HZ := Lib.hid (H4.out.set6 1 rfl (.string ⟨#[]⟩) (.int .i64 0) (.int .i64 0) (.int .i64 0) (.bool false) (.int .i64 0))
          show bodyPost Try.prog Try.f15 (GaveS _ w) Exit.ret _ _
          exact bodyPost_ret (res_c1t rfl rfl (load_sp (HZ.out.blk 1 rfl).1) rfl) rfl (by rw [HL.out]; exact ⟨rfl, HZ.out.old⟩)
        · have h1 : (qr == 0) = false := beq_false_of_ne h0
          have HL := Lib.hid (show lookQ (⟨qf, qlo, qh, qr, ql⟩, 0) key = (⟨zeroEn, false, qr⟩, 0) from by unfold lookQ; simp [HK.out, hin, h0])
          clear hk
          go_wp2_with fail
          have HZ := Lib.hid (H4.out.set6 1 rfl (.string ⟨#[]⟩) (.int .i64 0) (.int .i64 0) (.int .i64 0) (.bool false) (.int .i64 qr))
          show bodyPost Try.prog Try.f15 (GaveS _ w) Exit.ret _ _
          exact bodyPost_ret (res_c1t rfl rfl (load_sp (HZ.out.blk 1 rfl).1) rfl) rfl (by rw [HL.out]; exact ⟨rfl, HZ.out.old⟩)
      | true =>
        obtain ⟨⟨⟨fk, ⟨fs, fg⟩, fc⟩, ff⟩, hf⟩ : ∃ x, findP ⟨qf, qlo, qh, qr, ql⟩ key = x := ⟨_, rfl⟩
        have HFi := Lib.hid (hf ▸ find_page ⟨qf, qlo, qh, qr, ql⟩ key w4 HQ4.out (by show ql.length ≤ maxLen; unfold maxLen; omega))
        have HL := Lib.hid (show lookQ (⟨qf, qlo, qh, qr, ql⟩, 0) key = if qf then (⟨⟨fk, ⟨fs, fg⟩, fc⟩, ff, 0⟩, 0) else if ff = false then (⟨zeroEn, false, 0⟩, 73) else (⟨⟨fk, ⟨fs, fg⟩, fc⟩, true, fc⟩, 0) from by unfold lookQ; simp [HK.out, hin, hf])
        clear hf hk hin
        go_wp2_with fail
        refine HFi.out.mono ?_
        rintro e w5 ⟨rfl, k5⟩
        have H5 := Lib.hid (H4.out.kn k5)
        clear H4 HQ4 k5 y0 y1 y2 y3 y4 yf z0 z1 z2 z3 z4 z5 zf
        go_upto_region 18 with fail
        have H6 := Lib.hid (H5.out.alloc2 (.cells #[.string fk, .int .i64 fs, .int .i64 fg, .int .i64 fc] 28) (.cells #[.string fk, .int .i64 fs, .int .i64 fg, .int .i64 fc, .bool ff, .int .i64 0] 41))
        clear H5
        generalize (w5.alloc (.cells #[.string fk, .int .i64 fs, .int .i64 fg, .int .i64 fc] 28)).alloc (.cells #[.string fk, .int .i64 fs, .int .i64 fg, .int .i64 fc, .bool ff, .int .i64 0] 41) = w6 at *
        generalize w5.heap.size = g6 at *
        obtain ⟨y0, y1, y2, y3, y4, yf⟩ := cells5 (H6.out.blk 2 rfl).1
        obtain ⟨z0, z1, z2, z3, z4, z5, zf⟩ := cells6 (H6.out.blk 3 rfl).1
        obtain ⟨s0, s1, s2, s3, s4, s5, sf⟩ := cells6 (H6.out.blk 0 rfl).1
        obtain ⟨e0, e1, e2, e3, ef⟩ := cells4 (H6.out.blk 1 rfl).1
        cases qf with
        | true =>
          go_wp2_with fail
          have HZ := Lib.hid (H6.out.set6 3 rfl (.string fk) (.int .i64 fs) (.int .i64 fg) (.int .i64 fc) (.bool ff) (.int .i64 0))
          show bodyPost Try.prog Try.f15 (GaveS _ w) Exit.ret _ _
          exact bodyPost_ret (res_c1t rfl rfl (load_sp (HZ.out.blk 3 rfl).1) rfl) rfl (by rw [HL.out]; exact ⟨rfl, HZ.out.old⟩)
        | false =>
          cases ff with
          | false =>
            go_wp2_with fail
            have HZ := Lib.hid (H6.out.set6 3 rfl (.string ⟨#[]⟩) (.int .i64 0) (.int .i64 0) (.int .i64 0) (.bool false) (.int .i64 0))
            show bodyPost Try.prog Try.f15 (GaveS _ w) Exit.ret _ _
            exact bodyPost_ret (res_c1t rfl rfl (load_sp (HZ.out.blk 3 rfl).1) rfl) rfl (by rw [HL.out]; exact ⟨rfl, HZ.out.old⟩)
          | true =>
            go_upto_region 22 with fail
            have H7 := Lib.hid (show One w (w6.setCell ⟨g6 + 1, 5, none⟩ (.int .i64 fc)) [Blk (g6 + 1) (.cells #[.string fk, .int .i64 fs, .int .i64 fg, .int .i64 fc, .bool true, .int .i64 fc] 41), Blk g6 (.cells #[.string fk, .int .i64 fs, .int .i64 fg, .int .i64 fc] 28), Blk g3 (.cells #[.bool false, .string qlo, .string qh, .int .i64 qr, .slice a2 ql.length c2] 24), Blk (w.heap.size + 1) (.cells #[.string ⟨#[]⟩, .int .i64 0, .int .i64 0, .int .i64 0, .bool false, .int .i64 0] 41), Blk w.heap.size (.cells #[.bool p.leaf, .string p.low, .string p.high, .int .i64 p.right, .slice a0 p.list.length c0] 24)] from H6.out.setC 0 rfl (j := 5) (.int .i64 fc))
            clear H6 y0 y1 y2 y3 y4 yf z0 z1 z2 z3 z4 z5 zf s0 s1 s2 s3 s4 s5 sf e0 e1 e2 e3 ef
            generalize w6.setCell ⟨g6 + 1, 5, none⟩ (.int .i64 fc) = w7 at *
            obtain ⟨z0, z1, z2, z3, z4, z5, zf⟩ := cells6 (H7.out.blk 3 rfl).1
            obtain ⟨s0, s1, s2, s3, s4, s5, sf⟩ := cells6 (H7.out.blk 0 rfl).1
            go_wp2_with fail
            have HZ := Lib.hid (H7.out.set6 3 rfl (.string fk) (.int .i64 fs) (.int .i64 fg) (.int .i64 fc) (.bool true) (.int .i64 fc))
            show bodyPost Try.prog Try.f15 (GaveS _ w) Exit.ret _ _
            exact bodyPost_ret (res_c1t rfl rfl (load_sp (HZ.out.blk 3 rfl).1) rfl) rfl (by rw [HL.out]; exact ⟨rfl, HZ.out.old⟩)
set_option maxHeartbeats 1000000 in
theorem look_else (p : Pg) (key : ByteArray) (ds : List Dl) (d : Dl) (h0 : ds[0]? = some d) (h5 : d.kind ≠ 5) (w : World) {v u : Value} (hr : Rl En.enc 4 w v p.list) (hd : RlD w u ds) (hb : (p.list.length + sumD ds) * 40 ≤ 140737488355328) : Calls Try.prog 15 #[pgv p v, .string key, u] w (GaveS (lookQ (foldD p ds) key) w) := by
  obtain ⟨ua, uc, rfl, huc⟩ := hd.form
  have hsum : p.list.length + sumD ds ≤ 3518437208883 := by omega
  have hls := len_sumD ds
  have hql := foldD_len p ds
  have hlen : ds.length ≤ 3518437208883 := by omega
  have HD := Lib.hid hd
  have HFo := Lib.hid (fun W (k : KN w W) => fold_delta p ds W (hr.kn k) (hd.kn k) hb)
  clear hd
  obtain ⟨a0, c0, rfl, hc0, hrd⟩ := hr
  clear hrd hb
  obtain ⟨⟨⟨qf, qlo, qh, qr, ql⟩, qc⟩, hq⟩ : ∃ q, foldD p ds = q := ⟨_, rfl⟩
  rw [hq] at HFo hql ⊢
  simp only at hql
  have hql2 : ql.length ≤ 3518437208883 := Nat.le_trans hql hsum
  clear hq hql
  have HH := Lib.hid (fun W r v => has_k qf qlo qh r v key W)
  have HO := Lib.hid ((One.nil w).alloc2 (.cells #[.bool p.leaf, .string p.low, .string p.high, .int .i64 p.right, .slice a0 p.list.length c0] 24) (.cells #[.string ⟨#[]⟩, .int .i64 0, .int .i64 0, .int .i64 0, .bool false, .int .i64 0] 41))
  have e5 : (d.kind == 5) = false := beq_false_of_ne h5
  go_enter Try.func15, Try.ntmps15
  go_wp2_with fail
  try go_step3
  go_wp2_with fail
  try go_step3
  go_wp2_with fail
  generalize (w.alloc (.cells #[.bool p.leaf, .string p.low, .string p.high, .int .i64 p.right, .slice a0 p.list.length c0] 24)).alloc (.cells #[.string ⟨#[]⟩, .int .i64 0, .int .i64 0, .int .i64 0, .bool false, .int .i64 0] 41) = w1 at *
  go_loopw [17] (fun s17 wr => s17 = .int .i64 0 ∧ wr = w1) (fun _ _ => 0)
  case atStart => exact ⟨rfl, rfl⟩
  case round =>
    obtain ⟨rfl, rfl⟩ := hrel
    have hlt : (0 : Int) < (ds.length : Int) := by
      have := (List.getElem?_eq_some_iff.1 h0).1
      omega
    obtain ⟨b, off, va, vn, vc, hab, _, hrd, d0, d1, d2, d3, d4, d5, d6, d7, d8, d9, da, db⟩ := (HD.out.kn HO.out.old).at h0
    cases hab
    simp only [Nat.zero_mul, Nat.add_zero] at d0 d1 d2 d3 d4 d5 d6 d7 d8 d9 da db
    have HRD := Lib.hid hrd
    clear hrd
    go_upto_region 7 with fail
    have HX := Lib.hid (HO.out.alloc (.cells #[.int .i64 d.kind, .string d.entry.key, .int .i64 d.entry.ref.slot, .int .i64 d.entry.ref.gen, .int .i64 d.entry.child, .string d.key, .int .i64 d.page, .bool d.right.leaf, .string d.right.low, .string d.right.high, .int .i64 d.right.right, .slice va vn vc] 30)).drop
    clear HO HRD d0 d1 d2 d3 d4 d5 d6 d7 d8 d9 da db
    generalize wr.alloc (.cells #[.int .i64 d.kind, .string d.entry.key, .int .i64 d.entry.ref.slot, .int .i64 d.entry.ref.gen, .int .i64 d.entry.child, .string d.key, .int .i64 d.page, .bool d.right.leaf, .string d.right.low, .string d.right.high, .int .i64 d.right.right, .slice va vn vc] 30) = wx at *
    obtain ⟨x0, x1, x2, x3, x4, xf⟩ := cells5 (HX.out.blk 1 rfl).1
    go_wp2_with fail
    clear x0 x1 x2 x3 x4 xf
    refine (HFo.out _ HX.out.old).mono ?_
    rintro e w2 ⟨a2, c2, rfl, k2⟩
    have HQ := Lib.hid (Post.rl enc4 k2)
    have H2 := Lib.hid (HX.out.kn k2.knf)
    clear k2
    go_upto_region 8 with fail
    have H3 := Lib.hid (H2.out.alloc (.cells #[.bool qf, .string qlo, .string qh, .int .i64 qr, .slice a2 ql.length c2] 24))
    have HQ3 := Lib.hid (HQ.out.kn (kn_alloc w2 (.cells #[.bool qf, .string qlo, .string qh, .int .i64 qr, .slice a2 ql.length c2] 24)))
    clear H2 HQ
    generalize w2.alloc (.cells #[.bool qf, .string qlo, .string qh, .int .i64 qr, .slice a2 ql.length c2] 24) = w3 at *
    generalize w2.heap.size = g3 at *
    obtain ⟨y0, y1, y2, y3, y4, yf⟩ := cells5 (H3.out.blk 0 rfl).1
    obtain ⟨z0, z1, z2, z3, z4, z5, zf⟩ := cells6 (H3.out.blk 1 rfl).1
    by_cases hc : qc = 0
    case neg =>
      have hc0 : (qc != 0) = true := by simpa using hc
      have HL := Lib.hid (show lookQ (⟨qf, qlo, qh, qr, ql⟩, qc) key = (⟨zeroEn, false, 0⟩, qc) from by unfold lookQ; rw [if_pos hc])
      go_wp2_with fail
      have HZ := Lib.hid (H3.out.set6 1 rfl (.string ⟨#[]⟩) (.int .i64 0) (.int .i64 0) (.int .i64 0) (.bool false) (.int .i64 0))
      show bodyPost Try.prog Try.f15 (GaveS _ w) Exit.ret _ _
      exact bodyPost_ret (res_c1t rfl rfl (load_sp (HZ.out.blk 1 rfl).1) rfl) rfl (by rw [HL.out]; exact ⟨rfl, HZ.out.old⟩)
    subst hc
    cases hk : Op.bytesLess key.toList qlo.toList with
    | true =>
      have HL := Lib.hid (show lookQ (⟨qf, qlo, qh, qr, ql⟩, 0) key = (⟨zeroEn, false, 0⟩, 73) from by unfold lookQ; simp [show ltS key qlo = true from hk])
      go_wp2_with fail
      have HZ := Lib.hid (H3.out.set6 1 rfl (.string ⟨#[]⟩) (.int .i64 0) (.int .i64 0) (.int .i64 0) (.bool false) (.int .i64 0))
      show bodyPost Try.prog Try.f15 (GaveS _ w) Exit.ret _ _
      exact bodyPost_ret (res_c1t rfl rfl (load_sp (HZ.out.blk 1 rfl).1) rfl) rfl (by rw [HL.out]; exact ⟨rfl, HZ.out.old⟩)
    | false =>
      have HK := Lib.hid (show ltS key qlo = false from hk)
      go_wp2_with fail
      refine (HH.out _ _ _).mono ?_
      rintro e w4 ⟨rfl, k4⟩
      have H4 := Lib.hid (H3.out.kn k4)
      have HQ4 := Lib.hid (HQ3.out.kn k4)
      clear H3 HQ3 k4 y0 y1 y2 y3 y4 yf z0 z1 z2 z3 z4 z5 zf
      obtain ⟨y0, y1, y2, y3, y4, yf⟩ := cells5 (H4.out.blk 0 rfl).1
      obtain ⟨z0, z1, z2, z3, z4, z5, zf⟩ := cells6 (H4.out.blk 1 rfl).1
      cases hin : inR qlo qh key with
      | false =>
        by_cases h0 : qr = 0
        · subst h0
          have HL := Lib.hid (show lookQ (⟨qf, qlo, qh, 0, ql⟩, 0) key = (⟨zeroEn, false, 0⟩, 73) from by unfold lookQ; simp [HK.out, hin])
          clear hk
          go_wp2_with fail
          have HZ := Lib.hid (H4.out.set6 1 rfl (.string ⟨#[]⟩) (.int .i64 0) (.int .i64 0) (.int .i64 0) (.bool false) (.int .i64 0))
          show bodyPost Try.prog Try.f15 (GaveS _ w) Exit.ret _ _
          exact bodyPost_ret (res_c1t rfl rfl (load_sp (HZ.out.blk 1 rfl).1) rfl) rfl (by rw [HL.out]; exact ⟨rfl, HZ.out.old⟩)
        · have h1 : (qr == 0) = false := beq_false_of_ne h0
          have HL := Lib.hid (show lookQ (⟨qf, qlo, qh, qr, ql⟩, 0) key = (⟨zeroEn, false, qr⟩, 0) from by unfold lookQ; simp [HK.out, hin, h0])
          clear hk
          go_wp2_with fail
          have HZ := Lib.hid (H4.out.set6 1 rfl (.string ⟨#[]⟩) (.int .i64 0) (.int .i64 0) (.int .i64 0) (.bool false) (.int .i64 qr))
          show bodyPost Try.prog Try.f15 (GaveS _ w) Exit.ret _ _
          exact bodyPost_ret (res_c1t rfl rfl (load_sp (HZ.out.blk 1 rfl).1) rfl) rfl (by rw [HL.out]; exact ⟨rfl, HZ.out.old⟩)
      | true =>
        obtain ⟨⟨⟨fk, ⟨fs, fg⟩, fc⟩, ff⟩, hf⟩ : ∃ x, findP ⟨qf, qlo, qh, qr, ql⟩ key = x := ⟨_, rfl⟩
        have HFi := Lib.hid (hf ▸ find_page ⟨qf, qlo, qh, qr, ql⟩ key w4 HQ4.out (by show ql.length ≤ maxLen; unfold maxLen; omega))
        have HL := Lib.hid (show lookQ (⟨qf, qlo, qh, qr, ql⟩, 0) key = if qf then (⟨⟨fk, ⟨fs, fg⟩, fc⟩, ff, 0⟩, 0) else if ff = false then (⟨zeroEn, false, 0⟩, 73) else (⟨⟨fk, ⟨fs, fg⟩, fc⟩, true, fc⟩, 0) from by unfold lookQ; simp [HK.out, hin, hf])
        clear hf hk hin
        go_wp2_with fail
        refine HFi.out.mono ?_
        rintro e w5 ⟨rfl, k5⟩
        have H5 := Lib.hid (H4.out.kn k5)
        clear H4 HQ4 k5 y0 y1 y2 y3 y4 yf z0 z1 z2 z3 z4 z5 zf
        go_upto_region 18 with fail
        have H6 := Lib.hid (H5.out.alloc2 (.cells #[.string fk, .int .i64 fs, .int .i64 fg, .int .i64 fc] 28) (.cells #[.string fk, .int .i64 fs, .int .i64 fg, .int .i64 fc, .bool ff, .int .i64 0] 41))
        clear H5
        generalize (w5.alloc (.cells #[.string fk, .int .i64 fs, .int .i64 fg, .int .i64 fc] 28)).alloc (.cells #[.string fk, .int .i64 fs, .int .i64 fg, .int .i64 fc, .bool ff, .int .i64 0] 41) = w6 at *
        generalize w5.heap.size = g6 at *
        obtain ⟨y0, y1, y2, y3, y4, yf⟩ := cells5 (H6.out.blk 2 rfl).1
        obtain ⟨z0, z1, z2, z3, z4, z5, zf⟩ := cells6 (H6.out.blk 3 rfl).1
        obtain ⟨s0, s1, s2, s3, s4, s5, sf⟩ := cells6 (H6.out.blk 0 rfl).1
        obtain ⟨e0, e1, e2, e3, ef⟩ := cells4 (H6.out.blk 1 rfl).1
        cases qf with
        | true =>
          go_wp2_with fail
          have HZ := Lib.hid (H6.out.set6 3 rfl (.string fk) (.int .i64 fs) (.int .i64 fg) (.int .i64 fc) (.bool ff) (.int .i64 0))
          show bodyPost Try.prog Try.f15 (GaveS _ w) Exit.ret _ _
          exact bodyPost_ret (res_c1t rfl rfl (load_sp (HZ.out.blk 3 rfl).1) rfl) rfl (by rw [HL.out]; exact ⟨rfl, HZ.out.old⟩)
        | false =>
          cases ff with
          | false =>
            go_wp2_with fail
            have HZ := Lib.hid (H6.out.set6 3 rfl (.string ⟨#[]⟩) (.int .i64 0) (.int .i64 0) (.int .i64 0) (.bool false) (.int .i64 0))
            show bodyPost Try.prog Try.f15 (GaveS _ w) Exit.ret _ _
            exact bodyPost_ret (res_c1t rfl rfl (load_sp (HZ.out.blk 3 rfl).1) rfl) rfl (by rw [HL.out]; exact ⟨rfl, HZ.out.old⟩)
          | true =>
            go_upto_region 22 with fail
            have H7 := Lib.hid (show One w (w6.setCell ⟨g6 + 1, 5, none⟩ (.int .i64 fc)) [Blk (g6 + 1) (.cells #[.string fk, .int .i64 fs, .int .i64 fg, .int .i64 fc, .bool true, .int .i64 fc] 41), Blk g6 (.cells #[.string fk, .int .i64 fs, .int .i64 fg, .int .i64 fc] 28), Blk g3 (.cells #[.bool false, .string qlo, .string qh, .int .i64 qr, .slice a2 ql.length c2] 24), Blk (w.heap.size + 1) (.cells #[.string ⟨#[]⟩, .int .i64 0, .int .i64 0, .int .i64 0, .bool false, .int .i64 0] 41), Blk w.heap.size (.cells #[.bool p.leaf, .string p.low, .string p.high, .int .i64 p.right, .slice a0 p.list.length c0] 24)] from H6.out.setC 0 rfl (j := 5) (.int .i64 fc))
            clear H6 y0 y1 y2 y3 y4 yf z0 z1 z2 z3 z4 z5 zf s0 s1 s2 s3 s4 s5 sf e0 e1 e2 e3 ef
            generalize w6.setCell ⟨g6 + 1, 5, none⟩ (.int .i64 fc) = w7 at *
            obtain ⟨z0, z1, z2, z3, z4, z5, zf⟩ := cells6 (H7.out.blk 3 rfl).1
            obtain ⟨s0, s1, s2, s3, s4, s5, sf⟩ := cells6 (H7.out.blk 0 rfl).1
            go_wp2_with fail
            have HZ := Lib.hid (H7.out.set6 3 rfl (.string fk) (.int .i64 fs) (.int .i64 fg) (.int .i64 fc) (.bool true) (.int .i64 fc))
            show bodyPost Try.prog Try.f15 (GaveS _ w) Exit.ret _ _
            exact bodyPost_ret (res_c1t rfl rfl (load_sp (HZ.out.blk 3 rfl).1) rfl) rfl (by rw [HL.out]; exact ⟨rfl, HZ.out.old⟩)
set_option maxHeartbeats 1000000 in
theorem look_bad (p : Pg) (key : ByteArray) (ds : List Dl) (ent : En) (dk : ByteArray) (dp : Int) (rt : Pg) (h0 : ds[0]? = some ⟨5, ent, dk, dp, rt⟩) (hc : checkD ⟨5, ent, dk, dp, rt⟩ ≠ 0) (w : World) {v u : Value} (hr : Rl En.enc 4 w v p.list) (hd : RlD w u ds) (hb : (p.list.length + sumD ds) * 40 ≤ 140737488355328) : Calls Try.prog 15 #[pgv p v, .string key, u] w (GaveS (lookQ (foldD p ds) key) w) := by
  obtain ⟨ua, uc, rfl, huc⟩ := hd.form
  have hsum : p.list.length + sumD ds ≤ 3518437208883 := by omega
  have hls := len_sumD ds
  have hql := foldD_len p ds
  have hlen : ds.length ≤ 3518437208883 := by omega
  have HD := Lib.hid hd
  have HFo := Lib.hid (fun W (k : KN w W) => fold_delta p ds W (hr.kn k) (hd.kn k) hb)
  clear hd
  obtain ⟨a0, c0, rfl, hc0, hrd⟩ := hr
  clear hrd hb
  obtain ⟨⟨⟨qf, qlo, qh, qr, ql⟩, qc⟩, hq⟩ : ∃ q, foldD p ds = q := ⟨_, rfl⟩
  rw [hq] at HFo hql ⊢
  simp only at hql
  have hql2 : ql.length ≤ 3518437208883 := Nat.le_trans hql hsum
  clear hq hql
  have HH := Lib.hid (fun W r v => has_k qf qlo qh r v key W)
  have HO := Lib.hid ((One.nil w).alloc2 (.cells #[.bool p.leaf, .string p.low, .string p.high, .int .i64 p.right, .slice a0 p.list.length c0] 24) (.cells #[.string ⟨#[]⟩, .int .i64 0, .int .i64 0, .int .i64 0, .bool false, .int .i64 0] 41))
  have HCk := Lib.hid (fun W va vn vc (hrd : Rl En.enc 4 W (.slice va vn vc) rt.list) => check_delta ⟨5, ent, dk, dp, rt⟩ W hrd (by
    have := right_sumD (List.mem_of_getElem? h0)
    unfold maxLen
    omega))
  unfold dlv at HCk
  simp only at HCk
  obtain ⟨cv, hcv⟩ : ∃ x, checkD ⟨5, ent, dk, dp, rt⟩ = x := ⟨_, rfl⟩
  rw [hcv] at HCk hc
  have e6 : (cv == 0) = false := beq_false_of_ne hc
  clear hcv hc
  go_enter Try.func15, Try.ntmps15
  go_wp2_with fail
  try go_step3
  go_wp2_with fail
  try go_step3
  go_wp2_with fail
  generalize (w.alloc (.cells #[.bool p.leaf, .string p.low, .string p.high, .int .i64 p.right, .slice a0 p.list.length c0] 24)).alloc (.cells #[.string ⟨#[]⟩, .int .i64 0, .int .i64 0, .int .i64 0, .bool false, .int .i64 0] 41) = w1 at *
  go_loopw [17] (fun s17 wr => s17 = .int .i64 0 ∧ wr = w1) (fun _ _ => 0)
  case atStart => exact ⟨rfl, rfl⟩
  case round =>
    obtain ⟨rfl, rfl⟩ := hrel
    have hlt : (0 : Int) < (ds.length : Int) := by
      have := (List.getElem?_eq_some_iff.1 h0).1
      omega
    obtain ⟨b, off, va, vn, vc, hab, _, hrd, d0, d1, d2, d3, d4, d5, d6, d7, d8, d9, da, db⟩ := (HD.out.kn HO.out.old).at h0
    cases hab
    simp only [Nat.zero_mul, Nat.add_zero] at d0 d1 d2 d3 d4 d5 d6 d7 d8 d9 da db
    simp only at hrd d0 d1 d2 d3 d4 d5 d6 d7 d8 d9 da db
    have HRD := Lib.hid hrd
    clear hrd
    have HOd := Lib.hid (HO.out.alloc (.cells #[.int .i64 5, .string ent.key, .int .i64 ent.ref.slot, .int .i64 ent.ref.gen, .int .i64 ent.child, .string dk, .int .i64 dp, .bool rt.leaf, .string rt.low, .string rt.high, .int .i64 rt.right, .slice va vn vc] 30))
    have HRDd := Lib.hid (HRD.out.kn (kn_alloc wr (.cells #[.int .i64 5, .string ent.key, .int .i64 ent.ref.slot, .int .i64 ent.ref.gen, .int .i64 ent.child, .string dk, .int .i64 dp, .bool rt.leaf, .string rt.low, .string rt.high, .int .i64 rt.right, .slice va vn vc] 30)))
    go_wp2_with fail
    refine (HCk.out _ _ _ _ HRDd.out).mono ?_
    rintro e wx ⟨rfl, kx⟩
    have HXd := Lib.hid (HOd.out.kn kx)
    clear HO HOd HRD HRDd kx d0 d1 d2 d3 d4 d5 d6 d7 d8 d9 da db
    go_upto_region 7 with fail
    have HX := Lib.hid (HXd.out.drop)
    clear HXd
    obtain ⟨x0, x1, x2, x3, x4, xf⟩ := cells5 (HX.out.blk 1 rfl).1
    go_wp2_with fail
    clear x0 x1 x2 x3 x4 xf
    refine (HFo.out _ HX.out.old).mono ?_
    rintro e w2 ⟨a2, c2, rfl, k2⟩
    have HQ := Lib.hid (Post.rl enc4 k2)
    have H2 := Lib.hid (HX.out.kn k2.knf)
    clear k2
    go_upto_region 8 with fail
    have H3 := Lib.hid (H2.out.alloc (.cells #[.bool qf, .string qlo, .string qh, .int .i64 qr, .slice a2 ql.length c2] 24))
    have HQ3 := Lib.hid (HQ.out.kn (kn_alloc w2 (.cells #[.bool qf, .string qlo, .string qh, .int .i64 qr, .slice a2 ql.length c2] 24)))
    clear H2 HQ
    generalize w2.alloc (.cells #[.bool qf, .string qlo, .string qh, .int .i64 qr, .slice a2 ql.length c2] 24) = w3 at *
    generalize w2.heap.size = g3 at *
    obtain ⟨y0, y1, y2, y3, y4, yf⟩ := cells5 (H3.out.blk 0 rfl).1
    obtain ⟨z0, z1, z2, z3, z4, z5, zf⟩ := cells6 (H3.out.blk 1 rfl).1
    by_cases hc : qc = 0
    case neg =>
      have hc0 : (qc != 0) = true := by simpa using hc
      have HL := Lib.hid (show lookQ (⟨qf, qlo, qh, qr, ql⟩, qc) key = (⟨zeroEn, false, 0⟩, qc) from by unfold lookQ; rw [if_pos hc])
      go_wp2_with fail
      have HZ := Lib.hid (H3.out.set6 1 rfl (.string ⟨#[]⟩) (.int .i64 0) (.int .i64 0) (.int .i64 0) (.bool false) (.int .i64 0))
      show bodyPost Try.prog Try.f15 (GaveS _ w) Exit.ret _ _
      exact bodyPost_ret (res_c1t rfl rfl (load_sp (HZ.out.blk 1 rfl).1) rfl) rfl (by rw [HL.out]; exact ⟨rfl, HZ.out.old⟩)
    subst hc
    cases hk : Op.bytesLess key.toList qlo.toList with
    | true =>
      have HL := Lib.hid (show lookQ (⟨qf, qlo, qh, qr, ql⟩, 0) key = (⟨zeroEn, false, 0⟩, 73) from by unfold lookQ; simp [show ltS key qlo = true from hk])
      go_wp2_with fail
      have HZ := Lib.hid (H3.out.set6 1 rfl (.string ⟨#[]⟩) (.int .i64 0) (.int .i64 0) (.int .i64 0) (.bool false) (.int .i64 0))
      show bodyPost Try.prog Try.f15 (GaveS _ w) Exit.ret _ _
      exact bodyPost_ret (res_c1t rfl rfl (load_sp (HZ.out.blk 1 rfl).1) rfl) rfl (by rw [HL.out]; exact ⟨rfl, HZ.out.old⟩)
    | false =>
      have HK := Lib.hid (show ltS key qlo = false from hk)
      go_wp2_with fail
      refine (HH.out _ _ _).mono ?_
      rintro e w4 ⟨rfl, k4⟩
      have H4 := Lib.hid (H3.out.kn k4)
      have HQ4 := Lib.hid (HQ3.out.kn k4)
      clear H3 HQ3 k4 y0 y1 y2 y3 y4 yf z0 z1 z2 z3 z4 z5 zf
      obtain ⟨y0, y1, y2, y3, y4, yf⟩ := cells5 (H4.out.blk 0 rfl).1
      obtain ⟨z0, z1, z2, z3, z4, z5, zf⟩ := cells6 (H4.out.blk 1 rfl).1
      cases hin : inR qlo qh key with
      | false =>
        by_cases h0 : qr = 0
        · subst h0
          have HL := Lib.hid (show lookQ (⟨qf, qlo, qh, 0, ql⟩, 0) key = (⟨zeroEn, false, 0⟩, 73) from by unfold lookQ; simp [HK.out, hin])
          clear hk
          go_wp2_with fail
          have HZ := Lib.hid (H4.out.set6 1 rfl (.string ⟨#[]⟩) (.int .i64 0) (.int .i64 0) (.int .i64 0) (.bool false) (.int .i64 0))
          show bodyPost Try.prog Try.f15 (GaveS _ w) Exit.ret _ _
          exact bodyPost_ret (res_c1t rfl rfl (load_sp (HZ.out.blk 1 rfl).1) rfl) rfl (by rw [HL.out]; exact ⟨rfl, HZ.out.old⟩)
        · have h1 : (qr == 0) = false := beq_false_of_ne h0
          have HL := Lib.hid (show lookQ (⟨qf, qlo, qh, qr, ql⟩, 0) key = (⟨zeroEn, false, qr⟩, 0) from by unfold lookQ; simp [HK.out, hin, h0])
          clear hk
          go_wp2_with fail
          have HZ := Lib.hid (H4.out.set6 1 rfl (.string ⟨#[]⟩) (.int .i64 0) (.int .i64 0) (.int .i64 0) (.bool false) (.int .i64 qr))
          show bodyPost Try.prog Try.f15 (GaveS _ w) Exit.ret _ _
          exact bodyPost_ret (res_c1t rfl rfl (load_sp (HZ.out.blk 1 rfl).1) rfl) rfl (by rw [HL.out]; exact ⟨rfl, HZ.out.old⟩)
      | true =>
        obtain ⟨⟨⟨fk, ⟨fs, fg⟩, fc⟩, ff⟩, hf⟩ : ∃ x, findP ⟨qf, qlo, qh, qr, ql⟩ key = x := ⟨_, rfl⟩
        have HFi := Lib.hid (hf ▸ find_page ⟨qf, qlo, qh, qr, ql⟩ key w4 HQ4.out (by show ql.length ≤ maxLen; unfold maxLen; omega))
        have HL := Lib.hid (show lookQ (⟨qf, qlo, qh, qr, ql⟩, 0) key = if qf then (⟨⟨fk, ⟨fs, fg⟩, fc⟩, ff, 0⟩, 0) else if ff = false then (⟨zeroEn, false, 0⟩, 73) else (⟨⟨fk, ⟨fs, fg⟩, fc⟩, true, fc⟩, 0) from by unfold lookQ; simp [HK.out, hin, hf])
        clear hf hk hin
        go_wp2_with fail
        refine HFi.out.mono ?_
        rintro e w5 ⟨rfl, k5⟩
        have H5 := Lib.hid (H4.out.kn k5)
        clear H4 HQ4 k5 y0 y1 y2 y3 y4 yf z0 z1 z2 z3 z4 z5 zf
        go_upto_region 18 with fail
        have H6 := Lib.hid (H5.out.alloc2 (.cells #[.string fk, .int .i64 fs, .int .i64 fg, .int .i64 fc] 28) (.cells #[.string fk, .int .i64 fs, .int .i64 fg, .int .i64 fc, .bool ff, .int .i64 0] 41))
        clear H5
        generalize (w5.alloc (.cells #[.string fk, .int .i64 fs, .int .i64 fg, .int .i64 fc] 28)).alloc (.cells #[.string fk, .int .i64 fs, .int .i64 fg, .int .i64 fc, .bool ff, .int .i64 0] 41) = w6 at *
        generalize w5.heap.size = g6 at *
        obtain ⟨y0, y1, y2, y3, y4, yf⟩ := cells5 (H6.out.blk 2 rfl).1
        obtain ⟨z0, z1, z2, z3, z4, z5, zf⟩ := cells6 (H6.out.blk 3 rfl).1
        obtain ⟨s0, s1, s2, s3, s4, s5, sf⟩ := cells6 (H6.out.blk 0 rfl).1
        obtain ⟨e0, e1, e2, e3, ef⟩ := cells4 (H6.out.blk 1 rfl).1
        cases qf with
        | true =>
          go_wp2_with fail
          have HZ := Lib.hid (H6.out.set6 3 rfl (.string fk) (.int .i64 fs) (.int .i64 fg) (.int .i64 fc) (.bool ff) (.int .i64 0))
          show bodyPost Try.prog Try.f15 (GaveS _ w) Exit.ret _ _
          exact bodyPost_ret (res_c1t rfl rfl (load_sp (HZ.out.blk 3 rfl).1) rfl) rfl (by rw [HL.out]; exact ⟨rfl, HZ.out.old⟩)
        | false =>
          cases ff with
          | false =>
            go_wp2_with fail
            have HZ := Lib.hid (H6.out.set6 3 rfl (.string ⟨#[]⟩) (.int .i64 0) (.int .i64 0) (.int .i64 0) (.bool false) (.int .i64 0))
            show bodyPost Try.prog Try.f15 (GaveS _ w) Exit.ret _ _
            exact bodyPost_ret (res_c1t rfl rfl (load_sp (HZ.out.blk 3 rfl).1) rfl) rfl (by rw [HL.out]; exact ⟨rfl, HZ.out.old⟩)
          | true =>
            go_upto_region 22 with fail
            have H7 := Lib.hid (show One w (w6.setCell ⟨g6 + 1, 5, none⟩ (.int .i64 fc)) [Blk (g6 + 1) (.cells #[.string fk, .int .i64 fs, .int .i64 fg, .int .i64 fc, .bool true, .int .i64 fc] 41), Blk g6 (.cells #[.string fk, .int .i64 fs, .int .i64 fg, .int .i64 fc] 28), Blk g3 (.cells #[.bool false, .string qlo, .string qh, .int .i64 qr, .slice a2 ql.length c2] 24), Blk (w.heap.size + 1) (.cells #[.string ⟨#[]⟩, .int .i64 0, .int .i64 0, .int .i64 0, .bool false, .int .i64 0] 41), Blk w.heap.size (.cells #[.bool p.leaf, .string p.low, .string p.high, .int .i64 p.right, .slice a0 p.list.length c0] 24)] from H6.out.setC 0 rfl (j := 5) (.int .i64 fc))
            clear H6 y0 y1 y2 y3 y4 yf z0 z1 z2 z3 z4 z5 zf s0 s1 s2 s3 s4 s5 sf e0 e1 e2 e3 ef
            generalize w6.setCell ⟨g6 + 1, 5, none⟩ (.int .i64 fc) = w7 at *
            obtain ⟨z0, z1, z2, z3, z4, z5, zf⟩ := cells6 (H7.out.blk 3 rfl).1
            obtain ⟨s0, s1, s2, s3, s4, s5, sf⟩ := cells6 (H7.out.blk 0 rfl).1
            go_wp2_with fail
            have HZ := Lib.hid (H7.out.set6 3 rfl (.string fk) (.int .i64 fs) (.int .i64 fg) (.int .i64 fc) (.bool true) (.int .i64 fc))
            show bodyPost Try.prog Try.f15 (GaveS _ w) Exit.ret _ _
            exact bodyPost_ret (res_c1t rfl rfl (load_sp (HZ.out.blk 3 rfl).1) rfl) rfl (by rw [HL.out]; exact ⟨rfl, HZ.out.old⟩)
set_option maxHeartbeats 1000000 in
theorem look_gone (p : Pg) (key : ByteArray) (ds : List Dl) (ent : En) (dk : ByteArray) (dp : Int) (rt : Pg) (h0 : ds[0]? = some ⟨5, ent, dk, dp, rt⟩) (hc : checkD ⟨5, ent, dk, dp, rt⟩ = 0) (w : World) {v u : Value} (hr : Rl En.enc 4 w v p.list) (hd : RlD w u ds) (hb : (p.list.length + sumD ds) * 40 ≤ 140737488355328) : Calls Try.prog 15 #[pgv p v, .string key, u] w (GaveS (⟨zeroEn, false, dp⟩, 0) w) := by
  obtain ⟨ua, uc, rfl, huc⟩ := hd.form
  have hsum : p.list.length + sumD ds ≤ 3518437208883 := by omega
  have hls := len_sumD ds
  have hql := foldD_len p ds
  have hlen : ds.length ≤ 3518437208883 := by omega
  have HD := Lib.hid hd
  have HFo := Lib.hid (fun W (k : KN w W) => fold_delta p ds W (hr.kn k) (hd.kn k) hb)
  clear hd
  obtain ⟨a0, c0, rfl, hc0, hrd⟩ := hr
  clear hrd hb
  obtain ⟨⟨⟨qf, qlo, qh, qr, ql⟩, qc⟩, hq⟩ : ∃ q, foldD p ds = q := ⟨_, rfl⟩
  rw [hq] at HFo hql
  simp only at hql
  have hql2 : ql.length ≤ 3518437208883 := Nat.le_trans hql hsum
  clear hq hql
  have HH := Lib.hid (fun W r v => has_k qf qlo qh r v key W)
  have HO := Lib.hid ((One.nil w).alloc2 (.cells #[.bool p.leaf, .string p.low, .string p.high, .int .i64 p.right, .slice a0 p.list.length c0] 24) (.cells #[.string ⟨#[]⟩, .int .i64 0, .int .i64 0, .int .i64 0, .bool false, .int .i64 0] 41))
  have HCk := Lib.hid (fun W va vn vc (hrd : Rl En.enc 4 W (.slice va vn vc) rt.list) => check_delta ⟨5, ent, dk, dp, rt⟩ W hrd (by
    have := right_sumD (List.mem_of_getElem? h0)
    unfold maxLen
    omega))
  unfold dlv at HCk
  simp only at HCk
  rw [hc] at HCk
  go_enter Try.func15, Try.ntmps15
  go_wp2_with fail
  try go_step3
  go_wp2_with fail
  try go_step3
  go_wp2_with fail
  generalize (w.alloc (.cells #[.bool p.leaf, .string p.low, .string p.high, .int .i64 p.right, .slice a0 p.list.length c0] 24)).alloc (.cells #[.string ⟨#[]⟩, .int .i64 0, .int .i64 0, .int .i64 0, .bool false, .int .i64 0] 41) = w1 at *
  go_loopw [17] (fun s17 wr => s17 = .int .i64 0 ∧ wr = w1) (fun _ _ => 0)
  case atStart => exact ⟨rfl, rfl⟩
  case round =>
    obtain ⟨rfl, rfl⟩ := hrel
    have hlt : (0 : Int) < (ds.length : Int) := by
      have := (List.getElem?_eq_some_iff.1 h0).1
      omega
    obtain ⟨b, off, va, vn, vc, hab, _, hrd, d0, d1, d2, d3, d4, d5, d6, d7, d8, d9, da, db⟩ := (HD.out.kn HO.out.old).at h0
    cases hab
    simp only [Nat.zero_mul, Nat.add_zero] at d0 d1 d2 d3 d4 d5 d6 d7 d8 d9 da db
    simp only at hrd d0 d1 d2 d3 d4 d5 d6 d7 d8 d9 da db
    have HRD := Lib.hid hrd
    clear hrd
    have HOd := Lib.hid (HO.out.alloc (.cells #[.int .i64 5, .string ent.key, .int .i64 ent.ref.slot, .int .i64 ent.ref.gen, .int .i64 ent.child, .string dk, .int .i64 dp, .bool rt.leaf, .string rt.low, .string rt.high, .int .i64 rt.right, .slice va vn vc] 30))
    have HRDd := Lib.hid (HRD.out.kn (kn_alloc wr (.cells #[.int .i64 5, .string ent.key, .int .i64 ent.ref.slot, .int .i64 ent.ref.gen, .int .i64 ent.child, .string dk, .int .i64 dp, .bool rt.leaf, .string rt.low, .string rt.high, .int .i64 rt.right, .slice va vn vc] 30)))
    go_wp2_with fail
    refine (HCk.out _ _ _ _ HRDd.out).mono ?_
    rintro e wx ⟨rfl, kx⟩
    have HXd := Lib.hid (HOd.out.kn kx)
    clear HO HOd HRD HRDd kx d0 d1 d2 d3 d4 d5 d6 d7 d8 d9 da db
    obtain ⟨z0, z1, z2, z3, z4, z5, zf⟩ := cells6 (HXd.out.blk 1 rfl).1
    obtain ⟨d0, d1, d2, d3, d4, d5, d6, d7, d8, d9, da, db, df⟩ := cells12 (HXd.out.blk 0 rfl).1
    go_wp2_with fail
    have HZ := Lib.hid (HXd.out.set6 1 rfl (.string ⟨#[]⟩) (.int .i64 0) (.int .i64 0) (.int .i64 0) (.bool false) (.int .i64 dp))
    show bodyPost Try.prog Try.f15 (GaveS (⟨zeroEn, false, dp⟩, 0) w) Exit.ret _ _
    exact bodyPost_ret (res_c1t rfl rfl (load_sp (HZ.out.blk 1 rfl).1) rfl) rfl (by exact ⟨rfl, HZ.out.old⟩)
theorem look_delta (p : Pg) (key : ByteArray) (ds : List Dl) (w : World) {v u : Value} (hr : Rl En.enc 4 w v p.list) (hd : RlD w u ds) (hb : (p.list.length + sumD ds) * 40 ≤ 140737488355328) : Calls Try.prog 15 #[pgv p v, .string key, u] w (GaveS (lookD p key ds) w) := by
  rw [lookD_eq]
  cases ds with
  | nil => exact look_nil p key [] rfl w hr hd hb
  | cons d l =>
    unfold goneD
    by_cases h5 : d.kind = 5
    · obtain ⟨k, ent, dk, dp, rt⟩ := d
      simp only at h5
      subst h5
      by_cases hc : checkD ⟨5, ent, dk, dp, rt⟩ = 0
      · simp only [hc, and_self, if_true]; exact look_gone p key _ ent dk dp rt rfl hc w hr hd hb
      · simp only [hc, and_false, if_false]; exact look_bad p key _ ent dk dp rt rfl hc w hr hd hb
    · simp only [h5, false_and, if_false]; exact look_else p key (d :: l) d rfl h5 w hr hd hb
end Go.Proofs.Ytkdlodjpambelaa

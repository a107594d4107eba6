/- delta.Fold. -/
import Derived.Test.YtkdlodjpambelaaDeltaF
import Derived.Test.YtkdlodjpambelaaApplyS
import Derived.StillTailTactics
import Derived.Defers
namespace Go.Proofs.Ytkdlodjpambelaa
set_option linter.unusedVariables false
set_option linter.unusedSimpArgs false
open Go Go.RowKit

theorem One.drop2 {w0 w : World} {A B : Asr} {l : List Asr} (h : One w0 w (A :: B :: l)) : One w0 w (A :: l) := (h.perm (.swap B A l)).drop
theorem run_mf : ∀ (fn : Fn) (first cap : Array Value) (w : World), (Instr.makeFunc fn first cap).run Try.prog w = .ok (.func fn first cap) w := fun _ _ _ _ => rfl
theorem res_cc {P : Program} {fn : Func} {t t' T U : Nat} (h : fn.results = #[.cell t T, .cell t' U]) {tmps : Array Value} {a a' : Addr} {v x : Value} {W : World} (ha : tmps.getD t undef = .pointer (some a)) (ha' : tmps.getD t' undef = .pointer (some a')) (hl : (loadVar T a).run P W = .ok v W) (hl' : (loadVar U a').run P W = .ok x W) : (results fn tmps).run P W = .ok (.tuple #[v, x]) W := by
  simp only [results, h]
  rw [Array.getD_eq_getD_getElem?] at ha ha'
  simp [ha, asAddr, hl, ha', hl']
theorem load_er {W : World} {g : Nat} {v : Value} (h : W.heap[g]? = some (.cells #[v] 31)) : (loadVar 31 ⟨g, 0, none⟩).run Try.prog W = .ok v W := by
  obtain ⟨z0, zf⟩ := cells1 h
  clear h
  go_simp
set_option maxHeartbeats 4000000 in
theorem fold_delta (p : Pg) (ds : List Dl) (w : World) {v u : Value} (hr : Rl En.enc 4 w v p.list) (hd : RlD w u ds) (hb : (p.list.length + sumD ds) * 40 ≤ 140737488355328) : Calls Try.prog 12 #[pgv p v, u] w (GavePE (foldD p ds) w) := by
  obtain ⟨ua, uc, rfl, huc⟩ := hd.form
  have hsum : p.list.length + sumD ds ≤ 3518437208883 := by omega
  have hls := len_sumD ds
  have HD := Lib.hid hd
  have HCl := Lib.hid (fun W (k : KN w W) => clone_page p W (hr.kn k) (by unfold maxLen; omega) (by omega))
  have HB := Lib.hid hb
  clear hd
  obtain ⟨a0, c0, rfl, hc0, hrd⟩ := hr
  clear hrd hb
  obtain ⟨P, hP⟩ : ∃ P, p = P := ⟨_, rfl⟩
  have HP := Lib.hid hP
  clear hP
  have HO := Lib.hid ((One.nil w).alloc3 (.cells #[.bool p.leaf, .string p.low, .string p.high, .int .i64 p.right, .slice a0 p.list.length c0] 24) (.cells #[.bool false, .string ⟨#[]⟩, .string ⟨#[]⟩, .int .i64 0, .slice none 0 0] 24) (.cells #[.int .i64 0] 31))
  have hmf := run_mf
  have hlen : ds.length ≤ 3518437208883 := by omega
  go_enter_defers Try.func12, Try.ntmps12
  go_wp2_with fail
  refine (HCl.out _ HO.out.old).mono ?_
  rintro e w1 ⟨a1, c1, rfl, k1⟩
  have HO1 := Lib.hid (HO.out.add k1)
  clear k1 HO
  obtain ⟨x0, x1, x2, x3, x4, xf⟩ := cells5 (HO1.out.blk 2 rfl).1
  go_upto_region 3 with fail
  have HO2 := Lib.hid (show One w (((((w1.setCell ⟨w.heap.size + 1, 0, none⟩ (.bool p.leaf)).setCell ⟨w.heap.size + 1, 1, none⟩ (.string p.low)).setCell ⟨w.heap.size + 1, 2, none⟩ (.string p.high)).setCell ⟨w.heap.size + 1, 3, none⟩ (.int .i64 p.right)).setCell ⟨w.heap.size + 1, 4, none⟩ (.slice a1 p.list.length c1)) [RowE a1 c1 p.list, Blk (w.heap.size + 1 + 1) (.cells #[.int .i64 0] 31), Blk (w.heap.size + 1) (.cells #[.bool p.leaf, .string p.low, .string p.high, .int .i64 p.right, .slice a1 p.list.length c1] 24), Blk w.heap.size (.cells #[.bool p.leaf, .string p.low, .string p.high, .int .i64 p.right, .slice a0 p.list.length c0] 24)] from HO1.out.set5 2 rfl (.bool p.leaf) (.string p.low) (.string p.high) (.int .i64 p.right) (.slice a1 p.list.length c1))
  clear HO1 x0 x1 x2 x3 x4 xf
  generalize (((((w1.setCell ⟨w.heap.size + 1, 0, none⟩ (.bool p.leaf)).setCell ⟨w.heap.size + 1, 1, none⟩ (.string p.low)).setCell ⟨w.heap.size + 1, 2, none⟩ (.string p.high)).setCell ⟨w.heap.size + 1, 3, none⟩ (.int .i64 p.right)).setCell ⟨w.heap.size + 1, 4, none⟩ (.slice a1 p.list.length c1)) = w2 at *
  go_wp2_with fail
  go_loopw [6] (fun s6 wr => ∃ (m : Nat) (q : Pg) (a : Option Addr) (c : Nat), m ≤ ds.length ∧ s6 = .int .i64 ((m : Int) - 1) ∧ Hid (foldD p (ds.drop m) = (q, 0)) ∧ Hid (One w wr [RowE a c q.list, Blk (w.heap.size + 1 + 1) (.cells #[.int .i64 0] 31), Blk (w.heap.size + 1) (.cells #[.bool q.leaf, .string q.low, .string q.high, .int .i64 q.right, .slice a q.list.length c] 24), Blk w.heap.size (.cells #[.bool p.leaf, .string p.low, .string p.high, .int .i64 p.right, .slice a0 p.list.length c0] 24)])) (fun s6 _ => (intOf s6 + 1).toNat)
  case atStart => exact ⟨ds.length, p, a1, c1, Nat.le_refl _, by go_num, Lib.hid (by rw [List.drop_length]; rfl), HO2⟩
  case round =>
    obtain ⟨m, q, a, c, hm, rfl, HF, HW⟩ := hrel
    obtain ⟨y0, y1, y2, y3, y4, yf⟩ := cells5 (HW.out.blk 2 rfl).1
    cases m with
    | zero =>
      obtain ⟨z0, zf⟩ := cells1 (HW.out.blk 1 rfl).1
      have hz : ((0 : Nat) : Int) - 1 = -1 := rfl
      rw [hz]
      go_wp2_with fail
      have HE := Lib.hid (show One w ((((((wr.setCell ⟨w.heap.size + 1, 0, none⟩ (.bool q.leaf)).setCell ⟨w.heap.size + 1, 1, none⟩ (.string q.low)).setCell ⟨w.heap.size + 1, 2, none⟩ (.string q.high)).setCell ⟨w.heap.size + 1, 3, none⟩ (.int .i64 q.right)).setCell ⟨w.heap.size + 1, 4, none⟩ (.slice a q.list.length c)).setCell ⟨w.heap.size + 1 + 1, 0, none⟩ (.int .i64 0)) [RowE a c q.list, Blk (w.heap.size + 1 + 1) (.cells #[.int .i64 0] 31), Blk (w.heap.size + 1) (.cells #[.bool q.leaf, .string q.low, .string q.high, .int .i64 q.right, .slice a q.list.length c] 24), Blk w.heap.size (.cells #[.bool p.leaf, .string p.low, .string p.high, .int .i64 p.right, .slice a0 p.list.length c0] 24)] from (HW.out.set5 2 rfl (.bool q.leaf) (.string q.low) (.string q.high) (.int .i64 q.right) (.slice a q.list.length c)).set1 1 rfl (.int .i64 0))
      have hq : foldD p ds = (q, 0) := by have := HF.out; rwa [List.drop_zero] at this
      rw [hq]
      clear HW HF hq y0 y1 y2 y3 y4 yf z0 zf
      generalize ((((((wr.setCell ⟨w.heap.size + 1, 0, none⟩ (.bool q.leaf)).setCell ⟨w.heap.size + 1, 1, none⟩ (.string q.low)).setCell ⟨w.heap.size + 1, 2, none⟩ (.string q.high)).setCell ⟨w.heap.size + 1, 3, none⟩ (.int .i64 q.right)).setCell ⟨w.heap.size + 1, 4, none⟩ (.slice a q.list.length c)).setCell ⟨w.heap.size + 1 + 1, 0, none⟩ (.int .i64 0)) = we at *
      refine leaves_cons (f := 32) (args := #[.pointer (some ⟨w.heap.size + 1, 0, none⟩), .pointer (some ⟨w.heap.size + 1 + 1, 0, none⟩)]) (by simp) (by simp [go_sem]) ?_
      refine (catch_idle _ _ _).mono ?_
      rintro e u' w'' ⟨rfl, rfl, rfl⟩
      exact ⟨_, res_cc rfl rfl rfl (load_pg (HE.out.blk 2 rfl).1) (load_er (HE.out.blk 1 rfl).1), a, c, rfl, HE.out.post 0 rfl⟩
    | succ k =>
      obtain ⟨d, hd⟩ : ∃ d, ds[k]? = some d := ⟨_, List.getElem?_eq_getElem (by omega)⟩
      have hk : (((k + 1 : Nat) : Int) - 1) = (k : Int) := by omega
      rw [hk]
      have hk0 : (0 : Int) ≤ (k : Int) := by omega
      have hk1 : (k : Int) < (ds.length : Int) := by omega
      have HW1 := Lib.hid (HW.out.kn ((Kp.refl _ _).drew))
      obtain ⟨b, off, va, vn, vc, hab, _, hrd, d0, d1, d2, d3, d4, d5, d6, d7, d8, d9, da, db⟩ := (HD.out.kn HW.out.old).at hd
      cases hab
      have HA := Lib.hid (apply_delta q d wr.drew (RowE.rl (HW1.out.get 0 rfl).choose_spec.1) (hrd.kn ((Kp.refl _ _).drew)) (by
        have h1 := foldD_len p (ds.drop (k + 1))
        rw [HF.out] at h1
        have h2 := sumD_drop ds k
        rw [List.drop_eq_getElem_cons (by omega), sumD_cons, (List.getElem?_eq_some_iff.1 hd).2] at h2
        exact Nat.le_trans (Nat.mul_le_mul_right 40 (by simp only at h1; omega)) HB.out))
      have HF2 := Lib.hid (foldD_step hd HF.out)
      obtain ⟨⟨⟨qf, qlo, qh, qr, ql⟩, qc⟩, hq⟩ : ∃ x, applyD q d = x := ⟨_, rfl⟩
      rw [hq] at HA HF2
      clear hq hd hrd
      unfold dlv at HA
      go_upto_region 6 with fail
      go_still_tail 5, (by kernel_rfl)
      change wpList _ _ _ _ _ wr.drew
      clear y0 y1 y2 y3 y4 yf d0 d1 d2 d3 d4 d5 d6 d7 d8 d9 da db HW
      generalize wr.drew = wd at *
      go_wp2_with fail
      refine HA.out.mono ?_
      rintro e w3 (⟨h0, a', c', rfl, k3⟩ | ⟨hne, rfl, k3⟩)
      · simp only at h0
        subst h0
        have HW3 := Lib.hid (HW1.out.add k3)
        obtain ⟨y0, y1, y2, y3, y4, yf⟩ := cells5 (HW3.out.blk 3 rfl).1
        go_wp2_with fail
        have HW4 := Lib.hid (show One w (((((w3.setCell ⟨w.heap.size + 1, 0, none⟩ (.bool qf)).setCell ⟨w.heap.size + 1, 1, none⟩ (.string qlo)).setCell ⟨w.heap.size + 1, 2, none⟩ (.string qh)).setCell ⟨w.heap.size + 1, 3, none⟩ (.int .i64 qr)).setCell ⟨w.heap.size + 1, 4, none⟩ (.slice a' ql.length c')) [RowE a' c' ql, Blk (w.heap.size + 1 + 1) (.cells #[.int .i64 0] 31), Blk (w.heap.size + 1) (.cells #[.bool qf, .string qlo, .string qh, .int .i64 qr, .slice a' ql.length c'] 24), Blk w.heap.size (.cells #[.bool p.leaf, .string p.low, .string p.high, .int .i64 p.right, .slice a0 p.list.length c0] 24)] from (HW3.out.set5 3 rfl (.bool qf) (.string qlo) (.string qh) (.int .i64 qr) (.slice a' ql.length c')).drop2)
        go_roundw
        case rel => exact ⟨k, ⟨qf, qlo, qh, qr, ql⟩, a', c', by omega, by go_num, HF2, HW4⟩
        case measure => simp [intOf]
      · simp only at hne
        have HW3 := Lib.hid (HW1.out.kn k3)
        have hq : foldD p ds = (zeroPg, qc) := by
          have h := foldD_drop_bad (p := p) (l := ds) (m := k) (by rw [HF2.out]; exact hne)
          rwa [HF2.out] at h
        have HQ := Lib.hid hq
        clear HF2 HF HW1 hq
        show bodyPostD Try.prog Try.f12 (GavePE (foldD p ds) w) (Exit.panic _) _ w3
        rw [HQ.out]
        refine leaves_cons (f := 32) (args := #[.pointer (some ⟨w.heap.size + 1, 0, none⟩), .pointer (some ⟨w.heap.size + 1 + 1, 0, none⟩)]) (by simp) (by simp [go_sem]) ?_
        refine (catch_panicking _ _ qc [] w3 (HW3.out.blk 2 rfl).1 (HW3.out.blk 1 rfl).1 (by omega)).mono ?_
        rintro e u' w'' ⟨rfl, rfl, h1, h2, hk⟩
        have hkn : KN w w'' := HW3.out.old.then hk (fun b hb => by rcases hb with rfl | rfl <;> omega)
        simp only [Leaves, settle]
        exact ⟨_, res_cc rfl rfl rfl (load_pg h1) (load_er h2), none, 0, rfl, (postE_nil w).kn hkn⟩
end Go.Proofs.Ytkdlodjpambelaa

/- cressetref09.Fold. -/
import Derived.Test.YtkdlodjpambelaaDeltaF
import Derived.Test.YtkdlodjpambelaaApplyT
import Derived.Deep.RegionHeld3
namespace Go.Proofs.Ytkdlodjpambelaa
set_option linter.unusedVariables false
set_option linter.unusedSimpArgs false
open Go Go.RowKit

theorem set5_kp {w : World} {g : Nat} {a0 a1 a2 a3 a4 : Value} {T : TypeId} (h : w.heap[g]? = some (.cells #[a0, a1, a2, a3, a4] T)) (v0 v1 v2 v3 v4 : Value) :
    Kp (fun b => b = g) w (((((w.setCell ⟨g, 0, none⟩ v0).setCell ⟨g, 1, none⟩ v1).setCell ⟨g, 2, none⟩ v2).setCell ⟨g, 3, none⟩ v3).setCell ⟨g, 4, none⟩ v4) :=
  have st : ∀ {W : World} (j : Nat) (v : Value), Kp (fun b => b = g) w W → Kp (fun b => b = g) w (W.setCell ⟨g, j, none⟩ v) := fun j v k => Kp.setCell (p := ⟨g, j, none⟩) k (.inl rfl) v
  st _ _ (st _ _ (st _ _ (st _ _ (st _ _ (Kp.refl _ w)))))
/-- A list of entries does not lie in a page's own block. -/
theorem rl_setP {w w' : World} {v : Value} {l : List En} {g : Nat} {T : TypeId} {lf : Bool} {lo hi : ByteArray} {r : Int} {a : Option Addr} {n c : Nat} (h : Rl En.enc 4 w v l) (hb : w.heap[g]? = some (.cells #[.bool lf, .string lo, .string hi, .int .i64 r, .slice a n c] T)) (k : Kp (fun b => b = g) w w') : Rl En.enc 4 w' v l := by
  obtain ⟨a1, cap, rfl, hc, h⟩ := h
  refine ⟨a1, cap, rfl, hc, ?_⟩
  rcases h with h | ⟨b, off, rfl, hlt, hx⟩
  · exact .inl h
  · cases l with
    | nil => exact .inl rfl
    | cons x l =>
      have hne : b ≠ g := by
        rintro rfl
        have h0 := hx 0 x rfl 0 (by omega)
        have h1 := hx 0 x rfl 1 (by omega)
        have h2 := hx 0 x rfl 2 (by omega)
        simp [World.cell?, hb, En.enc, Hd.enc] at h0 h1 h2
        rcases off with _ | _ | _ | _ | _ | off <;> simp at h0 h1 h2
      refine .inr ⟨b, off, rfl, Nat.lt_of_lt_of_le hlt k.size, fun i y hy j hj => ?_⟩
      rw [← hx i y hy j hj, World.cell?_of_block (w := w) (k.block b hlt hne)]
theorem lift17 {w W W' : World} {g b o : Nat} {v0 v1 v2 v3 v4 u0 u1 u2 u3 u4 u5 u6 u7 u8 u9 u10 u11 : Value} (h : KN w W ∧ W.cell? ⟨g, 0, none⟩ = some v0 ∧ W.cell? ⟨g, 1, none⟩ = some v1 ∧ W.cell? ⟨g, 2, none⟩ = some v2 ∧ W.cell? ⟨g, 3, none⟩ = some v3 ∧ W.cell? ⟨g, 4, none⟩ = some v4 ∧ W.cell? ⟨b, o, none⟩ = some u0 ∧ W.cell? ⟨b, o + 1, none⟩ = some u1 ∧ W.cell? ⟨b, o + 2, none⟩ = some u2 ∧ W.cell? ⟨b, o + 3, none⟩ = some u3 ∧ W.cell? ⟨b, o + 4, none⟩ = some u4 ∧ W.cell? ⟨b, o + 5, none⟩ = some u5 ∧ W.cell? ⟨b, o + 6, none⟩ = some u6 ∧ W.cell? ⟨b, o + 7, none⟩ = some u7 ∧ W.cell? ⟨b, o + 8, none⟩ = some u8 ∧ W.cell? ⟨b, o + 9, none⟩ = some u9 ∧ W.cell? ⟨b, o + 10, none⟩ = some u10 ∧ W.cell? ⟨b, o + 11, none⟩ = some u11) (k : KN W W') : KN w W' ∧ W'.cell? ⟨g, 0, none⟩ = some v0 ∧ W'.cell? ⟨g, 1, none⟩ = some v1 ∧ W'.cell? ⟨g, 2, none⟩ = some v2 ∧ W'.cell? ⟨g, 3, none⟩ = some v3 ∧ W'.cell? ⟨g, 4, none⟩ = some v4 ∧ W'.cell? ⟨b, o, none⟩ = some u0 ∧ W'.cell? ⟨b, o + 1, none⟩ = some u1 ∧ W'.cell? ⟨b, o + 2, none⟩ = some u2 ∧ W'.cell? ⟨b, o + 3, none⟩ = some u3 ∧ W'.cell? ⟨b, o + 4, none⟩ = some u4 ∧ W'.cell? ⟨b, o + 5, none⟩ = some u5 ∧ W'.cell? ⟨b, o + 6, none⟩ = some u6 ∧ W'.cell? ⟨b, o + 7, none⟩ = some u7 ∧ W'.cell? ⟨b, o + 8, none⟩ = some u8 ∧ W'.cell? ⟨b, o + 9, none⟩ = some u9 ∧ W'.cell? ⟨b, o + 10, none⟩ = some u10 ∧ W'.cell? ⟨b, o + 11, none⟩ = some u11 :=
  let ⟨h, h0, h1, h2, h3, h4, h5, h6, h7, h8, h9, h10, h11, h12, h13, h14, h15, h16⟩ := h
  ⟨h.then k (fun _ h => h.elim), cell_kp k id h0, cell_kp k id h1, cell_kp k id h2, cell_kp k id h3, cell_kp k id h4, cell_kp k id h5, cell_kp k id h6, cell_kp k id h7, cell_kp k id h8, cell_kp k id h9, cell_kp k id h10, cell_kp k id h11, cell_kp k id h12, cell_kp k id h13, cell_kp k id h14, cell_kp k id h15, cell_kp k id h16⟩
theorem lift17k {w W W' : World} {g b o : Nat} {S : Nat → Prop} {v0 v1 v2 v3 v4 u0 u1 u2 u3 u4 u5 u6 u7 u8 u9 u10 u11 : Value} (h : KN w W ∧ W.cell? ⟨g, 0, none⟩ = some v0 ∧ W.cell? ⟨g, 1, none⟩ = some v1 ∧ W.cell? ⟨g, 2, none⟩ = some v2 ∧ W.cell? ⟨g, 3, none⟩ = some v3 ∧ W.cell? ⟨g, 4, none⟩ = some v4 ∧ W.cell? ⟨b, o, none⟩ = some u0 ∧ W.cell? ⟨b, o + 1, none⟩ = some u1 ∧ W.cell? ⟨b, o + 2, none⟩ = some u2 ∧ W.cell? ⟨b, o + 3, none⟩ = some u3 ∧ W.cell? ⟨b, o + 4, none⟩ = some u4 ∧ W.cell? ⟨b, o + 5, none⟩ = some u5 ∧ W.cell? ⟨b, o + 6, none⟩ = some u6 ∧ W.cell? ⟨b, o + 7, none⟩ = some u7 ∧ W.cell? ⟨b, o + 8, none⟩ = some u8 ∧ W.cell? ⟨b, o + 9, none⟩ = some u9 ∧ W.cell? ⟨b, o + 10, none⟩ = some u10 ∧ W.cell? ⟨b, o + 11, none⟩ = some u11) (k : Kp S W W') (hw : ∀ i, S i → w.heap.size ≤ i) (hg : ¬ S g) (hb : ¬ S b) : KN w W' ∧ W'.cell? ⟨g, 0, none⟩ = some v0 ∧ W'.cell? ⟨g, 1, none⟩ = some v1 ∧ W'.cell? ⟨g, 2, none⟩ = some v2 ∧ W'.cell? ⟨g, 3, none⟩ = some v3 ∧ W'.cell? ⟨g, 4, none⟩ = some v4 ∧ W'.cell? ⟨b, o, none⟩ = some u0 ∧ W'.cell? ⟨b, o + 1, none⟩ = some u1 ∧ W'.cell? ⟨b, o + 2, none⟩ = some u2 ∧ W'.cell? ⟨b, o + 3, none⟩ = some u3 ∧ W'.cell? ⟨b, o + 4, none⟩ = some u4 ∧ W'.cell? ⟨b, o + 5, none⟩ = some u5 ∧ W'.cell? ⟨b, o + 6, none⟩ = some u6 ∧ W'.cell? ⟨b, o + 7, none⟩ = some u7 ∧ W'.cell? ⟨b, o + 8, none⟩ = some u8 ∧ W'.cell? ⟨b, o + 9, none⟩ = some u9 ∧ W'.cell? ⟨b, o + 10, none⟩ = some u10 ∧ W'.cell? ⟨b, o + 11, none⟩ = some u11 :=
  let ⟨h, h0, h1, h2, h3, h4, h5, h6, h7, h8, h9, h10, h11, h12, h13, h14, h15, h16⟩ := h
  ⟨h.then k hw, cell_kp k hg h0, cell_kp k hg h1, cell_kp k hg h2, cell_kp k hg h3, cell_kp k hg h4, cell_kp k hb h5, cell_kp k hb h6, cell_kp k hb h7, cell_kp k hb h8, cell_kp k hb h9, cell_kp k hb h10, cell_kp k hb h11, cell_kp k hb h12, cell_kp k hb h13, cell_kp k hb h14, cell_kp k hb h15, cell_kp k hb h16⟩
set_option maxHeartbeats 4000000 in
theorem fold_ref (p : Pg) (ds : List Dl) (w : World) {v u : Value} (hr : Rl En.enc 4 w v p.list) (hd : RlD w u ds) (hb : (p.list.length + sumD ds) * 40 ≤ 140737488355328) : Calls Try.prog 14 #[pgv p v, u] w (GaveR (foldD p ds) w) := by
  obtain ⟨ua, uc, rfl, huc⟩ := hd.form
  have hsum : p.list.length + sumD ds ≤ 3518437208883 := by omega
  have hls := len_sumD ds
  have HD := Lib.hid hd
  have HB := Lib.hid hb
  clear hd
  obtain ⟨a0, c0, rfl, hc0, hrd⟩ := hr
  have HR := Lib.hid (Rl.of_rd hrd hc0)
  clear hrd hb
  have HO := Lib.hid ((One.nil w).alloc3 (.cells #[.bool p.leaf, .string p.low, .string p.high, .int .i64 p.right, .slice a0 p.list.length c0] 24) (.cells #[.bool false, .string ⟨#[]⟩, .string ⟨#[]⟩, .int .i64 0, .slice none 0 0] 24) (.cells #[.bool p.leaf, .string p.low, .string p.high, .int .i64 p.right, .slice a0 p.list.length c0] 24))
  have hlen : ds.length ≤ 3518437208883 := by omega
  go_enter Try.func14, Try.ntmps14
  go_upto_region 2 with fail
  generalize ((w.alloc (.cells #[.bool p.leaf, .string p.low, .string p.high, .int .i64 p.right, .slice a0 p.list.length c0] 24)).alloc (.cells #[.bool false, .string ⟨#[]⟩, .string ⟨#[]⟩, .int .i64 0, .slice none 0 0] 24)).alloc (.cells #[.bool p.leaf, .string p.low, .string p.high, .int .i64 p.right, .slice a0 p.list.length c0] 24) = w2 at *
  go_wp2_with fail
  go_loopw [7] (fun s7 wr => ∃ (m : Nat) (q : Pg) (qa : Option Addr) (qc : Nat), m ≤ ds.length ∧ s7 = .int .i64 ((m : Int) - 1) ∧ Hid (foldD p (ds.drop m) = (q, 0)) ∧ Hid (One w wr [Blk (w.heap.size + 1 + 1) (.cells #[.bool q.leaf, .string q.low, .string q.high, .int .i64 q.right, .slice qa q.list.length qc] 24), Blk (w.heap.size + 1) (.cells #[.bool false, .string ⟨#[]⟩, .string ⟨#[]⟩, .int .i64 0, .slice none 0 0] 24), Blk w.heap.size (.cells #[.bool p.leaf, .string p.low, .string p.high, .int .i64 p.right, .slice a0 p.list.length c0] 24)]) ∧ Hid (Rl En.enc 4 wr (.slice qa q.list.length qc) q.list)) (fun s7 _ => (intOf s7 + 1).toNat)
  case atStart => exact ⟨ds.length, p, a0, c0, Nat.le_refl _, by go_num, Lib.hid (by rw [List.drop_length]; rfl), HO, Lib.hid (HR.out.kn HO.out.old)⟩
  case round =>
    obtain ⟨m, q, qa, qc, hm, rfl, HF, HW, HQ⟩ := hrel
    obtain ⟨y0, y1, y2, y3, y4, yf⟩ := cells5 (HW.out.blk 0 rfl).1
    obtain ⟨z0, z1, z2, z3, z4, zf⟩ := cells5 (HW.out.blk 1 rfl).1
    cases m with
    | zero =>
      have hz : ((0 : Nat) : Int) - 1 = -1 := rfl
      rw [hz]
      go_wp2_with fail
      have HE := Lib.hid (show One w (((((wr.setCell ⟨w.heap.size + 1, 0, none⟩ (.bool q.leaf)).setCell ⟨w.heap.size + 1, 1, none⟩ (.string q.low)).setCell ⟨w.heap.size + 1, 2, none⟩ (.string q.high)).setCell ⟨w.heap.size + 1, 3, none⟩ (.int .i64 q.right)).setCell ⟨w.heap.size + 1, 4, none⟩ (.slice qa q.list.length qc)) [Blk (w.heap.size + 1 + 1) (.cells #[.bool q.leaf, .string q.low, .string q.high, .int .i64 q.right, .slice qa q.list.length qc] 24), Blk (w.heap.size + 1) (.cells #[.bool q.leaf, .string q.low, .string q.high, .int .i64 q.right, .slice qa q.list.length qc] 24), Blk w.heap.size (.cells #[.bool p.leaf, .string p.low, .string p.high, .int .i64 p.right, .slice a0 p.list.length c0] 24)] from HW.out.set5 1 rfl (.bool q.leaf) (.string q.low) (.string q.high) (.int .i64 q.right) (.slice qa q.list.length qc))
      have hq : foldD p ds = (q, 0) := by have := HF.out; rwa [List.drop_zero] at this
      show bodyPost Try.prog Try.f14 (GaveR (foldD p ds) w) Exit.ret _ _
      exact bodyPost_ret (res_c1t rfl rfl (load_pg (HE.out.blk 1 rfl).1) rfl) rfl (by rw [hq]; exact ⟨_, rfl, rl_setP HQ.out (HW.out.blk 1 rfl).1 (set5_kp (HW.out.blk 1 rfl).1 _ _ _ _ _), HE.out.old⟩)
    | succ k =>
      obtain ⟨d, hd⟩ : ∃ d, ds[k]? = some d := ⟨_, List.getElem?_eq_getElem (by omega)⟩
      have hk : (((k + 1 : Nat) : Int) - 1) = (k : Int) := by omega
      rw [hk]
      have hk0 : (0 : Int) ≤ (k : Int) := by omega
      have hk1 : (k : Int) < (ds.length : Int) := by omega
      obtain ⟨b, off, va, vn, vc, hab, _, hrd, d0, d1, d2, d3, d4, d5, d6, d7, d8, d9, da, db⟩ := (HD.out.kn HW.out.old).at hd
      cases hab
      have HA := Lib.hid (fun W (k' : KN wr W) => apply_ref q d W (HQ.out.kn k') (hrd.kn k') (by
        have h1 := foldD_len p (ds.drop (k + 1))
        rw [HF.out] at h1
        have h2 := sumD_drop ds k
        rw [List.drop_eq_getElem_cons (by omega), sumD_cons, (List.getElem?_eq_some_iff.1 hd).2] at h2
        exact Nat.le_trans (Nat.mul_le_mul_right 40 (by simp only at h1; omega)) HB.out))
      have HF2 := Lib.hid (foldD_step hd HF.out)
      obtain ⟨⟨⟨qf, qlo, qh, qr, ql⟩, cd⟩, hq⟩ : ∃ x, applyD q d = x := ⟨_, rfl⟩
      rw [hq] at HA HF2
      clear hq hd hrd
      unfold dlv at HA
      go_upto_region 5 with fail
      have s0 : KN wr wr.drew ∧ wr.drew.cell? ⟨w.heap.size + 1 + 1, 0, none⟩ = some (.bool q.leaf) ∧ wr.drew.cell? ⟨w.heap.size + 1 + 1, 1, none⟩ = some (.string q.low) ∧ wr.drew.cell? ⟨w.heap.size + 1 + 1, 2, none⟩ = some (.string q.high) ∧ wr.drew.cell? ⟨w.heap.size + 1 + 1, 3, none⟩ = some (.int .i64 q.right) ∧ wr.drew.cell? ⟨w.heap.size + 1 + 1, 4, none⟩ = some (.slice qa q.list.length qc) ∧ wr.drew.cell? ⟨b, off + k * 12, none⟩ = some (.int .i64 d.kind) ∧ wr.drew.cell? ⟨b, off + k * 12 + 1, none⟩ = some (.string d.entry.key) ∧ wr.drew.cell? ⟨b, off + k * 12 + 2, none⟩ = some (.int .i64 d.entry.ref.slot) ∧ wr.drew.cell? ⟨b, off + k * 12 + 3, none⟩ = some (.int .i64 d.entry.ref.gen) ∧ wr.drew.cell? ⟨b, off + k * 12 + 4, none⟩ = some (.int .i64 d.entry.child) ∧ wr.drew.cell? ⟨b, off + k * 12 + 5, none⟩ = some (.string d.key) ∧ wr.drew.cell? ⟨b, off + k * 12 + 6, none⟩ = some (.int .i64 d.page) ∧ wr.drew.cell? ⟨b, off + k * 12 + 7, none⟩ = some (.bool d.right.leaf) ∧ wr.drew.cell? ⟨b, off + k * 12 + 8, none⟩ = some (.string d.right.low) ∧ wr.drew.cell? ⟨b, off + k * 12 + 9, none⟩ = some (.string d.right.high) ∧ wr.drew.cell? ⟨b, off + k * 12 + 10, none⟩ = some (.int .i64 d.right.right) ∧ wr.drew.cell? ⟨b, off + k * 12 + 11, none⟩ = some (.slice va vn vc) := ⟨(Kp.refl _ wr).drew, y0, y1, y2, y3, y4, d0, d1, d2, d3, d4, d5, d6, d7, d8, d9, da, db⟩
      clear y0 y1 y2 y3 y4 yf z0 z1 z2 z3 z4 zf d0 d1 d2 d3 d4 d5 d6 d7 d8 d9 da db
      have sA : KN wr (wr.alloc (.cells #[.bool false, .string ⟨#[]⟩, .string ⟨#[]⟩, .int .i64 0, .slice none 0 0] 24)).drew ∧ (wr.alloc (.cells #[.bool false, .string ⟨#[]⟩, .string ⟨#[]⟩, .int .i64 0, .slice none 0 0] 24)).drew.cell? ⟨w.heap.size + 1 + 1, 0, none⟩ = some (.bool q.leaf) ∧ (wr.alloc (.cells #[.bool false, .string ⟨#[]⟩, .string ⟨#[]⟩, .int .i64 0, .slice none 0 0] 24)).drew.cell? ⟨w.heap.size + 1 + 1, 1, none⟩ = some (.string q.low) ∧ (wr.alloc (.cells #[.bool false, .string ⟨#[]⟩, .string ⟨#[]⟩, .int .i64 0, .slice none 0 0] 24)).drew.cell? ⟨w.heap.size + 1 + 1, 2, none⟩ = some (.string q.high) ∧ (wr.alloc (.cells #[.bool false, .string ⟨#[]⟩, .string ⟨#[]⟩, .int .i64 0, .slice none 0 0] 24)).drew.cell? ⟨w.heap.size + 1 + 1, 3, none⟩ = some (.int .i64 q.right) ∧ (wr.alloc (.cells #[.bool false, .string ⟨#[]⟩, .string ⟨#[]⟩, .int .i64 0, .slice none 0 0] 24)).drew.cell? ⟨w.heap.size + 1 + 1, 4, none⟩ = some (.slice qa q.list.length qc) ∧ (wr.alloc (.cells #[.bool false, .string ⟨#[]⟩, .string ⟨#[]⟩, .int .i64 0, .slice none 0 0] 24)).drew.cell? ⟨b, off + k * 12, none⟩ = some (.int .i64 d.kind) ∧ (wr.alloc (.cells #[.bool false, .string ⟨#[]⟩, .string ⟨#[]⟩, .int .i64 0, .slice none 0 0] 24)).drew.cell? ⟨b, off + k * 12 + 1, none⟩ = some (.string d.entry.key) ∧ (wr.alloc (.cells #[.bool false, .string ⟨#[]⟩, .string ⟨#[]⟩, .int .i64 0, .slice none 0 0] 24)).drew.cell? ⟨b, off + k * 12 + 2, none⟩ = some (.int .i64 d.entry.ref.slot) ∧ (wr.alloc (.cells #[.bool false, .string ⟨#[]⟩, .string ⟨#[]⟩, .int .i64 0, .slice none 0 0] 24)).drew.cell? ⟨b, off + k * 12 + 3, none⟩ = some (.int .i64 d.entry.ref.gen) ∧ (wr.alloc (.cells #[.bool false, .string ⟨#[]⟩, .string ⟨#[]⟩, .int .i64 0, .slice none 0 0] 24)).drew.cell? ⟨b, off + k * 12 + 4, none⟩ = some (.int .i64 d.entry.child) ∧ (wr.alloc (.cells #[.bool false, .string ⟨#[]⟩, .string ⟨#[]⟩, .int .i64 0, .slice none 0 0] 24)).drew.cell? ⟨b, off + k * 12 + 5, none⟩ = some (.string d.key) ∧ (wr.alloc (.cells #[.bool false, .string ⟨#[]⟩, .string ⟨#[]⟩, .int .i64 0, .slice none 0 0] 24)).drew.cell? ⟨b, off + k * 12 + 6, none⟩ = some (.int .i64 d.page) ∧ (wr.alloc (.cells #[.bool false, .string ⟨#[]⟩, .string ⟨#[]⟩, .int .i64 0, .slice none 0 0] 24)).drew.cell? ⟨b, off + k * 12 + 7, none⟩ = some (.bool d.right.leaf) ∧ (wr.alloc (.cells #[.bool false, .string ⟨#[]⟩, .string ⟨#[]⟩, .int .i64 0, .slice none 0 0] 24)).drew.cell? ⟨b, off + k * 12 + 8, none⟩ = some (.string d.right.low) ∧ (wr.alloc (.cells #[.bool false, .string ⟨#[]⟩, .string ⟨#[]⟩, .int .i64 0, .slice none 0 0] 24)).drew.cell? ⟨b, off + k * 12 + 9, none⟩ = some (.string d.right.high) ∧ (wr.alloc (.cells #[.bool false, .string ⟨#[]⟩, .string ⟨#[]⟩, .int .i64 0, .slice none 0 0] 24)).drew.cell? ⟨b, off + k * 12 + 10, none⟩ = some (.int .i64 d.right.right) ∧ (wr.alloc (.cells #[.bool false, .string ⟨#[]⟩, .string ⟨#[]⟩, .int .i64 0, .slice none 0 0] 24)).drew.cell? ⟨b, off + k * 12 + 11, none⟩ = some (.slice va vn vc) := lift17 (W' := (wr.alloc (.cells #[.bool false, .string ⟨#[]⟩, .string ⟨#[]⟩, .int .i64 0, .slice none 0 0] 24)).drew) s0 (((Kp.refl _ wr.drew).alloc (.cells #[.bool false, .string ⟨#[]⟩, .string ⟨#[]⟩, .int .i64 0, .slice none 0 0] 24)))
      have hbw : b < wr.heap.size := (World.block_lt_of_cell? _ _ s0.2.2.2.2.2.2.1 : b < wr.heap.size)
      have hgw : w.heap.size + 1 + 1 < wr.heap.size := (World.block_lt_of_cell? _ _ s0.2.1 : w.heap.size + 1 + 1 < wr.heap.size)
      go_region_held3 (fun w' => KN wr w' ∧ w'.cell? ⟨w.heap.size + 1 + 1, 0, none⟩ = some (.bool q.leaf) ∧ w'.cell? ⟨w.heap.size + 1 + 1, 1, none⟩ = some (.string q.low) ∧ w'.cell? ⟨w.heap.size + 1 + 1, 2, none⟩ = some (.string q.high) ∧ w'.cell? ⟨w.heap.size + 1 + 1, 3, none⟩ = some (.int .i64 q.right) ∧ w'.cell? ⟨w.heap.size + 1 + 1, 4, none⟩ = some (.slice qa q.list.length qc) ∧ w'.cell? ⟨b, off + k * 12, none⟩ = some (.int .i64 d.kind) ∧ w'.cell? ⟨b, off + k * 12 + 1, none⟩ = some (.string d.entry.key) ∧ w'.cell? ⟨b, off + k * 12 + 2, none⟩ = some (.int .i64 d.entry.ref.slot) ∧ w'.cell? ⟨b, off + k * 12 + 3, none⟩ = some (.int .i64 d.entry.ref.gen) ∧ w'.cell? ⟨b, off + k * 12 + 4, none⟩ = some (.int .i64 d.entry.child) ∧ w'.cell? ⟨b, off + k * 12 + 5, none⟩ = some (.string d.key) ∧ w'.cell? ⟨b, off + k * 12 + 6, none⟩ = some (.int .i64 d.page) ∧ w'.cell? ⟨b, off + k * 12 + 7, none⟩ = some (.bool d.right.leaf) ∧ w'.cell? ⟨b, off + k * 12 + 8, none⟩ = some (.string d.right.low) ∧ w'.cell? ⟨b, off + k * 12 + 9, none⟩ = some (.string d.right.high) ∧ w'.cell? ⟨b, off + k * 12 + 10, none⟩ = some (.int .i64 d.right.right) ∧ w'.cell? ⟨b, off + k * 12 + 11, none⟩ = some (.slice va vn vc)) (first | with_reducible exact s0 | with_reducible exact sA | with_reducible exact s1 | with_reducible exact s2 | with_reducible exact s3)
        (first
          | (go_at_call 25; refine (HA.out _ s0.1).mono ?_; rintro e w3 ⟨v', rfl, hrl, k3⟩; obtain ⟨va', vc', hv', _⟩ := hrl.form; simp only at hv'; subst hv'; have s1 := lift17 s0 k3; have s2 := lift17 s1 (kn_alloc w3 (.cells #[.bool qf, .string qlo, .string qh, .int .i64 qr, .slice va' ql.length vc'] 24)); have s3 := lift17 s1 (kn_alloc w3 (.cells #[.bool false, .string ⟨#[]⟩, .string ⟨#[]⟩, .int .i64 0, .slice none 0 0] 24)); have HW3 := Lib.hid (((HW.out.kn ((Kp.refl _ _).drew)).kn k3)); have HRl := Lib.hid hrl; clear hrl k3)
          | (go_at_call 25; refine (HA.out _ sA.1).mono ?_; rintro e w3 ⟨v', rfl, hrl, k3⟩; obtain ⟨va', vc', hv', _⟩ := hrl.form; simp only at hv'; subst hv'; have s1 := lift17 sA k3; have HW3 := Lib.hid (((HW.out.alloc (.cells #[.bool false, .string ⟨#[]⟩, .string ⟨#[]⟩, .int .i64 0, .slice none 0 0] 24)).kn ((Kp.refl _ _).drew)).kn k3); have s2 := lift17k s1 (set5_kp (HW3.out.blk 0 rfl).1 (.bool qf) (.string qlo) (.string qh) (.int .i64 qr) (.slice va' ql.length vc')) (fun i hi => by rw [hi]; exact Nat.le_refl _) (by omega) (by omega); obtain ⟨t0, t1, t2, t3, t4, tf⟩ := cells5 (HW3.out.blk 0 rfl).1; have HRl := Lib.hid hrl; clear hrl k3))
      all_goals
        first
        | (have HN : Hid (One w (w3.alloc (.cells #[.bool qf, .string qlo, .string qh, .int .i64 qr, .slice va' ql.length vc'] 24)) [Blk w3.heap.size (.cells #[.bool qf, .string qlo, .string qh, .int .i64 qr, .slice va' ql.length vc'] 24), Blk (w.heap.size + 1 + 1) (.cells #[.bool q.leaf, .string q.low, .string q.high, .int .i64 q.right, .slice qa q.list.length qc] 24), Blk (w.heap.size + 1) (.cells #[.bool false, .string ⟨#[]⟩, .string ⟨#[]⟩, .int .i64 0, .slice none 0 0] 24), Blk w.heap.size (.cells #[.bool p.leaf, .string p.low, .string p.high, .int .i64 p.right, .slice a0 p.list.length c0] 24)]) := Lib.hid (HW3.out.alloc (.cells #[.bool qf, .string qlo, .string qh, .int .i64 qr, .slice va' ql.length vc'] 24))
           have HRn := Lib.hid (HRl.out.kn (kn_alloc w3 (.cells #[.bool qf, .string qlo, .string qh, .int .i64 qr, .slice va' ql.length vc'] 24)))
           clear HW3 HRl s0 sA s1 s2 s3
           generalize w3.alloc (.cells #[.bool qf, .string qlo, .string qh, .int .i64 qr, .slice va' ql.length vc'] 24) = wn at *
           generalize w3.heap.size = g8 at *)
        | (have HN : Hid (One w (((((w3.setCell ⟨wr.heap.size, 0, none⟩ (.bool qf)).setCell ⟨wr.heap.size, 1, none⟩ (.string qlo)).setCell ⟨wr.heap.size, 2, none⟩ (.string qh)).setCell ⟨wr.heap.size, 3, none⟩ (.int .i64 qr)).setCell ⟨wr.heap.size, 4, none⟩ (.slice va' ql.length vc')) [Blk wr.heap.size (.cells #[.bool qf, .string qlo, .string qh, .int .i64 qr, .slice va' ql.length vc'] 24), Blk (w.heap.size + 1 + 1) (.cells #[.bool q.leaf, .string q.low, .string q.high, .int .i64 q.right, .slice qa q.list.length qc] 24), Blk (w.heap.size + 1) (.cells #[.bool false, .string ⟨#[]⟩, .string ⟨#[]⟩, .int .i64 0, .slice none 0 0] 24), Blk w.heap.size (.cells #[.bool p.leaf, .string p.low, .string p.high, .int .i64 p.right, .slice a0 p.list.length c0] 24)]) := Lib.hid (HW3.out.set5 0 rfl (.bool qf) (.string qlo) (.string qh) (.int .i64 qr) (.slice va' ql.length vc'))
           have HRn := Lib.hid (rl_setP HRl.out (HW3.out.blk 0 rfl).1 (set5_kp (HW3.out.blk 0 rfl).1 (.bool qf) (.string qlo) (.string qh) (.int .i64 qr) (.slice va' ql.length vc')))
           clear HW3 HRl s0 sA s1 s2 t0 t1 t2 t3 t4 tf hgw hbw
           generalize (((((w3.setCell ⟨wr.heap.size, 0, none⟩ (.bool qf)).setCell ⟨wr.heap.size, 1, none⟩ (.string qlo)).setCell ⟨wr.heap.size, 2, none⟩ (.string qh)).setCell ⟨wr.heap.size, 3, none⟩ (.int .i64 qr)).setCell ⟨wr.heap.size, 4, none⟩ (.slice va' ql.length vc')) = wn at *
           generalize wr.heap.size = g8 at *)
        obtain ⟨x0, x1, x2, x3, x4, xf⟩ := cells5 (HN.out.blk 0 rfl).1
        obtain ⟨y0, y1, y2, y3, y4, yf⟩ := cells5 (HN.out.blk 1 rfl).1
        obtain ⟨z0, z1, z2, z3, z4, zf⟩ := cells5 (HN.out.blk 2 rfl).1
        by_cases hc : cd = 0
        · subst hc
          go_wp2_with fail
          have HW4 := Lib.hid (show One w (((((wn.setCell ⟨w.heap.size + 1 + 1, 0, none⟩ (.bool qf)).setCell ⟨w.heap.size + 1 + 1, 1, none⟩ (.string qlo)).setCell ⟨w.heap.size + 1 + 1, 2, none⟩ (.string qh)).setCell ⟨w.heap.size + 1 + 1, 3, none⟩ (.int .i64 qr)).setCell ⟨w.heap.size + 1 + 1, 4, none⟩ (.slice va' ql.length vc')) [Blk (w.heap.size + 1 + 1) (.cells #[.bool qf, .string qlo, .string qh, .int .i64 qr, .slice va' ql.length vc'] 24), Blk (w.heap.size + 1) (.cells #[.bool false, .string ⟨#[]⟩, .string ⟨#[]⟩, .int .i64 0, .slice none 0 0] 24), Blk w.heap.size (.cells #[.bool p.leaf, .string p.low, .string p.high, .int .i64 p.right, .slice a0 p.list.length c0] 24)] from (HN.out.set5 1 rfl (.bool qf) (.string qlo) (.string qh) (.int .i64 qr) (.slice va' ql.length vc')).drop)
          go_roundw
          case rel => exact ⟨k, ⟨qf, qlo, qh, qr, ql⟩, va', vc', by omega, by go_num, HF2, HW4, Lib.hid (rl_setP HRn.out (HN.out.blk 1 rfl).1 (set5_kp (HN.out.blk 1 rfl).1 _ _ _ _ _))⟩
          case measure => simp [intOf]
        · have hq : foldD p ds = (zeroPg, cd) := by
            have h := foldD_drop_bad (p := p) (l := ds) (m := k) (by rw [HF2.out]; exact hc)
            rwa [HF2.out] at h
          have HQQ := Lib.hid hq
          clear hq
          have hc0 : (cd != 0) = true := by simpa using hc
          go_wp2_with fail
          have HE := Lib.hid (HN.out.set5 2 rfl (.bool false) (.string ⟨#[]⟩) (.string ⟨#[]⟩) (.int .i64 0) (.slice none 0 0))
          show bodyPost Try.prog Try.f14 (GaveR (foldD p ds) w) Exit.ret _ _
          exact bodyPost_ret (res_c1t rfl rfl (load_pg (HE.out.blk 2 rfl).1) rfl) rfl (by rw [HQQ.out]; exact ⟨_, rfl, Rl.nil _ _ _, HE.out.old⟩)
end Go.Proofs.Ytkdlodjpambelaa

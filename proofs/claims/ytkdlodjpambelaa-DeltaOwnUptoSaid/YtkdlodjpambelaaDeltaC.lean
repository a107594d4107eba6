/- Deltas: what is laid of them; Clone. -/
import Derived.Test.YtkdlodjpambelaaDeltaP
import Derived.Test.YtkdlodjpambelaaClones
namespace Go.Proofs.Ytkdlodjpambelaa
set_option linter.unusedVariables false
set_option linter.unusedSimpArgs false
open Go Go.RowKit

theorem cells12 {w : World} {b : Nat} {T : TypeId} {v0 v1 v2 v3 v4 v5 v6 v7 v8 v9 v10 v11 : Value} (h : w.heap[b]? = some (.cells #[v0, v1, v2, v3, v4, v5, v6, v7, v8, v9, v10, v11] T (0, 0))) : w.cell? ⟨b, 0, none⟩ = some v0 ∧ w.cell? ⟨b, 1, none⟩ = some v1 ∧ w.cell? ⟨b, 2, none⟩ = some v2 ∧ w.cell? ⟨b, 3, none⟩ = some v3 ∧ w.cell? ⟨b, 4, none⟩ = some v4 ∧ w.cell? ⟨b, 5, none⟩ = some v5 ∧ w.cell? ⟨b, 6, none⟩ = some v6 ∧ w.cell? ⟨b, 7, none⟩ = some v7 ∧ w.cell? ⟨b, 8, none⟩ = some v8 ∧ w.cell? ⟨b, 9, none⟩ = some v9 ∧ w.cell? ⟨b, 10, none⟩ = some v10 ∧ w.cell? ⟨b, 11, none⟩ = some v11 ∧ (∀ j, w.frozen? ⟨b, j, none⟩ = false) :=
  ⟨cell_blk h rfl, cell_blk h rfl, cell_blk h rfl, cell_blk h rfl, cell_blk h rfl, cell_blk h rfl, cell_blk h rfl, cell_blk h rfl, cell_blk h rfl, cell_blk h rfl, cell_blk h rfl, cell_blk h rfl, fun j => free_blk h⟩
theorem One.set12 {w0 w : World} {l : List Asr} (h : One w0 w l) (i : Nat) {g : Nat} {v0 v1 v2 v3 v4 v5 v6 v7 v8 v9 v10 v11 : Value} {T : TypeId} (hi : l[i]? = some (Blk g (.cells #[v0, v1, v2, v3, v4, v5, v6, v7, v8, v9, v10, v11] T))) (u0 u1 u2 u3 u4 u5 u6 u7 u8 u9 u10 u11 : Value) :
    One w0 ((((((((((((w.setCell ⟨g, 0, none⟩ (u0)).setCell ⟨g, 1, none⟩ (u1)).setCell ⟨g, 2, none⟩ (u2)).setCell ⟨g, 3, none⟩ (u3)).setCell ⟨g, 4, none⟩ (u4)).setCell ⟨g, 5, none⟩ (u5)).setCell ⟨g, 6, none⟩ (u6)).setCell ⟨g, 7, none⟩ (u7)).setCell ⟨g, 8, none⟩ (u8)).setCell ⟨g, 9, none⟩ (u9)).setCell ⟨g, 10, none⟩ (u10)).setCell ⟨g, 11, none⟩ (u11)) (l.set i (Blk g (.cells #[u0, u1, u2, u3, u4, u5, u6, u7, u8, u9, u10, u11] T))) := by
  have hb := (h.blk i hi).1
  have hl := lt_blk hb
  rw [setCell_setB u0 hb, setCell_setB u1 (setB_same _ hl), setB_setB, setCell_setB u2 (setB_same _ hl), setB_setB, setCell_setB u3 (setB_same _ hl), setB_setB, setCell_setB u4 (setB_same _ hl), setB_setB, setCell_setB u5 (setB_same _ hl), setB_setB, setCell_setB u6 (setB_same _ hl), setB_setB, setCell_setB u7 (setB_same _ hl), setB_setB, setCell_setB u8 (setB_same _ hl), setB_setB, setCell_setB u9 (setB_same _ hl), setB_setB, setCell_setB u10 (setB_same _ hl), setB_setB, setCell_setB u11 (setB_same _ hl), setB_setB]
  simp only [List.setIfInBounds_toArray, List.set_cons_zero, List.set_cons_succ]
  exact h.setB i hi _
theorem One.set7 {w0 w : World} {l : List Asr} (h : One w0 w l) (i : Nat) {g : Nat} {v0 v1 v2 v3 v4 v5 v6 v7 v8 v9 v10 v11 : Value} {T : TypeId} (hi : l[i]? = some (Blk g (.cells #[v0, v1, v2, v3, v4, v5, v6, v7, v8, v9, v10, v11] T))) (u7 u8 u9 u10 u11 : Value) :
    One w0 (((((w.setCell ⟨g, 7, none⟩ (u7)).setCell ⟨g, 8, none⟩ (u8)).setCell ⟨g, 9, none⟩ (u9)).setCell ⟨g, 10, none⟩ (u10)).setCell ⟨g, 11, none⟩ (u11)) (l.set i (Blk g (.cells #[v0, v1, v2, v3, v4, v5, v6, u7, u8, u9, u10, u11] T))) := by
  have hb := (h.blk i hi).1
  have hl := lt_blk hb
  rw [setCell_setB u7 hb, setCell_setB u8 (setB_same _ hl), setB_setB, setCell_setB u9 (setB_same _ hl), setB_setB, setCell_setB u10 (setB_same _ hl), setB_setB, setCell_setB u11 (setB_same _ hl), setB_setB]
  simp only [List.setIfInBounds_toArray, List.set_cons_zero, List.set_cons_succ]
  exact h.setB i hi _
theorem load_dl {W : World} {g : Nat} {v0 v1 v2 v3 v4 v5 v6 v7 v8 v9 v10 v11 : Value} (h : W.heap[g]? = some (.cells #[v0, v1, v2, v3, v4, v5, v6, v7, v8, v9, v10, v11] 30)) : (loadVar 30 ⟨g, 0, none⟩).run Try.prog W = .ok (.agg #[v0, v1, v2, v3, v4, v5, v6, v7, v8, v9, v10, v11]) W := by
  obtain ⟨z0, z1, z2, z3, z4, z5, z6, z7, z8, z9, z10, z11, zf⟩ := cells12 h
  clear h
  go_simp
def GaveD (d : Dl) (w : World) (e : Ending) (w' : World) : Prop := ∃ a cap, e = .returned (dlv d (.slice a d.right.list.length cap)) ∧ Post (RowE a cap d.right.list) (fun _ => False) w w'
set_option maxHeartbeats 400000 in
theorem clone_delta (d : Dl) (w : World) {v : Value} (hr : Rl En.enc 4 w v d.right.list) (h63 : d.right.list.length ≤ maxLen) (hb : d.right.list.length * 40 ≤ 140737488355328) : Calls Try.prog 22 #[dlv d v] w (GaveD d w) := by
  obtain ⟨k, ⟨ek, ⟨es, eg⟩, ec⟩, key, pg, p⟩ := d
  simp only at hr h63 hb
  obtain ⟨a0, c0, rfl, hc0, hrd⟩ := hr
  have HC := Lib.hid (fun W (k : KN w W) => clone_page p W ((Rl.of_rd hrd hc0).kn k) h63 hb)
  clear hrd
  obtain ⟨lf, lo, hi, r, l⟩ := p
  simp only at HC h63 hb hc0
  unfold dlv
  simp only
  have HO := Lib.hid ((One.nil w).alloc2 (.cells #[.int .i64 k, .string ek, .int .i64 es, .int .i64 eg, .int .i64 ec, .string key, .int .i64 pg, .bool lf, .string lo, .string hi, .int .i64 r, .slice a0 l.length c0] 30) (.cells #[.int .i64 0, .string ⟨#[]⟩, .int .i64 0, .int .i64 0, .int .i64 0, .string ⟨#[]⟩, .int .i64 0, .bool false, .string ⟨#[]⟩, .string ⟨#[]⟩, .int .i64 0, .slice none 0 0] 30))
  go_enter Try.func22, Try.ntmps22
  go_wp2_with fail
  generalize (w.alloc (.cells #[.int .i64 k, .string ek, .int .i64 es, .int .i64 eg, .int .i64 ec, .string key, .int .i64 pg, .bool lf, .string lo, .string hi, .int .i64 r, .slice a0 l.length c0] 30)).alloc (.cells #[.int .i64 0, .string ⟨#[]⟩, .int .i64 0, .int .i64 0, .int .i64 0, .string ⟨#[]⟩, .int .i64 0, .bool false, .string ⟨#[]⟩, .string ⟨#[]⟩, .int .i64 0, .slice none 0 0] 30) = w1 at *
  obtain ⟨x0, x1, x2, x3, x4, x5, x6, x7, x8, x9, xa, xb, xf⟩ := cells12 (HO.out.blk 1 rfl).1
  go_wp2_with fail
  refine (HC.out _ HO.out.old).mono ?_
  rintro e w2 ⟨a2, c2, rfl, k2⟩
  have HO2 := Lib.hid (HO.out.add k2)
  clear k2 HO x0 x1 x2 x3 x4 x5 x6 x7 x8 x9 xa xb xf
  obtain ⟨x0, x1, x2, x3, x4, x5, x6, x7, x8, x9, xa, xb, xf⟩ := cells12 (HO2.out.blk 2 rfl).1
  go_upto_region 2 with fail
  have HO3 := Lib.hid (show One w (((((w2.setCell ⟨w.heap.size, 7, none⟩ (.bool lf)).setCell ⟨w.heap.size, 8, none⟩ (.string lo)).setCell ⟨w.heap.size, 9, none⟩ (.string hi)).setCell ⟨w.heap.size, 10, none⟩ (.int .i64 r)).setCell ⟨w.heap.size, 11, none⟩ (.slice a2 l.length c2)) [RowE a2 c2 l, Blk (w.heap.size + 1) (.cells #[.int .i64 0, .string ⟨#[]⟩, .int .i64 0, .int .i64 0, .int .i64 0, .string ⟨#[]⟩, .int .i64 0, .bool false, .string ⟨#[]⟩, .string ⟨#[]⟩, .int .i64 0, .slice none 0 0] 30), Blk w.heap.size (.cells #[.int .i64 k, .string ek, .int .i64 es, .int .i64 eg, .int .i64 ec, .string key, .int .i64 pg, .bool lf, .string lo, .string hi, .int .i64 r, .slice a2 l.length c2] 30)] from HO2.out.set7 2 rfl (.bool lf) (.string lo) (.string hi) (.int .i64 r) (.slice a2 l.length c2))
  clear HO2 x0 x1 x2 x3 x4 x5 x6 x7 x8 x9 xa xb xf
  generalize (((((w2.setCell ⟨w.heap.size, 7, none⟩ (.bool lf)).setCell ⟨w.heap.size, 8, none⟩ (.string lo)).setCell ⟨w.heap.size, 9, none⟩ (.string hi)).setCell ⟨w.heap.size, 10, none⟩ (.int .i64 r)).setCell ⟨w.heap.size, 11, none⟩ (.slice a2 l.length c2)) = w3 at *
  obtain ⟨x0, x1, x2, x3, x4, x5, x6, x7, x8, x9, xa, xb, xf⟩ := cells12 (HO3.out.blk 2 rfl).1
  obtain ⟨y0, y1, y2, y3, y4, y5, y6, y7, y8, y9, ya, yb, yf⟩ := cells12 (HO3.out.blk 1 rfl).1
  go_wp2_with fail
  have HO4 := Lib.hid (show One w ((((((((((((w3.setCell ⟨w.heap.size + 1, 0, none⟩ (.int .i64 k)).setCell ⟨w.heap.size + 1, 1, none⟩ (.string ek)).setCell ⟨w.heap.size + 1, 2, none⟩ (.int .i64 es)).setCell ⟨w.heap.size + 1, 3, none⟩ (.int .i64 eg)).setCell ⟨w.heap.size + 1, 4, none⟩ (.int .i64 ec)).setCell ⟨w.heap.size + 1, 5, none⟩ (.string key)).setCell ⟨w.heap.size + 1, 6, none⟩ (.int .i64 pg)).setCell ⟨w.heap.size + 1, 7, none⟩ (.bool lf)).setCell ⟨w.heap.size + 1, 8, none⟩ (.string lo)).setCell ⟨w.heap.size + 1, 9, none⟩ (.string hi)).setCell ⟨w.heap.size + 1, 10, none⟩ (.int .i64 r)).setCell ⟨w.heap.size + 1, 11, none⟩ (.slice a2 l.length c2)) [RowE a2 c2 l, Blk (w.heap.size + 1) (.cells #[.int .i64 k, .string ek, .int .i64 es, .int .i64 eg, .int .i64 ec, .string key, .int .i64 pg, .bool lf, .string lo, .string hi, .int .i64 r, .slice a2 l.length c2] 30), Blk w.heap.size (.cells #[.int .i64 k, .string ek, .int .i64 es, .int .i64 eg, .int .i64 ec, .string key, .int .i64 pg, .bool lf, .string lo, .string hi, .int .i64 r, .slice a2 l.length c2] 30)] from HO3.out.set12 1 rfl (.int .i64 k) (.string ek) (.int .i64 es) (.int .i64 eg) (.int .i64 ec) (.string key) (.int .i64 pg) (.bool lf) (.string lo) (.string hi) (.int .i64 r) (.slice a2 l.length c2))
  exact bodyPost_ret (res_c1 rfl rfl (load_dl (HO4.out.blk 1 rfl).1)) rfl ⟨a2, c2, rfl, HO4.out.post 0 rfl⟩
set_option maxHeartbeats 400000 in
theorem clone_dref (d : Dl) (w : World) {v : Value} (hr : Rl En.enc 4 w v d.right.list) (h63 : d.right.list.length ≤ maxLen) (hb : d.right.list.length * 40 ≤ 140737488355328) : Calls Try.prog 24 #[dlv d v] w (GaveD d w) := by
  obtain ⟨k, ⟨ek, ⟨es, eg⟩, ec⟩, key, pg, p⟩ := d
  simp only at hr h63 hb
  obtain ⟨a0, c0, rfl, hc0, hrd⟩ := hr
  have HC := Lib.hid (fun W (k : KN w W) => clone_ref p W ((Rl.of_rd hrd hc0).kn k) h63 hb)
  clear hrd
  obtain ⟨lf, lo, hi, r, l⟩ := p
  simp only at HC h63 hb hc0
  unfold dlv
  simp only
  have HO := Lib.hid ((One.nil w).alloc2 (.cells #[.int .i64 k, .string ek, .int .i64 es, .int .i64 eg, .int .i64 ec, .string key, .int .i64 pg, .bool lf, .string lo, .string hi, .int .i64 r, .slice a0 l.length c0] 30) (.cells #[.int .i64 0, .string ⟨#[]⟩, .int .i64 0, .int .i64 0, .int .i64 0, .string ⟨#[]⟩, .int .i64 0, .bool false, .string ⟨#[]⟩, .string ⟨#[]⟩, .int .i64 0, .slice none 0 0] 30))
  go_enter Try.func24, Try.ntmps24
  go_wp2_with fail
  generalize (w.alloc (.cells #[.int .i64 k, .string ek, .int .i64 es, .int .i64 eg, .int .i64 ec, .string key, .int .i64 pg, .bool lf, .string lo, .string hi, .int .i64 r, .slice a0 l.length c0] 30)).alloc (.cells #[.int .i64 0, .string ⟨#[]⟩, .int .i64 0, .int .i64 0, .int .i64 0, .string ⟨#[]⟩, .int .i64 0, .bool false, .string ⟨#[]⟩, .string ⟨#[]⟩, .int .i64 0, .slice none 0 0] 30) = w1 at *
  obtain ⟨x0, x1, x2, x3, x4, x5, x6, x7, x8, x9, xa, xb, xf⟩ := cells12 (HO.out.blk 1 rfl).1
  go_wp2_with fail
  refine (HC.out _ HO.out.old).mono ?_
  rintro e w2 ⟨a2, c2, rfl, k2⟩
  have HO2 := Lib.hid (HO.out.add k2)
  clear k2 HO x0 x1 x2 x3 x4 x5 x6 x7 x8 x9 xa xb xf
  obtain ⟨x0, x1, x2, x3, x4, x5, x6, x7, x8, x9, xa, xb, xf⟩ := cells12 (HO2.out.blk 2 rfl).1
  go_upto_region 2 with fail
  have HO3 := Lib.hid (show One w (((((w2.setCell ⟨w.heap.size, 7, none⟩ (.bool lf)).setCell ⟨w.heap.size, 8, none⟩ (.string lo)).setCell ⟨w.heap.size, 9, none⟩ (.string hi)).setCell ⟨w.heap.size, 10, none⟩ (.int .i64 r)).setCell ⟨w.heap.size, 11, none⟩ (.slice a2 l.length c2)) [RowE a2 c2 l, Blk (w.heap.size + 1) (.cells #[.int .i64 0, .string ⟨#[]⟩, .int .i64 0, .int .i64 0, .int .i64 0, .string ⟨#[]⟩, .int .i64 0, .bool false, .string ⟨#[]⟩, .string ⟨#[]⟩, .int .i64 0, .slice none 0 0] 30), Blk w.heap.size (.cells #[.int .i64 k, .string ek, .int .i64 es, .int .i64 eg, .int .i64 ec, .string key, .int .i64 pg, .bool lf, .string lo, .string hi, .int .i64 r, .slice a2 l.length c2] 30)] from HO2.out.set7 2 rfl (.bool lf) (.string lo) (.string hi) (.int .i64 r) (.slice a2 l.length c2))
  clear HO2 x0 x1 x2 x3 x4 x5 x6 x7 x8 x9 xa xb xf
  generalize (((((w2.setCell ⟨w.heap.size, 7, none⟩ (.bool lf)).setCell ⟨w.heap.size, 8, none⟩ (.string lo)).setCell ⟨w.heap.size, 9, none⟩ (.string hi)).setCell ⟨w.heap.size, 10, none⟩ (.int .i64 r)).setCell ⟨w.heap.size, 11, none⟩ (.slice a2 l.length c2)) = w3 at *
  obtain ⟨x0, x1, x2, x3, x4, x5, x6, x7, x8, x9, xa, xb, xf⟩ := cells12 (HO3.out.blk 2 rfl).1
  obtain ⟨y0, y1, y2, y3, y4, y5, y6, y7, y8, y9, ya, yb, yf⟩ := cells12 (HO3.out.blk 1 rfl).1
  go_wp2_with fail
  have HO4 := Lib.hid (show One w ((((((((((((w3.setCell ⟨w.heap.size + 1, 0, none⟩ (.int .i64 k)).setCell ⟨w.heap.size + 1, 1, none⟩ (.string ek)).setCell ⟨w.heap.size + 1, 2, none⟩ (.int .i64 es)).setCell ⟨w.heap.size + 1, 3, none⟩ (.int .i64 eg)).setCell ⟨w.heap.size + 1, 4, none⟩ (.int .i64 ec)).setCell ⟨w.heap.size + 1, 5, none⟩ (.string key)).setCell ⟨w.heap.size + 1, 6, none⟩ (.int .i64 pg)).setCell ⟨w.heap.size + 1, 7, none⟩ (.bool lf)).setCell ⟨w.heap.size + 1, 8, none⟩ (.string lo)).setCell ⟨w.heap.size + 1, 9, none⟩ (.string hi)).setCell ⟨w.heap.size + 1, 10, none⟩ (.int .i64 r)).setCell ⟨w.heap.size + 1, 11, none⟩ (.slice a2 l.length c2)) [RowE a2 c2 l, Blk (w.heap.size + 1) (.cells #[.int .i64 k, .string ek, .int .i64 es, .int .i64 eg, .int .i64 ec, .string key, .int .i64 pg, .bool lf, .string lo, .string hi, .int .i64 r, .slice a2 l.length c2] 30), Blk w.heap.size (.cells #[.int .i64 k, .string ek, .int .i64 es, .int .i64 eg, .int .i64 ec, .string key, .int .i64 pg, .bool lf, .string lo, .string hi, .int .i64 r, .slice a2 l.length c2] 30)] from HO3.out.set12 1 rfl (.int .i64 k) (.string ek) (.int .i64 es) (.int .i64 eg) (.int .i64 ec) (.string key) (.int .i64 pg) (.bool lf) (.string lo) (.string hi) (.int .i64 r) (.slice a2 l.length c2))
  exact bodyPost_ret (res_c1 rfl rfl (load_dl (HO4.out.blk 1 rfl).1)) rfl ⟨a2, c2, rfl, HO4.out.post 0 rfl⟩
end Go.Proofs.Ytkdlodjpambelaa

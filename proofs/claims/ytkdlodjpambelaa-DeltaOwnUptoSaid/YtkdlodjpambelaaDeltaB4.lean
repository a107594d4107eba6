/- reference: bare, kind 4. -/
import Derived.Test.YtkdlodjpambelaaDeltaB
import Derived.Test.YtkdlodjpambelaaQuietT
namespace Go.Proofs.Ytkdlodjpambelaa
set_option linter.unusedVariables false
set_option linter.unusedSimpArgs false
open Go Go.RowKit Go.Sort

theorem sB4 {w W : World} {g g' : Nat} {T T' : TypeId} {v0 v1 v2 v3 v4 v5 v6 v7 v8 v9 v10 v11 u0 u1 u2 u3 u4 u5 u6 u7 u8 u9 u10 u11 : Value} (k : KN w W) (h : W.heap[g]? = some (.cells #[v0, v1, v2, v3, v4, v5, v6, v7, v8, v9, v10, v11] T)) (h' : W.heap[g']? = some (.cells #[u0, u1, u2, u3, u4, u5, u6, u7, u8, u9, u10, u11] T')) : KN w W ∧ W.cell? ⟨g, 0, none⟩ = some v0 ∧ W.cell? ⟨g, 1, none⟩ = some v1 ∧ W.cell? ⟨g, 2, none⟩ = some v2 ∧ W.cell? ⟨g, 3, none⟩ = some v3 ∧ W.cell? ⟨g, 4, none⟩ = some v4 ∧ W.cell? ⟨g, 5, none⟩ = some v5 ∧ W.cell? ⟨g, 6, none⟩ = some v6 ∧ W.cell? ⟨g, 7, none⟩ = some v7 ∧ W.cell? ⟨g, 8, none⟩ = some v8 ∧ W.cell? ⟨g, 9, none⟩ = some v9 ∧ W.cell? ⟨g, 10, none⟩ = some v10 ∧ W.cell? ⟨g, 11, none⟩ = some v11 ∧ W.cell? ⟨g', 7, none⟩ = some u7 ∧ W.cell? ⟨g', 8, none⟩ = some u8 ∧ W.cell? ⟨g', 9, none⟩ = some u9 ∧ W.cell? ⟨g', 10, none⟩ = some u10 ∧ W.cell? ⟨g', 11, none⟩ = some u11 :=
  let ⟨y0, y1, y2, y3, y4, y5, y6, y7, y8, y9, ya, yb, _⟩ := cells12 h
  let ⟨_, _, _, _, _, _, _, x7, x8, x9, xa, xb, _⟩ := cells12 h'
  ⟨k, y0, y1, y2, y3, y4, y5, y6, y7, y8, y9, ya, yb, x7, x8, x9, xa, xb⟩
set_option maxHeartbeats 2000000 in
theorem bare_d4 (ek : ByteArray) (es eg ec : Int) (key : ByteArray) (pg : Int) (p : Pg) (w : World) {v : Value} (hr : Rl En.enc 4 w v p.list) (hl : p.list.length ≤ maxLen) : Calls Try.prog 47 #[dlv ⟨4, ⟨ek, ⟨es, eg⟩, ec⟩, key, pg, p⟩ v] w (GaveB ⟨4, ⟨ek, ⟨es, eg⟩, ec⟩, key, pg, p⟩ v w) := by
  obtain ⟨a0, c0, rfl, hc0, hrd⟩ := hr
  have HCk := Lib.hid (fun W (k' : KN w W) => check_ref p W ((Rl.of_rd hrd hc0).kn k') hl)
  clear hrd
  have HB := Lib.hid (show bareD ⟨4, ⟨ek, ⟨es, eg⟩, ec⟩, key, pg, p⟩ = ⟨4, zeroEn, empS, 0, p⟩ from by unfold bareD; simp)
  have HK := Lib.hid (show okD ⟨4, ⟨ek, ⟨es, eg⟩, ec⟩, key, pg, p⟩ = (checkP p == 0) from by unfold okD; simp)
  have HI := Lib.hid (show (if (4 : Int) = 4 then (.slice a0 p.list.length c0 : Value) else .slice none 0 0) = .slice a0 p.list.length c0 from by simp)
  obtain ⟨cv, hcv⟩ : ∃ x, checkP p = x := ⟨_, rfl⟩
  rw [hcv] at HCk HK
  clear hcv
  obtain ⟨lf, lo, hi, r, l⟩ := p
  unfold GaveB
  rw [HB.out, HK.out]
  simp only at HI ⊢
  rw [HI.out]
  unfold dlv
  simp only
  have HO := Lib.hid ((One.nil w).alloc2 (.cells #[.int .i64 4, .string ek, .int .i64 es, .int .i64 eg, .int .i64 ec, .string key, .int .i64 pg, .bool lf, .string lo, .string hi, .int .i64 r, .slice a0 l.length c0] 30) (.cells #[.int .i64 0, .string ⟨#[]⟩, .int .i64 0, .int .i64 0, .int .i64 0, .string ⟨#[]⟩, .int .i64 0, .bool false, .string ⟨#[]⟩, .string ⟨#[]⟩, .int .i64 0, .slice none 0 0] 30))
  go_enter Try.func47, Try.ntmps47
  go_upto_region 2 with fail
  have HO2 := Lib.hid (HO.out.alloc (.cells #[.int .i64 4, .string ⟨#[]⟩, .int .i64 0, .int .i64 0, .int .i64 0, .string ⟨#[]⟩, .int .i64 0, .bool false, .string ⟨#[]⟩, .string ⟨#[]⟩, .int .i64 0, .slice none 0 0] 30))
  rw [show ((w.alloc (.cells #[.int .i64 4, .string ek, .int .i64 es, .int .i64 eg, .int .i64 ec, .string key, .int .i64 pg, .bool lf, .string lo, .string hi, .int .i64 r, .slice a0 l.length c0] 30)).alloc (.cells #[.int .i64 0, .string ⟨#[]⟩, .int .i64 0, .int .i64 0, .int .i64 0, .string ⟨#[]⟩, .int .i64 0, .bool false, .string ⟨#[]⟩, .string ⟨#[]⟩, .int .i64 0, .slice none 0 0] 30)).heap.size = w.heap.size + 1 + 1 by simp] at HO2
  generalize ((w.alloc (.cells #[.int .i64 4, .string ek, .int .i64 es, .int .i64 eg, .int .i64 ec, .string key, .int .i64 pg, .bool lf, .string lo, .string hi, .int .i64 r, .slice a0 l.length c0] 30)).alloc (.cells #[.int .i64 0, .string ⟨#[]⟩, .int .i64 0, .int .i64 0, .int .i64 0, .string ⟨#[]⟩, .int .i64 0, .bool false, .string ⟨#[]⟩, .string ⟨#[]⟩, .int .i64 0, .slice none 0 0] 30)).alloc (.cells #[.int .i64 4, .string ⟨#[]⟩, .int .i64 0, .int .i64 0, .int .i64 0, .string ⟨#[]⟩, .int .i64 0, .bool false, .string ⟨#[]⟩, .string ⟨#[]⟩, .int .i64 0, .slice none 0 0] 30) = w2 at *
  obtain ⟨x0, x1, x2, x3, x4, x5, x6, x7, x8, x9, xa, xb, xf⟩ := cells12 (HO2.out.blk 2 rfl).1
  obtain ⟨y0, y1, y2, y3, y4, y5, y6, y7, y8, y9, ya, yb, yf⟩ := cells12 (HO2.out.blk 0 rfl).1
  go_upto_region 13 with fail
  have HO3 := Lib.hid (show One w (((((w2.setCell ⟨w.heap.size + 1 + 1, 7, none⟩ (.bool lf)).setCell ⟨w.heap.size + 1 + 1, 8, none⟩ (.string lo)).setCell ⟨w.heap.size + 1 + 1, 9, none⟩ (.string hi)).setCell ⟨w.heap.size + 1 + 1, 10, none⟩ (.int .i64 r)).setCell ⟨w.heap.size + 1 + 1, 11, none⟩ (.slice a0 l.length c0)) [Blk (w.heap.size + 1 + 1) (.cells #[.int .i64 4, .string ⟨#[]⟩, .int .i64 0, .int .i64 0, .int .i64 0, .string ⟨#[]⟩, .int .i64 0, .bool lf, .string lo, .string hi, .int .i64 r, .slice a0 l.length c0] 30), Blk (w.heap.size + 1) (.cells #[.int .i64 0, .string ⟨#[]⟩, .int .i64 0, .int .i64 0, .int .i64 0, .string ⟨#[]⟩, .int .i64 0, .bool false, .string ⟨#[]⟩, .string ⟨#[]⟩, .int .i64 0, .slice none 0 0] 30), Blk w.heap.size (.cells #[.int .i64 4, .string ek, .int .i64 es, .int .i64 eg, .int .i64 ec, .string key, .int .i64 pg, .bool lf, .string lo, .string hi, .int .i64 r, .slice a0 l.length c0] 30)] from HO2.out.set7 0 rfl (.bool lf) (.string lo) (.string hi) (.int .i64 r) (.slice a0 l.length c0))
  clear HO HO2 x0 x1 x2 x3 x4 x5 x6 x7 x8 x9 xa xb xf y0 y1 y2 y3 y4 y5 y6 y7 y8 y9 ya yb yf
  generalize (((((w2.setCell ⟨w.heap.size + 1 + 1, 7, none⟩ (.bool lf)).setCell ⟨w.heap.size + 1 + 1, 8, none⟩ (.string lo)).setCell ⟨w.heap.size + 1 + 1, 9, none⟩ (.string hi)).setCell ⟨w.heap.size + 1 + 1, 10, none⟩ (.int .i64 r)).setCell ⟨w.heap.size + 1 + 1, 11, none⟩ (.slice a0 l.length c0)) = w3 at *
  obtain ⟨x0, x1, x2, x3, x4, x5, x6, x7, x8, x9, xa, xb, xf⟩ := cells12 (HO3.out.blk 2 rfl).1
  obtain ⟨y0, y1, y2, y3, y4, y5, y6, y7, y8, y9, ya, yb, yf⟩ := cells12 (HO3.out.blk 0 rfl).1
  obtain ⟨z0, z1, z2, z3, z4, z5, z6, z7, z8, z9, za, zb, zf⟩ := cells12 (HO3.out.blk 1 rfl).1
  have s0 : KN w w3.drew ∧ w3.drew.cell? ⟨w.heap.size + 1 + 1, 0, none⟩ = some (.int .i64 4) ∧ w3.drew.cell? ⟨w.heap.size + 1 + 1, 1, none⟩ = some (.string ⟨#[]⟩) ∧ w3.drew.cell? ⟨w.heap.size + 1 + 1, 2, none⟩ = some (.int .i64 0) ∧ w3.drew.cell? ⟨w.heap.size + 1 + 1, 3, none⟩ = some (.int .i64 0) ∧ w3.drew.cell? ⟨w.heap.size + 1 + 1, 4, none⟩ = some (.int .i64 0) ∧ w3.drew.cell? ⟨w.heap.size + 1 + 1, 5, none⟩ = some (.string ⟨#[]⟩) ∧ w3.drew.cell? ⟨w.heap.size + 1 + 1, 6, none⟩ = some (.int .i64 0) ∧ w3.drew.cell? ⟨w.heap.size + 1 + 1, 7, none⟩ = some (.bool lf) ∧ w3.drew.cell? ⟨w.heap.size + 1 + 1, 8, none⟩ = some (.string lo) ∧ w3.drew.cell? ⟨w.heap.size + 1 + 1, 9, none⟩ = some (.string hi) ∧ w3.drew.cell? ⟨w.heap.size + 1 + 1, 10, none⟩ = some (.int .i64 r) ∧ w3.drew.cell? ⟨w.heap.size + 1 + 1, 11, none⟩ = some (.slice a0 l.length c0) ∧ w3.drew.cell? ⟨w.heap.size, 7, none⟩ = some (.bool lf) ∧ w3.drew.cell? ⟨w.heap.size, 8, none⟩ = some (.string lo) ∧ w3.drew.cell? ⟨w.heap.size, 9, none⟩ = some (.string hi) ∧ w3.drew.cell? ⟨w.heap.size, 10, none⟩ = some (.int .i64 r) ∧ w3.drew.cell? ⟨w.heap.size, 11, none⟩ = some (.slice a0 l.length c0) := ⟨HO3.out.old.drew, y0, y1, y2, y3, y4, y5, y6, y7, y8, y9, ya, yb, x7, x8, x9, xa, xb⟩
  clear x0 x1 x2 x3 x4 x5 x6 x7 x8 x9 xa xb xf yf y0 y1 y2 y3 y4 y5 y6 y7 y8 y9 ya yb z0 z1 z2 z3 z4 z5 z6 z7 z8 z9 za zb
  go_region_held3 (fun w' => KN w w' ∧ w'.cell? ⟨w.heap.size + 1 + 1, 0, none⟩ = some (.int .i64 4) ∧ w'.cell? ⟨w.heap.size + 1 + 1, 1, none⟩ = some (.string ⟨#[]⟩) ∧ w'.cell? ⟨w.heap.size + 1 + 1, 2, none⟩ = some (.int .i64 0) ∧ w'.cell? ⟨w.heap.size + 1 + 1, 3, none⟩ = some (.int .i64 0) ∧ w'.cell? ⟨w.heap.size + 1 + 1, 4, none⟩ = some (.int .i64 0) ∧ w'.cell? ⟨w.heap.size + 1 + 1, 5, none⟩ = some (.string ⟨#[]⟩) ∧ w'.cell? ⟨w.heap.size + 1 + 1, 6, none⟩ = some (.int .i64 0) ∧ w'.cell? ⟨w.heap.size + 1 + 1, 7, none⟩ = some (.bool lf) ∧ w'.cell? ⟨w.heap.size + 1 + 1, 8, none⟩ = some (.string lo) ∧ w'.cell? ⟨w.heap.size + 1 + 1, 9, none⟩ = some (.string hi) ∧ w'.cell? ⟨w.heap.size + 1 + 1, 10, none⟩ = some (.int .i64 r) ∧ w'.cell? ⟨w.heap.size + 1 + 1, 11, none⟩ = some (.slice a0 l.length c0) ∧ w'.cell? ⟨w.heap.size, 7, none⟩ = some (.bool lf) ∧ w'.cell? ⟨w.heap.size, 8, none⟩ = some (.string lo) ∧ w'.cell? ⟨w.heap.size, 9, none⟩ = some (.string hi) ∧ w'.cell? ⟨w.heap.size, 10, none⟩ = some (.int .i64 r) ∧ w'.cell? ⟨w.heap.size, 11, none⟩ = some (.slice a0 l.length c0)) (first | with_reducible exact s0 | with_reducible exact s1 | with_reducible exact s2)
    (first | (go_at_call 10; refine (HCk.out _ s0.1).mono ?_; rintro e w4 ⟨rfl, k4⟩; have HO4 := Lib.hid ((HO3.out.kn ((Kp.refl _ _).drew)).kn k4); have s1 := sB4 HO4.out.old (HO4.out.blk 0 rfl).1 (HO4.out.blk 2 rfl).1; have HO5 := Lib.hid (HO4.out.set12 1 rfl (.int .i64 4) (.string ⟨#[]⟩) (.int .i64 0) (.int .i64 0) (.int .i64 0) (.string ⟨#[]⟩) (.int .i64 0) (.bool lf) (.string lo) (.string hi) (.int .i64 r) (.slice a0 l.length c0)); have s2 := sB4 HO5.out.old (HO5.out.blk 0 rfl).1 (HO5.out.blk 2 rfl).1; clear k4; obtain ⟨z0, z1, z2, z3, z4, z5, z6, z7, z8, z9, za, zb, zf⟩ := cells12 (HO4.out.blk 1 rfl).1))
  all_goals
    go_wp2_with fail
    exact bodyPost_ret (res_c1t rfl rfl (load_dl (HO5.out.blk 1 rfl).1) rfl) rfl ⟨rfl, HO5.out.old⟩
end Go.Proofs.Ytkdlodjpambelaa

/- delta.Check, case by case. -/
import Derived.Test.YtkdlodjpambelaaDeltaL
import Derived.Test.YtkdlodjpambelaaDeltaC
import Derived.Test.YtkdlodjpambelaaCheckP
import Derived.Deep.RegionHeld3
namespace Go.Proofs.Ytkdlodjpambelaa
set_option linter.unusedVariables false
set_option linter.unusedSimpArgs false
open Go Go.RowKit

theorem One.setEn {w0 w : World} {l : List Asr} (h : One w0 w l) (i : Nat) {g : Nat} {v0 v1 v2 v3 v4 v5 v6 v7 v8 v9 v10 v11 : Value} {T : TypeId} (hi : l[i]? = some (Blk g (.cells #[v0, v1, v2, v3, v4, v5, v6, v7, v8, v9, v10, v11] T))) (u1 u2 u3 u4 : Value) :
    One w0 ((((w.setCell ⟨g, 1, none⟩ (u1)).setCell ⟨g, 2, none⟩ (u2)).setCell ⟨g, 3, none⟩ (u3)).setCell ⟨g, 4, none⟩ (u4)) (l.set i (Blk g (.cells #[v0, u1, u2, u3, u4, v5, v6, v7, v8, v9, v10, v11] T))) := by
  have hb := (h.blk i hi).1
  have hl := lt_blk hb
  rw [setCell_setB u1 hb, setCell_setB u2 (setB_same _ hl), setB_setB, setCell_setB u3 (setB_same _ hl), setB_setB, setCell_setB u4 (setB_same _ hl), setB_setB]
  simp only [List.setIfInBounds_toArray, List.set_cons_zero, List.set_cons_succ]
  exact h.setB i hi _
set_option maxHeartbeats 1000000 in
theorem check_d1 (ek : ByteArray) (es eg ec : Int) (key : ByteArray) (pg : Int) (p : Pg) (w : World) {v : Value} (hr : Rl En.enc 4 w v p.list) (hl : p.list.length ≤ maxLen) : Calls Try.prog 28 #[dlv ⟨1, ⟨ek, ⟨es, eg⟩, ec⟩, key, pg, p⟩ v] w fun e w' => e = .returned (.int .i64 (checkD ⟨1, ⟨ek, ⟨es, eg⟩, ec⟩, key, pg, p⟩)) ∧ KN w w' := by
  obtain ⟨a0, c0, rfl, hc0, hrd⟩ := hr
  have HS := Lib.hid (fun W b u (k' : KN w W) (h2 : Rl En.enc 4 W u b.right.list) => same_delta ⟨1, ⟨ek, ⟨es, eg⟩, ec⟩, key, pg, p⟩ b W ((Rl.of_rd hrd hc0).kn k') h2 hl)
  have HV := Lib.hid (show checkD ⟨1, ⟨ek, ⟨es, eg⟩, ec⟩, key, pg, p⟩ = (if sameD ⟨1, ⟨ek, ⟨es, eg⟩, ec⟩, key, pg, p⟩ (bareD ⟨1, ⟨ek, ⟨es, eg⟩, ec⟩, key, pg, p⟩) then 0 else 90) from by unfold checkD badD; generalize sameD _ _ = sv; cases sv <;> simp)
  have HR := Lib.hid hrd
  clear hrd
  obtain ⟨lf, lo, hi, r, l⟩ := p
  simp only at hl hc0 HR
  unfold dlv at HS ⊢
  simp only at HS ⊢
  have HO := Lib.hid ((One.nil w).alloc (.cells #[.int .i64 1, .string ek, .int .i64 es, .int .i64 eg, .int .i64 ec, .string key, .int .i64 pg, .bool lf, .string lo, .string hi, .int .i64 r, .slice a0 l.length c0] 30))
  go_enter Try.func28, Try.ntmps28
  go_upto_region 3 with fail
  have HO2 := Lib.hid (HO.out.alloc (.cells #[.int .i64 1, .string ⟨#[]⟩, .int .i64 0, .int .i64 0, .int .i64 0, .string ⟨#[]⟩, .int .i64 0, .bool false, .string ⟨#[]⟩, .string ⟨#[]⟩, .int .i64 0, .slice none 0 0] 30))
  rw [show (w.alloc (.cells #[.int .i64 1, .string ek, .int .i64 es, .int .i64 eg, .int .i64 ec, .string key, .int .i64 pg, .bool lf, .string lo, .string hi, .int .i64 r, .slice a0 l.length c0] 30)).heap.size = w.heap.size + 1 by simp] at HO2
  generalize (w.alloc (.cells #[.int .i64 1, .string ek, .int .i64 es, .int .i64 eg, .int .i64 ec, .string key, .int .i64 pg, .bool lf, .string lo, .string hi, .int .i64 r, .slice a0 l.length c0] 30)).alloc (.cells #[.int .i64 1, .string ⟨#[]⟩, .int .i64 0, .int .i64 0, .int .i64 0, .string ⟨#[]⟩, .int .i64 0, .bool false, .string ⟨#[]⟩, .string ⟨#[]⟩, .int .i64 0, .slice none 0 0] 30) = w2 at *
  obtain ⟨x0, x1, x2, x3, x4, x5, x6, x7, x8, x9, xa, xb, xf⟩ := cells12 (HO2.out.blk 1 rfl).1
  obtain ⟨y0, y1, y2, y3, y4, y5, y6, y7, y8, y9, ya, yb, yf⟩ := cells12 (HO2.out.blk 0 rfl).1
  go_upto_region 18 with fail
  have HO3 := Lib.hid (show One w ((((w2.setCell ⟨w.heap.size + 1, 1, none⟩ (.string ek)).setCell ⟨w.heap.size + 1, 2, none⟩ (.int .i64 es)).setCell ⟨w.heap.size + 1, 3, none⟩ (.int .i64 eg)).setCell ⟨w.heap.size + 1, 4, none⟩ (.int .i64 ec)) [Blk (w.heap.size + 1) (.cells #[.int .i64 1, .string ek, .int .i64 es, .int .i64 eg, .int .i64 ec, .string ⟨#[]⟩, .int .i64 0, .bool false, .string ⟨#[]⟩, .string ⟨#[]⟩, .int .i64 0, .slice none 0 0] 30), Blk w.heap.size (.cells #[.int .i64 1, .string ek, .int .i64 es, .int .i64 eg, .int .i64 ec, .string key, .int .i64 pg, .bool lf, .string lo, .string hi, .int .i64 r, .slice a0 l.length c0] 30)] from HO2.out.setEn 0 rfl (.string ek) (.int .i64 es) (.int .i64 eg) (.int .i64 ec))
  clear HO HO2 x0 x1 x2 x3 x4 x5 x6 x7 x8 x9 xa xb xf y0 y1 y2 y3 y4 y5 y6 y7 y8 y9 ya yb yf
  generalize ((((w2.setCell ⟨w.heap.size + 1, 1, none⟩ (.string ek)).setCell ⟨w.heap.size + 1, 2, none⟩ (.int .i64 es)).setCell ⟨w.heap.size + 1, 3, none⟩ (.int .i64 eg)).setCell ⟨w.heap.size + 1, 4, none⟩ (.int .i64 ec)) = w3 at *
  obtain ⟨x0, x1, x2, x3, x4, x5, x6, x7, x8, x9, xa, xb, xf⟩ := cells12 (HO3.out.blk 1 rfl).1
  obtain ⟨y0, y1, y2, y3, y4, y5, y6, y7, y8, y9, ya, yb, yf⟩ := cells12 (HO3.out.blk 0 rfl).1
  go_wp2_with fail
  refine (HS.out _ (bareD ⟨1, ⟨ek, ⟨es, eg⟩, ec⟩, key, pg, ⟨lf, lo, hi, r, l⟩⟩) (.slice none 0 0) HO3.out.old ⟨none, 0, rfl, Nat.le_refl _, .inl rfl⟩).mono ?_
  rintro e w4 ⟨rfl, k4⟩
  have HO4 := Lib.hid (HO3.out.kn k4)
  cases hsv : sameD ⟨1, ⟨ek, ⟨es, eg⟩, ec⟩, key, pg, ⟨lf, lo, hi, r, l⟩⟩ (bareD ⟨1, ⟨ek, ⟨es, eg⟩, ec⟩, key, pg, ⟨lf, lo, hi, r, l⟩⟩)
  all_goals
    rw [hsv] at HV
    clear hsv
    go_wp2
    go_ret
    rw [HV.out]
    exact ⟨rfl, HO4.out.old⟩
set_option maxHeartbeats 1000000 in
theorem check_d2 (ek : ByteArray) (es eg ec : Int) (key : ByteArray) (pg : Int) (p : Pg) (w : World) {v : Value} (hr : Rl En.enc 4 w v p.list) (hl : p.list.length ≤ maxLen) : Calls Try.prog 28 #[dlv ⟨2, ⟨ek, ⟨es, eg⟩, ec⟩, key, pg, p⟩ v] w fun e w' => e = .returned (.int .i64 (checkD ⟨2, ⟨ek, ⟨es, eg⟩, ec⟩, key, pg, p⟩)) ∧ KN w w' := by
  obtain ⟨a0, c0, rfl, hc0, hrd⟩ := hr
  have HS := Lib.hid (fun W b u (k' : KN w W) (h2 : Rl En.enc 4 W u b.right.list) => same_delta ⟨2, ⟨ek, ⟨es, eg⟩, ec⟩, key, pg, p⟩ b W ((Rl.of_rd hrd hc0).kn k') h2 hl)
  have HV := Lib.hid (show checkD ⟨2, ⟨ek, ⟨es, eg⟩, ec⟩, key, pg, p⟩ = (if sameD ⟨2, ⟨ek, ⟨es, eg⟩, ec⟩, key, pg, p⟩ (bareD ⟨2, ⟨ek, ⟨es, eg⟩, ec⟩, key, pg, p⟩) then 0 else 90) from by unfold checkD badD; generalize sameD _ _ = sv; cases sv <;> simp)
  have HR := Lib.hid hrd
  clear hrd
  obtain ⟨lf, lo, hi, r, l⟩ := p
  simp only at hl hc0 HR
  unfold dlv at HS ⊢
  simp only at HS ⊢
  have HO := Lib.hid ((One.nil w).alloc (.cells #[.int .i64 2, .string ek, .int .i64 es, .int .i64 eg, .int .i64 ec, .string key, .int .i64 pg, .bool lf, .string lo, .string hi, .int .i64 r, .slice a0 l.length c0] 30))
  go_enter Try.func28, Try.ntmps28
  go_upto_region 3 with fail
  have HO2 := Lib.hid (HO.out.alloc (.cells #[.int .i64 2, .string ⟨#[]⟩, .int .i64 0, .int .i64 0, .int .i64 0, .string ⟨#[]⟩, .int .i64 0, .bool false, .string ⟨#[]⟩, .string ⟨#[]⟩, .int .i64 0, .slice none 0 0] 30))
  rw [show (w.alloc (.cells #[.int .i64 2, .string ek, .int .i64 es, .int .i64 eg, .int .i64 ec, .string key, .int .i64 pg, .bool lf, .string lo, .string hi, .int .i64 r, .slice a0 l.length c0] 30)).heap.size = w.heap.size + 1 by simp] at HO2
  generalize (w.alloc (.cells #[.int .i64 2, .string ek, .int .i64 es, .int .i64 eg, .int .i64 ec, .string key, .int .i64 pg, .bool lf, .string lo, .string hi, .int .i64 r, .slice a0 l.length c0] 30)).alloc (.cells #[.int .i64 2, .string ⟨#[]⟩, .int .i64 0, .int .i64 0, .int .i64 0, .string ⟨#[]⟩, .int .i64 0, .bool false, .string ⟨#[]⟩, .string ⟨#[]⟩, .int .i64 0, .slice none 0 0] 30) = w2 at *
  obtain ⟨x0, x1, x2, x3, x4, x5, x6, x7, x8, x9, xa, xb, xf⟩ := cells12 (HO2.out.blk 1 rfl).1
  obtain ⟨y0, y1, y2, y3, y4, y5, y6, y7, y8, y9, ya, yb, yf⟩ := cells12 (HO2.out.blk 0 rfl).1
  go_upto_region 18 with fail
  have HO3 := Lib.hid (show One w (w2.setCell ⟨w.heap.size + 1, 5, none⟩ (.string key)) [Blk (w.heap.size + 1) (.cells #[.int .i64 2, .string ⟨#[]⟩, .int .i64 0, .int .i64 0, .int .i64 0, .string key, .int .i64 0, .bool false, .string ⟨#[]⟩, .string ⟨#[]⟩, .int .i64 0, .slice none 0 0] 30), Blk w.heap.size (.cells #[.int .i64 2, .string ek, .int .i64 es, .int .i64 eg, .int .i64 ec, .string key, .int .i64 pg, .bool lf, .string lo, .string hi, .int .i64 r, .slice a0 l.length c0] 30)] from (HO2.out.setC 0 rfl (j := 5) (.string key)))
  clear HO HO2 x0 x1 x2 x3 x4 x5 x6 x7 x8 x9 xa xb xf y0 y1 y2 y3 y4 y5 y6 y7 y8 y9 ya yb yf
  generalize (w2.setCell ⟨w.heap.size + 1, 5, none⟩ (.string key)) = w3 at *
  obtain ⟨x0, x1, x2, x3, x4, x5, x6, x7, x8, x9, xa, xb, xf⟩ := cells12 (HO3.out.blk 1 rfl).1
  obtain ⟨y0, y1, y2, y3, y4, y5, y6, y7, y8, y9, ya, yb, yf⟩ := cells12 (HO3.out.blk 0 rfl).1
  go_wp2_with fail
  refine (HS.out _ (bareD ⟨2, ⟨ek, ⟨es, eg⟩, ec⟩, key, pg, ⟨lf, lo, hi, r, l⟩⟩) (.slice none 0 0) HO3.out.old ⟨none, 0, rfl, Nat.le_refl _, .inl rfl⟩).mono ?_
  rintro e w4 ⟨rfl, k4⟩
  have HO4 := Lib.hid (HO3.out.kn k4)
  cases hsv : sameD ⟨2, ⟨ek, ⟨es, eg⟩, ec⟩, key, pg, ⟨lf, lo, hi, r, l⟩⟩ (bareD ⟨2, ⟨ek, ⟨es, eg⟩, ec⟩, key, pg, ⟨lf, lo, hi, r, l⟩⟩)
  all_goals
    rw [hsv] at HV
    clear hsv
    go_wp2
    go_ret
    rw [HV.out]
    exact ⟨rfl, HO4.out.old⟩
set_option maxHeartbeats 1000000 in
theorem check_dx (k : Int) (h1 : k ≠ 1) (h2 : k ≠ 2) (h3 : k ≠ 3) (h4 : k ≠ 4) (h5 : k ≠ 5) (ek : ByteArray) (es eg ec : Int) (key : ByteArray) (pg : Int) (p : Pg) (w : World) {v : Value} (hr : Rl En.enc 4 w v p.list) (hl : p.list.length ≤ maxLen) : Calls Try.prog 28 #[dlv ⟨k, ⟨ek, ⟨es, eg⟩, ec⟩, key, pg, p⟩ v] w fun e w' => e = .returned (.int .i64 (checkD ⟨k, ⟨ek, ⟨es, eg⟩, ec⟩, key, pg, p⟩)) ∧ KN w w' := by
  obtain ⟨a0, c0, rfl, hc0, hrd⟩ := hr
  have HS := Lib.hid (fun W b u (k' : KN w W) (h2 : Rl En.enc 4 W u b.right.list) => same_delta ⟨k, ⟨ek, ⟨es, eg⟩, ec⟩, key, pg, p⟩ b W ((Rl.of_rd hrd hc0).kn k') h2 hl)
  have HV := Lib.hid (show checkD ⟨k, ⟨ek, ⟨es, eg⟩, ec⟩, key, pg, p⟩ = 90 from by unfold checkD badD; simp [h1, h2, h3, h4, h5])
  have HR := Lib.hid hrd
  clear hrd
  obtain ⟨lf, lo, hi, r, l⟩ := p
  simp only at hl hc0 HR
  unfold dlv at HS ⊢
  simp only at HS ⊢
  have e1 : (k == 1) = false := beq_false_of_ne h1
  have e2 : (k == 2) = false := beq_false_of_ne h2
  have e3 : (k == 3) = false := beq_false_of_ne h3
  have e4 : (k == 4) = false := beq_false_of_ne h4
  have e5 : (k == 5) = false := beq_false_of_ne h5
  have HO := Lib.hid ((One.nil w).alloc (.cells #[.int .i64 k, .string ek, .int .i64 es, .int .i64 eg, .int .i64 ec, .string key, .int .i64 pg, .bool lf, .string lo, .string hi, .int .i64 r, .slice a0 l.length c0] 30))
  go_enter Try.func28, Try.ntmps28
  go_upto_region 3 with fail
  have HO2 := Lib.hid (HO.out.alloc (.cells #[.int .i64 k, .string ⟨#[]⟩, .int .i64 0, .int .i64 0, .int .i64 0, .string ⟨#[]⟩, .int .i64 0, .bool false, .string ⟨#[]⟩, .string ⟨#[]⟩, .int .i64 0, .slice none 0 0] 30))
  rw [show (w.alloc (.cells #[.int .i64 k, .string ek, .int .i64 es, .int .i64 eg, .int .i64 ec, .string key, .int .i64 pg, .bool lf, .string lo, .string hi, .int .i64 r, .slice a0 l.length c0] 30)).heap.size = w.heap.size + 1 by simp] at HO2
  generalize (w.alloc (.cells #[.int .i64 k, .string ek, .int .i64 es, .int .i64 eg, .int .i64 ec, .string key, .int .i64 pg, .bool lf, .string lo, .string hi, .int .i64 r, .slice a0 l.length c0] 30)).alloc (.cells #[.int .i64 k, .string ⟨#[]⟩, .int .i64 0, .int .i64 0, .int .i64 0, .string ⟨#[]⟩, .int .i64 0, .bool false, .string ⟨#[]⟩, .string ⟨#[]⟩, .int .i64 0, .slice none 0 0] 30) = w2 at *
  obtain ⟨x0, x1, x2, x3, x4, x5, x6, x7, x8, x9, xa, xb, xf⟩ := cells12 (HO2.out.blk 1 rfl).1
  obtain ⟨y0, y1, y2, y3, y4, y5, y6, y7, y8, y9, ya, yb, yf⟩ := cells12 (HO2.out.blk 0 rfl).1
  go_upto_region 18 with fail
  go_wp2
  go_ret
  rw [HV.out]
  exact ⟨rfl, HO2.out.old⟩
set_option maxHeartbeats 1000000 in
theorem check_d5a (ek : ByteArray) (es eg ec : Int) (key : ByteArray) (pg : Int) (p : Pg) (hp : pg < 1) (w : World) {v : Value} (hr : Rl En.enc 4 w v p.list) (hl : p.list.length ≤ maxLen) : Calls Try.prog 28 #[dlv ⟨5, ⟨ek, ⟨es, eg⟩, ec⟩, key, pg, p⟩ v] w fun e w' => e = .returned (.int .i64 (checkD ⟨5, ⟨ek, ⟨es, eg⟩, ec⟩, key, pg, p⟩)) ∧ KN w w' := by
  obtain ⟨a0, c0, rfl, hc0, hrd⟩ := hr
  have HS := Lib.hid (fun W b u (k' : KN w W) (h2 : Rl En.enc 4 W u b.right.list) => same_delta ⟨5, ⟨ek, ⟨es, eg⟩, ec⟩, key, pg, p⟩ b W ((Rl.of_rd hrd hc0).kn k') h2 hl)
  have HV := Lib.hid (show checkD ⟨5, ⟨ek, ⟨es, eg⟩, ec⟩, key, pg, p⟩ = 90 from by unfold checkD badD; simp [hp])
  have HR := Lib.hid hrd
  clear hrd
  obtain ⟨lf, lo, hi, r, l⟩ := p
  simp only at hl hc0 HR
  unfold dlv at HS ⊢
  simp only at HS ⊢
  have hd : decide (pg < 1) = true := by simpa using hp
  have HO := Lib.hid ((One.nil w).alloc (.cells #[.int .i64 5, .string ek, .int .i64 es, .int .i64 eg, .int .i64 ec, .string key, .int .i64 pg, .bool lf, .string lo, .string hi, .int .i64 r, .slice a0 l.length c0] 30))
  go_enter Try.func28, Try.ntmps28
  go_upto_region 3 with fail
  have HO2 := Lib.hid (HO.out.alloc (.cells #[.int .i64 5, .string ⟨#[]⟩, .int .i64 0, .int .i64 0, .int .i64 0, .string ⟨#[]⟩, .int .i64 0, .bool false, .string ⟨#[]⟩, .string ⟨#[]⟩, .int .i64 0, .slice none 0 0] 30))
  rw [show (w.alloc (.cells #[.int .i64 5, .string ek, .int .i64 es, .int .i64 eg, .int .i64 ec, .string key, .int .i64 pg, .bool lf, .string lo, .string hi, .int .i64 r, .slice a0 l.length c0] 30)).heap.size = w.heap.size + 1 by simp] at HO2
  generalize (w.alloc (.cells #[.int .i64 5, .string ek, .int .i64 es, .int .i64 eg, .int .i64 ec, .string key, .int .i64 pg, .bool lf, .string lo, .string hi, .int .i64 r, .slice a0 l.length c0] 30)).alloc (.cells #[.int .i64 5, .string ⟨#[]⟩, .int .i64 0, .int .i64 0, .int .i64 0, .string ⟨#[]⟩, .int .i64 0, .bool false, .string ⟨#[]⟩, .string ⟨#[]⟩, .int .i64 0, .slice none 0 0] 30) = w2 at *
  obtain ⟨x0, x1, x2, x3, x4, x5, x6, x7, x8, x9, xa, xb, xf⟩ := cells12 (HO2.out.blk 1 rfl).1
  obtain ⟨y0, y1, y2, y3, y4, y5, y6, y7, y8, y9, ya, yb, yf⟩ := cells12 (HO2.out.blk 0 rfl).1
  go_upto_region 17 with fail
  have HO3 := Lib.hid (show One w (w2.setCell ⟨w.heap.size + 1, 6, none⟩ (.int .i64 pg)) [Blk (w.heap.size + 1) (.cells #[.int .i64 5, .string ⟨#[]⟩, .int .i64 0, .int .i64 0, .int .i64 0, .string ⟨#[]⟩, .int .i64 pg, .bool false, .string ⟨#[]⟩, .string ⟨#[]⟩, .int .i64 0, .slice none 0 0] 30), Blk w.heap.size (.cells #[.int .i64 5, .string ek, .int .i64 es, .int .i64 eg, .int .i64 ec, .string key, .int .i64 pg, .bool lf, .string lo, .string hi, .int .i64 r, .slice a0 l.length c0] 30)] from (HO2.out.setC 0 rfl (j := 6) (.int .i64 pg)))
  clear HO HO2 x0 x1 x2 x3 x4 x5 x6 x7 x8 x9 xa xb xf y0 y1 y2 y3 y4 y5 y6 y7 y8 y9 ya yb yf
  generalize (w2.setCell ⟨w.heap.size + 1, 6, none⟩ (.int .i64 pg)) = w3 at *
  obtain ⟨x0, x1, x2, x3, x4, x5, x6, x7, x8, x9, xa, xb, xf⟩ := cells12 (HO3.out.blk 1 rfl).1
  obtain ⟨y0, y1, y2, y3, y4, y5, y6, y7, y8, y9, ya, yb, yf⟩ := cells12 (HO3.out.blk 0 rfl).1
  go_wp2
  go_ret
  rw [HV.out]
  exact ⟨rfl, HO3.out.old⟩
set_option maxHeartbeats 1000000 in
theorem check_d5b (ek : ByteArray) (es eg ec : Int) (key : ByteArray) (pg : Int) (p : Pg) (hp : ¬ pg < 1) (w : World) {v : Value} (hr : Rl En.enc 4 w v p.list) (hl : p.list.length ≤ maxLen) : Calls Try.prog 28 #[dlv ⟨5, ⟨ek, ⟨es, eg⟩, ec⟩, key, pg, p⟩ v] w fun e w' => e = .returned (.int .i64 (checkD ⟨5, ⟨ek, ⟨es, eg⟩, ec⟩, key, pg, p⟩)) ∧ KN w w' := by
  obtain ⟨a0, c0, rfl, hc0, hrd⟩ := hr
  have HS := Lib.hid (fun W b u (k' : KN w W) (h2 : Rl En.enc 4 W u b.right.list) => same_delta ⟨5, ⟨ek, ⟨es, eg⟩, ec⟩, key, pg, p⟩ b W ((Rl.of_rd hrd hc0).kn k') h2 hl)
  have HV := Lib.hid (show checkD ⟨5, ⟨ek, ⟨es, eg⟩, ec⟩, key, pg, p⟩ = (if sameD ⟨5, ⟨ek, ⟨es, eg⟩, ec⟩, key, pg, p⟩ (bareD ⟨5, ⟨ek, ⟨es, eg⟩, ec⟩, key, pg, p⟩) then 0 else 90) from by unfold checkD badD; generalize sameD _ _ = sv; cases sv <;> simp [hp])
  have HR := Lib.hid hrd
  clear hrd
  obtain ⟨lf, lo, hi, r, l⟩ := p
  simp only at hl hc0 HR
  unfold dlv at HS ⊢
  simp only at HS ⊢
  have hd : decide (pg < 1) = false := by simpa using hp
  have HO := Lib.hid ((One.nil w).alloc (.cells #[.int .i64 5, .string ek, .int .i64 es, .int .i64 eg, .int .i64 ec, .string key, .int .i64 pg, .bool lf, .string lo, .string hi, .int .i64 r, .slice a0 l.length c0] 30))
  go_enter Try.func28, Try.ntmps28
  go_upto_region 3 with fail
  have HO2 := Lib.hid (HO.out.alloc (.cells #[.int .i64 5, .string ⟨#[]⟩, .int .i64 0, .int .i64 0, .int .i64 0, .string ⟨#[]⟩, .int .i64 0, .bool false, .string ⟨#[]⟩, .string ⟨#[]⟩, .int .i64 0, .slice none 0 0] 30))
  rw [show (w.alloc (.cells #[.int .i64 5, .string ek, .int .i64 es, .int .i64 eg, .int .i64 ec, .string key, .int .i64 pg, .bool lf, .string lo, .string hi, .int .i64 r, .slice a0 l.length c0] 30)).heap.size = w.heap.size + 1 by simp] at HO2
  generalize (w.alloc (.cells #[.int .i64 5, .string ek, .int .i64 es, .int .i64 eg, .int .i64 ec, .string key, .int .i64 pg, .bool lf, .string lo, .string hi, .int .i64 r, .slice a0 l.length c0] 30)).alloc (.cells #[.int .i64 5, .string ⟨#[]⟩, .int .i64 0, .int .i64 0, .int .i64 0, .string ⟨#[]⟩, .int .i64 0, .bool false, .string ⟨#[]⟩, .string ⟨#[]⟩, .int .i64 0, .slice none 0 0] 30) = w2 at *
  obtain ⟨x0, x1, x2, x3, x4, x5, x6, x7, x8, x9, xa, xb, xf⟩ := cells12 (HO2.out.blk 1 rfl).1
  obtain ⟨y0, y1, y2, y3, y4, y5, y6, y7, y8, y9, ya, yb, yf⟩ := cells12 (HO2.out.blk 0 rfl).1
  go_upto_region 17 with fail
  have HO3 := Lib.hid (show One w (w2.setCell ⟨w.heap.size + 1, 6, none⟩ (.int .i64 pg)) [Blk (w.heap.size + 1) (.cells #[.int .i64 5, .string ⟨#[]⟩, .int .i64 0, .int .i64 0, .int .i64 0, .string ⟨#[]⟩, .int .i64 pg, .bool false, .string ⟨#[]⟩, .string ⟨#[]⟩, .int .i64 0, .slice none 0 0] 30), Blk w.heap.size (.cells #[.int .i64 5, .string ek, .int .i64 es, .int .i64 eg, .int .i64 ec, .string key, .int .i64 pg, .bool lf, .string lo, .string hi, .int .i64 r, .slice a0 l.length c0] 30)] from (HO2.out.setC 0 rfl (j := 6) (.int .i64 pg)))
  clear HO HO2 x0 x1 x2 x3 x4 x5 x6 x7 x8 x9 xa xb xf y0 y1 y2 y3 y4 y5 y6 y7 y8 y9 ya yb yf
  generalize (w2.setCell ⟨w.heap.size + 1, 6, none⟩ (.int .i64 pg)) = w3 at *
  obtain ⟨x0, x1, x2, x3, x4, x5, x6, x7, x8, x9, xa, xb, xf⟩ := cells12 (HO3.out.blk 1 rfl).1
  obtain ⟨y0, y1, y2, y3, y4, y5, y6, y7, y8, y9, ya, yb, yf⟩ := cells12 (HO3.out.blk 0 rfl).1
  go_wp2_with fail
  refine (HS.out _ (bareD ⟨5, ⟨ek, ⟨es, eg⟩, ec⟩, key, pg, ⟨lf, lo, hi, r, l⟩⟩) (.slice none 0 0) HO3.out.old ⟨none, 0, rfl, Nat.le_refl _, .inl rfl⟩).mono ?_
  rintro e w4 ⟨rfl, k4⟩
  have HO4 := Lib.hid (HO3.out.kn k4)
  cases hsv : sameD ⟨5, ⟨ek, ⟨es, eg⟩, ec⟩, key, pg, ⟨lf, lo, hi, r, l⟩⟩ (bareD ⟨5, ⟨ek, ⟨es, eg⟩, ec⟩, key, pg, ⟨lf, lo, hi, r, l⟩⟩)
  all_goals
    rw [hsv] at HV
    clear hsv
    go_wp2
    go_ret
    rw [HV.out]
    exact ⟨rfl, HO4.out.old⟩
set_option maxHeartbeats 1000000 in
theorem check_d3a (ek : ByteArray) (es eg ec : Int) (key : ByteArray) (pg : Int) (p : Pg) (hp : pg < 1) (w : World) {v : Value} (hr : Rl En.enc 4 w v p.list) (hl : p.list.length ≤ maxLen) : Calls Try.prog 28 #[dlv ⟨3, ⟨ek, ⟨es, eg⟩, ec⟩, key, pg, p⟩ v] w fun e w' => e = .returned (.int .i64 (checkD ⟨3, ⟨ek, ⟨es, eg⟩, ec⟩, key, pg, p⟩)) ∧ KN w w' := by
  obtain ⟨a0, c0, rfl, hc0, hrd⟩ := hr
  have HS := Lib.hid (fun W b u (k' : KN w W) (h2 : Rl En.enc 4 W u b.right.list) => same_delta ⟨3, ⟨ek, ⟨es, eg⟩, ec⟩, key, pg, p⟩ b W ((Rl.of_rd hrd hc0).kn k') h2 hl)
  have HV := Lib.hid (show checkD ⟨3, ⟨ek, ⟨es, eg⟩, ec⟩, key, pg, p⟩ = 90 from by unfold checkD badD; simp [hp])
  have HR := Lib.hid hrd
  clear hrd
  obtain ⟨lf, lo, hi, r, l⟩ := p
  simp only at hl hc0 HR
  unfold dlv at HS ⊢
  simp only at HS ⊢
  have hd : decide (pg < 1) = true := by simpa using hp
  have HO := Lib.hid ((One.nil w).alloc (.cells #[.int .i64 3, .string ek, .int .i64 es, .int .i64 eg, .int .i64 ec, .string key, .int .i64 pg, .bool lf, .string lo, .string hi, .int .i64 r, .slice a0 l.length c0] 30))
  go_enter Try.func28, Try.ntmps28
  go_upto_region 3 with fail
  have HO2 := Lib.hid (HO.out.alloc (.cells #[.int .i64 3, .string ⟨#[]⟩, .int .i64 0, .int .i64 0, .int .i64 0, .string ⟨#[]⟩, .int .i64 0, .bool false, .string ⟨#[]⟩, .string ⟨#[]⟩, .int .i64 0, .slice none 0 0] 30))
  rw [show (w.alloc (.cells #[.int .i64 3, .string ek, .int .i64 es, .int .i64 eg, .int .i64 ec, .string key, .int .i64 pg, .bool lf, .string lo, .string hi, .int .i64 r, .slice a0 l.length c0] 30)).heap.size = w.heap.size + 1 by simp] at HO2
  generalize (w.alloc (.cells #[.int .i64 3, .string ek, .int .i64 es, .int .i64 eg, .int .i64 ec, .string key, .int .i64 pg, .bool lf, .string lo, .string hi, .int .i64 r, .slice a0 l.length c0] 30)).alloc (.cells #[.int .i64 3, .string ⟨#[]⟩, .int .i64 0, .int .i64 0, .int .i64 0, .string ⟨#[]⟩, .int .i64 0, .bool false, .string ⟨#[]⟩, .string ⟨#[]⟩, .int .i64 0, .slice none 0 0] 30) = w2 at *
  obtain ⟨x0, x1, x2, x3, x4, x5, x6, x7, x8, x9, xa, xb, xf⟩ := cells12 (HO2.out.blk 1 rfl).1
  obtain ⟨y0, y1, y2, y3, y4, y5, y6, y7, y8, y9, ya, yb, yf⟩ := cells12 (HO2.out.blk 0 rfl).1
  go_upto_region 10 with fail
  have K1 := Lib.hid (cells12 ((((HO2.out.setC 0 rfl (j := 5) (.string key)).kn ((Kp.refl _ _).drew)).blk 1 rfl)).1)
  go_region_held3 (fun w' => w'.cell? ⟨w.heap.size, 5, none⟩ = some (.string key) ∧ w'.cell? ⟨w.heap.size, 6, none⟩ = some (.int .i64 pg)) (first | (exact ⟨x5, x6⟩) | (exact ⟨K1.out.2.2.2.2.2.1, K1.out.2.2.2.2.2.2.1⟩) | go_keep) (fail)
  clear K1
  have HO3 := Lib.hid (show One w ((w2.setCell ⟨w.heap.size + 1, 5, none⟩ (.string key)).setCell ⟨w.heap.size + 1, 6, none⟩ (.int .i64 pg)).drew [Blk (w.heap.size + 1) (.cells #[.int .i64 3, .string ⟨#[]⟩, .int .i64 0, .int .i64 0, .int .i64 0, .string key, .int .i64 pg, .bool false, .string ⟨#[]⟩, .string ⟨#[]⟩, .int .i64 0, .slice none 0 0] 30), Blk w.heap.size (.cells #[.int .i64 3, .string ek, .int .i64 es, .int .i64 eg, .int .i64 ec, .string key, .int .i64 pg, .bool lf, .string lo, .string hi, .int .i64 r, .slice a0 l.length c0] 30)] from ((HO2.out.setC 0 rfl (j := 5) (.string key)).setC 0 rfl (j := 6) (.int .i64 pg)).kn ((Kp.refl _ _).drew))
  clear HO HO2 x0 x1 x2 x3 x4 x5 x6 x7 x8 x9 xa xb xf y0 y1 y2 y3 y4 y5 y6 y7 y8 y9 ya yb yf
  generalize ((w2.setCell ⟨w.heap.size + 1, 5, none⟩ (.string key)).setCell ⟨w.heap.size + 1, 6, none⟩ (.int .i64 pg)).drew = w3 at *
  obtain ⟨x0, x1, x2, x3, x4, x5, x6, x7, x8, x9, xa, xb, xf⟩ := cells12 (HO3.out.blk 1 rfl).1
  obtain ⟨y0, y1, y2, y3, y4, y5, y6, y7, y8, y9, ya, yb, yf⟩ := cells12 (HO3.out.blk 0 rfl).1
  go_wp2
  go_ret
  rw [HV.out]
  exact ⟨rfl, HO3.out.old⟩
set_option maxHeartbeats 1000000 in
theorem check_d3b (ek : ByteArray) (es eg ec : Int) (key : ByteArray) (pg : Int) (p : Pg) (hp : ¬ pg < 1) (hk : key.toList.isEmpty = true) (w : World) {v : Value} (hr : Rl En.enc 4 w v p.list) (hl : p.list.length ≤ maxLen) : Calls Try.prog 28 #[dlv ⟨3, ⟨ek, ⟨es, eg⟩, ec⟩, key, pg, p⟩ v] w fun e w' => e = .returned (.int .i64 (checkD ⟨3, ⟨ek, ⟨es, eg⟩, ec⟩, key, pg, p⟩)) ∧ KN w w' := by
  obtain ⟨a0, c0, rfl, hc0, hrd⟩ := hr
  have HS := Lib.hid (fun W b u (k' : KN w W) (h2 : Rl En.enc 4 W u b.right.list) => same_delta ⟨3, ⟨ek, ⟨es, eg⟩, ec⟩, key, pg, p⟩ b W ((Rl.of_rd hrd hc0).kn k') h2 hl)
  have HV := Lib.hid (show checkD ⟨3, ⟨ek, ⟨es, eg⟩, ec⟩, key, pg, p⟩ = 90 from by unfold checkD badD; simp [hp, hk])
  have HR := Lib.hid hrd
  clear hrd
  obtain ⟨lf, lo, hi, r, l⟩ := p
  simp only at hl hc0 HR
  unfold dlv at HS ⊢
  simp only at HS ⊢
  have hd : decide (pg < 1) = false := by simpa using hp
  have HO := Lib.hid ((One.nil w).alloc (.cells #[.int .i64 3, .string ek, .int .i64 es, .int .i64 eg, .int .i64 ec, .string key, .int .i64 pg, .bool lf, .string lo, .string hi, .int .i64 r, .slice a0 l.length c0] 30))
  go_enter Try.func28, Try.ntmps28
  go_upto_region 3 with fail
  have HO2 := Lib.hid (HO.out.alloc (.cells #[.int .i64 3, .string ⟨#[]⟩, .int .i64 0, .int .i64 0, .int .i64 0, .string ⟨#[]⟩, .int .i64 0, .bool false, .string ⟨#[]⟩, .string ⟨#[]⟩, .int .i64 0, .slice none 0 0] 30))
  rw [show (w.alloc (.cells #[.int .i64 3, .string ek, .int .i64 es, .int .i64 eg, .int .i64 ec, .string key, .int .i64 pg, .bool lf, .string lo, .string hi, .int .i64 r, .slice a0 l.length c0] 30)).heap.size = w.heap.size + 1 by simp] at HO2
  generalize (w.alloc (.cells #[.int .i64 3, .string ek, .int .i64 es, .int .i64 eg, .int .i64 ec, .string key, .int .i64 pg, .bool lf, .string lo, .string hi, .int .i64 r, .slice a0 l.length c0] 30)).alloc (.cells #[.int .i64 3, .string ⟨#[]⟩, .int .i64 0, .int .i64 0, .int .i64 0, .string ⟨#[]⟩, .int .i64 0, .bool false, .string ⟨#[]⟩, .string ⟨#[]⟩, .int .i64 0, .slice none 0 0] 30) = w2 at *
  obtain ⟨x0, x1, x2, x3, x4, x5, x6, x7, x8, x9, xa, xb, xf⟩ := cells12 (HO2.out.blk 1 rfl).1
  obtain ⟨y0, y1, y2, y3, y4, y5, y6, y7, y8, y9, ya, yb, yf⟩ := cells12 (HO2.out.blk 0 rfl).1
  go_upto_region 10 with fail
  have K1 := Lib.hid (cells12 ((((HO2.out.setC 0 rfl (j := 5) (.string key)).kn ((Kp.refl _ _).drew)).blk 1 rfl)).1)
  go_region_held3 (fun w' => w'.cell? ⟨w.heap.size, 5, none⟩ = some (.string key) ∧ w'.cell? ⟨w.heap.size, 6, none⟩ = some (.int .i64 pg)) (first | (exact ⟨x5, x6⟩) | (exact ⟨K1.out.2.2.2.2.2.1, K1.out.2.2.2.2.2.2.1⟩) | go_keep) (fail)
  clear K1
  have HO3 := Lib.hid (show One w ((w2.setCell ⟨w.heap.size + 1, 5, none⟩ (.string key)).setCell ⟨w.heap.size + 1, 6, none⟩ (.int .i64 pg)).drew [Blk (w.heap.size + 1) (.cells #[.int .i64 3, .string ⟨#[]⟩, .int .i64 0, .int .i64 0, .int .i64 0, .string key, .int .i64 pg, .bool false, .string ⟨#[]⟩, .string ⟨#[]⟩, .int .i64 0, .slice none 0 0] 30), Blk w.heap.size (.cells #[.int .i64 3, .string ek, .int .i64 es, .int .i64 eg, .int .i64 ec, .string key, .int .i64 pg, .bool lf, .string lo, .string hi, .int .i64 r, .slice a0 l.length c0] 30)] from ((HO2.out.setC 0 rfl (j := 5) (.string key)).setC 0 rfl (j := 6) (.int .i64 pg)).kn ((Kp.refl _ _).drew))
  clear HO HO2 x0 x1 x2 x3 x4 x5 x6 x7 x8 x9 xa xb xf y0 y1 y2 y3 y4 y5 y6 y7 y8 y9 ya yb yf
  generalize ((w2.setCell ⟨w.heap.size + 1, 5, none⟩ (.string key)).setCell ⟨w.heap.size + 1, 6, none⟩ (.int .i64 pg)).drew = w3 at *
  obtain ⟨x0, x1, x2, x3, x4, x5, x6, x7, x8, x9, xa, xb, xf⟩ := cells12 (HO3.out.blk 1 rfl).1
  obtain ⟨y0, y1, y2, y3, y4, y5, y6, y7, y8, y9, ya, yb, yf⟩ := cells12 (HO3.out.blk 0 rfl).1
  go_wp2
  go_ret
  rw [HV.out]
  exact ⟨rfl, HO3.out.old⟩
set_option maxHeartbeats 1000000 in
theorem check_d3c (ek : ByteArray) (es eg ec : Int) (key : ByteArray) (pg : Int) (p : Pg) (hp : ¬ pg < 1) (hk : key.toList.isEmpty = false) (w : World) {v : Value} (hr : Rl En.enc 4 w v p.list) (hl : p.list.length ≤ maxLen) : Calls Try.prog 28 #[dlv ⟨3, ⟨ek, ⟨es, eg⟩, ec⟩, key, pg, p⟩ v] w fun e w' => e = .returned (.int .i64 (checkD ⟨3, ⟨ek, ⟨es, eg⟩, ec⟩, key, pg, p⟩)) ∧ KN w w' := by
  obtain ⟨a0, c0, rfl, hc0, hrd⟩ := hr
  have HS := Lib.hid (fun W b u (k' : KN w W) (h2 : Rl En.enc 4 W u b.right.list) => same_delta ⟨3, ⟨ek, ⟨es, eg⟩, ec⟩, key, pg, p⟩ b W ((Rl.of_rd hrd hc0).kn k') h2 hl)
  have HV := Lib.hid (show checkD ⟨3, ⟨ek, ⟨es, eg⟩, ec⟩, key, pg, p⟩ = (if sameD ⟨3, ⟨ek, ⟨es, eg⟩, ec⟩, key, pg, p⟩ (bareD ⟨3, ⟨ek, ⟨es, eg⟩, ec⟩, key, pg, p⟩) then 0 else 90) from by unfold checkD badD; generalize sameD _ _ = sv; cases sv <;> simp [hp, hk])
  have HR := Lib.hid hrd
  clear hrd
  obtain ⟨lf, lo, hi, r, l⟩ := p
  simp only at hl hc0 HR
  unfold dlv at HS ⊢
  simp only at HS ⊢
  have hd : decide (pg < 1) = false := by simpa using hp
  have HO := Lib.hid ((One.nil w).alloc (.cells #[.int .i64 3, .string ek, .int .i64 es, .int .i64 eg, .int .i64 ec, .string key, .int .i64 pg, .bool lf, .string lo, .string hi, .int .i64 r, .slice a0 l.length c0] 30))
  go_enter Try.func28, Try.ntmps28
  go_upto_region 3 with fail
  have HO2 := Lib.hid (HO.out.alloc (.cells #[.int .i64 3, .string ⟨#[]⟩, .int .i64 0, .int .i64 0, .int .i64 0, .string ⟨#[]⟩, .int .i64 0, .bool false, .string ⟨#[]⟩, .string ⟨#[]⟩, .int .i64 0, .slice none 0 0] 30))
  rw [show (w.alloc (.cells #[.int .i64 3, .string ek, .int .i64 es, .int .i64 eg, .int .i64 ec, .string key, .int .i64 pg, .bool lf, .string lo, .string hi, .int .i64 r, .slice a0 l.length c0] 30)).heap.size = w.heap.size + 1 by simp] at HO2
  generalize (w.alloc (.cells #[.int .i64 3, .string ek, .int .i64 es, .int .i64 eg, .int .i64 ec, .string key, .int .i64 pg, .bool lf, .string lo, .string hi, .int .i64 r, .slice a0 l.length c0] 30)).alloc (.cells #[.int .i64 3, .string ⟨#[]⟩, .int .i64 0, .int .i64 0, .int .i64 0, .string ⟨#[]⟩, .int .i64 0, .bool false, .string ⟨#[]⟩, .string ⟨#[]⟩, .int .i64 0, .slice none 0 0] 30) = w2 at *
  obtain ⟨x0, x1, x2, x3, x4, x5, x6, x7, x8, x9, xa, xb, xf⟩ := cells12 (HO2.out.blk 1 rfl).1
  obtain ⟨y0, y1, y2, y3, y4, y5, y6, y7, y8, y9, ya, yb, yf⟩ := cells12 (HO2.out.blk 0 rfl).1
  go_upto_region 10 with fail
  have K1 := Lib.hid (cells12 ((((HO2.out.setC 0 rfl (j := 5) (.string key)).kn ((Kp.refl _ _).drew)).blk 1 rfl)).1)
  go_region_held3 (fun w' => w'.cell? ⟨w.heap.size, 5, none⟩ = some (.string key) ∧ w'.cell? ⟨w.heap.size, 6, none⟩ = some (.int .i64 pg)) (first | (exact ⟨x5, x6⟩) | (exact ⟨K1.out.2.2.2.2.2.1, K1.out.2.2.2.2.2.2.1⟩) | go_keep) (fail)
  clear K1
  have HO3 := Lib.hid (show One w ((w2.setCell ⟨w.heap.size + 1, 5, none⟩ (.string key)).setCell ⟨w.heap.size + 1, 6, none⟩ (.int .i64 pg)).drew [Blk (w.heap.size + 1) (.cells #[.int .i64 3, .string ⟨#[]⟩, .int .i64 0, .int .i64 0, .int .i64 0, .string key, .int .i64 pg, .bool false, .string ⟨#[]⟩, .string ⟨#[]⟩, .int .i64 0, .slice none 0 0] 30), Blk w.heap.size (.cells #[.int .i64 3, .string ek, .int .i64 es, .int .i64 eg, .int .i64 ec, .string key, .int .i64 pg, .bool lf, .string lo, .string hi, .int .i64 r, .slice a0 l.length c0] 30)] from ((HO2.out.setC 0 rfl (j := 5) (.string key)).setC 0 rfl (j := 6) (.int .i64 pg)).kn ((Kp.refl _ _).drew))
  clear HO HO2 x0 x1 x2 x3 x4 x5 x6 x7 x8 x9 xa xb xf y0 y1 y2 y3 y4 y5 y6 y7 y8 y9 ya yb yf
  generalize ((w2.setCell ⟨w.heap.size + 1, 5, none⟩ (.string key)).setCell ⟨w.heap.size + 1, 6, none⟩ (.int .i64 pg)).drew = w3 at *
  obtain ⟨x0, x1, x2, x3, x4, x5, x6, x7, x8, x9, xa, xb, xf⟩ := cells12 (HO3.out.blk 1 rfl).1
  obtain ⟨y0, y1, y2, y3, y4, y5, y6, y7, y8, y9, ya, yb, yf⟩ := cells12 (HO3.out.blk 0 rfl).1
  go_wp2_with fail
  refine (HS.out _ (bareD ⟨3, ⟨ek, ⟨es, eg⟩, ec⟩, key, pg, ⟨lf, lo, hi, r, l⟩⟩) (.slice none 0 0) HO3.out.old ⟨none, 0, rfl, Nat.le_refl _, .inl rfl⟩).mono ?_
  rintro e w4 ⟨rfl, k4⟩
  have HO4 := Lib.hid (HO3.out.kn k4)
  cases hsv : sameD ⟨3, ⟨ek, ⟨es, eg⟩, ec⟩, key, pg, ⟨lf, lo, hi, r, l⟩⟩ (bareD ⟨3, ⟨ek, ⟨es, eg⟩, ec⟩, key, pg, ⟨lf, lo, hi, r, l⟩⟩)
  all_goals
    rw [hsv] at HV
    clear hsv
    go_wp2
    go_ret
    rw [HV.out]
    exact ⟨rfl, HO4.out.old⟩
set_option maxHeartbeats 1000000 in
theorem check_d4a (ek : ByteArray) (es eg ec : Int) (key : ByteArray) (pg : Int) (p : Pg) (hp : ¬ checkP p = 0) (w : World) {v : Value} (hr : Rl En.enc 4 w v p.list) (hl : p.list.length ≤ maxLen) : Calls Try.prog 28 #[dlv ⟨4, ⟨ek, ⟨es, eg⟩, ec⟩, key, pg, p⟩ v] w fun e w' => e = .returned (.int .i64 (checkD ⟨4, ⟨ek, ⟨es, eg⟩, ec⟩, key, pg, p⟩)) ∧ KN w w' := by
  obtain ⟨a0, c0, rfl, hc0, hrd⟩ := hr
  have HS := Lib.hid (fun W b u (k' : KN w W) (h2 : Rl En.enc 4 W u b.right.list) => same_delta ⟨4, ⟨ek, ⟨es, eg⟩, ec⟩, key, pg, p⟩ b W ((Rl.of_rd hrd hc0).kn k') h2 hl)
  have HV := Lib.hid (show checkD ⟨4, ⟨ek, ⟨es, eg⟩, ec⟩, key, pg, p⟩ = 90 from by unfold checkD badD; simp [hp])
  have HCk := Lib.hid (fun W (k' : KN w W) => check_page p W ((Rl.of_rd hrd hc0).kn k') hl)
  obtain ⟨cv, hcv⟩ : ∃ x, checkP p = x := ⟨_, rfl⟩
  rw [hcv] at HCk hp
  clear hcv
  have HR := Lib.hid hrd
  clear hrd
  obtain ⟨lf, lo, hi, r, l⟩ := p
  simp only at hl hc0 HR
  unfold dlv at HS ⊢
  simp only at HS ⊢
  have hd : (cv == 0) = false := by simpa using hp
  have HO := Lib.hid ((One.nil w).alloc (.cells #[.int .i64 4, .string ek, .int .i64 es, .int .i64 eg, .int .i64 ec, .string key, .int .i64 pg, .bool lf, .string lo, .string hi, .int .i64 r, .slice a0 l.length c0] 30))
  go_enter Try.func28, Try.ntmps28
  go_upto_region 3 with fail
  have HO2 := Lib.hid (HO.out.alloc (.cells #[.int .i64 4, .string ⟨#[]⟩, .int .i64 0, .int .i64 0, .int .i64 0, .string ⟨#[]⟩, .int .i64 0, .bool false, .string ⟨#[]⟩, .string ⟨#[]⟩, .int .i64 0, .slice none 0 0] 30))
  rw [show (w.alloc (.cells #[.int .i64 4, .string ek, .int .i64 es, .int .i64 eg, .int .i64 ec, .string key, .int .i64 pg, .bool lf, .string lo, .string hi, .int .i64 r, .slice a0 l.length c0] 30)).heap.size = w.heap.size + 1 by simp] at HO2
  generalize (w.alloc (.cells #[.int .i64 4, .string ek, .int .i64 es, .int .i64 eg, .int .i64 ec, .string key, .int .i64 pg, .bool lf, .string lo, .string hi, .int .i64 r, .slice a0 l.length c0] 30)).alloc (.cells #[.int .i64 4, .string ⟨#[]⟩, .int .i64 0, .int .i64 0, .int .i64 0, .string ⟨#[]⟩, .int .i64 0, .bool false, .string ⟨#[]⟩, .string ⟨#[]⟩, .int .i64 0, .slice none 0 0] 30) = w2 at *
  obtain ⟨x0, x1, x2, x3, x4, x5, x6, x7, x8, x9, xa, xb, xf⟩ := cells12 (HO2.out.blk 1 rfl).1
  obtain ⟨y0, y1, y2, y3, y4, y5, y6, y7, y8, y9, ya, yb, yf⟩ := cells12 (HO2.out.blk 0 rfl).1
  go_upto_region 14 with fail
  have HO3 := Lib.hid (show One w (((((w2.setCell ⟨w.heap.size + 1, 7, none⟩ (.bool lf)).setCell ⟨w.heap.size + 1, 8, none⟩ (.string lo)).setCell ⟨w.heap.size + 1, 9, none⟩ (.string hi)).setCell ⟨w.heap.size + 1, 10, none⟩ (.int .i64 r)).setCell ⟨w.heap.size + 1, 11, none⟩ (.slice a0 l.length c0)) [Blk (w.heap.size + 1) (.cells #[.int .i64 4, .string ⟨#[]⟩, .int .i64 0, .int .i64 0, .int .i64 0, .string ⟨#[]⟩, .int .i64 0, .bool lf, .string lo, .string hi, .int .i64 r, .slice a0 l.length c0] 30), Blk w.heap.size (.cells #[.int .i64 4, .string ek, .int .i64 es, .int .i64 eg, .int .i64 ec, .string key, .int .i64 pg, .bool lf, .string lo, .string hi, .int .i64 r, .slice a0 l.length c0] 30)] from HO2.out.set7 0 rfl (.bool lf) (.string lo) (.string hi) (.int .i64 r) (.slice a0 l.length c0))
  clear HO HO2 x0 x1 x2 x3 x4 x5 x6 x7 x8 x9 xa xb xf y0 y1 y2 y3 y4 y5 y6 y7 y8 y9 ya yb yf
  generalize (((((w2.setCell ⟨w.heap.size + 1, 7, none⟩ (.bool lf)).setCell ⟨w.heap.size + 1, 8, none⟩ (.string lo)).setCell ⟨w.heap.size + 1, 9, none⟩ (.string hi)).setCell ⟨w.heap.size + 1, 10, none⟩ (.int .i64 r)).setCell ⟨w.heap.size + 1, 11, none⟩ (.slice a0 l.length c0)) = w3 at *
  obtain ⟨x0, x1, x2, x3, x4, x5, x6, x7, x8, x9, xa, xb, xf⟩ := cells12 (HO3.out.blk 1 rfl).1
  obtain ⟨y0, y1, y2, y3, y4, y5, y6, y7, y8, y9, ya, yb, yf⟩ := cells12 (HO3.out.blk 0 rfl).1
  go_wp2_with fail
  refine (HCk.out _ HO3.out.old).mono ?_
  rintro e w3' ⟨rfl, k3⟩
  have HO3 := Lib.hid (HO3.out.kn k3)
  clear k3 HCk x0 x1 x2 x3 x4 x5 x6 x7 x8 x9 xa xb xf y0 y1 y2 y3 y4 y5 y6 y7 y8 y9 ya yb yf
  obtain ⟨x0, x1, x2, x3, x4, x5, x6, x7, x8, x9, xa, xb, xf⟩ := cells12 (HO3.out.blk 1 rfl).1
  obtain ⟨y0, y1, y2, y3, y4, y5, y6, y7, y8, y9, ya, yb, yf⟩ := cells12 (HO3.out.blk 0 rfl).1
  go_wp2
  go_ret
  rw [HV.out]
  exact ⟨rfl, HO3.out.old⟩
set_option maxHeartbeats 1000000 in
theorem check_d4b (ek : ByteArray) (es eg ec : Int) (key : ByteArray) (pg : Int) (p : Pg) (hp : checkP p = 0) (w : World) {v : Value} (hr : Rl En.enc 4 w v p.list) (hl : p.list.length ≤ maxLen) : Calls Try.prog 28 #[dlv ⟨4, ⟨ek, ⟨es, eg⟩, ec⟩, key, pg, p⟩ v] w fun e w' => e = .returned (.int .i64 (checkD ⟨4, ⟨ek, ⟨es, eg⟩, ec⟩, key, pg, p⟩)) ∧ KN w w' := by
  obtain ⟨a0, c0, rfl, hc0, hrd⟩ := hr
  have HS := Lib.hid (fun W b u (k' : KN w W) (h2 : Rl En.enc 4 W u b.right.list) => same_delta ⟨4, ⟨ek, ⟨es, eg⟩, ec⟩, key, pg, p⟩ b W ((Rl.of_rd hrd hc0).kn k') h2 hl)
  have HV := Lib.hid (show checkD ⟨4, ⟨ek, ⟨es, eg⟩, ec⟩, key, pg, p⟩ = (if sameD ⟨4, ⟨ek, ⟨es, eg⟩, ec⟩, key, pg, p⟩ (bareD ⟨4, ⟨ek, ⟨es, eg⟩, ec⟩, key, pg, p⟩) then 0 else 90) from by unfold checkD badD; generalize sameD _ _ = sv; cases sv <;> simp [hp])
  have HCk := Lib.hid (fun W (k' : KN w W) => check_page p W ((Rl.of_rd hrd hc0).kn k') hl)
  obtain ⟨cv, hcv⟩ : ∃ x, checkP p = x := ⟨_, rfl⟩
  rw [hcv] at HCk hp
  clear hcv
  have HR := Lib.hid hrd
  clear hrd
  obtain ⟨lf, lo, hi, r, l⟩ := p
  simp only at hl hc0 HR
  unfold dlv at HS ⊢
  simp only at HS ⊢
  have hd : (cv == 0) = true := by simpa using hp
  have HO := Lib.hid ((One.nil w).alloc (.cells #[.int .i64 4, .string ek, .int .i64 es, .int .i64 eg, .int .i64 ec, .string key, .int .i64 pg, .bool lf, .string lo, .string hi, .int .i64 r, .slice a0 l.length c0] 30))
  go_enter Try.func28, Try.ntmps28
  go_upto_region 3 with fail
  have HO2 := Lib.hid (HO.out.alloc (.cells #[.int .i64 4, .string ⟨#[]⟩, .int .i64 0, .int .i64 0, .int .i64 0, .string ⟨#[]⟩, .int .i64 0, .bool false, .string ⟨#[]⟩, .string ⟨#[]⟩, .int .i64 0, .slice none 0 0] 30))
  rw [show (w.alloc (.cells #[.int .i64 4, .string ek, .int .i64 es, .int .i64 eg, .int .i64 ec, .string key, .int .i64 pg, .bool lf, .string lo, .string hi, .int .i64 r, .slice a0 l.length c0] 30)).heap.size = w.heap.size + 1 by simp] at HO2
  generalize (w.alloc (.cells #[.int .i64 4, .string ek, .int .i64 es, .int .i64 eg, .int .i64 ec, .string key, .int .i64 pg, .bool lf, .string lo, .string hi, .int .i64 r, .slice a0 l.length c0] 30)).alloc (.cells #[.int .i64 4, .string ⟨#[]⟩, .int .i64 0, .int .i64 0, .int .i64 0, .string ⟨#[]⟩, .int .i64 0, .bool false, .string ⟨#[]⟩, .string ⟨#[]⟩, .int .i64 0, .slice none 0 0] 30) = w2 at *
  obtain ⟨x0, x1, x2, x3, x4, x5, x6, x7, x8, x9, xa, xb, xf⟩ := cells12 (HO2.out.blk 1 rfl).1
  obtain ⟨y0, y1, y2, y3, y4, y5, y6, y7, y8, y9, ya, yb, yf⟩ := cells12 (HO2.out.blk 0 rfl).1
  go_upto_region 14 with fail
  have HO3 := Lib.hid (show One w (((((w2.setCell ⟨w.heap.size + 1, 7, none⟩ (.bool lf)).setCell ⟨w.heap.size + 1, 8, none⟩ (.string lo)).setCell ⟨w.heap.size + 1, 9, none⟩ (.string hi)).setCell ⟨w.heap.size + 1, 10, none⟩ (.int .i64 r)).setCell ⟨w.heap.size + 1, 11, none⟩ (.slice a0 l.length c0)) [Blk (w.heap.size + 1) (.cells #[.int .i64 4, .string ⟨#[]⟩, .int .i64 0, .int .i64 0, .int .i64 0, .string ⟨#[]⟩, .int .i64 0, .bool lf, .string lo, .string hi, .int .i64 r, .slice a0 l.length c0] 30), Blk w.heap.size (.cells #[.int .i64 4, .string ek, .int .i64 es, .int .i64 eg, .int .i64 ec, .string key, .int .i64 pg, .bool lf, .string lo, .string hi, .int .i64 r, .slice a0 l.length c0] 30)] from HO2.out.set7 0 rfl (.bool lf) (.string lo) (.string hi) (.int .i64 r) (.slice a0 l.length c0))
  clear HO HO2 x0 x1 x2 x3 x4 x5 x6 x7 x8 x9 xa xb xf y0 y1 y2 y3 y4 y5 y6 y7 y8 y9 ya yb yf
  generalize (((((w2.setCell ⟨w.heap.size + 1, 7, none⟩ (.bool lf)).setCell ⟨w.heap.size + 1, 8, none⟩ (.string lo)).setCell ⟨w.heap.size + 1, 9, none⟩ (.string hi)).setCell ⟨w.heap.size + 1, 10, none⟩ (.int .i64 r)).setCell ⟨w.heap.size + 1, 11, none⟩ (.slice a0 l.length c0)) = w3 at *
  obtain ⟨x0, x1, x2, x3, x4, x5, x6, x7, x8, x9, xa, xb, xf⟩ := cells12 (HO3.out.blk 1 rfl).1
  obtain ⟨y0, y1, y2, y3, y4, y5, y6, y7, y8, y9, ya, yb, yf⟩ := cells12 (HO3.out.blk 0 rfl).1
  go_wp2_with fail
  refine (HCk.out _ HO3.out.old).mono ?_
  rintro e w3' ⟨rfl, k3⟩
  have HO3 := Lib.hid (HO3.out.kn k3)
  clear k3 HCk x0 x1 x2 x3 x4 x5 x6 x7 x8 x9 xa xb xf y0 y1 y2 y3 y4 y5 y6 y7 y8 y9 ya yb yf
  obtain ⟨x0, x1, x2, x3, x4, x5, x6, x7, x8, x9, xa, xb, xf⟩ := cells12 (HO3.out.blk 1 rfl).1
  obtain ⟨y0, y1, y2, y3, y4, y5, y6, y7, y8, y9, ya, yb, yf⟩ := cells12 (HO3.out.blk 0 rfl).1
  go_wp2_with fail
  refine (HS.out _ (bareD ⟨4, ⟨ek, ⟨es, eg⟩, ec⟩, key, pg, ⟨lf, lo, hi, r, l⟩⟩) (.slice a0 l.length c0) HO3.out.old ((Rl.of_rd HR.out hc0).kn HO3.out.old)).mono ?_
  rintro e w4 ⟨rfl, k4⟩
  have HO4 := Lib.hid (HO3.out.kn k4)
  cases hsv : sameD ⟨4, ⟨ek, ⟨es, eg⟩, ec⟩, key, pg, ⟨lf, lo, hi, r, l⟩⟩ (bareD ⟨4, ⟨ek, ⟨es, eg⟩, ec⟩, key, pg, ⟨lf, lo, hi, r, l⟩⟩)
  all_goals
    rw [hsv] at HV
    clear hsv
    go_wp2
    go_ret
    rw [HV.out]
    exact ⟨rfl, HO4.out.old⟩
theorem check_delta (d : Dl) (w : World) {v : Value} (hr : Rl En.enc 4 w v d.right.list) (hl : d.right.list.length ≤ maxLen) : Calls Try.prog 28 #[dlv d v] w fun e w' => e = .returned (.int .i64 (checkD d)) ∧ KN w w' := by
  obtain ⟨k, ⟨ek, ⟨es, eg⟩, ec⟩, key, pg, p⟩ := d
  by_cases h1 : k = 1
  · subst h1; exact check_d1 ek es eg ec key pg p w hr hl
  by_cases h2 : k = 2
  · subst h2; exact check_d2 ek es eg ec key pg p w hr hl
  by_cases h3 : k = 3
  · subst h3
    by_cases hp : pg < 1
    · exact check_d3a ek es eg ec key pg p hp w hr hl
    · cases hk : key.toList.isEmpty
      · exact check_d3c ek es eg ec key pg p hp hk w hr hl
      · exact check_d3b ek es eg ec key pg p hp hk w hr hl
  by_cases h4 : k = 4
  · subst h4
    by_cases hp : checkP p = 0
    · exact check_d4b ek es eg ec key pg p hp w hr hl
    · exact check_d4a ek es eg ec key pg p hp w hr hl
  by_cases h5 : k = 5
  · subst h5
    by_cases hp : pg < 1
    · exact check_d5a ek es eg ec key pg p hp w hr hl
    · exact check_d5b ek es eg ec key pg p hp w hr hl
  exact check_dx k h1 h2 h3 h4 h5 ek es eg ec key pg p w hr hl
end Go.Proofs.Ytkdlodjpambelaa

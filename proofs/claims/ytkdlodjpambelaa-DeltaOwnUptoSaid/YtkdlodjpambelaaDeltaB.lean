/- reference: bare, case by case. -/
import Derived.Test.YtkdlodjpambelaaDeltaL
import Derived.Test.YtkdlodjpambelaaDeltaC
import Derived.Test.YtkdlodjpambelaaCheckR
import Derived.Test.YtkdlodjpambelaaDeltaK
import Derived.BigRegion
import Derived.Deep.RegionHeld3
namespace Go.Proofs.Ytkdlodjpambelaa
set_option linter.unusedVariables false
set_option linter.unusedSimpArgs false
open Go Go.RowKit

def okD (d : Dl) : Bool :=
  if d.kind = 1 then true else if d.kind = 2 then true
  else if d.kind = 3 then decide (1 ≤ d.page) && !d.key.toList.isEmpty
  else if d.kind = 4 then checkP d.right == 0
  else if d.kind = 5 then decide (1 ≤ d.page)
  else false
/-- What bare hands back: the bare delta (with the page's own list where it has one). -/
def GaveB (d : Dl) (v : Value) (w : World) (e : Ending) (w' : World) : Prop := e = .returned (.tuple #[dlv (bareD d) (if d.kind = 4 then v else .slice none 0 0), .bool (okD d)]) ∧ KN w w'
set_option maxHeartbeats 300000 in
theorem bare_d1 (ek : ByteArray) (es eg ec : Int) (key : ByteArray) (pg : Int) (p : Pg) (w : World) {v : Value} (hr : Rl En.enc 4 w v p.list) (hl : p.list.length ≤ maxLen) : Calls Try.prog 47 #[dlv ⟨1, ⟨ek, ⟨es, eg⟩, ec⟩, key, pg, p⟩ v] w (GaveB ⟨1, ⟨ek, ⟨es, eg⟩, ec⟩, key, pg, p⟩ v w) := by
  obtain ⟨a0, c0, rfl, hc0, hrd⟩ := hr
  clear hrd
  have HB := Lib.hid (show bareD ⟨1, ⟨ek, ⟨es, eg⟩, ec⟩, key, pg, p⟩ = ⟨1, ⟨ek, ⟨es, eg⟩, ec⟩, empS, 0, zeroPg⟩ from by unfold bareD; simp)
  have HK := Lib.hid (show okD ⟨1, ⟨ek, ⟨es, eg⟩, ec⟩, key, pg, p⟩ = true from by unfold okD; simp)
  have HI := Lib.hid (show (if (1 : Int) = 4 then (.slice a0 p.list.length c0 : Value) else .slice none 0 0) = .slice none 0 0 from by simp)
  obtain ⟨lf, lo, hi, r, l⟩ := p
  unfold GaveB
  rw [HB.out, HK.out]
  simp only at HI ⊢
  rw [HI.out]
  unfold dlv
  simp only
  have HO := Lib.hid ((One.nil w).alloc2 (.cells #[.int .i64 1, .string ek, .int .i64 es, .int .i64 eg, .int .i64 ec, .string key, .int .i64 pg, .bool lf, .string lo, .string hi, .int .i64 r, .slice a0 l.length c0] 30) (.cells #[.int .i64 0, .string ⟨#[]⟩, .int .i64 0, .int .i64 0, .int .i64 0, .string ⟨#[]⟩, .int .i64 0, .bool false, .string ⟨#[]⟩, .string ⟨#[]⟩, .int .i64 0, .slice none 0 0] 30))
  go_enter Try.func47, Try.ntmps47
  go_upto_region 2 with fail
  have HO2 := Lib.hid (HO.out.alloc (.cells #[.int .i64 1, .string ⟨#[]⟩, .int .i64 0, .int .i64 0, .int .i64 0, .string ⟨#[]⟩, .int .i64 0, .bool false, .string ⟨#[]⟩, .string ⟨#[]⟩, .int .i64 0, .slice none 0 0] 30))
  rw [show ((w.alloc (.cells #[.int .i64 1, .string ek, .int .i64 es, .int .i64 eg, .int .i64 ec, .string key, .int .i64 pg, .bool lf, .string lo, .string hi, .int .i64 r, .slice a0 l.length c0] 30)).alloc (.cells #[.int .i64 0, .string ⟨#[]⟩, .int .i64 0, .int .i64 0, .int .i64 0, .string ⟨#[]⟩, .int .i64 0, .bool false, .string ⟨#[]⟩, .string ⟨#[]⟩, .int .i64 0, .slice none 0 0] 30)).heap.size = w.heap.size + 1 + 1 by simp] at HO2
  generalize ((w.alloc (.cells #[.int .i64 1, .string ek, .int .i64 es, .int .i64 eg, .int .i64 ec, .string key, .int .i64 pg, .bool lf, .string lo, .string hi, .int .i64 r, .slice a0 l.length c0] 30)).alloc (.cells #[.int .i64 0, .string ⟨#[]⟩, .int .i64 0, .int .i64 0, .int .i64 0, .string ⟨#[]⟩, .int .i64 0, .bool false, .string ⟨#[]⟩, .string ⟨#[]⟩, .int .i64 0, .slice none 0 0] 30)).alloc (.cells #[.int .i64 1, .string ⟨#[]⟩, .int .i64 0, .int .i64 0, .int .i64 0, .string ⟨#[]⟩, .int .i64 0, .bool false, .string ⟨#[]⟩, .string ⟨#[]⟩, .int .i64 0, .slice none 0 0] 30) = w2 at *
  obtain ⟨x0, x1, x2, x3, x4, x5, x6, x7, x8, x9, xa, xb, xf⟩ := cells12 (HO2.out.blk 2 rfl).1
  obtain ⟨y0, y1, y2, y3, y4, y5, y6, y7, y8, y9, ya, yb, yf⟩ := cells12 (HO2.out.blk 0 rfl).1
  obtain ⟨z0, z1, z2, z3, z4, z5, z6, z7, z8, z9, za, zb, zf⟩ := cells12 (HO2.out.blk 1 rfl).1
  go_upto_region 17 with fail
  have HO3 := Lib.hid (show One w ((((w2.setCell ⟨w.heap.size + 1 + 1, 1, none⟩ (.string ek)).setCell ⟨w.heap.size + 1 + 1, 2, none⟩ (.int .i64 es)).setCell ⟨w.heap.size + 1 + 1, 3, none⟩ (.int .i64 eg)).setCell ⟨w.heap.size + 1 + 1, 4, none⟩ (.int .i64 ec)) [Blk (w.heap.size + 1 + 1) (.cells #[.int .i64 1, .string ek, .int .i64 es, .int .i64 eg, .int .i64 ec, .string ⟨#[]⟩, .int .i64 0, .bool false, .string ⟨#[]⟩, .string ⟨#[]⟩, .int .i64 0, .slice none 0 0] 30), Blk (w.heap.size + 1) (.cells #[.int .i64 0, .string ⟨#[]⟩, .int .i64 0, .int .i64 0, .int .i64 0, .string ⟨#[]⟩, .int .i64 0, .bool false, .string ⟨#[]⟩, .string ⟨#[]⟩, .int .i64 0, .slice none 0 0] 30), Blk w.heap.size (.cells #[.int .i64 1, .string ek, .int .i64 es, .int .i64 eg, .int .i64 ec, .string key, .int .i64 pg, .bool lf, .string lo, .string hi, .int .i64 r, .slice a0 l.length c0] 30)] from HO2.out.setEn 0 rfl (.string ek) (.int .i64 es) (.int .i64 eg) (.int .i64 ec))
  clear HO HO2 x0 x1 x2 x3 x4 x5 x6 x7 x8 x9 xa xb xf y0 y1 y2 y3 y4 y5 y6 y7 y8 y9 ya yb yf z0 z1 z2 z3 z4 z5 z6 z7 z8 z9 za zb zf
  generalize ((((w2.setCell ⟨w.heap.size + 1 + 1, 1, none⟩ (.string ek)).setCell ⟨w.heap.size + 1 + 1, 2, none⟩ (.int .i64 es)).setCell ⟨w.heap.size + 1 + 1, 3, none⟩ (.int .i64 eg)).setCell ⟨w.heap.size + 1 + 1, 4, none⟩ (.int .i64 ec)) = w3 at *
  obtain ⟨y0, y1, y2, y3, y4, y5, y6, y7, y8, y9, ya, yb, yf⟩ := cells12 (HO3.out.blk 0 rfl).1
  obtain ⟨z0, z1, z2, z3, z4, z5, z6, z7, z8, z9, za, zb, zf⟩ := cells12 (HO3.out.blk 1 rfl).1
  go_wp2_with fail
  have HO4 := Lib.hid (HO3.out.set12 1 rfl (.int .i64 1) (.string ek) (.int .i64 es) (.int .i64 eg) (.int .i64 ec) (.string ⟨#[]⟩) (.int .i64 0) (.bool false) (.string ⟨#[]⟩) (.string ⟨#[]⟩) (.int .i64 0) (.slice none 0 0))
  exact bodyPost_ret (res_c1t rfl rfl (load_dl (HO4.out.blk 1 rfl).1) rfl) rfl ⟨rfl, HO4.out.old⟩
set_option maxHeartbeats 300000 in
theorem bare_d2 (ek : ByteArray) (es eg ec : Int) (key : ByteArray) (pg : Int) (p : Pg) (w : World) {v : Value} (hr : Rl En.enc 4 w v p.list) (hl : p.list.length ≤ maxLen) : Calls Try.prog 47 #[dlv ⟨2, ⟨ek, ⟨es, eg⟩, ec⟩, key, pg, p⟩ v] w (GaveB ⟨2, ⟨ek, ⟨es, eg⟩, ec⟩, key, pg, p⟩ v w) := by
  obtain ⟨a0, c0, rfl, hc0, hrd⟩ := hr
  clear hrd
  have HB := Lib.hid (show bareD ⟨2, ⟨ek, ⟨es, eg⟩, ec⟩, key, pg, p⟩ = ⟨2, zeroEn, key, 0, zeroPg⟩ from by unfold bareD; simp)
  have HK := Lib.hid (show okD ⟨2, ⟨ek, ⟨es, eg⟩, ec⟩, key, pg, p⟩ = true from by unfold okD; simp)
  have HI := Lib.hid (show (if (2 : Int) = 4 then (.slice a0 p.list.length c0 : Value) else .slice none 0 0) = .slice none 0 0 from by simp)
  obtain ⟨lf, lo, hi, r, l⟩ := p
  unfold GaveB
  rw [HB.out, HK.out]
  simp only at HI ⊢
  rw [HI.out]
  unfold dlv
  simp only
  have HO := Lib.hid ((One.nil w).alloc2 (.cells #[.int .i64 2, .string ek, .int .i64 es, .int .i64 eg, .int .i64 ec, .string key, .int .i64 pg, .bool lf, .string lo, .string hi, .int .i64 r, .slice a0 l.length c0] 30) (.cells #[.int .i64 0, .string ⟨#[]⟩, .int .i64 0, .int .i64 0, .int .i64 0, .string ⟨#[]⟩, .int .i64 0, .bool false, .string ⟨#[]⟩, .string ⟨#[]⟩, .int .i64 0, .slice none 0 0] 30))
  go_enter Try.func47, Try.ntmps47
  go_upto_region 2 with fail
  have HO2 := Lib.hid (HO.out.alloc (.cells #[.int .i64 2, .string ⟨#[]⟩, .int .i64 0, .int .i64 0, .int .i64 0, .string ⟨#[]⟩, .int .i64 0, .bool false, .string ⟨#[]⟩, .string ⟨#[]⟩, .int .i64 0, .slice none 0 0] 30))
  rw [show ((w.alloc (.cells #[.int .i64 2, .string ek, .int .i64 es, .int .i64 eg, .int .i64 ec, .string key, .int .i64 pg, .bool lf, .string lo, .string hi, .int .i64 r, .slice a0 l.length c0] 30)).alloc (.cells #[.int .i64 0, .string ⟨#[]⟩, .int .i64 0, .int .i64 0, .int .i64 0, .string ⟨#[]⟩, .int .i64 0, .bool false, .string ⟨#[]⟩, .string ⟨#[]⟩, .int .i64 0, .slice none 0 0] 30)).heap.size = w.heap.size + 1 + 1 by simp] at HO2
  generalize ((w.alloc (.cells #[.int .i64 2, .string ek, .int .i64 es, .int .i64 eg, .int .i64 ec, .string key, .int .i64 pg, .bool lf, .string lo, .string hi, .int .i64 r, .slice a0 l.length c0] 30)).alloc (.cells #[.int .i64 0, .string ⟨#[]⟩, .int .i64 0, .int .i64 0, .int .i64 0, .string ⟨#[]⟩, .int .i64 0, .bool false, .string ⟨#[]⟩, .string ⟨#[]⟩, .int .i64 0, .slice none 0 0] 30)).alloc (.cells #[.int .i64 2, .string ⟨#[]⟩, .int .i64 0, .int .i64 0, .int .i64 0, .string ⟨#[]⟩, .int .i64 0, .bool false, .string ⟨#[]⟩, .string ⟨#[]⟩, .int .i64 0, .slice none 0 0] 30) = w2 at *
  obtain ⟨x0, x1, x2, x3, x4, x5, x6, x7, x8, x9, xa, xb, xf⟩ := cells12 (HO2.out.blk 2 rfl).1
  obtain ⟨y0, y1, y2, y3, y4, y5, y6, y7, y8, y9, ya, yb, yf⟩ := cells12 (HO2.out.blk 0 rfl).1
  obtain ⟨z0, z1, z2, z3, z4, z5, z6, z7, z8, z9, za, zb, zf⟩ := cells12 (HO2.out.blk 1 rfl).1
  go_upto_region 17 with fail
  have HO3 := Lib.hid (show One w (w2.setCell ⟨w.heap.size + 1 + 1, 5, none⟩ (.string key)) [Blk (w.heap.size + 1 + 1) (.cells #[.int .i64 2, .string ⟨#[]⟩, .int .i64 0, .int .i64 0, .int .i64 0, .string key, .int .i64 0, .bool false, .string ⟨#[]⟩, .string ⟨#[]⟩, .int .i64 0, .slice none 0 0] 30), Blk (w.heap.size + 1) (.cells #[.int .i64 0, .string ⟨#[]⟩, .int .i64 0, .int .i64 0, .int .i64 0, .string ⟨#[]⟩, .int .i64 0, .bool false, .string ⟨#[]⟩, .string ⟨#[]⟩, .int .i64 0, .slice none 0 0] 30), Blk w.heap.size (.cells #[.int .i64 2, .string ek, .int .i64 es, .int .i64 eg, .int .i64 ec, .string key, .int .i64 pg, .bool lf, .string lo, .string hi, .int .i64 r, .slice a0 l.length c0] 30)] from (HO2.out.setC 0 rfl (j := 5) (.string key)))
  clear HO HO2 x0 x1 x2 x3 x4 x5 x6 x7 x8 x9 xa xb xf y0 y1 y2 y3 y4 y5 y6 y7 y8 y9 ya yb yf z0 z1 z2 z3 z4 z5 z6 z7 z8 z9 za zb zf
  generalize (w2.setCell ⟨w.heap.size + 1 + 1, 5, none⟩ (.string key)) = w3 at *
  obtain ⟨y0, y1, y2, y3, y4, y5, y6, y7, y8, y9, ya, yb, yf⟩ := cells12 (HO3.out.blk 0 rfl).1
  obtain ⟨z0, z1, z2, z3, z4, z5, z6, z7, z8, z9, za, zb, zf⟩ := cells12 (HO3.out.blk 1 rfl).1
  go_wp2_with fail
  have HO4 := Lib.hid (HO3.out.set12 1 rfl (.int .i64 2) (.string ⟨#[]⟩) (.int .i64 0) (.int .i64 0) (.int .i64 0) (.string key) (.int .i64 0) (.bool false) (.string ⟨#[]⟩) (.string ⟨#[]⟩) (.int .i64 0) (.slice none 0 0))
  exact bodyPost_ret (res_c1t rfl rfl (load_dl (HO4.out.blk 1 rfl).1) rfl) rfl ⟨rfl, HO4.out.old⟩
set_option maxHeartbeats 300000 in
theorem bare_dx (k : Int) (h1 : k ≠ 1) (h2 : k ≠ 2) (h3 : k ≠ 3) (h4 : k ≠ 4) (h5 : k ≠ 5) (ek : ByteArray) (es eg ec : Int) (key : ByteArray) (pg : Int) (p : Pg) (w : World) {v : Value} (hr : Rl En.enc 4 w v p.list) (hl : p.list.length ≤ maxLen) : Calls Try.prog 47 #[dlv ⟨k, ⟨ek, ⟨es, eg⟩, ec⟩, key, pg, p⟩ v] w (GaveB ⟨k, ⟨ek, ⟨es, eg⟩, ec⟩, key, pg, p⟩ v w) := by
  obtain ⟨a0, c0, rfl, hc0, hrd⟩ := hr
  clear hrd
  have HB := Lib.hid (show bareD ⟨k, ⟨ek, ⟨es, eg⟩, ec⟩, key, pg, p⟩ = ⟨k, zeroEn, empS, 0, zeroPg⟩ from by unfold bareD; simp [h1, h2, h3, h4, h5])
  have HK := Lib.hid (show okD ⟨k, ⟨ek, ⟨es, eg⟩, ec⟩, key, pg, p⟩ = false from by unfold okD; simp [h1, h2, h3, h4, h5])
  have HI := Lib.hid (show (if (k : Int) = 4 then (.slice a0 p.list.length c0 : Value) else .slice none 0 0) = .slice none 0 0 from by simp [h1, h2, h3, h4, h5])
  obtain ⟨lf, lo, hi, r, l⟩ := p
  unfold GaveB
  rw [HB.out, HK.out]
  simp only at HI ⊢
  rw [HI.out]
  unfold dlv
  simp only
  have e1 : (k == 1) = false := beq_false_of_ne h1
  have e2 : (k == 2) = false := beq_false_of_ne h2
  have e3 : (k == 3) = false := beq_false_of_ne h3
  have e4 : (k == 4) = false := beq_false_of_ne h4
  have e5 : (k == 5) = false := beq_false_of_ne h5
  have HO := Lib.hid ((One.nil w).alloc2 (.cells #[.int .i64 k, .string ek, .int .i64 es, .int .i64 eg, .int .i64 ec, .string key, .int .i64 pg, .bool lf, .string lo, .string hi, .int .i64 r, .slice a0 l.length c0] 30) (.cells #[.int .i64 0, .string ⟨#[]⟩, .int .i64 0, .int .i64 0, .int .i64 0, .string ⟨#[]⟩, .int .i64 0, .bool false, .string ⟨#[]⟩, .string ⟨#[]⟩, .int .i64 0, .slice none 0 0] 30))
  go_enter Try.func47, Try.ntmps47
  go_upto_region 2 with fail
  have HO2 := Lib.hid (HO.out.alloc (.cells #[.int .i64 k, .string ⟨#[]⟩, .int .i64 0, .int .i64 0, .int .i64 0, .string ⟨#[]⟩, .int .i64 0, .bool false, .string ⟨#[]⟩, .string ⟨#[]⟩, .int .i64 0, .slice none 0 0] 30))
  rw [show ((w.alloc (.cells #[.int .i64 k, .string ek, .int .i64 es, .int .i64 eg, .int .i64 ec, .string key, .int .i64 pg, .bool lf, .string lo, .string hi, .int .i64 r, .slice a0 l.length c0] 30)).alloc (.cells #[.int .i64 0, .string ⟨#[]⟩, .int .i64 0, .int .i64 0, .int .i64 0, .string ⟨#[]⟩, .int .i64 0, .bool false, .string ⟨#[]⟩, .string ⟨#[]⟩, .int .i64 0, .slice none 0 0] 30)).heap.size = w.heap.size + 1 + 1 by simp] at HO2
  generalize ((w.alloc (.cells #[.int .i64 k, .string ek, .int .i64 es, .int .i64 eg, .int .i64 ec, .string key, .int .i64 pg, .bool lf, .string lo, .string hi, .int .i64 r, .slice a0 l.length c0] 30)).alloc (.cells #[.int .i64 0, .string ⟨#[]⟩, .int .i64 0, .int .i64 0, .int .i64 0, .string ⟨#[]⟩, .int .i64 0, .bool false, .string ⟨#[]⟩, .string ⟨#[]⟩, .int .i64 0, .slice none 0 0] 30)).alloc (.cells #[.int .i64 k, .string ⟨#[]⟩, .int .i64 0, .int .i64 0, .int .i64 0, .string ⟨#[]⟩, .int .i64 0, .bool false, .string ⟨#[]⟩, .string ⟨#[]⟩, .int .i64 0, .slice none 0 0] 30) = w2 at *
  obtain ⟨x0, x1, x2, x3, x4, x5, x6, x7, x8, x9, xa, xb, xf⟩ := cells12 (HO2.out.blk 2 rfl).1
  obtain ⟨y0, y1, y2, y3, y4, y5, y6, y7, y8, y9, ya, yb, yf⟩ := cells12 (HO2.out.blk 0 rfl).1
  obtain ⟨z0, z1, z2, z3, z4, z5, z6, z7, z8, z9, za, zb, zf⟩ := cells12 (HO2.out.blk 1 rfl).1
  go_wp2_with fail
  have HO4 := Lib.hid (HO2.out.set12 1 rfl (.int .i64 k) (.string ⟨#[]⟩) (.int .i64 0) (.int .i64 0) (.int .i64 0) (.string ⟨#[]⟩) (.int .i64 0) (.bool false) (.string ⟨#[]⟩) (.string ⟨#[]⟩) (.int .i64 0) (.slice none 0 0))
  exact bodyPost_ret (res_c1t rfl rfl (load_dl (HO4.out.blk 1 rfl).1) rfl) rfl ⟨rfl, HO4.out.old⟩
set_option maxHeartbeats 300000 in
theorem bare_d5 (ek : ByteArray) (es eg ec : Int) (key : ByteArray) (pg : Int) (p : Pg) (w : World) {v : Value} (hr : Rl En.enc 4 w v p.list) (hl : p.list.length ≤ maxLen) : Calls Try.prog 47 #[dlv ⟨5, ⟨ek, ⟨es, eg⟩, ec⟩, key, pg, p⟩ v] w (GaveB ⟨5, ⟨ek, ⟨es, eg⟩, ec⟩, key, pg, p⟩ v w) := by
  obtain ⟨a0, c0, rfl, hc0, hrd⟩ := hr
  clear hrd
  have HB := Lib.hid (show bareD ⟨5, ⟨ek, ⟨es, eg⟩, ec⟩, key, pg, p⟩ = ⟨5, zeroEn, empS, pg, zeroPg⟩ from by unfold bareD; simp)
  have HK := Lib.hid (show okD ⟨5, ⟨ek, ⟨es, eg⟩, ec⟩, key, pg, p⟩ = decide (1 ≤ pg) from by unfold okD; simp)
  have HI := Lib.hid (show (if (5 : Int) = 4 then (.slice a0 p.list.length c0 : Value) else .slice none 0 0) = .slice none 0 0 from by simp)
  obtain ⟨lf, lo, hi, r, l⟩ := p
  unfold GaveB
  rw [HB.out, HK.out]
  simp only at HI ⊢
  rw [HI.out]
  unfold dlv
  simp only
  have HO := Lib.hid ((One.nil w).alloc2 (.cells #[.int .i64 5, .string ek, .int .i64 es, .int .i64 eg, .int .i64 ec, .string key, .int .i64 pg, .bool lf, .string lo, .string hi, .int .i64 r, .slice a0 l.length c0] 30) (.cells #[.int .i64 0, .string ⟨#[]⟩, .int .i64 0, .int .i64 0, .int .i64 0, .string ⟨#[]⟩, .int .i64 0, .bool false, .string ⟨#[]⟩, .string ⟨#[]⟩, .int .i64 0, .slice none 0 0] 30))
  go_enter Try.func47, Try.ntmps47
  go_upto_region 2 with fail
  have HO2 := Lib.hid (HO.out.alloc (.cells #[.int .i64 5, .string ⟨#[]⟩, .int .i64 0, .int .i64 0, .int .i64 0, .string ⟨#[]⟩, .int .i64 0, .bool false, .string ⟨#[]⟩, .string ⟨#[]⟩, .int .i64 0, .slice none 0 0] 30))
  rw [show ((w.alloc (.cells #[.int .i64 5, .string ek, .int .i64 es, .int .i64 eg, .int .i64 ec, .string key, .int .i64 pg, .bool lf, .string lo, .string hi, .int .i64 r, .slice a0 l.length c0] 30)).alloc (.cells #[.int .i64 0, .string ⟨#[]⟩, .int .i64 0, .int .i64 0, .int .i64 0, .string ⟨#[]⟩, .int .i64 0, .bool false, .string ⟨#[]⟩, .string ⟨#[]⟩, .int .i64 0, .slice none 0 0] 30)).heap.size = w.heap.size + 1 + 1 by simp] at HO2
  generalize ((w.alloc (.cells #[.int .i64 5, .string ek, .int .i64 es, .int .i64 eg, .int .i64 ec, .string key, .int .i64 pg, .bool lf, .string lo, .string hi, .int .i64 r, .slice a0 l.length c0] 30)).alloc (.cells #[.int .i64 0, .string ⟨#[]⟩, .int .i64 0, .int .i64 0, .int .i64 0, .string ⟨#[]⟩, .int .i64 0, .bool false, .string ⟨#[]⟩, .string ⟨#[]⟩, .int .i64 0, .slice none 0 0] 30)).alloc (.cells #[.int .i64 5, .string ⟨#[]⟩, .int .i64 0, .int .i64 0, .int .i64 0, .string ⟨#[]⟩, .int .i64 0, .bool false, .string ⟨#[]⟩, .string ⟨#[]⟩, .int .i64 0, .slice none 0 0] 30) = w2 at *
  obtain ⟨x0, x1, x2, x3, x4, x5, x6, x7, x8, x9, xa, xb, xf⟩ := cells12 (HO2.out.blk 2 rfl).1
  obtain ⟨y0, y1, y2, y3, y4, y5, y6, y7, y8, y9, ya, yb, yf⟩ := cells12 (HO2.out.blk 0 rfl).1
  obtain ⟨z0, z1, z2, z3, z4, z5, z6, z7, z8, z9, za, zb, zf⟩ := cells12 (HO2.out.blk 1 rfl).1
  go_upto_region 16 with fail
  have HO3 := Lib.hid (show One w (w2.setCell ⟨w.heap.size + 1 + 1, 6, none⟩ (.int .i64 pg)) [Blk (w.heap.size + 1 + 1) (.cells #[.int .i64 5, .string ⟨#[]⟩, .int .i64 0, .int .i64 0, .int .i64 0, .string ⟨#[]⟩, .int .i64 pg, .bool false, .string ⟨#[]⟩, .string ⟨#[]⟩, .int .i64 0, .slice none 0 0] 30), Blk (w.heap.size + 1) (.cells #[.int .i64 0, .string ⟨#[]⟩, .int .i64 0, .int .i64 0, .int .i64 0, .string ⟨#[]⟩, .int .i64 0, .bool false, .string ⟨#[]⟩, .string ⟨#[]⟩, .int .i64 0, .slice none 0 0] 30), Blk w.heap.size (.cells #[.int .i64 5, .string ek, .int .i64 es, .int .i64 eg, .int .i64 ec, .string key, .int .i64 pg, .bool lf, .string lo, .string hi, .int .i64 r, .slice a0 l.length c0] 30)] from (HO2.out.setC 0 rfl (j := 6) (.int .i64 pg)))
  clear HO HO2 x0 x1 x2 x3 x4 x5 x6 x7 x8 x9 xa xb xf y0 y1 y2 y3 y4 y5 y6 y7 y8 y9 ya yb yf z0 z1 z2 z3 z4 z5 z6 z7 z8 z9 za zb zf
  generalize (w2.setCell ⟨w.heap.size + 1 + 1, 6, none⟩ (.int .i64 pg)) = w3 at *
  obtain ⟨y0, y1, y2, y3, y4, y5, y6, y7, y8, y9, ya, yb, yf⟩ := cells12 (HO3.out.blk 0 rfl).1
  obtain ⟨z0, z1, z2, z3, z4, z5, z6, z7, z8, z9, za, zb, zf⟩ := cells12 (HO3.out.blk 1 rfl).1
  obtain ⟨x0, x1, x2, x3, x4, x5, x6, x7, x8, x9, xa, xb, xf⟩ := cells12 (HO3.out.blk 2 rfl).1
  go_region
  go_wp2_with fail
  have HO4 := Lib.hid ((HO3.out.set12 1 rfl (.int .i64 5) (.string ⟨#[]⟩) (.int .i64 0) (.int .i64 0) (.int .i64 0) (.string ⟨#[]⟩) (.int .i64 pg) (.bool false) (.string ⟨#[]⟩) (.string ⟨#[]⟩) (.int .i64 0) (.slice none 0 0)).kn ((Kp.refl _ _).drew))
  exact bodyPost_ret (res_c1t rfl rfl (load_dl (HO4.out.blk 1 rfl).1) rfl) rfl ⟨rfl, HO4.out.old⟩
set_option maxHeartbeats 300000 in
theorem bare_d3a (ek : ByteArray) (es eg ec : Int) (key : ByteArray) (pg : Int) (p : Pg) (hp : pg < 1) (w : World) {v : Value} (hr : Rl En.enc 4 w v p.list) (hl : p.list.length ≤ maxLen) : Calls Try.prog 47 #[dlv ⟨3, ⟨ek, ⟨es, eg⟩, ec⟩, key, pg, p⟩ v] w (GaveB ⟨3, ⟨ek, ⟨es, eg⟩, ec⟩, key, pg, p⟩ v w) := by
  obtain ⟨a0, c0, rfl, hc0, hrd⟩ := hr
  clear hrd
  have HB := Lib.hid (show bareD ⟨3, ⟨ek, ⟨es, eg⟩, ec⟩, key, pg, p⟩ = ⟨3, zeroEn, key, pg, zeroPg⟩ from by unfold bareD; simp [show ¬ (1 : Int) ≤ pg by omega])
  have HK := Lib.hid (show okD ⟨3, ⟨ek, ⟨es, eg⟩, ec⟩, key, pg, p⟩ = false from by unfold okD; simp [show ¬ (1 : Int) ≤ pg by omega])
  have HI := Lib.hid (show (if (3 : Int) = 4 then (.slice a0 p.list.length c0 : Value) else .slice none 0 0) = .slice none 0 0 from by simp [show ¬ (1 : Int) ≤ pg by omega])
  obtain ⟨lf, lo, hi, r, l⟩ := p
  unfold GaveB
  rw [HB.out, HK.out]
  simp only at HI ⊢
  rw [HI.out]
  unfold dlv
  simp only
  have hd : decide (1 ≤ pg) = false := by simp; omega
  have HO := Lib.hid ((One.nil w).alloc2 (.cells #[.int .i64 3, .string ek, .int .i64 es, .int .i64 eg, .int .i64 ec, .string key, .int .i64 pg, .bool lf, .string lo, .string hi, .int .i64 r, .slice a0 l.length c0] 30) (.cells #[.int .i64 0, .string ⟨#[]⟩, .int .i64 0, .int .i64 0, .int .i64 0, .string ⟨#[]⟩, .int .i64 0, .bool false, .string ⟨#[]⟩, .string ⟨#[]⟩, .int .i64 0, .slice none 0 0] 30))
  go_enter Try.func47, Try.ntmps47
  go_upto_region 2 with fail
  have HO2 := Lib.hid (HO.out.alloc (.cells #[.int .i64 3, .string ⟨#[]⟩, .int .i64 0, .int .i64 0, .int .i64 0, .string ⟨#[]⟩, .int .i64 0, .bool false, .string ⟨#[]⟩, .string ⟨#[]⟩, .int .i64 0, .slice none 0 0] 30))
  rw [show ((w.alloc (.cells #[.int .i64 3, .string ek, .int .i64 es, .int .i64 eg, .int .i64 ec, .string key, .int .i64 pg, .bool lf, .string lo, .string hi, .int .i64 r, .slice a0 l.length c0] 30)).alloc (.cells #[.int .i64 0, .string ⟨#[]⟩, .int .i64 0, .int .i64 0, .int .i64 0, .string ⟨#[]⟩, .int .i64 0, .bool false, .string ⟨#[]⟩, .string ⟨#[]⟩, .int .i64 0, .slice none 0 0] 30)).heap.size = w.heap.size + 1 + 1 by simp] at HO2
  generalize ((w.alloc (.cells #[.int .i64 3, .string ek, .int .i64 es, .int .i64 eg, .int .i64 ec, .string key, .int .i64 pg, .bool lf, .string lo, .string hi, .int .i64 r, .slice a0 l.length c0] 30)).alloc (.cells #[.int .i64 0, .string ⟨#[]⟩, .int .i64 0, .int .i64 0, .int .i64 0, .string ⟨#[]⟩, .int .i64 0, .bool false, .string ⟨#[]⟩, .string ⟨#[]⟩, .int .i64 0, .slice none 0 0] 30)).alloc (.cells #[.int .i64 3, .string ⟨#[]⟩, .int .i64 0, .int .i64 0, .int .i64 0, .string ⟨#[]⟩, .int .i64 0, .bool false, .string ⟨#[]⟩, .string ⟨#[]⟩, .int .i64 0, .slice none 0 0] 30) = w2 at *
  obtain ⟨x0, x1, x2, x3, x4, x5, x6, x7, x8, x9, xa, xb, xf⟩ := cells12 (HO2.out.blk 2 rfl).1
  obtain ⟨y0, y1, y2, y3, y4, y5, y6, y7, y8, y9, ya, yb, yf⟩ := cells12 (HO2.out.blk 0 rfl).1
  obtain ⟨z0, z1, z2, z3, z4, z5, z6, z7, z8, z9, za, zb, zf⟩ := cells12 (HO2.out.blk 1 rfl).1
  go_upto_region 9 with fail
  have K1 := Lib.hid (cells12 ((((HO2.out.setC 0 rfl (j := 5) (.string key)).kn ((Kp.refl _ _).drew)).blk 2 rfl)).1)
  have K2 := Lib.hid (cells12 (((((HO2.out.setC 0 rfl (j := 5) (.string key)).setC 0 rfl (j := 6) (.int .i64 pg)).kn ((Kp.refl _ _).drew)).blk 2 rfl)).1)
  go_region_held3 (fun w' => w'.cell? ⟨w.heap.size, 5, none⟩ = some (.string key) ∧ w'.cell? ⟨w.heap.size, 6, none⟩ = some (.int .i64 pg)) (first | (exact ⟨x5, x6⟩) | (exact ⟨K1.out.2.2.2.2.2.1, K1.out.2.2.2.2.2.2.1⟩) | (exact ⟨K2.out.2.2.2.2.2.1, K2.out.2.2.2.2.2.2.1⟩) | go_keep) (fail)
  clear K1 K2
  go_upto_region 10 with fail
  have HO3 := Lib.hid (show One w ((w2.setCell ⟨w.heap.size + 1 + 1, 5, none⟩ (.string key)).setCell ⟨w.heap.size + 1 + 1, 6, none⟩ (.int .i64 pg)).drew [Blk (w.heap.size + 1 + 1) (.cells #[.int .i64 3, .string ⟨#[]⟩, .int .i64 0, .int .i64 0, .int .i64 0, .string key, .int .i64 pg, .bool false, .string ⟨#[]⟩, .string ⟨#[]⟩, .int .i64 0, .slice none 0 0] 30), Blk (w.heap.size + 1) (.cells #[.int .i64 0, .string ⟨#[]⟩, .int .i64 0, .int .i64 0, .int .i64 0, .string ⟨#[]⟩, .int .i64 0, .bool false, .string ⟨#[]⟩, .string ⟨#[]⟩, .int .i64 0, .slice none 0 0] 30), Blk w.heap.size (.cells #[.int .i64 3, .string ek, .int .i64 es, .int .i64 eg, .int .i64 ec, .string key, .int .i64 pg, .bool lf, .string lo, .string hi, .int .i64 r, .slice a0 l.length c0] 30)] from ((HO2.out.setC 0 rfl (j := 5) (.string key)).setC 0 rfl (j := 6) (.int .i64 pg)).kn ((Kp.refl _ _).drew))
  clear HO HO2 x0 x1 x2 x3 x4 x5 x6 x7 x8 x9 xa xb xf y0 y1 y2 y3 y4 y5 y6 y7 y8 y9 ya yb yf z0 z1 z2 z3 z4 z5 z6 z7 z8 z9 za zb zf
  generalize ((w2.setCell ⟨w.heap.size + 1 + 1, 5, none⟩ (.string key)).setCell ⟨w.heap.size + 1 + 1, 6, none⟩ (.int .i64 pg)).drew = w3 at *
  obtain ⟨y0, y1, y2, y3, y4, y5, y6, y7, y8, y9, ya, yb, yf⟩ := cells12 (HO3.out.blk 0 rfl).1
  obtain ⟨z0, z1, z2, z3, z4, z5, z6, z7, z8, z9, za, zb, zf⟩ := cells12 (HO3.out.blk 1 rfl).1
  obtain ⟨x0, x1, x2, x3, x4, x5, x6, x7, x8, x9, xa, xb, xf⟩ := cells12 (HO3.out.blk 2 rfl).1
  go_region
  go_wp2_with fail
  have HO4 := Lib.hid ((HO3.out.set12 1 rfl (.int .i64 3) (.string ⟨#[]⟩) (.int .i64 0) (.int .i64 0) (.int .i64 0) (.string key) (.int .i64 pg) (.bool false) (.string ⟨#[]⟩) (.string ⟨#[]⟩) (.int .i64 0) (.slice none 0 0)).kn ((Kp.refl _ _).drew))
  exact bodyPost_ret (res_c1t rfl rfl (load_dl (HO4.out.blk 1 rfl).1) rfl) rfl ⟨rfl, HO4.out.old⟩
set_option maxHeartbeats 300000 in
theorem bare_d3b (ek : ByteArray) (es eg ec : Int) (key : ByteArray) (pg : Int) (p : Pg) (hp : ¬ pg < 1) (hk : key.toList.isEmpty = true) (w : World) {v : Value} (hr : Rl En.enc 4 w v p.list) (hl : p.list.length ≤ maxLen) : Calls Try.prog 47 #[dlv ⟨3, ⟨ek, ⟨es, eg⟩, ec⟩, key, pg, p⟩ v] w (GaveB ⟨3, ⟨ek, ⟨es, eg⟩, ec⟩, key, pg, p⟩ v w) := by
  obtain ⟨a0, c0, rfl, hc0, hrd⟩ := hr
  clear hrd
  have HB := Lib.hid (show bareD ⟨3, ⟨ek, ⟨es, eg⟩, ec⟩, key, pg, p⟩ = ⟨3, zeroEn, key, pg, zeroPg⟩ from by unfold bareD; simp [hk])
  have HK := Lib.hid (show okD ⟨3, ⟨ek, ⟨es, eg⟩, ec⟩, key, pg, p⟩ = false from by unfold okD; simp [hk])
  have HI := Lib.hid (show (if (3 : Int) = 4 then (.slice a0 p.list.length c0 : Value) else .slice none 0 0) = .slice none 0 0 from by simp [hk])
  obtain ⟨lf, lo, hi, r, l⟩ := p
  unfold GaveB
  rw [HB.out, HK.out]
  simp only at HI ⊢
  rw [HI.out]
  unfold dlv
  simp only
  have hd : decide (1 ≤ pg) = true := by simp; omega
  have HO := Lib.hid ((One.nil w).alloc2 (.cells #[.int .i64 3, .string ek, .int .i64 es, .int .i64 eg, .int .i64 ec, .string key, .int .i64 pg, .bool lf, .string lo, .string hi, .int .i64 r, .slice a0 l.length c0] 30) (.cells #[.int .i64 0, .string ⟨#[]⟩, .int .i64 0, .int .i64 0, .int .i64 0, .string ⟨#[]⟩, .int .i64 0, .bool false, .string ⟨#[]⟩, .string ⟨#[]⟩, .int .i64 0, .slice none 0 0] 30))
  go_enter Try.func47, Try.ntmps47
  go_upto_region 2 with fail
  have HO2 := Lib.hid (HO.out.alloc (.cells #[.int .i64 3, .string ⟨#[]⟩, .int .i64 0, .int .i64 0, .int .i64 0, .string ⟨#[]⟩, .int .i64 0, .bool false, .string ⟨#[]⟩, .string ⟨#[]⟩, .int .i64 0, .slice none 0 0] 30))
  rw [show ((w.alloc (.cells #[.int .i64 3, .string ek, .int .i64 es, .int .i64 eg, .int .i64 ec, .string key, .int .i64 pg, .bool lf, .string lo, .string hi, .int .i64 r, .slice a0 l.length c0] 30)).alloc (.cells #[.int .i64 0, .string ⟨#[]⟩, .int .i64 0, .int .i64 0, .int .i64 0, .string ⟨#[]⟩, .int .i64 0, .bool false, .string ⟨#[]⟩, .string ⟨#[]⟩, .int .i64 0, .slice none 0 0] 30)).heap.size = w.heap.size + 1 + 1 by simp] at HO2
  generalize ((w.alloc (.cells #[.int .i64 3, .string ek, .int .i64 es, .int .i64 eg, .int .i64 ec, .string key, .int .i64 pg, .bool lf, .string lo, .string hi, .int .i64 r, .slice a0 l.length c0] 30)).alloc (.cells #[.int .i64 0, .string ⟨#[]⟩, .int .i64 0, .int .i64 0, .int .i64 0, .string ⟨#[]⟩, .int .i64 0, .bool false, .string ⟨#[]⟩, .string ⟨#[]⟩, .int .i64 0, .slice none 0 0] 30)).alloc (.cells #[.int .i64 3, .string ⟨#[]⟩, .int .i64 0, .int .i64 0, .int .i64 0, .string ⟨#[]⟩, .int .i64 0, .bool false, .string ⟨#[]⟩, .string ⟨#[]⟩, .int .i64 0, .slice none 0 0] 30) = w2 at *
  obtain ⟨x0, x1, x2, x3, x4, x5, x6, x7, x8, x9, xa, xb, xf⟩ := cells12 (HO2.out.blk 2 rfl).1
  obtain ⟨y0, y1, y2, y3, y4, y5, y6, y7, y8, y9, ya, yb, yf⟩ := cells12 (HO2.out.blk 0 rfl).1
  obtain ⟨z0, z1, z2, z3, z4, z5, z6, z7, z8, z9, za, zb, zf⟩ := cells12 (HO2.out.blk 1 rfl).1
  go_upto_region 9 with fail
  have K1 := Lib.hid (cells12 ((((HO2.out.setC 0 rfl (j := 5) (.string key)).kn ((Kp.refl _ _).drew)).blk 2 rfl)).1)
  have K2 := Lib.hid (cells12 (((((HO2.out.setC 0 rfl (j := 5) (.string key)).setC 0 rfl (j := 6) (.int .i64 pg)).kn ((Kp.refl _ _).drew)).blk 2 rfl)).1)
  go_region_held3 (fun w' => w'.cell? ⟨w.heap.size, 5, none⟩ = some (.string key) ∧ w'.cell? ⟨w.heap.size, 6, none⟩ = some (.int .i64 pg)) (first | (exact ⟨x5, x6⟩) | (exact ⟨K1.out.2.2.2.2.2.1, K1.out.2.2.2.2.2.2.1⟩) | (exact ⟨K2.out.2.2.2.2.2.1, K2.out.2.2.2.2.2.2.1⟩) | go_keep) (fail)
  clear K1 K2
  go_upto_region 10 with fail
  have HO3 := Lib.hid (show One w ((w2.setCell ⟨w.heap.size + 1 + 1, 5, none⟩ (.string key)).setCell ⟨w.heap.size + 1 + 1, 6, none⟩ (.int .i64 pg)).drew [Blk (w.heap.size + 1 + 1) (.cells #[.int .i64 3, .string ⟨#[]⟩, .int .i64 0, .int .i64 0, .int .i64 0, .string key, .int .i64 pg, .bool false, .string ⟨#[]⟩, .string ⟨#[]⟩, .int .i64 0, .slice none 0 0] 30), Blk (w.heap.size + 1) (.cells #[.int .i64 0, .string ⟨#[]⟩, .int .i64 0, .int .i64 0, .int .i64 0, .string ⟨#[]⟩, .int .i64 0, .bool false, .string ⟨#[]⟩, .string ⟨#[]⟩, .int .i64 0, .slice none 0 0] 30), Blk w.heap.size (.cells #[.int .i64 3, .string ek, .int .i64 es, .int .i64 eg, .int .i64 ec, .string key, .int .i64 pg, .bool lf, .string lo, .string hi, .int .i64 r, .slice a0 l.length c0] 30)] from ((HO2.out.setC 0 rfl (j := 5) (.string key)).setC 0 rfl (j := 6) (.int .i64 pg)).kn ((Kp.refl _ _).drew))
  clear HO HO2 x0 x1 x2 x3 x4 x5 x6 x7 x8 x9 xa xb xf y0 y1 y2 y3 y4 y5 y6 y7 y8 y9 ya yb yf z0 z1 z2 z3 z4 z5 z6 z7 z8 z9 za zb zf
  generalize ((w2.setCell ⟨w.heap.size + 1 + 1, 5, none⟩ (.string key)).setCell ⟨w.heap.size + 1 + 1, 6, none⟩ (.int .i64 pg)).drew = w3 at *
  obtain ⟨y0, y1, y2, y3, y4, y5, y6, y7, y8, y9, ya, yb, yf⟩ := cells12 (HO3.out.blk 0 rfl).1
  obtain ⟨z0, z1, z2, z3, z4, z5, z6, z7, z8, z9, za, zb, zf⟩ := cells12 (HO3.out.blk 1 rfl).1
  obtain ⟨x0, x1, x2, x3, x4, x5, x6, x7, x8, x9, xa, xb, xf⟩ := cells12 (HO3.out.blk 2 rfl).1
  go_region
  go_wp2_with fail
  have HO4 := Lib.hid ((HO3.out.set12 1 rfl (.int .i64 3) (.string ⟨#[]⟩) (.int .i64 0) (.int .i64 0) (.int .i64 0) (.string key) (.int .i64 pg) (.bool false) (.string ⟨#[]⟩) (.string ⟨#[]⟩) (.int .i64 0) (.slice none 0 0)).kn ((Kp.refl _ _).drew))
  exact bodyPost_ret (res_c1t rfl rfl (load_dl (HO4.out.blk 1 rfl).1) rfl) rfl ⟨rfl, HO4.out.old⟩
set_option maxHeartbeats 300000 in
theorem bare_d3c (ek : ByteArray) (es eg ec : Int) (key : ByteArray) (pg : Int) (p : Pg) (hp : ¬ pg < 1) (hk : key.toList.isEmpty = false) (w : World) {v : Value} (hr : Rl En.enc 4 w v p.list) (hl : p.list.length ≤ maxLen) : Calls Try.prog 47 #[dlv ⟨3, ⟨ek, ⟨es, eg⟩, ec⟩, key, pg, p⟩ v] w (GaveB ⟨3, ⟨ek, ⟨es, eg⟩, ec⟩, key, pg, p⟩ v w) := by
  obtain ⟨a0, c0, rfl, hc0, hrd⟩ := hr
  clear hrd
  have HB := Lib.hid (show bareD ⟨3, ⟨ek, ⟨es, eg⟩, ec⟩, key, pg, p⟩ = ⟨3, zeroEn, key, pg, zeroPg⟩ from by unfold bareD; simp [hk, show (1 : Int) ≤ pg by omega])
  have HK := Lib.hid (show okD ⟨3, ⟨ek, ⟨es, eg⟩, ec⟩, key, pg, p⟩ = true from by unfold okD; simp [hk, show (1 : Int) ≤ pg by omega])
  have HI := Lib.hid (show (if (3 : Int) = 4 then (.slice a0 p.list.length c0 : Value) else .slice none 0 0) = .slice none 0 0 from by simp [hk, show (1 : Int) ≤ pg by omega])
  obtain ⟨lf, lo, hi, r, l⟩ := p
  unfold GaveB
  rw [HB.out, HK.out]
  simp only at HI ⊢
  rw [HI.out]
  unfold dlv
  simp only
  have hd : decide (1 ≤ pg) = true := by simp; omega
  have HO := Lib.hid ((One.nil w).alloc2 (.cells #[.int .i64 3, .string ek, .int .i64 es, .int .i64 eg, .int .i64 ec, .string key, .int .i64 pg, .bool lf, .string lo, .string hi, .int .i64 r, .slice a0 l.length c0] 30) (.cells #[.int .i64 0, .string ⟨#[]⟩, .int .i64 0, .int .i64 0, .int .i64 0, .string ⟨#[]⟩, .int .i64 0, .bool false, .string ⟨#[]⟩, .string ⟨#[]⟩, .int .i64 0, .slice none 0 0] 30))
  go_enter Try.func47, Try.ntmps47
  go_upto_region 2 with fail
  have HO2 := Lib.hid (HO.out.alloc (.cells #[.int .i64 3, .string ⟨#[]⟩, .int .i64 0, .int .i64 0, .int .i64 0, .string ⟨#[]⟩, .int .i64 0, .bool false, .string ⟨#[]⟩, .string ⟨#[]⟩, .int .i64 0, .slice none 0 0] 30))
  rw [show ((w.alloc (.cells #[.int .i64 3, .string ek, .int .i64 es, .int .i64 eg, .int .i64 ec, .string key, .int .i64 pg, .bool lf, .string lo, .string hi, .int .i64 r, .slice a0 l.length c0] 30)).alloc (.cells #[.int .i64 0, .string ⟨#[]⟩, .int .i64 0, .int .i64 0, .int .i64 0, .string ⟨#[]⟩, .int .i64 0, .bool false, .string ⟨#[]⟩, .string ⟨#[]⟩, .int .i64 0, .slice none 0 0] 30)).heap.size = w.heap.size + 1 + 1 by simp] at HO2
  generalize ((w.alloc (.cells #[.int .i64 3, .string ek, .int .i64 es, .int .i64 eg, .int .i64 ec, .string key, .int .i64 pg, .bool lf, .string lo, .string hi, .int .i64 r, .slice a0 l.length c0] 30)).alloc (.cells #[.int .i64 0, .string ⟨#[]⟩, .int .i64 0, .int .i64 0, .int .i64 0, .string ⟨#[]⟩, .int .i64 0, .bool false, .string ⟨#[]⟩, .string ⟨#[]⟩, .int .i64 0, .slice none 0 0] 30)).alloc (.cells #[.int .i64 3, .string ⟨#[]⟩, .int .i64 0, .int .i64 0, .int .i64 0, .string ⟨#[]⟩, .int .i64 0, .bool false, .string ⟨#[]⟩, .string ⟨#[]⟩, .int .i64 0, .slice none 0 0] 30) = w2 at *
  obtain ⟨x0, x1, x2, x3, x4, x5, x6, x7, x8, x9, xa, xb, xf⟩ := cells12 (HO2.out.blk 2 rfl).1
  obtain ⟨y0, y1, y2, y3, y4, y5, y6, y7, y8, y9, ya, yb, yf⟩ := cells12 (HO2.out.blk 0 rfl).1
  obtain ⟨z0, z1, z2, z3, z4, z5, z6, z7, z8, z9, za, zb, zf⟩ := cells12 (HO2.out.blk 1 rfl).1
  go_upto_region 9 with fail
  have K1 := Lib.hid (cells12 ((((HO2.out.setC 0 rfl (j := 5) (.string key)).kn ((Kp.refl _ _).drew)).blk 2 rfl)).1)
  have K2 := Lib.hid (cells12 (((((HO2.out.setC 0 rfl (j := 5) (.string key)).setC 0 rfl (j := 6) (.int .i64 pg)).kn ((Kp.refl _ _).drew)).blk 2 rfl)).1)
  go_region_held3 (fun w' => w'.cell? ⟨w.heap.size, 5, none⟩ = some (.string key) ∧ w'.cell? ⟨w.heap.size, 6, none⟩ = some (.int .i64 pg)) (first | (exact ⟨x5, x6⟩) | (exact ⟨K1.out.2.2.2.2.2.1, K1.out.2.2.2.2.2.2.1⟩) | (exact ⟨K2.out.2.2.2.2.2.1, K2.out.2.2.2.2.2.2.1⟩) | go_keep) (fail)
  clear K1 K2
  go_upto_region 10 with fail
  have HO3 := Lib.hid (show One w ((w2.setCell ⟨w.heap.size + 1 + 1, 5, none⟩ (.string key)).setCell ⟨w.heap.size + 1 + 1, 6, none⟩ (.int .i64 pg)).drew [Blk (w.heap.size + 1 + 1) (.cells #[.int .i64 3, .string ⟨#[]⟩, .int .i64 0, .int .i64 0, .int .i64 0, .string key, .int .i64 pg, .bool false, .string ⟨#[]⟩, .string ⟨#[]⟩, .int .i64 0, .slice none 0 0] 30), Blk (w.heap.size + 1) (.cells #[.int .i64 0, .string ⟨#[]⟩, .int .i64 0, .int .i64 0, .int .i64 0, .string ⟨#[]⟩, .int .i64 0, .bool false, .string ⟨#[]⟩, .string ⟨#[]⟩, .int .i64 0, .slice none 0 0] 30), Blk w.heap.size (.cells #[.int .i64 3, .string ek, .int .i64 es, .int .i64 eg, .int .i64 ec, .string key, .int .i64 pg, .bool lf, .string lo, .string hi, .int .i64 r, .slice a0 l.length c0] 30)] from ((HO2.out.setC 0 rfl (j := 5) (.string key)).setC 0 rfl (j := 6) (.int .i64 pg)).kn ((Kp.refl _ _).drew))
  clear HO HO2 x0 x1 x2 x3 x4 x5 x6 x7 x8 x9 xa xb xf y0 y1 y2 y3 y4 y5 y6 y7 y8 y9 ya yb yf z0 z1 z2 z3 z4 z5 z6 z7 z8 z9 za zb zf
  generalize ((w2.setCell ⟨w.heap.size + 1 + 1, 5, none⟩ (.string key)).setCell ⟨w.heap.size + 1 + 1, 6, none⟩ (.int .i64 pg)).drew = w3 at *
  obtain ⟨y0, y1, y2, y3, y4, y5, y6, y7, y8, y9, ya, yb, yf⟩ := cells12 (HO3.out.blk 0 rfl).1
  obtain ⟨z0, z1, z2, z3, z4, z5, z6, z7, z8, z9, za, zb, zf⟩ := cells12 (HO3.out.blk 1 rfl).1
  obtain ⟨x0, x1, x2, x3, x4, x5, x6, x7, x8, x9, xa, xb, xf⟩ := cells12 (HO3.out.blk 2 rfl).1
  go_region
  go_wp2_with fail
  have HO4 := Lib.hid ((HO3.out.set12 1 rfl (.int .i64 3) (.string ⟨#[]⟩) (.int .i64 0) (.int .i64 0) (.int .i64 0) (.string key) (.int .i64 pg) (.bool false) (.string ⟨#[]⟩) (.string ⟨#[]⟩) (.int .i64 0) (.slice none 0 0)).kn ((Kp.refl _ _).drew))
  exact bodyPost_ret (res_c1t rfl rfl (load_dl (HO4.out.blk 1 rfl).1) rfl) rfl ⟨rfl, HO4.out.old⟩
end Go.Proofs.Ytkdlodjpambelaa

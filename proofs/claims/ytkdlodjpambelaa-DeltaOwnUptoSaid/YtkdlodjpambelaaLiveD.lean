/- The walk of live. -/
import Derived.Test.YtkdlodjpambelaaLookP
import Derived.Test.YtkdlodjpambelaaUndoP
import Derived.Test.YtkdlodjpambelaaDeltaM
namespace Go.Proofs.Ytkdlodjpambelaa
set_option linter.unusedVariables false
set_option linter.unusedSimpArgs false
open Go Go.RowKit

def tx (b : UInt8) : ByteArray := ⟨#[b]⟩
def enx (b : UInt8) : En := ⟨tx b, ⟨0, 0⟩, 0⟩
theorem lt_tx (a b : UInt8) : ltS (tx a) (tx b) = decide (a < b) := by
  unfold ltS tx
  rw [ByteArray.toList_eq, ByteArray.toList_eq]
  simp [Op.bytesLess]
theorem lt_emp (a : ByteArray) : ltS a empS = false := by
  unfold ltS
  rw [show empS.toList = [] by rw [ByteArray.toList_eq]; rfl]
  cases a.toList <;> rfl
theorem emp_lt (a : UInt8) : ltS empS (tx a) = true := by
  unfold ltS tx empS
  rw [ByteArray.toList_eq, ByteArray.toList_eq]
  rfl
theorem emp_nil : empS.toList.isEmpty = true := by rw [ByteArray.toList_eq]; rfl
theorem tx_cons (a : UInt8) : (tx a).toList.isEmpty = false := by unfold tx; rw [ByteArray.toList_eq]; rfl
theorem eq_tx (a b : UInt8) : eqS (tx a) (tx b) = decide (a = b) := by
  unfold eqS tx
  rw [ByteArray.toList_eq, ByteArray.toList_eq]
  by_cases h : a = b <;> simp [h]
theorem rl_blk {W : World} {g cap n : Nat} {l : List En} {cs : Array Value} {T : TypeId} {fr : Nat × Nat} (h : W.heap[g]? = some (.cells cs T fr)) (hc : cs = (l.flatMap En.enc).toArray) (hn : n = l.length) (hcap : n ≤ cap) : Rl En.enc 4 W (.slice (some ⟨g, 0, none⟩) n cap) l := by
  subst hn
  refine ⟨_, cap, rfl, hcap, .inr ⟨g, 0, rfl, lt_blk h, fun i x hx j hj => ?_⟩⟩
  have h1 := flat_at enc4 l i x hx j hj
  rw [← h1]
  subst hc
  have h2 : i * 4 + j < (l.flatMap En.enc).length := by
    rw [flat_len enc4]
    have := (List.getElem?_eq_some_iff.1 hx).1
    omega
  rw [Nat.zero_add, List.getElem?_eq_getElem h2]
  exact cell_blk h (by simp [h2])
def liveB : Pg := ⟨true, empS, empS, 0, [enx 97]⟩
def live1 : Dl := ⟨3, zeroEn, tx 98, 4, zeroPg⟩
def live2 : Dl := ⟨1, enx 99, empS, 0, zeroPg⟩
theorem check_lit {d : Dl} (h1 : badD d = false) (h2 : bareD d = d) : checkD d = 0 := by
  unfold checkD
  rw [h1, h2, sameD_iff.2 rfl]
  rfl
theorem check_live1 : checkD live1 = 0 := check_lit (by simp [badD, live1, tx_cons]) (by simp [bareD, live1])
theorem check_live2 : checkD live2 = 0 := check_lit (by simp [badD, live2]) (by simp [bareD, live2, zeroPg])
theorem put_live : applyD liveB live2 = (⟨true, empS, empS, 0, [enx 97, enx 99]⟩, 0) := by
  unfold applyD
  rw [check_live2]
  simp [live2, putP, liveB, inR, lt_emp, emp_nil, putAt, enx, eq_tx, lt_tx, List.findIdx?_cons]
theorem fold_live : foldD liveB [live1, live2] = (⟨true, empS, tx 98, 4, [enx 97]⟩, 0) := by
  rw [foldD_cons, foldD_one, put_live]
  simp only [ne_eq, not_true_eq_false, if_false]
  unfold applyD
  rw [check_live1]
  simp [live1, inR, lt_emp, emp_lt, emp_nil, enx, lt_tx]
theorem look_live (b : UInt8) : lookD liveB (tx b) [live1, live2] = lookQ (⟨true, empS, tx 98, 4, [enx 97]⟩, 0) (tx b) := by
  rw [lookD_eq, fold_live]
  simp [goneD, live1]
theorem look_c : lookD liveB (tx 99) [live1, live2] = (⟨zeroEn, false, 4⟩, 0) := by
  rw [look_live]
  simp [lookQ, lt_emp, inR, tx_cons, lt_tx]
theorem look_a : lookD liveB (tx 97) [live1, live2] = (⟨enx 97, true, 0⟩, 0) := by
  rw [look_live]
  simp [lookQ, lt_emp, inR, tx_cons, lt_tx, findP, enx, eq_tx]
set_option maxHeartbeats 1000000 in
theorem live_true (w : World) : Calls Try.prog 11 #[] w fun e w' => e = .returned (.bool true) ∧ KN w w' := by
  have hb : (liveB.list.length + sumD [live1, live2]) * 40 ≤ 140737488355328 := by decide
  have HL1 := Lib.hid (fun W v u (hr : Rl En.enc 4 W v liveB.list) (hd : RlD W u [live1, live2]) => look_c ▸ look_delta liveB (tx 99) [live1, live2] W hr hd hb)
  have HL2 := Lib.hid (fun W v u (hr : Rl En.enc 4 W v liveB.list) (hd : RlD W u [live1, live2]) => look_a ▸ look_delta liveB (tx 97) [live1, live2] W hr hd hb)
  have HO := Lib.hid ((One.nil w).alloc3 (.cells ((liveB.list.flatMap En.enc).toArray) 28) (.cells #[.bool true, .string ⟨#[]⟩, .string ⟨#[]⟩, .int .i64 0, .slice (some ⟨w.heap.size, 0, none⟩) 1 1] 24) (.cells (([(live1, .slice none 0 0), (live2, .slice none 0 0)] : List (Dl × Value)).flatMap dlc).toArray 30))
  have HR := Lib.hid (rl_blk (cap := 1) (n := 1) (l := liveB.list) (HO.out.blk 2 rfl).1 rfl rfl (by decide))
  have HD := Lib.hid (rlD_blk (cap := 2) (n := 2) (xs := [(live1, .slice none 0 0), (live2, .slice none 0 0)]) (HO.out.blk 0 rfl).1 rfl rfl (by decide) (fun x hx => by
    simp only [List.mem_cons, List.not_mem_nil, or_false] at hx
    rcases hx with rfl | rfl <;> exact Rl.nil _ _ _))
  clear hb
  unfold GaveS spv at HL1 HL2
  simp only [zeroEn, enx] at HL1 HL2
  go_enter Try.func11, Try.ntmps11
  go_upto_region 3 with fail
  obtain ⟨x0, x1, x2, x3, x4, xf⟩ := cells5 (HO.out.blk 1 rfl).1
  go_wp2_with fail
  refine (HL1.out _ _ _ HR.out HD.out).mono ?_
  rintro e w1 ⟨rfl, k1⟩
  have HO1 := Lib.hid (HO.out.kn k1)
  have HR1 := Lib.hid (HR.out.kn k1)
  have HD1 := Lib.hid (HD.out.kn k1)
  clear k1 HO HR HD x0 x1 x2 x3 x4 xf HL1
  go_upto_region 4 with fail
  have HO2 := Lib.hid (HO1.out.alloc (.cells #[.string empS, .int .i64 0, .int .i64 0, .int .i64 0, .bool false, .int .i64 4] 41))
  have HR2 := Lib.hid (HR1.out.kn (kn_alloc w1 (.cells #[.string empS, .int .i64 0, .int .i64 0, .int .i64 0, .bool false, .int .i64 4] 41)))
  have HD2 := Lib.hid (HD1.out.kn (kn_alloc w1 (.cells #[.string empS, .int .i64 0, .int .i64 0, .int .i64 0, .bool false, .int .i64 4] 41)))
  clear HO1 HR1 HD1
  generalize w1.alloc (.cells #[.string empS, .int .i64 0, .int .i64 0, .int .i64 0, .bool false, .int .i64 4] 41) = w2 at *
  generalize w1.heap.size = g at *
  obtain ⟨x0, x1, x2, x3, x4, xf⟩ := cells5 (HO2.out.blk 2 rfl).1
  go_wp2_with fail
  refine (HL2.out _ _ _ HR2.out HD2.out).mono ?_
  rintro e w3 ⟨rfl, k3⟩
  have HO3 := Lib.hid (HO2.out.kn k3)
  clear k3 HO2 HR2 HD2 x0 x1 x2 x3 x4 xf HL2
  go_upto_region 5 with fail
  have HO4 := Lib.hid (HO3.out.alloc (.cells #[.string (tx 97), .int .i64 0, .int .i64 0, .int .i64 0, .bool true, .int .i64 0] 41))
  clear HO3
  generalize w3.alloc (.cells #[.string (tx 97), .int .i64 0, .int .i64 0, .int .i64 0, .bool true, .int .i64 0] 41) = w4 at *
  generalize w3.heap.size = g2 at *
  obtain ⟨y0, y1, y2, y3, y4, y5, yf⟩ := cells6 (HO4.out.blk 0 rfl).1
  obtain ⟨z0, z1, z2, z3, z4, z5, zf⟩ := cells6 (HO4.out.blk 1 rfl).1
  have hs : ((tx 97).toList == [97]) = true := by unfold tx; rw [ByteArray.toList_eq]; rfl
  go_wp2
  go_ret
  exact ⟨rfl, HO4.out.old⟩
end Go.Proofs.Ytkdlodjpambelaa

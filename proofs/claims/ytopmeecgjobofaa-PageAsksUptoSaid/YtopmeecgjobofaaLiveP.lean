/- The walk of live. -/
import Derived.Test.YtopmeecgjobofaaMergeP
import Derived.Test.YtopmeecgjobofaaCheckP
namespace Go.Proofs.Ytopmeecgjobofaa
set_option linter.unusedVariables false
set_option linter.unusedSimpArgs false
open Go Go.RowKit

def tx (b : UInt8) : ByteArray := ⟨#[b]⟩
def enx (b : UInt8) : En := ⟨tx b, ⟨0, 0⟩, 0⟩
def liveP : Pg := ⟨true, empS, empS, 0, [enx 97, enx 99, enx 101, enx 103]⟩
theorem lt_tx (a b : UInt8) : ltS (tx a) (tx b) = decide (a < b) := by
  unfold ltS tx
  rw [ByteArray.toList_eq, ByteArray.toList_eq]
  simp [Op.bytesLess]
theorem lt_emp (a : ByteArray) : ltS a empS = false := by
  unfold ltS
  rw [show empS.toList = [] by rw [ByteArray.toList_eq]; rfl]
  cases a.toList <;> rfl
theorem emp_lt (a : UInt8) : ltS empS (tx a) = true := by
  unfold ltS tx empS
  rw [ByteArray.toList_eq, ByteArray.toList_eq]
  rfl
theorem emp_nil : empS.toList.isEmpty = true := by rw [ByteArray.toList_eq]; rfl
theorem tx_cons (a : UInt8) : (tx a).toList.isEmpty = false := by unfold tx; rw [ByteArray.toList_eq]; rfl
theorem sep_live : sepS (tx 99) (tx 101) = (tx 101, true) := by
  have h := sep_hit (a := tx 99) (b := tx 101) (n := 1) (by decide) (by rw [show (tx 101).extract 0 1 = tx 101 from cut_all _, lt_tx]; decide) (fun m hm => by
    obtain rfl : m = 0 := by omega
    rw [show (tx 101).extract 0 0 = empS by rfl, lt_emp])
  rw [h, show (tx 101).extract 0 1 = tx 101 from cut_all _]
theorem split_live : splitP liveP 9 = (⟨true, empS, tx 101, 9, [enx 97, enx 99]⟩, ⟨true, tx 101, empS, 0, [enx 101, enx 103]⟩, 0) := by
  have h : partOf liveP = (tx 101, true) := by
    unfold partOf
    show (if true = true then sepS (tx 99) (tx 101) else _) = _
    rw [if_pos rfl, sep_live]
  unfold splitP
  rw [h]
  rfl
theorem check_live : checkP liveP = 0 := by
  unfold checkP
  rw [if_neg]
  simp [badP, badTo, badE, liveP, emptyR, inR, emp_nil, List.range, List.range.loop, enx, lt_tx, lt_emp]
theorem One.more {w0 w w' : World} {l l' : List Asr} (h : One w0 w l) (h' : One w w' l') : One w0 w' (l' ++ l) := by
  obtain ⟨F, a, b, c⟩ := h
  obtain ⟨F', a', b', c'⟩ := h'
  refine ⟨fun x => F' x ∨ F x, Stars.join a' (a.keep c' (fun _ _ h => h)) (fun x h1 h2 => ?_) (fun _ => Iff.rfl), fun x hx => hx.elim (fun hx => Nat.le_trans c.size (b' x hx)) (b x), c.trans c' (fun _ h => h.elim)⟩
  have := a.lt x h2
  have := b' x h1
  omega
theorem rl_blk {W : World} {g cap n : Nat} {l : List En} {cs : Array Value} {T : TypeId} {fr : Nat × Nat} (h : W.heap[g]? = some (.cells cs T fr)) (hc : cs = (l.flatMap En.enc).toArray) (hn : n = l.length) (hcap : n ≤ cap) : Rl En.enc 4 W (.slice (some ⟨g, 0, none⟩) n cap) l := by
  subst hn
  refine ⟨_, cap, rfl, hcap, .inr ⟨g, 0, rfl, lt_blk h, fun i x hx j hj => ?_⟩⟩
  have h1 := flat_at enc4 l i x hx j hj
  rw [← h1]
  subst hc
  have h2 : i * 4 + j < (l.flatMap En.enc).length := by
    rw [flat_len enc4]
    have := (List.getElem?_eq_some_iff.1 hx).1
    omega
  rw [Nat.zero_add, List.getElem?_eq_getElem h2]
  exact cell_blk h (by simp [h2])
theorem tx_size (a : UInt8) : (tx a).size = 1 := rfl
theorem fits_live : Fits liveP := by
  refine ⟨by decide, fun x hx => ?_⟩
  have : ∃ b, x = enx b := by
    unfold liveP at hx
    simp only [List.mem_cons, List.not_mem_nil, or_false] at hx
    rcases hx with h | h | h | h <;> exact ⟨_, h⟩
  obtain ⟨b, rfl⟩ := this
  show (tx b).size ≤ _
  rw [tx_size]
  omega
set_option maxHeartbeats 1000000 in
theorem live_true (w : World) : Calls Try.prog 12 #[] w fun e w' => e = .returned (.bool true) ∧ KN w w' := by
  have HS := Lib.hid (fun W v (h : Rl En.enc 4 W v liveP.list) => split_live ▸ split_page liveP 9 W h fits_live)
  have HC := Lib.hid (fun W v (h : Rl En.enc 4 W v liveP.list) => check_live ▸ check_page liveP W h (by unfold maxLen liveP; simp only [List.length_cons, List.length_nil]; omega))
  have hb1 : inR (tx 101) empS (tx 102) = true := by simp [inR, lt_tx, emp_nil]
  have hb2 : inR empS (tx 101) (tx 102) = false := by simp [inR, lt_tx, lt_emp, tx_cons]
  have HB1 := Lib.hid (fun W r v => hb1 ▸ has_k true (tx 101) empS r v (tx 102) W)
  have HB2 := Lib.hid (fun W r v => hb2 ▸ has_k true empS (tx 101) r v (tx 102) W)
  clear hb1 hb2
  go_enter Try.func12, Try.ntmps12
  have HO := Lib.hid ((One.nil w).alloc2 (.cells ((liveP.list.flatMap En.enc).toArray) 34) (.cells #[.bool true, .string ⟨#[]⟩, .string ⟨#[]⟩, .int .i64 0, .slice (some ⟨w.heap.size, 0, none⟩) 4 4] 24))
  have hrl := rl_blk (cap := 4) (n := 4) (HO.out.blk 1 rfl).1 rfl rfl (by decide)
  go_wp2_with fail
  refine (HS.out _ _ hrl).mono ?_
  rintro e w1 ⟨a, c, b, d, rfl, ho⟩
  have HRL := Lib.hid (hrl.kn ho.old)
  have HO1 := Lib.hid (HO.out.more ho)
  clear hrl ho HO HS
  go_upto_region 3 with fail
  have HO2 := Lib.hid (HO1.out.alloc2 (.cells #[.bool true, .string empS, .string (tx 101), .int .i64 9, .slice a 2 c] 24) (.cells #[.bool true, .string (tx 101), .string empS, .int .i64 0, .slice b 2 d] 24))
  have HRL2 := Lib.hid (HRL.out.kn ((kn_alloc w1 (.cells #[.bool true, .string empS, .string (tx 101), .int .i64 9, .slice a 2 c] 24)).alloc (.cells #[.bool true, .string (tx 101), .string empS, .int .i64 0, .slice b 2 d] 24)))
  clear HO1 HRL
  generalize (w1.alloc (.cells #[.bool true, .string empS, .string (tx 101), .int .i64 9, .slice a 2 c] 24)).alloc (.cells #[.bool true, .string (tx 101), .string empS, .int .i64 0, .slice b 2 d] 24) = w2 at *
  generalize w1.heap.size = g at *
  obtain ⟨x0, x1, x2, x3, x4, xf⟩ := cells5 (HO2.out.blk 0 rfl).1
  obtain ⟨y0, y1, y2, y3, y4, yf⟩ := cells5 (HO2.out.blk 1 rfl).1
  obtain ⟨z0, z1, z2, z3, z4, zf⟩ := cells5 (HO2.out.blk 4 rfl).1
  have hs : ((tx 101).toList == [101]) = true := by unfold tx; rw [ByteArray.toList_eq]; rfl
  go_wp2_with fail
  refine (HC.out _ _ HRL2.out).mono ?_
  rintro e w3 ⟨rfl, k3⟩
  have HO3 := Lib.hid (HO2.out.kn k3)
  clear HO2 k3 x0 x1 x2 x3 x4 xf y0 y1 y2 y3 y4 yf z0 z1 z2 z3 z4 zf
  obtain ⟨x0, x1, x2, x3, x4, xf⟩ := cells5 (HO3.out.blk 0 rfl).1
  obtain ⟨y0, y1, y2, y3, y4, yf⟩ := cells5 (HO3.out.blk 1 rfl).1
  go_wp2_with fail
  refine (HB1.out _ _ _).mono ?_
  rintro e w4 ⟨rfl, k4⟩
  have HO4 := Lib.hid (HO3.out.kn k4)
  clear HO3 k4 x0 x1 x2 x3 x4 xf y0 y1 y2 y3 y4 yf
  obtain ⟨y0, y1, y2, y3, y4, yf⟩ := cells5 (HO4.out.blk 1 rfl).1
  go_wp2_with fail
  refine (HB2.out _ _ _).mono ?_
  rintro e w5 ⟨rfl, k5⟩
  have HO5 := Lib.hid (HO4.out.kn k5)
  clear HO4 k5 y0 y1 y2 y3 y4 yf
  go_wp2_with fail
  go_ret
  exact ⟨rfl, HO5.out.old⟩
end Go.Proofs.Ytopmeecgjobofaa

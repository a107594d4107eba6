/- delta.Apply, Long, Undo. -/
import Derived.Test.YtkdlodjpambelaaFoldP
import Derived.Test.YtkdlodjpambelaaFindP
import Derived.Test.YtkdlodjpambelaaDeltaC
namespace Go.Proofs.Ytkdlodjpambelaa
set_option linter.unusedVariables false
set_option linter.unusedSimpArgs false
open Go Go.RowKit

def GaveU (x : Dl × Bool) (w : World) (e : Ending) (w' : World) : Prop := e = .returned (.tuple #[dlv x.1 (.slice none 0 0), .bool x.2]) ∧ KN w w'
theorem foldD_one (p : Pg) (d : Dl) : foldD p [d] = applyD p d := by
  rw [foldD_cons]; rfl
theorem dlc_len (x : Dl × Value) : (dlc x).length = 12 := rfl
/-- A literal of deltas. -/
theorem rlD_blk {w : World} {g cap n : Nat} {xs : List (Dl × Value)} {cs : Array Value} {T : TypeId} {fr : Nat × Nat} (h : w.heap[g]? = some (.cells cs T fr)) (hc : cs = (xs.flatMap dlc).toArray) (hn : n = xs.length) (hcap : n ≤ cap) (hx : ∀ x ∈ xs, Rl En.enc 4 w x.2 x.1.right.list) : RlD w (.slice (some ⟨g, 0, none⟩) n cap) (xs.map (·.1)) := by
  subst hn
  refine ⟨xs, rfl, ⟨_, cap, rfl, hcap, .inr ⟨g, 0, rfl, lt_blk h, fun i x hx j hj => ?_⟩⟩, hx⟩
  have h1 := flat_at dlc_len xs i x hx j hj
  rw [← h1]
  subst hc
  have h2 : i * 12 + j < (xs.flatMap dlc).length := by
    rw [flat_len dlc_len]
    have := (List.getElem?_eq_some_iff.1 hx).1
    omega
  rw [Nat.zero_add, List.getElem?_eq_getElem h2]
  exact cell_blk h (by simp [h2])
theorem long_delta (a : Option Addr) (n c : Nat) (w : World) (hn : n ≤ 3518437208883) : Calls Try.prog 17 #[.slice a n c] w fun e w' => e = .returned (.bool (decide (6 < n))) ∧ KN w w' := by
  have h : decide ((6 : Int) < (n : Int)) = decide (6 < n) := by congr 1; simp; omega
  go_enter Try.func17, Try.ntmps17
  go_wp2
  go_ret
  exact ⟨by simp, Kp.refl _ _⟩
set_option maxHeartbeats 1000000 in
theorem apply1_delta (p : Pg) (d : Dl) (w : World) {v u : Value} (hr : Rl En.enc 4 w v p.list) (hs : Rl En.enc 4 w u d.right.list) (hb : (p.list.length + d.right.list.length + 1) * 40 ≤ 140737488355328) : Calls Try.prog 18 #[pgv p v, dlv d u] w (GavePE (applyD p d) w) := by
  have HF := Lib.hid (fun W u' (k' : KN w W) (hd : RlD W u' [d]) => foldD_one p d ▸ fold_delta p [d] W (hr.kn k') hd (by rw [show sumD [d] = d.right.list.length + 1 by simp [sumD], ← Nat.add_assoc]; exact hb))
  have HX := Lib.hid (fun (W : World) (k' : KN w W) (g : Nat) (h : W.heap[g]? = some (Obj.cells (dlc (d, u)).toArray 30)) => show RlD W (.slice (some ⟨g, 0, none⟩) 1 1) [d] from rlD_blk (cap := 1) (n := 1) (xs := [(d, u)]) h (by simp) rfl (Nat.le_refl _) (fun x hx => by rw [List.mem_singleton] at hx; subst hx; exact hs.kn k'))
  obtain ⟨⟨⟨qf, qlo, qh, qr, ql⟩, qc⟩, hq⟩ : ∃ q, applyD p d = q := ⟨_, rfl⟩
  rw [hq] at HF ⊢
  clear hq
  obtain ⟨k, ⟨ek, ⟨es, eg⟩, ec⟩, key, pg, ⟨lf2, lo2, hi2, r2, l2⟩⟩ := d
  obtain ⟨lf, lo, hi, r, l⟩ := p
  obtain ⟨a0, c0, rfl, hc0, hrd⟩ := hr
  obtain ⟨aD, cD, rfl, hcD, hsd⟩ := hs
  clear hrd hsd
  unfold dlv
  simp only
  have HO0 := Lib.hid ((One.nil w).alloc3 (.cells #[.bool lf, .string lo, .string hi, .int .i64 r, .slice a0 l.length c0] 24) (.cells #[.int .i64 k, .string ek, .int .i64 es, .int .i64 eg, .int .i64 ec, .string key, .int .i64 pg, .bool lf2, .string lo2, .string hi2, .int .i64 r2, .slice aD l2.length cD] 30) (.cells #[.bool false, .string ⟨#[]⟩, .string ⟨#[]⟩, .int .i64 0, .slice none 0 0] 24))
  go_enter Try.func18, Try.ntmps18
  have HO1 := Lib.hid (show One w ((((w.alloc (.cells #[.bool lf, .string lo, .string hi, .int .i64 r, .slice a0 l.length c0] 24)).alloc (.cells #[.int .i64 k, .string ek, .int .i64 es, .int .i64 eg, .int .i64 ec, .string key, .int .i64 pg, .bool lf2, .string lo2, .string hi2, .int .i64 r2, .slice aD l2.length cD] 30)).alloc (.cells #[.bool false, .string ⟨#[]⟩, .string ⟨#[]⟩, .int .i64 0, .slice none 0 0] 24)).alloc (.cells #[.int .i64 k, .string ek, .int .i64 es, .int .i64 eg, .int .i64 ec, .string key, .int .i64 pg, .bool lf2, .string lo2, .string hi2, .int .i64 r2, .slice aD l2.length cD] 30)) [Blk (w.heap.size + 1 + 1 + 1) (.cells #[.int .i64 k, .string ek, .int .i64 es, .int .i64 eg, .int .i64 ec, .string key, .int .i64 pg, .bool lf2, .string lo2, .string hi2, .int .i64 r2, .slice aD l2.length cD] 30), Blk (w.heap.size + 1 + 1) (.cells #[.bool false, .string ⟨#[]⟩, .string ⟨#[]⟩, .int .i64 0, .slice none 0 0] 24), Blk (w.heap.size + 1) (.cells #[.int .i64 k, .string ek, .int .i64 es, .int .i64 eg, .int .i64 ec, .string key, .int .i64 pg, .bool lf2, .string lo2, .string hi2, .int .i64 r2, .slice aD l2.length cD] 30), Blk (w.heap.size) (.cells #[.bool lf, .string lo, .string hi, .int .i64 r, .slice a0 l.length c0] 24)] from by have h := HO0.out.alloc (.cells #[.int .i64 k, .string ek, .int .i64 es, .int .i64 eg, .int .i64 ec, .string key, .int .i64 pg, .bool lf2, .string lo2, .string hi2, .int .i64 r2, .slice aD l2.length cD] 30); rwa [show (((w.alloc (.cells #[.bool lf, .string lo, .string hi, .int .i64 r, .slice a0 l.length c0] 24)).alloc (.cells #[.int .i64 k, .string ek, .int .i64 es, .int .i64 eg, .int .i64 ec, .string key, .int .i64 pg, .bool lf2, .string lo2, .string hi2, .int .i64 r2, .slice aD l2.length cD] 30)).alloc (.cells #[.bool false, .string ⟨#[]⟩, .string ⟨#[]⟩, .int .i64 0, .slice none 0 0] 24)).heap.size = w.heap.size + 1 + 1 + 1 by simp] at h)
  go_wp2_with fail
  refine (HF.out _ _ HO1.out.old (HX.out _ HO1.out.old _ (HO1.out.blk 0 rfl).1)).mono ?_
  rintro e w2 ⟨a2, c2, rfl, k2⟩
  have HO2 := Lib.hid (HO1.out.add k2)
  clear k2 HO1 
  obtain ⟨x2_2a, x2_2b, x2_2c, x2_2d, x2_2e, x2_2f⟩ := cells5 (HO2.out.blk 2 rfl).1
  go_wp2_with fail
  have HO3 := Lib.hid (show One w (((((w2.setCell ⟨w.heap.size + 1 + 1, 0, none⟩ (.bool qf)).setCell ⟨w.heap.size + 1 + 1, 1, none⟩ (.string qlo)).setCell ⟨w.heap.size + 1 + 1, 2, none⟩ (.string qh)).setCell ⟨w.heap.size + 1 + 1, 3, none⟩ (.int .i64 qr)).setCell ⟨w.heap.size + 1 + 1, 4, none⟩ (.slice a2 ql.length c2)) [RowE a2 c2 ql, Blk (w.heap.size + 1 + 1 + 1) (.cells #[.int .i64 k, .string ek, .int .i64 es, .int .i64 eg, .int .i64 ec, .string key, .int .i64 pg, .bool lf2, .string lo2, .string hi2, .int .i64 r2, .slice aD l2.length cD] 30), Blk (w.heap.size + 1 + 1) (.cells #[.bool qf, .string qlo, .string qh, .int .i64 qr, .slice a2 ql.length c2] 24), Blk (w.heap.size + 1) (.cells #[.int .i64 k, .string ek, .int .i64 es, .int .i64 eg, .int .i64 ec, .string key, .int .i64 pg, .bool lf2, .string lo2, .string hi2, .int .i64 r2, .slice aD l2.length cD] 30), Blk (w.heap.size) (.cells #[.bool lf, .string lo, .string hi, .int .i64 r, .slice a0 l.length c0] 24)] from HO2.out.set5 2 rfl (.bool qf) (.string qlo) (.string qh) (.int .i64 qr) (.slice a2 ql.length c2))
  clear HO2 x2_2a x2_2b x2_2c x2_2d x2_2e x2_2f
  generalize (((((w2.setCell ⟨w.heap.size + 1 + 1, 0, none⟩ (.bool qf)).setCell ⟨w.heap.size + 1 + 1, 1, none⟩ (.string qlo)).setCell ⟨w.heap.size + 1 + 1, 2, none⟩ (.string qh)).setCell ⟨w.heap.size + 1 + 1, 3, none⟩ (.int .i64 qr)).setCell ⟨w.heap.size + 1 + 1, 4, none⟩ (.slice a2 ql.length c2)) = w3 at *
  exact bodyPost_ret (res_c1t rfl rfl (load_pg (HO3.out.blk 2 rfl).1) rfl) rfl ⟨_, _, rfl, HO3.out.post 0 rfl⟩
set_option maxHeartbeats 2000000 in
theorem undo_bad (k : Int) (lf : Bool) (lo hi : ByteArray) (r : Int) (l : List En) (ek : ByteArray) (es eg ec : Int) (key : ByteArray) (pg : Int) (lf2 : Bool) (lo2 hi2 : ByteArray) (r2 : Int) (l2 : List En) (hc : (applyD ⟨lf, lo, hi, r, l⟩ ⟨k, ⟨ek, ⟨es, eg⟩, ec⟩, key, pg, ⟨lf2, lo2, hi2, r2, l2⟩⟩).2 ≠ 0) (w : World) {v u : Value} (hr : Rl En.enc 4 w v l) (hs : Rl En.enc 4 w u l2) (hb : (l.length + l2.length + 1) * 40 ≤ 140737488355328) :
    Calls Try.prog 26 #[pgv ⟨lf, lo, hi, r, l⟩ v, dlv ⟨k, ⟨ek, ⟨es, eg⟩, ec⟩, key, pg, ⟨lf2, lo2, hi2, r2, l2⟩⟩ u] w (GaveU (undoD ⟨lf, lo, hi, r, l⟩ ⟨k, ⟨ek, ⟨es, eg⟩, ec⟩, key, pg, ⟨lf2, lo2, hi2, r2, l2⟩⟩) w) := by
  have HP := Lib.hid (fun W (k' : KN w W) => apply1_delta ⟨lf, lo, hi, r, l⟩ ⟨k, ⟨ek, ⟨es, eg⟩, ec⟩, key, pg, ⟨lf2, lo2, hi2, r2, l2⟩⟩ W (hr.kn k') (hs.kn k') hb)
  obtain ⟨a0, c0, rfl, hc0, hrd⟩ := hr
  obtain ⟨aD, cD, rfl, hcD, hsd⟩ := hs
  have HRd := Lib.hid hrd
  have hlen : l.length ≤ 3518437208883 := by omega
  clear hrd hsd hb
  obtain ⟨⟨⟨qf, qlo, qh, qr, ql⟩, qc⟩, hq⟩ : ∃ q, applyD ⟨lf, lo, hi, r, l⟩ ⟨k, ⟨ek, ⟨es, eg⟩, ec⟩, key, pg, ⟨lf2, lo2, hi2, r2, l2⟩⟩ = q := ⟨_, rfl⟩
  rw [hq] at HP hc
  simp only at hc
  have HQ := Lib.hid hq
  clear hq
  unfold dlv at HP ⊢
  simp only at HP ⊢
  have hc0 : (qc != 0) = true := by simpa using hc
  have HV := Lib.hid (show undoD ⟨lf, lo, hi, r, l⟩ ⟨k, ⟨ek, ⟨es, eg⟩, ec⟩, key, pg, ⟨lf2, lo2, hi2, r2, l2⟩⟩ = (zeroDl, false) from by unfold undoD; rw [HQ.out, if_pos (Or.inl hc)])
  have HO0 := Lib.hid ((One.nil w).alloc3 (.cells #[.bool lf, .string lo, .string hi, .int .i64 r, .slice a0 l.length c0] 24) (.cells #[.int .i64 k, .string ek, .int .i64 es, .int .i64 eg, .int .i64 ec, .string key, .int .i64 pg, .bool lf2, .string lo2, .string hi2, .int .i64 r2, .slice aD l2.length cD] 30) (.cells #[.int .i64 0, .string ⟨#[]⟩, .int .i64 0, .int .i64 0, .int .i64 0, .string ⟨#[]⟩, .int .i64 0, .bool false, .string ⟨#[]⟩, .string ⟨#[]⟩, .int .i64 0, .slice none 0 0] 30))
  go_enter Try.func26, Try.ntmps26
  obtain ⟨x0_0a, x0_0b, x0_0c, x0_0d, x0_0e, x0_0f, x0_0g, x0_0h, x0_0i, x0_0j, x0_0k, x0_0l, x0_0m⟩ := cells12 (HO0.out.blk 0 rfl).1
  obtain ⟨x0_1a, x0_1b, x0_1c, x0_1d, x0_1e, x0_1f, x0_1g, x0_1h, x0_1i, x0_1j, x0_1k, x0_1l, x0_1m⟩ := cells12 (HO0.out.blk 1 rfl).1
  obtain ⟨x0_2a, x0_2b, x0_2c, x0_2d, x0_2e, x0_2f⟩ := cells5 (HO0.out.blk 2 rfl).1
  go_wp2_with fail
  refine (HP.out _ HO0.out.old).mono ?_
  rintro e w1 ⟨a1, c1, rfl, k1⟩
  have HO1 := Lib.hid (HO0.out.add k1)
  clear k1 HO0 x0_0a x0_0b x0_0c x0_0d x0_0e x0_0f x0_0g x0_0h x0_0i x0_0j x0_0k x0_0l x0_0m x0_1a x0_1b x0_1c x0_1d x0_1e x0_1f x0_1g x0_1h x0_1i x0_1j x0_1k x0_1l x0_1m x0_2a x0_2b x0_2c x0_2d x0_2e x0_2f
  go_upto_region 2 with fail
  have HO2 := Lib.hid (HO1.out.alloc (.cells #[.bool qf, .string qlo, .string qh, .int .i64 qr, .slice a1 ql.length c1] 24))
  clear HO1 
  generalize (w1.alloc (.cells #[.bool qf, .string qlo, .string qh, .int .i64 qr, .slice a1 ql.length c1] 24)) = w2 at *
  generalize w1.heap.size = g2 at *
  obtain ⟨x2_0a, x2_0b, x2_0c, x2_0d, x2_0e, x2_0f⟩ := cells5 (HO2.out.blk 0 rfl).1
  obtain ⟨x2_2a, x2_2b, x2_2c, x2_2d, x2_2e, x2_2f, x2_2g, x2_2h, x2_2i, x2_2j, x2_2k, x2_2l, x2_2m⟩ := cells12 (HO2.out.blk 2 rfl).1
  obtain ⟨x2_3a, x2_3b, x2_3c, x2_3d, x2_3e, x2_3f, x2_3g, x2_3h, x2_3i, x2_3j, x2_3k, x2_3l, x2_3m⟩ := cells12 (HO2.out.blk 3 rfl).1
  obtain ⟨x2_4a, x2_4b, x2_4c, x2_4d, x2_4e, x2_4f⟩ := cells5 (HO2.out.blk 4 rfl).1
  go_wp2_with fail
  have HZ := Lib.hid (HO2.out.set12 2 rfl (.int .i64 0) (.string ⟨#[]⟩) (.int .i64 0) (.int .i64 0) (.int .i64 0) (.string ⟨#[]⟩) (.int .i64 0) (.bool false) (.string ⟨#[]⟩) (.string ⟨#[]⟩) (.int .i64 0) (.slice none 0 0))
  show bodyPost Try.prog Try.f26 (GaveU _ w) Exit.ret _ _
  exact bodyPost_ret (res_c1t rfl rfl (load_dl (HZ.out.blk 2 rfl).1) rfl) rfl (by rw [HV.out]; exact ⟨rfl, HZ.out.old⟩)
set_option maxHeartbeats 2000000 in
theorem undo_else (k : Int) (h1 : k ≠ 1) (h2 : k ≠ 2) (lf : Bool) (lo hi : ByteArray) (r : Int) (l : List En) (ek : ByteArray) (es eg ec : Int) (key : ByteArray) (pg : Int) (lf2 : Bool) (lo2 hi2 : ByteArray) (r2 : Int) (l2 : List En) (hc : (applyD ⟨lf, lo, hi, r, l⟩ ⟨k, ⟨ek, ⟨es, eg⟩, ec⟩, key, pg, ⟨lf2, lo2, hi2, r2, l2⟩⟩).2 = 0) (w : World) {v u : Value} (hr : Rl En.enc 4 w v l) (hs : Rl En.enc 4 w u l2) (hb : (l.length + l2.length + 1) * 40 ≤ 140737488355328) :
    Calls Try.prog 26 #[pgv ⟨lf, lo, hi, r, l⟩ v, dlv ⟨k, ⟨ek, ⟨es, eg⟩, ec⟩, key, pg, ⟨lf2, lo2, hi2, r2, l2⟩⟩ u] w (GaveU (undoD ⟨lf, lo, hi, r, l⟩ ⟨k, ⟨ek, ⟨es, eg⟩, ec⟩, key, pg, ⟨lf2, lo2, hi2, r2, l2⟩⟩) w) := by
  have HP := Lib.hid (fun W (k' : KN w W) => apply1_delta ⟨lf, lo, hi, r, l⟩ ⟨k, ⟨ek, ⟨es, eg⟩, ec⟩, key, pg, ⟨lf2, lo2, hi2, r2, l2⟩⟩ W (hr.kn k') (hs.kn k') hb)
  obtain ⟨a0, c0, rfl, hc0, hrd⟩ := hr
  obtain ⟨aD, cD, rfl, hcD, hsd⟩ := hs
  have HRd := Lib.hid hrd
  have hlen : l.length ≤ 3518437208883 := by omega
  clear hrd hsd hb
  obtain ⟨⟨⟨qf, qlo, qh, qr, ql⟩, qc⟩, hq⟩ : ∃ q, applyD ⟨lf, lo, hi, r, l⟩ ⟨k, ⟨ek, ⟨es, eg⟩, ec⟩, key, pg, ⟨lf2, lo2, hi2, r2, l2⟩⟩ = q := ⟨_, rfl⟩
  rw [hq] at HP hc
  simp only at hc
  have HQ := Lib.hid hq
  clear hq
  unfold dlv at HP ⊢
  simp only at HP ⊢
  subst hc
  have e1 : (k != 1) = true := by simpa using h1
  have e2 : (k != 2) = true := by simpa using h2
  have e3 : (k == 1) = false := beq_false_of_ne h1
  have HV := Lib.hid (show undoD ⟨lf, lo, hi, r, l⟩ ⟨k, ⟨ek, ⟨es, eg⟩, ec⟩, key, pg, ⟨lf2, lo2, hi2, r2, l2⟩⟩ = (zeroDl, false) from by unfold undoD; rw [HQ.out, if_pos (Or.inr ⟨h1, h2⟩)])
  have HO0 := Lib.hid ((One.nil w).alloc3 (.cells #[.bool lf, .string lo, .string hi, .int .i64 r, .slice a0 l.length c0] 24) (.cells #[.int .i64 k, .string ek, .int .i64 es, .int .i64 eg, .int .i64 ec, .string key, .int .i64 pg, .bool lf2, .string lo2, .string hi2, .int .i64 r2, .slice aD l2.length cD] 30) (.cells #[.int .i64 0, .string ⟨#[]⟩, .int .i64 0, .int .i64 0, .int .i64 0, .string ⟨#[]⟩, .int .i64 0, .bool false, .string ⟨#[]⟩, .string ⟨#[]⟩, .int .i64 0, .slice none 0 0] 30))
  go_enter Try.func26, Try.ntmps26
  obtain ⟨x0_0a, x0_0b, x0_0c, x0_0d, x0_0e, x0_0f, x0_0g, x0_0h, x0_0i, x0_0j, x0_0k, x0_0l, x0_0m⟩ := cells12 (HO0.out.blk 0 rfl).1
  obtain ⟨x0_1a, x0_1b, x0_1c, x0_1d, x0_1e, x0_1f, x0_1g, x0_1h, x0_1i, x0_1j, x0_1k, x0_1l, x0_1m⟩ := cells12 (HO0.out.blk 1 rfl).1
  obtain ⟨x0_2a, x0_2b, x0_2c, x0_2d, x0_2e, x0_2f⟩ := cells5 (HO0.out.blk 2 rfl).1
  go_wp2_with fail
  refine (HP.out _ HO0.out.old).mono ?_
  rintro e w1 ⟨a1, c1, rfl, k1⟩
  have HO1 := Lib.hid (HO0.out.add k1)
  clear k1 HO0 x0_0a x0_0b x0_0c x0_0d x0_0e x0_0f x0_0g x0_0h x0_0i x0_0j x0_0k x0_0l x0_0m x0_1a x0_1b x0_1c x0_1d x0_1e x0_1f x0_1g x0_1h x0_1i x0_1j x0_1k x0_1l x0_1m x0_2a x0_2b x0_2c x0_2d x0_2e x0_2f
  go_upto_region 2 with fail
  have HO2 := Lib.hid (HO1.out.alloc (.cells #[.bool qf, .string qlo, .string qh, .int .i64 qr, .slice a1 ql.length c1] 24))
  clear HO1 
  generalize (w1.alloc (.cells #[.bool qf, .string qlo, .string qh, .int .i64 qr, .slice a1 ql.length c1] 24)) = w2 at *
  generalize w1.heap.size = g2 at *
  obtain ⟨x2_0a, x2_0b, x2_0c, x2_0d, x2_0e, x2_0f⟩ := cells5 (HO2.out.blk 0 rfl).1
  obtain ⟨x2_2a, x2_2b, x2_2c, x2_2d, x2_2e, x2_2f, x2_2g, x2_2h, x2_2i, x2_2j, x2_2k, x2_2l, x2_2m⟩ := cells12 (HO2.out.blk 2 rfl).1
  obtain ⟨x2_3a, x2_3b, x2_3c, x2_3d, x2_3e, x2_3f, x2_3g, x2_3h, x2_3i, x2_3j, x2_3k, x2_3l, x2_3m⟩ := cells12 (HO2.out.blk 3 rfl).1
  obtain ⟨x2_4a, x2_4b, x2_4c, x2_4d, x2_4e, x2_4f⟩ := cells5 (HO2.out.blk 4 rfl).1
  go_wp2_with fail
  have HZ := Lib.hid (HO2.out.set12 2 rfl (.int .i64 0) (.string ⟨#[]⟩) (.int .i64 0) (.int .i64 0) (.int .i64 0) (.string ⟨#[]⟩) (.int .i64 0) (.bool false) (.string ⟨#[]⟩) (.string ⟨#[]⟩) (.int .i64 0) (.slice none 0 0))
  show bodyPost Try.prog Try.f26 (GaveU _ w) Exit.ret _ _
  exact bodyPost_ret (res_c1t rfl rfl (load_dl (HZ.out.blk 2 rfl).1) rfl) rfl (by rw [HV.out]; exact ⟨rfl, HZ.out.old⟩)
set_option maxHeartbeats 2000000 in
theorem undo_1 (lf : Bool) (lo hi : ByteArray) (r : Int) (l : List En) (ek : ByteArray) (es eg ec : Int) (key : ByteArray) (pg : Int) (lf2 : Bool) (lo2 hi2 : ByteArray) (r2 : Int) (l2 : List En) (hc : (applyD ⟨lf, lo, hi, r, l⟩ ⟨1, ⟨ek, ⟨es, eg⟩, ec⟩, key, pg, ⟨lf2, lo2, hi2, r2, l2⟩⟩).2 = 0) (w : World) {v u : Value} (hr : Rl En.enc 4 w v l) (hs : Rl En.enc 4 w u l2) (hb : (l.length + l2.length + 1) * 40 ≤ 140737488355328) :
    Calls Try.prog 26 #[pgv ⟨lf, lo, hi, r, l⟩ v, dlv ⟨1, ⟨ek, ⟨es, eg⟩, ec⟩, key, pg, ⟨lf2, lo2, hi2, r2, l2⟩⟩ u] w (GaveU (undoD ⟨lf, lo, hi, r, l⟩ ⟨1, ⟨ek, ⟨es, eg⟩, ec⟩, key, pg, ⟨lf2, lo2, hi2, r2, l2⟩⟩) w) := by
  have HP := Lib.hid (fun W (k' : KN w W) => apply1_delta ⟨lf, lo, hi, r, l⟩ ⟨1, ⟨ek, ⟨es, eg⟩, ec⟩, key, pg, ⟨lf2, lo2, hi2, r2, l2⟩⟩ W (hr.kn k') (hs.kn k') hb)
  obtain ⟨a0, c0, rfl, hc0, hrd⟩ := hr
  obtain ⟨aD, cD, rfl, hcD, hsd⟩ := hs
  have HRd := Lib.hid hrd
  have hlen : l.length ≤ 3518437208883 := by omega
  clear hrd hsd hb
  obtain ⟨⟨⟨qf, qlo, qh, qr, ql⟩, qc⟩, hq⟩ : ∃ q, applyD ⟨lf, lo, hi, r, l⟩ ⟨1, ⟨ek, ⟨es, eg⟩, ec⟩, key, pg, ⟨lf2, lo2, hi2, r2, l2⟩⟩ = q := ⟨_, rfl⟩
  rw [hq] at HP hc
  simp only at hc
  have HQ := Lib.hid hq
  clear hq
  unfold dlv at HP ⊢
  simp only at HP ⊢
  subst hc
  have HV := Lib.hid (show undoD ⟨lf, lo, hi, r, l⟩ ⟨1, ⟨ek, ⟨es, eg⟩, ec⟩, key, pg, ⟨lf2, lo2, hi2, r2, l2⟩⟩ = (match l.find? (fun x => eqS x.key ek) with
    | some x => (⟨1, x, empS, 0, zeroPg⟩, true)
    | none => (⟨2, zeroEn, ek, 0, zeroPg⟩, true)) from by unfold undoD; rw [HQ.out, if_neg (by simp)]; rfl)
  have HO0 := Lib.hid ((One.nil w).alloc3 (.cells #[.bool lf, .string lo, .string hi, .int .i64 r, .slice a0 l.length c0] 24) (.cells #[.int .i64 1, .string ek, .int .i64 es, .int .i64 eg, .int .i64 ec, .string key, .int .i64 pg, .bool lf2, .string lo2, .string hi2, .int .i64 r2, .slice aD l2.length cD] 30) (.cells #[.int .i64 0, .string ⟨#[]⟩, .int .i64 0, .int .i64 0, .int .i64 0, .string ⟨#[]⟩, .int .i64 0, .bool false, .string ⟨#[]⟩, .string ⟨#[]⟩, .int .i64 0, .slice none 0 0] 30))
  go_enter Try.func26, Try.ntmps26
  obtain ⟨x0_0a, x0_0b, x0_0c, x0_0d, x0_0e, x0_0f, x0_0g, x0_0h, x0_0i, x0_0j, x0_0k, x0_0l, x0_0m⟩ := cells12 (HO0.out.blk 0 rfl).1
  obtain ⟨x0_1a, x0_1b, x0_1c, x0_1d, x0_1e, x0_1f, x0_1g, x0_1h, x0_1i, x0_1j, x0_1k, x0_1l, x0_1m⟩ := cells12 (HO0.out.blk 1 rfl).1
  obtain ⟨x0_2a, x0_2b, x0_2c, x0_2d, x0_2e, x0_2f⟩ := cells5 (HO0.out.blk 2 rfl).1
  go_wp2_with fail
  refine (HP.out _ HO0.out.old).mono ?_
  rintro e w1 ⟨a1, c1, rfl, k1⟩
  have HO1 := Lib.hid (HO0.out.add k1)
  clear k1 HO0 x0_0a x0_0b x0_0c x0_0d x0_0e x0_0f x0_0g x0_0h x0_0i x0_0j x0_0k x0_0l x0_0m x0_1a x0_1b x0_1c x0_1d x0_1e x0_1f x0_1g x0_1h x0_1i x0_1j x0_1k x0_1l x0_1m x0_2a x0_2b x0_2c x0_2d x0_2e x0_2f
  go_upto_region 2 with fail
  have HO2 := Lib.hid (HO1.out.alloc (.cells #[.bool qf, .string qlo, .string qh, .int .i64 qr, .slice a1 ql.length c1] 24))
  clear HO1 
  generalize (w1.alloc (.cells #[.bool qf, .string qlo, .string qh, .int .i64 qr, .slice a1 ql.length c1] 24)) = w2 at *
  generalize w1.heap.size = g2 at *
  obtain ⟨x2_0a, x2_0b, x2_0c, x2_0d, x2_0e, x2_0f⟩ := cells5 (HO2.out.blk 0 rfl).1
  obtain ⟨x2_2a, x2_2b, x2_2c, x2_2d, x2_2e, x2_2f, x2_2g, x2_2h, x2_2i, x2_2j, x2_2k, x2_2l, x2_2m⟩ := cells12 (HO2.out.blk 2 rfl).1
  obtain ⟨x2_3a, x2_3b, x2_3c, x2_3d, x2_3e, x2_3f, x2_3g, x2_3h, x2_3i, x2_3j, x2_3k, x2_3l, x2_3m⟩ := cells12 (HO2.out.blk 3 rfl).1
  obtain ⟨x2_4a, x2_4b, x2_4c, x2_4d, x2_4e, x2_4f⟩ := cells5 (HO2.out.blk 4 rfl).1
  go_wp2_with fail
  clear x2_0a x2_0b x2_0c x2_0d x2_0e x2_0f x2_2a x2_2b x2_2c x2_2d x2_2e x2_2f x2_2g x2_2h x2_2i x2_2j x2_2k x2_2l x2_2m x2_3a x2_3b x2_3c x2_3d x2_3e x2_3f x2_3g x2_3h x2_3i x2_3j x2_3k x2_3l x2_3m x2_4a x2_4b x2_4c x2_4d x2_4e x2_4f
  go_loopw [41] (fun s wr => ∃ k : Nat, k ≤ l.length ∧ s = .int .i64 k ∧ Hid (One w wr [Blk (g2) (.cells #[.bool qf, .string qlo, .string qh, .int .i64 qr, .slice a1 ql.length c1] 24), RowE a1 c1 ql, Blk (w.heap.size + 1 + 1) (.cells #[.int .i64 0, .string ⟨#[]⟩, .int .i64 0, .int .i64 0, .int .i64 0, .string ⟨#[]⟩, .int .i64 0, .bool false, .string ⟨#[]⟩, .string ⟨#[]⟩, .int .i64 0, .slice none 0 0] 30), Blk (w.heap.size + 1) (.cells #[.int .i64 1, .string ek, .int .i64 es, .int .i64 eg, .int .i64 ec, .string key, .int .i64 pg, .bool lf2, .string lo2, .string hi2, .int .i64 r2, .slice aD l2.length cD] 30), Blk (w.heap.size) (.cells #[.bool lf, .string lo, .string hi, .int .i64 r, .slice a0 l.length c0] 24)]) ∧ Hid (∀ (j : Nat) y, j < k → l[j]? = some y → eqS y.key ek = false)) (fun s _ => l.length - (intOf s).toNat)
  case atStart => exact ⟨0, Nat.zero_le _, rfl, HO2, Lib.hid (fun j y h => by omega)⟩
  case round =>
    obtain ⟨k, hk, rfl, HW, HM⟩ := hrel
    by_cases hlt : k < l.length
    · obtain ⟨y, hy⟩ : ∃ y, l[k]? = some y := ⟨_, List.getElem?_eq_getElem hlt⟩
      have hz1 : (k : Int) < (l.length : Int) := by omega
      obtain ⟨b, off, hab, _, f0, f1, f2, f3⟩ := rd4 (HRd.out.kn HW.out.old) hy
      cases hab
      have HY := Lib.hid hy
      clear hy
      cases hq : (y.key.toList == ek.toList) with
      | true =>
        have HVH := Lib.hid (show undoD ⟨lf, lo, hi, r, l⟩ ⟨1, ⟨ek, ⟨es, eg⟩, ec⟩, key, pg, ⟨lf2, lo2, hi2, r2, l2⟩⟩ = (⟨1, y, empS, 0, zeroPg⟩, true) from by rw [HV.out, find_hit HY.out (show eqS y.key ek = true from hq) HM.out])
        have HE := Lib.hid (HW.out.alloc (.cells #[.string y.key, .int .i64 y.ref.slot, .int .i64 y.ref.gen, .int .i64 y.child] 28))
        obtain ⟨z0, z1, z2, z3, z4, z5, z6, z7, z8, z9, za, zb, zf⟩ := cells12 (HE.out.blk 3 rfl).1
        obtain ⟨e0, e1, e2, e3, ef⟩ := cells4 (HE.out.blk 0 rfl).1
        go_upto_region 10 with fail
        generalize wr.alloc (.cells #[.string y.key, .int .i64 y.ref.slot, .int .i64 y.ref.gen, .int .i64 y.child] 28) = we at *
        generalize wr.heap.size = ge at *
        go_wp2_with fail
        have HZ := Lib.hid (HE.out.set12 3 rfl (.int .i64 1) (.string y.key) (.int .i64 y.ref.slot) (.int .i64 y.ref.gen) (.int .i64 y.child) (.string ⟨#[]⟩) (.int .i64 0) (.bool false) (.string ⟨#[]⟩) (.string ⟨#[]⟩) (.int .i64 0) (.slice none 0 0))
        show bodyPost Try.prog Try.f26 (GaveU _ w) Exit.ret _ _
        exact bodyPost_ret (res_c1t rfl rfl (load_dl (HZ.out.blk 3 rfl).1) rfl) rfl (by rw [HVH.out]; exact ⟨rfl, HZ.out.old⟩)
      | false =>
        have HE := Lib.hid (HW.out.alloc (.cells #[.string y.key, .int .i64 y.ref.slot, .int .i64 y.ref.gen, .int .i64 y.child] 28))
        obtain ⟨e0, e1, e2, e3, ef⟩ := cells4 (HE.out.blk 0 rfl).1
        go_upto_region 10 with fail
        generalize wr.alloc (.cells #[.string y.key, .int .i64 y.ref.slot, .int .i64 y.ref.gen, .int .i64 y.child] 28) = we at *
        generalize wr.heap.size = ge at *
        go_wp2_with fail
        go_roundw
        case rel => exact ⟨k + 1, by omega, by go_num, Lib.hid HE.out.drop, Lib.hid (fun j z hj hz => by
          by_cases e : j = k
          · subst e; rw [HY.out] at hz; cases hz; exact hq
          · exact HM.out j z (by omega) hz)⟩
        case measure => simp [intOf]; omega
    · obtain rfl : k = l.length := by omega
      have HVM := Lib.hid (show undoD ⟨lf, lo, hi, r, l⟩ ⟨1, ⟨ek, ⟨es, eg⟩, ec⟩, key, pg, ⟨lf2, lo2, hi2, r2, l2⟩⟩ = (⟨2, zeroEn, ek, 0, zeroPg⟩, true) from by rw [HV.out, find_miss (fun j z hz => HM.out j z (List.getElem?_eq_some_iff.1 hz).1 hz)])
      obtain ⟨x4_0a, x4_0b, x4_0c, x4_0d, x4_0e, x4_0f⟩ := cells5 (HW.out.blk 0 rfl).1
      obtain ⟨x4_2a, x4_2b, x4_2c, x4_2d, x4_2e, x4_2f, x4_2g, x4_2h, x4_2i, x4_2j, x4_2k, x4_2l, x4_2m⟩ := cells12 (HW.out.blk 2 rfl).1
      obtain ⟨x4_3a, x4_3b, x4_3c, x4_3d, x4_3e, x4_3f, x4_3g, x4_3h, x4_3i, x4_3j, x4_3k, x4_3l, x4_3m⟩ := cells12 (HW.out.blk 3 rfl).1
      obtain ⟨x4_4a, x4_4b, x4_4c, x4_4d, x4_4e, x4_4f⟩ := cells5 (HW.out.blk 4 rfl).1
      go_wp2_with fail
      have HZ := Lib.hid (HW.out.set12 2 rfl (.int .i64 2) (.string ⟨#[]⟩) (.int .i64 0) (.int .i64 0) (.int .i64 0) (.string ek) (.int .i64 0) (.bool false) (.string ⟨#[]⟩) (.string ⟨#[]⟩) (.int .i64 0) (.slice none 0 0))
      show bodyPost Try.prog Try.f26 (GaveU _ w) Exit.ret _ _
      exact bodyPost_ret (res_c1t rfl rfl (load_dl (HZ.out.blk 2 rfl).1) rfl) rfl (by rw [HVM.out]; exact ⟨rfl, HZ.out.old⟩)
set_option maxHeartbeats 2000000 in
theorem undo_2 (lf : Bool) (lo hi : ByteArray) (r : Int) (l : List En) (ek : ByteArray) (es eg ec : Int) (key : ByteArray) (pg : Int) (lf2 : Bool) (lo2 hi2 : ByteArray) (r2 : Int) (l2 : List En) (hc : (applyD ⟨lf, lo, hi, r, l⟩ ⟨2, ⟨ek, ⟨es, eg⟩, ec⟩, key, pg, ⟨lf2, lo2, hi2, r2, l2⟩⟩).2 = 0) (w : World) {v u : Value} (hr : Rl En.enc 4 w v l) (hs : Rl En.enc 4 w u l2) (hb : (l.length + l2.length + 1) * 40 ≤ 140737488355328) :
    Calls Try.prog 26 #[pgv ⟨lf, lo, hi, r, l⟩ v, dlv ⟨2, ⟨ek, ⟨es, eg⟩, ec⟩, key, pg, ⟨lf2, lo2, hi2, r2, l2⟩⟩ u] w (GaveU (undoD ⟨lf, lo, hi, r, l⟩ ⟨2, ⟨ek, ⟨es, eg⟩, ec⟩, key, pg, ⟨lf2, lo2, hi2, r2, l2⟩⟩) w) := by
  have HP := Lib.hid (fun W (k' : KN w W) => apply1_delta ⟨lf, lo, hi, r, l⟩ ⟨2, ⟨ek, ⟨es, eg⟩, ec⟩, key, pg, ⟨lf2, lo2, hi2, r2, l2⟩⟩ W (hr.kn k') (hs.kn k') hb)
  obtain ⟨a0, c0, rfl, hc0, hrd⟩ := hr
  obtain ⟨aD, cD, rfl, hcD, hsd⟩ := hs
  have HRd := Lib.hid hrd
  have hlen : l.length ≤ 3518437208883 := by omega
  clear hrd hsd hb
  obtain ⟨⟨⟨qf, qlo, qh, qr, ql⟩, qc⟩, hq⟩ : ∃ q, applyD ⟨lf, lo, hi, r, l⟩ ⟨2, ⟨ek, ⟨es, eg⟩, ec⟩, key, pg, ⟨lf2, lo2, hi2, r2, l2⟩⟩ = q := ⟨_, rfl⟩
  rw [hq] at HP hc
  simp only at hc
  have HQ := Lib.hid hq
  clear hq
  unfold dlv at HP ⊢
  simp only at HP ⊢
  subst hc
  have HV := Lib.hid (show undoD ⟨lf, lo, hi, r, l⟩ ⟨2, ⟨ek, ⟨es, eg⟩, ec⟩, key, pg, ⟨lf2, lo2, hi2, r2, l2⟩⟩ = (match l.find? (fun x => eqS x.key key) with
    | some x => (⟨1, x, empS, 0, zeroPg⟩, true)
    | none => (⟨2, zeroEn, key, 0, zeroPg⟩, true)) from by unfold undoD; rw [HQ.out, if_neg (by simp)]; rfl)
  have HO0 := Lib.hid ((One.nil w).alloc3 (.cells #[.bool lf, .string lo, .string hi, .int .i64 r, .slice a0 l.length c0] 24) (.cells #[.int .i64 2, .string ek, .int .i64 es, .int .i64 eg, .int .i64 ec, .string key, .int .i64 pg, .bool lf2, .string lo2, .string hi2, .int .i64 r2, .slice aD l2.length cD] 30) (.cells #[.int .i64 0, .string ⟨#[]⟩, .int .i64 0, .int .i64 0, .int .i64 0, .string ⟨#[]⟩, .int .i64 0, .bool false, .string ⟨#[]⟩, .string ⟨#[]⟩, .int .i64 0, .slice none 0 0] 30))
  go_enter Try.func26, Try.ntmps26
  obtain ⟨x0_0a, x0_0b, x0_0c, x0_0d, x0_0e, x0_0f, x0_0g, x0_0h, x0_0i, x0_0j, x0_0k, x0_0l, x0_0m⟩ := cells12 (HO0.out.blk 0 rfl).1
  obtain ⟨x0_1a, x0_1b, x0_1c, x0_1d, x0_1e, x0_1f, x0_1g, x0_1h, x0_1i, x0_1j, x0_1k, x0_1l, x0_1m⟩ := cells12 (HO0.out.blk 1 rfl).1
  obtain ⟨x0_2a, x0_2b, x0_2c, x0_2d, x0_2e, x0_2f⟩ := cells5 (HO0.out.blk 2 rfl).1
  go_wp2_with fail
  refine (HP.out _ HO0.out.old).mono ?_
  rintro e w1 ⟨a1, c1, rfl, k1⟩
  have HO1 := Lib.hid (HO0.out.add k1)
  clear k1 HO0 x0_0a x0_0b x0_0c x0_0d x0_0e x0_0f x0_0g x0_0h x0_0i x0_0j x0_0k x0_0l x0_0m x0_1a x0_1b x0_1c x0_1d x0_1e x0_1f x0_1g x0_1h x0_1i x0_1j x0_1k x0_1l x0_1m x0_2a x0_2b x0_2c x0_2d x0_2e x0_2f
  go_upto_region 2 with fail
  have HO2 := Lib.hid (HO1.out.alloc (.cells #[.bool qf, .string qlo, .string qh, .int .i64 qr, .slice a1 ql.length c1] 24))
  clear HO1 
  generalize (w1.alloc (.cells #[.bool qf, .string qlo, .string qh, .int .i64 qr, .slice a1 ql.length c1] 24)) = w2 at *
  generalize w1.heap.size = g2 at *
  obtain ⟨x2_0a, x2_0b, x2_0c, x2_0d, x2_0e, x2_0f⟩ := cells5 (HO2.out.blk 0 rfl).1
  obtain ⟨x2_2a, x2_2b, x2_2c, x2_2d, x2_2e, x2_2f, x2_2g, x2_2h, x2_2i, x2_2j, x2_2k, x2_2l, x2_2m⟩ := cells12 (HO2.out.blk 2 rfl).1
  obtain ⟨x2_3a, x2_3b, x2_3c, x2_3d, x2_3e, x2_3f, x2_3g, x2_3h, x2_3i, x2_3j, x2_3k, x2_3l, x2_3m⟩ := cells12 (HO2.out.blk 3 rfl).1
  obtain ⟨x2_4a, x2_4b, x2_4c, x2_4d, x2_4e, x2_4f⟩ := cells5 (HO2.out.blk 4 rfl).1
  go_wp2_with fail
  clear x2_0a x2_0b x2_0c x2_0d x2_0e x2_0f x2_2a x2_2b x2_2c x2_2d x2_2e x2_2f x2_2g x2_2h x2_2i x2_2j x2_2k x2_2l x2_2m x2_3a x2_3b x2_3c x2_3d x2_3e x2_3f x2_3g x2_3h x2_3i x2_3j x2_3k x2_3l x2_3m x2_4a x2_4b x2_4c x2_4d x2_4e x2_4f
  go_loopw [41] (fun s wr => ∃ k : Nat, k ≤ l.length ∧ s = .int .i64 k ∧ Hid (One w wr [Blk (g2) (.cells #[.bool qf, .string qlo, .string qh, .int .i64 qr, .slice a1 ql.length c1] 24), RowE a1 c1 ql, Blk (w.heap.size + 1 + 1) (.cells #[.int .i64 0, .string ⟨#[]⟩, .int .i64 0, .int .i64 0, .int .i64 0, .string ⟨#[]⟩, .int .i64 0, .bool false, .string ⟨#[]⟩, .string ⟨#[]⟩, .int .i64 0, .slice none 0 0] 30), Blk (w.heap.size + 1) (.cells #[.int .i64 2, .string ek, .int .i64 es, .int .i64 eg, .int .i64 ec, .string key, .int .i64 pg, .bool lf2, .string lo2, .string hi2, .int .i64 r2, .slice aD l2.length cD] 30), Blk (w.heap.size) (.cells #[.bool lf, .string lo, .string hi, .int .i64 r, .slice a0 l.length c0] 24)]) ∧ Hid (∀ (j : Nat) y, j < k → l[j]? = some y → eqS y.key key = false)) (fun s _ => l.length - (intOf s).toNat)
  case atStart => exact ⟨0, Nat.zero_le _, rfl, HO2, Lib.hid (fun j y h => by omega)⟩
  case round =>
    obtain ⟨k, hk, rfl, HW, HM⟩ := hrel
    by_cases hlt : k < l.length
    · obtain ⟨y, hy⟩ : ∃ y, l[k]? = some y := ⟨_, List.getElem?_eq_getElem hlt⟩
      have hz1 : (k : Int) < (l.length : Int) := by omega
      obtain ⟨b, off, hab, _, f0, f1, f2, f3⟩ := rd4 (HRd.out.kn HW.out.old) hy
      cases hab
      have HY := Lib.hid hy
      clear hy
      cases hq : (y.key.toList == key.toList) with
      | true =>
        have HVH := Lib.hid (show undoD ⟨lf, lo, hi, r, l⟩ ⟨2, ⟨ek, ⟨es, eg⟩, ec⟩, key, pg, ⟨lf2, lo2, hi2, r2, l2⟩⟩ = (⟨1, y, empS, 0, zeroPg⟩, true) from by rw [HV.out, find_hit HY.out (show eqS y.key key = true from hq) HM.out])
        have HE := Lib.hid (HW.out.alloc (.cells #[.string y.key, .int .i64 y.ref.slot, .int .i64 y.ref.gen, .int .i64 y.child] 28))
        obtain ⟨z0, z1, z2, z3, z4, z5, z6, z7, z8, z9, za, zb, zf⟩ := cells12 (HE.out.blk 3 rfl).1
        obtain ⟨e0, e1, e2, e3, ef⟩ := cells4 (HE.out.blk 0 rfl).1
        go_upto_region 10 with fail
        generalize wr.alloc (.cells #[.string y.key, .int .i64 y.ref.slot, .int .i64 y.ref.gen, .int .i64 y.child] 28) = we at *
        generalize wr.heap.size = ge at *
        go_wp2_with fail
        have HZ := Lib.hid (HE.out.set12 3 rfl (.int .i64 1) (.string y.key) (.int .i64 y.ref.slot) (.int .i64 y.ref.gen) (.int .i64 y.child) (.string ⟨#[]⟩) (.int .i64 0) (.bool false) (.string ⟨#[]⟩) (.string ⟨#[]⟩) (.int .i64 0) (.slice none 0 0))
        show bodyPost Try.prog Try.f26 (GaveU _ w) Exit.ret _ _
        exact bodyPost_ret (res_c1t rfl rfl (load_dl (HZ.out.blk 3 rfl).1) rfl) rfl (by rw [HVH.out]; exact ⟨rfl, HZ.out.old⟩)
      | false =>
        have HE := Lib.hid (HW.out.alloc (.cells #[.string y.key, .int .i64 y.ref.slot, .int .i64 y.ref.gen, .int .i64 y.child] 28))
        obtain ⟨e0, e1, e2, e3, ef⟩ := cells4 (HE.out.blk 0 rfl).1
        go_upto_region 10 with fail
        generalize wr.alloc (.cells #[.string y.key, .int .i64 y.ref.slot, .int .i64 y.ref.gen, .int .i64 y.child] 28) = we at *
        generalize wr.heap.size = ge at *
        go_wp2_with fail
        go_roundw
        case rel => exact ⟨k + 1, by omega, by go_num, Lib.hid HE.out.drop, Lib.hid (fun j z hj hz => by
          by_cases e : j = k
          · subst e; rw [HY.out] at hz; cases hz; exact hq
          · exact HM.out j z (by omega) hz)⟩
        case measure => simp [intOf]; omega
    · obtain rfl : k = l.length := by omega
      have HVM := Lib.hid (show undoD ⟨lf, lo, hi, r, l⟩ ⟨2, ⟨ek, ⟨es, eg⟩, ec⟩, key, pg, ⟨lf2, lo2, hi2, r2, l2⟩⟩ = (⟨2, zeroEn, key, 0, zeroPg⟩, true) from by rw [HV.out, find_miss (fun j z hz => HM.out j z (List.getElem?_eq_some_iff.1 hz).1 hz)])
      obtain ⟨x4_0a, x4_0b, x4_0c, x4_0d, x4_0e, x4_0f⟩ := cells5 (HW.out.blk 0 rfl).1
      obtain ⟨x4_2a, x4_2b, x4_2c, x4_2d, x4_2e, x4_2f, x4_2g, x4_2h, x4_2i, x4_2j, x4_2k, x4_2l, x4_2m⟩ := cells12 (HW.out.blk 2 rfl).1
      obtain ⟨x4_3a, x4_3b, x4_3c, x4_3d, x4_3e, x4_3f, x4_3g, x4_3h, x4_3i, x4_3j, x4_3k, x4_3l, x4_3m⟩ := cells12 (HW.out.blk 3 rfl).1
      obtain ⟨x4_4a, x4_4b, x4_4c, x4_4d, x4_4e, x4_4f⟩ := cells5 (HW.out.blk 4 rfl).1
      go_wp2_with fail
      have HZ := Lib.hid (HW.out.set12 2 rfl (.int .i64 2) (.string ⟨#[]⟩) (.int .i64 0) (.int .i64 0) (.int .i64 0) (.string key) (.int .i64 0) (.bool false) (.string ⟨#[]⟩) (.string ⟨#[]⟩) (.int .i64 0) (.slice none 0 0))
      show bodyPost Try.prog Try.f26 (GaveU _ w) Exit.ret _ _
      exact bodyPost_ret (res_c1t rfl rfl (load_dl (HZ.out.blk 2 rfl).1) rfl) rfl (by rw [HVM.out]; exact ⟨rfl, HZ.out.old⟩)
theorem undo_all (p : Pg) (d : Dl) (w : World) {v u : Value} (hr : Rl En.enc 4 w v p.list) (hs : Rl En.enc 4 w u d.right.list) (hb : (p.list.length + d.right.list.length + 1) * 40 ≤ 140737488355328) : Calls Try.prog 26 #[pgv p v, dlv d u] w (GaveU (undoD p d) w) := by
  obtain ⟨k, ⟨ek, ⟨es, eg⟩, ec⟩, key, pg, ⟨lf2, lo2, hi2, r2, l2⟩⟩ := d
  obtain ⟨lf, lo, hi, r, l⟩ := p
  by_cases hc : (applyD ⟨lf, lo, hi, r, l⟩ ⟨k, ⟨ek, ⟨es, eg⟩, ec⟩, key, pg, ⟨lf2, lo2, hi2, r2, l2⟩⟩).2 = 0
  case neg => exact undo_bad k lf lo hi r l ek es eg ec key pg lf2 lo2 hi2 r2 l2 hc w hr hs hb
  by_cases h1 : k = 1
  · subst h1; exact undo_1 lf lo hi r l ek es eg ec key pg lf2 lo2 hi2 r2 l2 hc w hr hs hb
  by_cases h2 : k = 2
  · subst h2; exact undo_2 lf lo hi r l ek es eg ec key pg lf2 lo2 hi2 r2 l2 hc w hr hs hb
  exact undo_else k h1 h2 lf lo hi r l ek es eg ec key pg lf2 lo2 hi2 r2 l2 hc w hr hs hb
end Go.Proofs.Ytkdlodjpambelaa

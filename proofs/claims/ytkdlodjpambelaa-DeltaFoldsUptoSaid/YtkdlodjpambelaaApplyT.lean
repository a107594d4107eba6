/- cressetref09.Apply: a split; all. -/
import Derived.Test.YtkdlodjpambelaaApplyR
import Derived.Deep.RegionHeld3
namespace Go.Proofs.Ytkdlodjpambelaa
set_option linter.unusedVariables false
set_option linter.unusedSimpArgs false
open Go Go.RowKit

theorem cell_drew {w : World} {a : Addr} {v : Value} (h : w.cell? a = some v) : w.drew.cell? a = some v := h
set_option maxHeartbeats 2000000 in
theorem rapply_3yes (lf : Bool) (lo hi : ByteArray) (r : Int) (l : List En) (ek : ByteArray) (es eg ec : Int) (key : ByteArray) (pg : Int) (lf2 : Bool) (lo2 hi2 : ByteArray) (r2 : Int) (l2 : List En) (hc : checkD ⟨3, ⟨ek, ⟨es, eg⟩, ec⟩, key, pg, ⟨lf2, lo2, hi2, r2, l2⟩⟩ = 0) (hlo : ltS lo key = true) (hin : inR lo hi key = true) (w : World) {v u : Value} (hr : Rl En.enc 4 w v l) (hs : Rl En.enc 4 w u l2) (hl2 : l2.length ≤ maxLen) (hb : l.length * 40 ≤ 140737488355328) :
    Calls Try.prog 25 #[pgv ⟨lf, lo, hi, r, l⟩ v, dlv ⟨3, ⟨ek, ⟨es, eg⟩, ec⟩, key, pg, ⟨lf2, lo2, hi2, r2, l2⟩⟩ u] w (GaveR (applyD ⟨lf, lo, hi, r, l⟩ ⟨3, ⟨ek, ⟨es, eg⟩, ec⟩, key, pg, ⟨lf2, lo2, hi2, r2, l2⟩⟩) w) := by
  have HV := Lib.hid (show applyD ⟨lf, lo, hi, r, l⟩ ⟨3, ⟨ek, ⟨es, eg⟩, ec⟩, key, pg, ⟨lf2, lo2, hi2, r2, l2⟩⟩ = (⟨lf, lo, key, pg, l.filter (fun x => ltS x.key key)⟩, 0) from by unfold applyD; simp [hc, hlo, hin])
  obtain ⟨a0, c0, rfl, hc0, hrd⟩ := hr
  obtain ⟨aD, cD, rfl, hcD, hsd⟩ := hs
  have HC := Lib.hid (fun W (k' : KN w W) => check_dref ⟨3, ⟨ek, ⟨es, eg⟩, ec⟩, key, pg, ⟨lf2, lo2, hi2, r2, l2⟩⟩ W ((Rl.of_rd hsd hcD).kn k') hl2)
  rw [hc] at HC
  have HR := Lib.hid (Rl.of_rd hrd hc0)
  have HR2 := Lib.hid (Rl.of_rd hsd hcD)
  have HRd := Lib.hid hrd
  clear hrd hsd
  rw [HV.out]
  unfold dlv at HC ⊢
  simp only at HC ⊢
  clear hc HV
  have hs0 : (Op.bytesLess key.toList lo.toList || key.toList == lo.toList) = false := by rw [bytesLe]; show (!ltS lo key) = false; rw [hlo]; rfl
  have HH := Lib.hid (fun W => hin ▸ has_r lf lo hi r (.slice a0 l.length c0) key W)
  have HO0 := Lib.hid ((One.nil w).alloc3 (.cells #[.bool lf, .string lo, .string hi, .int .i64 r, .slice a0 l.length c0] 24) (.cells #[.int .i64 3, .string ek, .int .i64 es, .int .i64 eg, .int .i64 ec, .string key, .int .i64 pg, .bool lf2, .string lo2, .string hi2, .int .i64 r2, .slice aD l2.length cD] 30) (.cells #[.bool false, .string ⟨#[]⟩, .string ⟨#[]⟩, .int .i64 0, .slice none 0 0] 24))
  go_enter Try.func25, Try.ntmps25
  obtain ⟨x0_0a, x0_0b, x0_0c, x0_0d, x0_0e, x0_0f⟩ := cells5 (HO0.out.blk 0 rfl).1
  obtain ⟨x0_1a, x0_1b, x0_1c, x0_1d, x0_1e, x0_1f, x0_1g, x0_1h, x0_1i, x0_1j, x0_1k, x0_1l, x0_1m⟩ := cells12 (HO0.out.blk 1 rfl).1
  obtain ⟨x0_2a, x0_2b, x0_2c, x0_2d, x0_2e, x0_2f⟩ := cells5 (HO0.out.blk 2 rfl).1
  go_wp2_with fail
  refine (HC.out _ HO0.out.old).mono ?_
  rintro e w1 ⟨rfl, k1⟩
  have HO1 := Lib.hid (HO0.out.kn k1)
  clear k1 HO0 x0_0a x0_0b x0_0c x0_0d x0_0e x0_0f x0_1a x0_1b x0_1c x0_1d x0_1e x0_1f x0_1g x0_1h x0_1i x0_1j x0_1k x0_1l x0_1m x0_2a x0_2b x0_2c x0_2d x0_2e x0_2f
  obtain ⟨hs1, hs2⟩ := Bool.or_eq_false_iff.1 hs0
  clear hs0
  obtain ⟨x1_0a, x1_0b, x1_0c, x1_0d, x1_0e, x1_0f⟩ := cells5 (HO1.out.blk 0 rfl).1
  obtain ⟨x1_1a, x1_1b, x1_1c, x1_1d, x1_1e, x1_1f, x1_1g, x1_1h, x1_1i, x1_1j, x1_1k, x1_1l, x1_1m⟩ := cells12 (HO1.out.blk 1 rfl).1
  obtain ⟨x1_2a, x1_2b, x1_2c, x1_2d, x1_2e, x1_2f⟩ := cells5 (HO1.out.blk 2 rfl).1
  go_wp2_with fail
  refine (HH.out _).mono ?_
  rintro e w2 ⟨rfl, k2⟩
  have HO2 := Lib.hid (HO1.out.kn k2)
  clear k2 HO1 x1_0a x1_0b x1_0c x1_0d x1_0e x1_0f x1_1a x1_1b x1_1c x1_1d x1_1e x1_1f x1_1g x1_1h x1_1i x1_1j x1_1k x1_1l x1_1m x1_2a x1_2b x1_2c x1_2d x1_2e x1_2f
  have HN := Lib.hid (HO2.out.nilRow 28 4)
  obtain ⟨x2_0a, x2_0b, x2_0c, x2_0d, x2_0e, x2_0f⟩ := cells5 (HO2.out.blk 0 rfl).1
  obtain ⟨x2_1a, x2_1b, x2_1c, x2_1d, x2_1e, x2_1f, x2_1g, x2_1h, x2_1i, x2_1j, x2_1k, x2_1l, x2_1m⟩ := cells12 (HO2.out.blk 1 rfl).1
  obtain ⟨x2_2a, x2_2b, x2_2c, x2_2d, x2_2e, x2_2f⟩ := cells5 (HO2.out.blk 2 rfl).1
  go_wp2_with fail
  have hb' := hb
  have hlen : l.length ≤ 9223372036854775807 := by omega
  go_loopw [9, 10] (fun s9 s10 wr => ∃ (k : Nat) (acc : List En) (a : Option Addr) (c : Nat), k ≤ l.length ∧ s10 = .int .i64 k ∧ s9 = .slice a acc.length c ∧ Hid (One w wr [RowE a c acc, Blk (w.heap.size + 1 + 1) (.cells #[.bool false, .string ⟨#[]⟩, .string ⟨#[]⟩, .int .i64 0, .slice none 0 0] 24), Blk (w.heap.size + 1) (.cells #[.int .i64 3, .string ek, .int .i64 es, .int .i64 eg, .int .i64 ec, .string key, .int .i64 pg, .bool lf2, .string lo2, .string hi2, .int .i64 r2, .slice aD l2.length cD] 30), Blk (w.heap.size) (.cells #[.bool lf, .string lo, .string hi, .int .i64 r, .slice a0 l.length c0] 24)]) ∧ Hid (acc = (l.take k).filter (fun x => ltS x.key key))) (fun _ s10 _ => l.length - (intOf s10).toNat)
  case atStart => exact ⟨0, [], none, 0, Nat.zero_le _, rfl, rfl, HN, Lib.hid (by simp)⟩
  case round =>
    obtain ⟨k, acc, a, c, hk, rfl, rfl, HW, HA⟩ := hrel
    obtain ⟨y0, y1, y2, y3, y4, yf⟩ := cells5 (HW.out.blk 3 rfl).1
    obtain ⟨z0, z1, z2, z3, z4, z5, z6, z7, z8, z9, za, zb, zf⟩ := cells12 (HW.out.blk 2 rfl).1
    have hacc : acc.length ≤ k := by rw [HA.out]; exact Nat.le_trans (List.length_filter_le _ _) (by rw [List.length_take]; omega)
    by_cases hlt : k < l.length
    · obtain ⟨x, hx⟩ : ∃ x, l[k]? = some x := ⟨_, List.getElem?_eq_getElem hlt⟩
      obtain ⟨b, off, hab, _, c0', c1', c2', c3'⟩ := rd4 (HRd.out.kn HW.out.old) hx
      cases hab
      have HX := Lib.hid hx
      clear hx
      cases hq : Op.bytesLess x.key.toList key.toList with
      | false =>
        have HQ := Lib.hid (show ltS x.key key = false from hq)
        go_wp2_with fail
        go_region
        go_wp2_with fail
        go_roundw
        case rel => exact ⟨k + 1, acc, a, c, by omega, by go_num, rfl, Lib.hid (HW.out.kn ((Kp.refl _ _).drew)), Lib.hid (by rw [filt_no HX.out HQ.out]; exact HA.out)⟩
        case measure => simp [intOf]; omega
      | true =>
        have HQ := Lib.hid (show ltS x.key key = true from hq)
        have HE := Lib.hid ((HW.out.alloc (.cells #[.string x.key, .int .i64 x.ref.slot, .int .i64 x.ref.gen, .int .i64 x.child] 28)).kn ((Kp.refl _ _).drew))
        go_wp2_with fail
        go_region
        go_wp2_with (at_builtin; refine wpList_appL 84 rfl rfl rfl rfl elt_En HE.out 1 rfl rfl rfl enc4 (rl_one (HE.out.blk 0 rfl).1) enc1 (Nat.le_trans (show acc.length + 1 ≤ l.length by omega) hlen) (Nat.le_trans (Nat.mul_le_mul_right 40 (show acc.length + 1 ≤ l.length by omega)) hb') ?_; intro a1 c1 w1 ho; rw [← List.flatMap_append, ← List.length_append] at ho; rw [← List.length_append]; have HO' := Lib.hid ho; clear ho)
        go_roundw
        case rel => exact ⟨k + 1, acc ++ [x], a1, c1, by omega, by go_num, by rw [List.length_append]; rfl, Lib.hid HO'.out.drop, Lib.hid (by rw [filt_yes HX.out HQ.out, ← HA.out])⟩
        case measure => simp [intOf]; omega
    · obtain rfl : k = l.length := by omega
      have HV := Lib.hid (show acc = l.filter (fun x => ltS x.key key) by rw [HA.out, List.take_length])
      go_upto_region 23 with fail
      have HT0 := Lib.hid (HW.out.setC 3 rfl (j := 4) (.slice a acc.length c))
      have HT1 := Lib.hid (HT0.out.kn ((Kp.refl _ _).drew))
      have HU0 := Lib.hid (HT0.out.setC 3 rfl (j := 2) (.string key))
      have HT2 := Lib.hid (HU0.out.kn ((Kp.refl _ _).drew))
      have HT3 := Lib.hid ((HU0.out.setC 3 rfl (j := 3) (.int .i64 pg)).kn ((Kp.refl _ _).drew))
      have K1 := Lib.hid (k56' (HT1.out.blk 2 rfl).1)
      have K2 := Lib.hid (k56' (HT2.out.blk 2 rfl).1)
      have K3 := Lib.hid (k56' (HT3.out.blk 2 rfl).1)
      go_region_held3 (fun w' => w'.cell? ⟨w.heap.size + 1, 5, none⟩ = some (.string key) ∧ w'.cell? ⟨w.heap.size + 1, 6, none⟩ = some (.int .i64 pg)) (first | (with_reducible exact K1.out) | (with_reducible exact K2.out) | (with_reducible exact K3.out) | go_keep) (fail)
      clear K1 K2 K3 HT0 HT1 HU0 HT2 y0 y1 y2 y3 y4 yf z0 z1 z2 z3 z4 z5 z6 z7 z8 z9 za zb zf
      have HX := Lib.hid (show One w (((wr.setCell ⟨w.heap.size, 4, none⟩ (.slice a acc.length c)).setCell ⟨w.heap.size, 2, none⟩ (.string key)).setCell ⟨w.heap.size, 3, none⟩ (.int .i64 pg)).drew [RowE a c acc, Blk (w.heap.size + 1 + 1) (.cells #[.bool false, .string ⟨#[]⟩, .string ⟨#[]⟩, .int .i64 0, .slice none 0 0] 24), Blk (w.heap.size + 1) (.cells #[.int .i64 3, .string ek, .int .i64 es, .int .i64 eg, .int .i64 ec, .string key, .int .i64 pg, .bool lf2, .string lo2, .string hi2, .int .i64 r2, .slice aD l2.length cD] 30), Blk (w.heap.size) (.cells #[.bool lf, .string lo, .string key, .int .i64 pg, .slice a acc.length c] 24)] from HT3.out)
      clear HT3
      generalize (((wr.setCell ⟨w.heap.size, 4, none⟩ (.slice a acc.length c)).setCell ⟨w.heap.size, 2, none⟩ (.string key)).setCell ⟨w.heap.size, 3, none⟩ (.int .i64 pg)).drew = w5 at *
      clear x2_0a x2_0b x2_0c x2_0d x2_0e x2_0f x2_1a x2_1b x2_1c x2_1d x2_1e x2_1f x2_1g x2_1h x2_1i x2_1j x2_1k x2_1l x2_1m x2_2a x2_2b x2_2c x2_2d x2_2e x2_2f
      obtain ⟨x2_1a, x2_1b, x2_1c, x2_1d, x2_1e, x2_1f⟩ := cells5 (HX.out.blk 1 rfl).1
      obtain ⟨x2_2a, x2_2b, x2_2c, x2_2d, x2_2e, x2_2f, x2_2g, x2_2h, x2_2i, x2_2j, x2_2k, x2_2l, x2_2m⟩ := cells12 (HX.out.blk 2 rfl).1
      obtain ⟨x2_3a, x2_3b, x2_3c, x2_3d, x2_3e, x2_3f⟩ := cells5 (HX.out.blk 3 rfl).1
      go_wp2_with fail
      have HO3 := Lib.hid (show One w (((((w5.setCell ⟨w.heap.size + 1 + 1, 0, none⟩ (.bool lf)).setCell ⟨w.heap.size + 1 + 1, 1, none⟩ (.string lo)).setCell ⟨w.heap.size + 1 + 1, 2, none⟩ (.string key)).setCell ⟨w.heap.size + 1 + 1, 3, none⟩ (.int .i64 pg)).setCell ⟨w.heap.size + 1 + 1, 4, none⟩ (.slice a acc.length c)) [RowE a c acc, Blk (w.heap.size + 1 + 1) (.cells #[.bool lf, .string lo, .string key, .int .i64 pg, .slice a acc.length c] 24), Blk (w.heap.size + 1) (.cells #[.int .i64 3, .string ek, .int .i64 es, .int .i64 eg, .int .i64 ec, .string key, .int .i64 pg, .bool lf2, .string lo2, .string hi2, .int .i64 r2, .slice aD l2.length cD] 30), Blk (w.heap.size) (.cells #[.bool lf, .string lo, .string key, .int .i64 pg, .slice a acc.length c] 24)] from HX.out.set5 1 rfl (.bool lf) (.string lo) (.string key) (.int .i64 pg) (.slice a acc.length c))
      clear HX x2_1a x2_1b x2_1c x2_1d x2_1e x2_1f x2_2a x2_2b x2_2c x2_2d x2_2e x2_2f x2_2g x2_2h x2_2i x2_2j x2_2k x2_2l x2_2m x2_3a x2_3b x2_3c x2_3d x2_3e x2_3f
      generalize (((((w5.setCell ⟨w.heap.size + 1 + 1, 0, none⟩ (.bool lf)).setCell ⟨w.heap.size + 1 + 1, 1, none⟩ (.string lo)).setCell ⟨w.heap.size + 1 + 1, 2, none⟩ (.string key)).setCell ⟨w.heap.size + 1 + 1, 3, none⟩ (.int .i64 pg)).setCell ⟨w.heap.size + 1 + 1, 4, none⟩ (.slice a acc.length c)) = w3 at *
      exact bodyPost_ret (res_c1t rfl rfl (load_pg (HO3.out.blk 1 rfl).1) rfl) rfl (by rw [← HV.out]; exact ⟨_, rfl, (HO3.out.rlE 0 rfl), HO3.out.old⟩)
theorem apply_ref (p : Pg) (d : Dl) (w : World) {v u : Value} (hr : Rl En.enc 4 w v p.list) (hs : Rl En.enc 4 w u d.right.list) (hb : (p.list.length + d.right.list.length + 1) * 40 ≤ 140737488355328) : Calls Try.prog 25 #[pgv p v, dlv d u] w (GaveR (applyD p d) w) := by
  obtain ⟨k, ⟨ek, ⟨es, eg⟩, ec⟩, key, pg, ⟨lf2, lo2, hi2, r2, l2⟩⟩ := d
  obtain ⟨lf, lo, hi, r, l⟩ := p
  simp only at hr hs hb
  have hl2 : l2.length ≤ maxLen := by unfold maxLen; omega
  have hb0 : l.length * 40 ≤ 140737488355328 := Nat.le_trans (Nat.mul_le_mul_right 40 (by omega)) hb
  have hb1 : (l.length + 1) * 40 ≤ 140737488355328 := Nat.le_trans (Nat.mul_le_mul_right 40 (by omega)) hb
  have hb4 : (l.length + l2.length) * 40 ≤ 140737488355328 := Nat.le_trans (Nat.mul_le_mul_right 40 (by omega)) hb
  by_cases hc : checkD ⟨k, ⟨ek, ⟨es, eg⟩, ec⟩, key, pg, ⟨lf2, lo2, hi2, r2, l2⟩⟩ = 0
  case neg =>
   exact rapply_bad k lf lo hi r l ek es eg ec key pg lf2 lo2 hi2 r2 l2 hc w hr hs hl2 hb0
  by_cases h1 : k = 1
  · subst h1; exact rapply_1 lf lo hi r l ek es eg ec key pg lf2 lo2 hi2 r2 l2 hc w hr hs hl2 hb1
  by_cases h2 : k = 2
  · subst h2
    cases hin : inR lo hi key
    · exact rapply_2no lf lo hi r l ek es eg ec key pg lf2 lo2 hi2 r2 l2 hc hin w hr hs hl2 hb0
    · by_cases hm : (removeP ⟨lf, lo, hi, r, l⟩ key).2 = 0
      · exact rapply_2yes lf lo hi r l ek es eg ec key pg lf2 lo2 hi2 r2 l2 hc hin hm w hr hs hl2 hb0
      · exact rapply_2none lf lo hi r l ek es eg ec key pg lf2 lo2 hi2 r2 l2 hc hin hm w hr hs hl2 hb0
  by_cases h3 : k = 3
  · subst h3
    cases hlo : ltS lo key
    · exact rapply_3lo lf lo hi r l ek es eg ec key pg lf2 lo2 hi2 r2 l2 hc hlo w hr hs hl2 hb0
    · cases hin : inR lo hi key
      · exact rapply_3out lf lo hi r l ek es eg ec key pg lf2 lo2 hi2 r2 l2 hc hlo hin w hr hs hl2 hb0
      · exact rapply_3yes lf lo hi r l ek es eg ec key pg lf2 lo2 hi2 r2 l2 hc hlo hin w hr hs hl2 hb0
  by_cases h4 : k = 4
  · subst h4; exact rapply_4 lf lo hi r l ek es eg ec key pg lf2 lo2 hi2 r2 l2 hc w hr hs hl2 hb4
  exact rapply_5 k h1 h2 h3 h4 lf lo hi r l ek es eg ec key pg lf2 lo2 hi2 r2 l2 hc w hr hs hl2 hb0
end Go.Proofs.Ytkdlodjpambelaa

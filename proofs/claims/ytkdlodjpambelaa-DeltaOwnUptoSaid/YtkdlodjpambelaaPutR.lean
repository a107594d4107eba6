/- The walk of the reference's Put. -/
import Derived.Test.YtkdlodjpambelaaRemoveR
namespace Go.Proofs.Ytkdlodjpambelaa
set_option linter.unusedVariables false
set_option linter.unusedSimpArgs false
open Go Go.RowKit

theorem put_miss' {p : Pg} {e : En} (hin : inR p.low p.high e.key = false) : putP p e = (zeroPg, 73) := by unfold putP; rw [if_neg (by rw [hin]; simp)]
theorem put_form' {p : Pg} {e : En} (hin : inR p.low p.high e.key = true) : putP p e = (⟨p.leaf, p.low, p.high, p.right, putAt p.list e⟩, 0) := by unfold putP; rw [if_pos hin]
set_option maxHeartbeats 4000000 in
set_option maxRecDepth 100000 in
theorem put_ref (p : Pg) (e : En) (w : World) {v : Value} (hr : Rl En.enc 4 w v p.list) (hb : (p.list.length + 1) * 40 ≤ 140737488355328) : Calls Try.prog 43 #[pgv p v, env e] w (GavePE (putP p e) w) := by
  obtain ⟨a0, cp, rfl, hc0, hrd⟩ := hr
  have HR := Lib.hid hrd
  obtain ⟨lf, lo, hi, r, l⟩ := p
  obtain ⟨key, ⟨es, eg⟩, ec⟩ := e
  simp only at hb hc0 hrd HR
  clear hrd
  have HO0 := Lib.hid (((One.nil w).nilRow 28 4).alloc3 (.cells #[.bool lf, .string lo, .string hi, .int .i64 r, .slice a0 l.length cp] 24) (.cells #[.string key, .int .i64 es, .int .i64 eg, .int .i64 ec] 28) (.cells #[.bool false, .string ⟨#[]⟩, .string ⟨#[]⟩, .int .i64 0, .slice none 0 0] 24))
  cases ho : inR lo hi key with
  | false =>
    have HP := Lib.hid (show putP ⟨lf, lo, hi, r, l⟩ ⟨key, ⟨es, eg⟩, ec⟩ = (⟨false, ⟨#[]⟩, ⟨#[]⟩, 0, []⟩, 73) from put_miss' (p := ⟨lf, lo, hi, r, l⟩) ho)
    have HH := Lib.hid (fun W => ho ▸ has_r lf lo hi r (.slice a0 l.length cp) key W)
    clear ho
    go_enter Try.func43, Try.ntmps43
    go_wp2_with fail
    refine (HH.out _).mono ?_
    rintro e w1 ⟨rfl, k1⟩
    have HO1 := Lib.hid (HO0.out.kn k1)
    clear k1 HO0
    obtain ⟨y0, y1, y2, y3, y4, yf⟩ := cells5 (HO1.out.blk 0 rfl).1
    go_wp2_with fail
    have HO2 := Lib.hid (HO1.out.set5 0 rfl (.bool false) (.string ⟨#[]⟩) (.string ⟨#[]⟩) (.int .i64 0) (.slice none 0 0))
    exact bodyPost_ret (res_c1t rfl rfl (load_pg (HO2.out.blk 0 rfl).1) rfl) rfl (by rw [HP.out]; exact ⟨none, 0, rfl, HO2.out.post 3 rfl⟩)
  | true =>
    have HIN := Lib.hid ho
    have HH := Lib.hid (fun W => ho ▸ has_r lf lo hi r (.slice a0 l.length cp) key W)
    clear ho
    go_enter Try.func43, Try.ntmps43
    go_wp2_with fail
    refine (HH.out _).mono ?_
    rintro e w1 ⟨rfl, k1⟩
    have HO1 := Lib.hid (HO0.out.kn k1)
    clear k1 HO0
    go_wp2_with fail
    go_loopw [6, 7] (fun s6 s wr => ∃ k : Nat, k ≤ l.length ∧ s6 = .slice none 0 0 ∧ s = .int .i64 k ∧ Hid (∀ (j : Nat) y, j < k → l[j]? = some y → eqS y.key key = false) ∧ Hid (One w wr [Blk (w.heap.size + 1 + 1) (.cells #[.bool false, .string ⟨#[]⟩, .string ⟨#[]⟩, .int .i64 0, .slice none 0 0] 24), Blk (w.heap.size + 1) (.cells #[.string key, .int .i64 es, .int .i64 eg, .int .i64 ec] 28), Blk w.heap.size (.cells #[.bool lf, .string lo, .string hi, .int .i64 r, .slice a0 l.length cp] 24), RowA 28 4 (.slice none 0 0) 0 []])) (fun _ s _ => l.length - (intOf s).toNat)
    case atStart => exact ⟨0, Nat.zero_le _, rfl, rfl, Lib.hid (fun j y h => by omega), HO1⟩
    case round =>
      obtain ⟨k, hk, rfl, rfl, HM, HO⟩ := hrel
      clear HO1
      by_cases hlt : k < l.length
      · obtain ⟨x, hx⟩ : ∃ x, l[k]? = some x := ⟨_, List.getElem?_eq_getElem hlt⟩
        obtain ⟨b, off, hab, hbw, e0, e1, e2, e3⟩ := rd4 (HR.out.kn HO.out.old) hx
        have hz0 : (0 : Int) ≤ (k : Int) := by omega
        have hz1 : (k : Int) < (l.length : Int) := by omega
        have HX := Lib.hid hx
        clear hx
        obtain rfl : a0 = some ⟨b, off, none⟩ := hab
        obtain ⟨x0, x1, x2, x3, x4, xf⟩ := cells5 (HO.out.blk 2 rfl).1
        obtain ⟨y0, y1, y2, y3, yf⟩ := cells4 (HO.out.blk 1 rfl).1
        cases hq : (x.key.toList == key.toList) with
        | true =>
          have HP := Lib.hid (show putP ⟨lf, lo, hi, r, l⟩ ⟨key, ⟨es, eg⟩, ec⟩ = (⟨lf, lo, hi, r, l.take k ++ (⟨key, ⟨es, eg⟩, ec⟩ : En) :: l.drop (k + 1)⟩, 0) by rw [put_form' (p := ⟨lf, lo, hi, r, l⟩) HIN.out]; unfold putAt; simp only; rw [findIx_hit HX.out hq HM.out])
          have HQ := Lib.hid hq
          go_wp2
          go_quiet (fail)
          go_upto_region 8 with fail
          have HO' := Lib.hid (HO.out.kn ((Kp.refl _ _).drewN nq))
          clear HO x0 x1 x2 x3 x4 xf y0 y1 y2 y3 yf e0 e1 e2 e3 hq
          generalize wr.drewN nq = w1' at *
          have HO := HO'
          clear HO'
          obtain ⟨a1, hs1, hr1⟩ := cut_pre2 HR.out hc0 (i := k) (by omega)
          obtain ⟨a2, hs2, hr2⟩ := cut_post HR.out hc0 (i := k + 1) (by omega)
          skip
          have hs2x : ∀ W, (Instr.slice 22 (.slice (some ⟨b, off, none⟩) l.length cp) (some (.int .i64 ((k : Int) + 1))) none none).run Try.prog W = .ok (.slice a2 (l.length - (k + 1)) (cp - (k + 1))) W := hs2
          have HR1 := Lib.hid hr1
          have HR2 := Lib.hid hr2
          have hlen1 : (l.take k).length = k := by rw [List.length_take]; omega
          have hlen2 : (l.drop (k + 1)).length = l.length - (k + 1) := by rw [List.length_drop]
          have HL := Lib.hid (And.intro hlen1 hlen2)
          clear hr1 hr2 hs2 hlen1 hlen2
          generalize l.take k = xs1 at *
          generalize l.drop (k + 1) = xs2 at *
          have HB := Lib.hid (HO.out.alloc (.cells #[.string key, .int .i64 es, .int .i64 eg, .int .i64 ec] 28))
          have HOd := Lib.hid (HO.out.kn ((Kp.refl _ _).drew))
          have HOe := Lib.hid (HB.out.kn ((Kp.refl _ _).drew))
          obtain ⟨x0, x1, x2, x3, x4, xf⟩ := cells5 (HO.out.blk 2 rfl).1
          obtain ⟨y0, y1, y2, y3, yf⟩ := cells4 (HO.out.blk 1 rfl).1
          obtain ⟨u0, u1, u2, u3, u4, uf⟩ := cells5 (HB.out.blk 3 rfl).1
          obtain ⟨v0, v1, v2, v3, vf⟩ := cells4 (HB.out.blk 2 rfl).1
          have hw : IntKind.i64.wrap ((k : Int) + 1) = (k : Int) + 1 := Go.IntWalk.i64_in _ (by omega)
          have hz2 : (k + 1 : Int) ≤ (l.length : Int) := by omega
          have hz3 : (k : Int) ≤ (cp : Int) := by omega
          have hz4 : (0 : Int) ≤ (k : Int) := by omega
          go_region_law (first
            | ((refine step_appL rfl (by rfl) elt_En HOd.out 3 rfl ?_ ?_ enc4 (HR1.out.kn HOd.out.old) enc1 (by have := HL.out.1; unfold maxLen; omega) (by have := HL.out.1; omega) ?_); (exact rfl); (exact rfl); intro a3 c3 w3 ho; rw [Nat.zero_add, List.nil_append] at ho; have HA := Lib.hid ho; have HC := Lib.hid (HA.out.alloc (.cells #[.string key, .int .i64 es, .int .i64 eg, .int .i64 ec] 28)); obtain ⟨p0, p1, p2, p3, p4, pf⟩ := cells5 (HA.out.blk 2 rfl).1; obtain ⟨q0, q1, q2, q3, qf⟩ := cells4 (HA.out.blk 1 rfl).1; obtain ⟨s0, s1, s2, s3, s4, sf⟩ := cells5 (HC.out.blk 3 rfl).1; obtain ⟨t0, t1, t2, t3, tf⟩ := cells4 (HC.out.blk 2 rfl).1)
            | ((refine step_appL rfl (by rfl) elt_En HOe.out 4 rfl ?_ ?_ enc4 (HR1.out.kn HOe.out.old) enc1 (by have := HL.out.1; unfold maxLen; omega) (by have := HL.out.1; omega) ?_); (exact rfl); (exact rfl); intro a3 c3 w3 ho; rw [Nat.zero_add, List.nil_append] at ho; have HC := Lib.hid ho; obtain ⟨p0, p1, p2, p3, p4, pf⟩ := cells5 (HC.out.blk 3 rfl).1; obtain ⟨q0, q1, q2, q3, qf⟩ := cells4 (HC.out.blk 2 rfl).1)
            | ((refine step_appL rfl (by rfl) elt_En HC.out 4 rfl ?_ ?_ enc4 (rl_one (HC.out.blk 0 rfl).1 (cap := 1)) enc1 (by have := HL.out.1; unfold maxLen; simp only [List.length_cons, List.length_nil]; omega) (by have := HL.out.1; simp only [List.length_cons, List.length_nil]; omega) ?_); (exact rfl); (exact rfl); intro a4 c4 w4 ho2; rw [List.length_singleton] at *; have HD := Lib.hid ho2; obtain ⟨p0', p1', p2', p3', p4', pf'⟩ := cells5 (HD.out.blk 3 rfl).1)
            | ((refine step_appL rfl (by rfl) elt_En HD.out 4 rfl ?_ ?_ enc4 (HR2.out.kn HD.out.old) enc1 (by have := HL.out; unfold maxLen; omega) (by have := HL.out; omega) ?_); (exact rfl); (exact rfl); intro a5 c5 w5 ho3; have HF := Lib.hid ho3; obtain ⟨p0'', p1'', p2'', p3'', p4'', pf''⟩ := cells5 (HF.out.blk 3 rfl).1))
          all_goals
            clear hw
            have HF2 := Lib.hid (show ∃ gB, One w w5 [Blk gB (.cells #[.string key, .int .i64 es, .int .i64 eg, .int .i64 ec] 28), Blk (w.heap.size + 1 + 1) (.cells #[.bool false, .string ⟨#[]⟩, .string ⟨#[]⟩, .int .i64 0, .slice none 0 0] 24), Blk (w.heap.size + 1) (.cells #[.string key, .int .i64 es, .int .i64 eg, .int .i64 ec] 28),
              Blk w.heap.size (.cells #[.bool lf, .string lo, .string hi, .int .i64 r, .slice (some ⟨b, off, none⟩) l.length cp] 24), RowA 28 4 (.slice a5 (xs1.length + 1 + xs2.length) c5) (xs1.length + 1 + xs2.length) (xs1.flatMap En.enc ++ [(⟨key, ⟨es, eg⟩, ec⟩ : En)].flatMap En.enc ++ xs2.flatMap En.enc)] from ⟨_, HF.out⟩)
            obtain ⟨gB, HG⟩ := HF2.out
            have HG := Lib.hid HG
            rw [← List.flatMap_append, ← List.flatMap_append, show xs1.length + 1 + xs2.length = (xs1 ++ [(⟨key, ⟨es, eg⟩, ec⟩ : En)] ++ xs2).length by simp; omega] at HG
            rw [show xs1.length + 1 + xs2.length = (xs1 ++ [(⟨key, ⟨es, eg⟩, ec⟩ : En)] ++ xs2).length by simp; omega]
            have HPX := Lib.hid (show xs1 ++ (⟨key, ⟨es, eg⟩, ec⟩ : En) :: xs2 = xs1 ++ [(⟨key, ⟨es, eg⟩, ec⟩ : En)] ++ xs2 by simp)
            rw [HPX.out] at HP
            generalize xs1 ++ [(⟨key, ⟨es, eg⟩, ec⟩ : En)] ++ xs2 = xs at *
            clear HF2 HF
            obtain ⟨x0, x1, x2, x3, x4, xf⟩ := cells5 (HG.out.blk 3 rfl).1
            go_upto_region 10 with fail
            have HT := Lib.hid (HG.out.setC 3 rfl (j := 4) (.slice a5 xs.length c5))
            clear x0 x1 x2 x3 x4 xf
            generalize w5.setCell ⟨w.heap.size, 4, none⟩ (.slice a5 xs.length c5) = w6 at *
            obtain ⟨x0, x1, x2, x3, x4, xf⟩ := cells5 (show w6.heap[w.heap.size]? = some (.cells #[.bool lf, .string lo, .string hi, .int .i64 r, .slice a5 xs.length c5] 24) from (HT.out.blk 3 rfl).1)
            obtain ⟨z0, z1, z2, z3, z4, zf⟩ := cells5 (HT.out.blk 1 rfl).1
            go_wp2_with fail
            have HT2 := Lib.hid (HT.out.set5 1 rfl (.bool lf) (.string lo) (.string hi) (.int .i64 r) (.slice a5 xs.length c5))
            exact bodyPost_ret (res_c1t rfl rfl (load_pg (HT2.out.blk 1 rfl).1) rfl) rfl (by rw [HP.out]; exact ⟨a5, c5, rfl, HT2.out.post 4 rfl⟩)
        | false =>
          have HQ := Lib.hid (show eqS x.key key = false from hq)
          go_wp2
          go_quiet (fail)
          go_wp2
          go_roundw
          case rel => exact ⟨k + 1, by omega, rfl, by go_num, Lib.hid (fun j y hj hy => by
            by_cases e : j = k
            · subst e; rw [HX.out] at hy; cases hy; exact HQ.out
            · exact HM.out j y (by omega) hy), Lib.hid (HO.out.kn ((Kp.refl _ _).drewN _))⟩
          case measure => simp [intOf]; omega
      · obtain rfl : k = l.length := by omega
        have HN := Lib.hid (findIx_miss (q := fun x => eqS x.key key) (fun j y hy => HM.out j y (List.getElem?_eq_some_iff.1 hy).1 hy))
        clear HM
        obtain ⟨x0, x1, x2, x3, x4, xf⟩ := cells5 (HO.out.blk 2 rfl).1
        obtain ⟨y0, y1, y2, y3, yf⟩ := cells4 (HO.out.blk 1 rfl).1
        go_wp2_with fail
        go_loopw [8] (fun s wq => ∃ k : Nat, k ≤ l.length ∧ s = .int .i64 k ∧ Hid (∀ (j : Nat) y, j < k → l[j]? = some y → ltS key y.key = false) ∧ Hid (One w wq [Blk (w.heap.size + 1 + 1) (.cells #[.bool false, .string ⟨#[]⟩, .string ⟨#[]⟩, .int .i64 0, .slice none 0 0] 24), Blk (w.heap.size + 1) (.cells #[.string key, .int .i64 es, .int .i64 eg, .int .i64 ec] 28), Blk w.heap.size (.cells #[.bool lf, .string lo, .string hi, .int .i64 r, .slice a0 l.length cp] 24), RowA 28 4 (.slice none 0 0) 0 []])) (fun s _ => l.length - (intOf s).toNat)
        case atStart => exact ⟨0, Nat.zero_le _, rfl, Lib.hid (fun j y h => by omega), HO⟩
        case round =>
          clear x0 x1 x2 x3 x4 xf y0 y1 y2 y3 yf HO
          obtain ⟨k, hk, rfl, HM, HO⟩ := hrel
          obtain ⟨x0, x1, x2, x3, x4, xf⟩ := cells5 (HO.out.blk 2 rfl).1
          obtain ⟨y0, y1, y2, y3, yf⟩ := cells4 (HO.out.blk 1 rfl).1
          by_cases hlt : k < l.length
          · obtain ⟨x, hx⟩ : ∃ x, l[k]? = some x := ⟨_, List.getElem?_eq_getElem hlt⟩
            obtain ⟨b, off, hab, hbw, e0, e1, e2, e3⟩ := rd4 (HR.out.kn HO.out.old) hx
            have hz0 : (0 : Int) ≤ (k : Int) := by omega
            have hz1 : (k : Int) < (l.length : Int) := by omega
            have HX := Lib.hid hx
            clear hx
            obtain rfl : a0 = some ⟨b, off, none⟩ := hab
            cases hq : ltS key x.key with
            | true =>
              have hs1 : Op.bytesLess x.key.toList key.toList = false := ltS_asymm hq
              have hs2 : (x.key.toList == key.toList) = false := beq_str_false (fun e => by rw [e, ltS_irrefl] at hq; cases hq)
              have HP := Lib.hid (show putP ⟨lf, lo, hi, r, l⟩ ⟨key, ⟨es, eg⟩, ec⟩ = (⟨lf, lo, hi, r, l.take k ++ (⟨key, ⟨es, eg⟩, ec⟩ : En) :: l.drop k⟩, 0) by rw [put_form' (p := ⟨lf, lo, hi, r, l⟩) HIN.out]; unfold putAt; simp only; rw [HN.out, findIx_hit HX.out hq HM.out]; rfl)
              clear hq
              go_wp2
              go_quiet (fail)
              go_upto_region 14 with fail
              have HO' := Lib.hid (HO.out.kn ((Kp.refl _ _).drewN nq))
              clear HO x0 x1 x2 x3 x4 xf y0 y1 y2 y3 yf e0 e1 e2 e3 hs1 hs2
              generalize wr.drewN nq = w1' at *
              have HO := HO'
              clear HO'
              obtain ⟨a1, hs1, hr1⟩ := cut_pre2 HR.out hc0 (i := k) (by omega)
              obtain ⟨a2, hs2, hr2⟩ := cut_post HR.out hc0 (i := k) (by omega)
              skip
              have hs2x := hs2
              have HR1 := Lib.hid hr1
              have HR2 := Lib.hid hr2
              have hlen1 : (l.take k).length = k := by rw [List.length_take]; omega
              have hlen2 : (l.drop (k)).length = l.length - (k) := by rw [List.length_drop]
              have HL := Lib.hid (And.intro hlen1 hlen2)
              clear hr1 hr2 hs2 hlen1 hlen2
              generalize l.take k = xs1 at *
              generalize l.drop (k) = xs2 at *
              have HB := Lib.hid (HO.out.alloc (.cells #[.string key, .int .i64 es, .int .i64 eg, .int .i64 ec] 28))
              have HOd := Lib.hid (HO.out.kn ((Kp.refl _ _).drew))
              have HOe := Lib.hid (HB.out.kn ((Kp.refl _ _).drew))
              obtain ⟨x0, x1, x2, x3, x4, xf⟩ := cells5 (HO.out.blk 2 rfl).1
              obtain ⟨y0, y1, y2, y3, yf⟩ := cells4 (HO.out.blk 1 rfl).1
              obtain ⟨u0, u1, u2, u3, u4, uf⟩ := cells5 (HB.out.blk 3 rfl).1
              obtain ⟨v0, v1, v2, v3, vf⟩ := cells4 (HB.out.blk 2 rfl).1
              have hw : True := trivial
              have hz2 : (k : Int) ≤ (l.length : Int) := by omega
              have hz3 : (k : Int) ≤ (cp : Int) := by omega
              have hz4 : (0 : Int) ≤ (k : Int) := by omega
              go_region_law (first
                | ((refine step_appL rfl (by rfl) elt_En HOd.out 3 rfl ?_ ?_ enc4 (HR1.out.kn HOd.out.old) enc1 (by have := HL.out.1; unfold maxLen; omega) (by have := HL.out.1; omega) ?_); (exact rfl); (exact rfl); intro a3 c3 w3 ho; rw [Nat.zero_add, List.nil_append] at ho; have HA := Lib.hid ho; have HC := Lib.hid (HA.out.alloc (.cells #[.string key, .int .i64 es, .int .i64 eg, .int .i64 ec] 28)); obtain ⟨p0, p1, p2, p3, p4, pf⟩ := cells5 (HA.out.blk 2 rfl).1; obtain ⟨q0, q1, q2, q3, qf⟩ := cells4 (HA.out.blk 1 rfl).1; obtain ⟨s0, s1, s2, s3, s4, sf⟩ := cells5 (HC.out.blk 3 rfl).1; obtain ⟨t0, t1, t2, t3, tf⟩ := cells4 (HC.out.blk 2 rfl).1)
                | ((refine step_appL rfl (by rfl) elt_En HOe.out 4 rfl ?_ ?_ enc4 (HR1.out.kn HOe.out.old) enc1 (by have := HL.out.1; unfold maxLen; omega) (by have := HL.out.1; omega) ?_); (exact rfl); (exact rfl); intro a3 c3 w3 ho; rw [Nat.zero_add, List.nil_append] at ho; have HC := Lib.hid ho; obtain ⟨p0, p1, p2, p3, p4, pf⟩ := cells5 (HC.out.blk 3 rfl).1; obtain ⟨q0, q1, q2, q3, qf⟩ := cells4 (HC.out.blk 2 rfl).1)
                | ((refine step_appL rfl (by rfl) elt_En HC.out 4 rfl ?_ ?_ enc4 (rl_one (HC.out.blk 0 rfl).1 (cap := 1)) enc1 (by have := HL.out.1; unfold maxLen; simp only [List.length_cons, List.length_nil]; omega) (by have := HL.out.1; simp only [List.length_cons, List.length_nil]; omega) ?_); (exact rfl); (exact rfl); intro a4 c4 w4 ho2; rw [List.length_singleton] at *; have HD := Lib.hid ho2; obtain ⟨p0', p1', p2', p3', p4', pf'⟩ := cells5 (HD.out.blk 3 rfl).1)
                | ((refine step_appL rfl (by rfl) elt_En HD.out 4 rfl ?_ ?_ enc4 (HR2.out.kn HD.out.old) enc1 (by have := HL.out; unfold maxLen; omega) (by have := HL.out; omega) ?_); (exact rfl); (exact rfl); intro a5 c5 w5 ho3; have HF := Lib.hid ho3; obtain ⟨p0'', p1'', p2'', p3'', p4'', pf''⟩ := cells5 (HF.out.blk 3 rfl).1))
              all_goals
                clear hw
                have HF2 := Lib.hid (show ∃ gB, One w w5 [Blk gB (.cells #[.string key, .int .i64 es, .int .i64 eg, .int .i64 ec] 28), Blk (w.heap.size + 1 + 1) (.cells #[.bool false, .string ⟨#[]⟩, .string ⟨#[]⟩, .int .i64 0, .slice none 0 0] 24), Blk (w.heap.size + 1) (.cells #[.string key, .int .i64 es, .int .i64 eg, .int .i64 ec] 28),
                  Blk w.heap.size (.cells #[.bool lf, .string lo, .string hi, .int .i64 r, .slice (some ⟨b, off, none⟩) l.length cp] 24), RowA 28 4 (.slice a5 (xs1.length + 1 + xs2.length) c5) (xs1.length + 1 + xs2.length) (xs1.flatMap En.enc ++ [(⟨key, ⟨es, eg⟩, ec⟩ : En)].flatMap En.enc ++ xs2.flatMap En.enc)] from ⟨_, HF.out⟩)
                obtain ⟨gB, HG⟩ := HF2.out
                have HG := Lib.hid HG
                rw [← List.flatMap_append, ← List.flatMap_append, show xs1.length + 1 + xs2.length = (xs1 ++ [(⟨key, ⟨es, eg⟩, ec⟩ : En)] ++ xs2).length by simp; omega] at HG
                rw [show xs1.length + 1 + xs2.length = (xs1 ++ [(⟨key, ⟨es, eg⟩, ec⟩ : En)] ++ xs2).length by simp; omega]
                have HPX := Lib.hid (show xs1 ++ (⟨key, ⟨es, eg⟩, ec⟩ : En) :: xs2 = xs1 ++ [(⟨key, ⟨es, eg⟩, ec⟩ : En)] ++ xs2 by simp)
                rw [HPX.out] at HP
                generalize xs1 ++ [(⟨key, ⟨es, eg⟩, ec⟩ : En)] ++ xs2 = xs at *
                clear HF2 HF
                have HT := Lib.hid (HG.out.setC 3 rfl (j := 4) (.slice a5 xs.length c5))
                generalize w5.setCell ⟨w.heap.size, 4, none⟩ (.slice a5 xs.length c5) = w6 at *
                obtain ⟨x0, x1, x2, x3, x4, xf⟩ := cells5 (show w6.heap[w.heap.size]? = some (.cells #[.bool lf, .string lo, .string hi, .int .i64 r, .slice a5 xs.length c5] 24) from (HT.out.blk 3 rfl).1)
                obtain ⟨z0, z1, z2, z3, z4, zf⟩ := cells5 (HT.out.blk 1 rfl).1
                go_wp2_with fail
                have HT2 := Lib.hid (HT.out.set5 1 rfl (.bool lf) (.string lo) (.string hi) (.int .i64 r) (.slice a5 xs.length c5))
                exact bodyPost_ret (res_c1t rfl rfl (load_pg (HT2.out.blk 1 rfl).1) rfl) rfl (by rw [HP.out]; exact ⟨a5, c5, rfl, HT2.out.post 4 rfl⟩)
            | false =>
              have HQ := Lib.hid hq
              have hs0 : (Op.bytesLess x.key.toList key.toList || x.key.toList == key.toList) = true := by rw [bytesLe]; show (!ltS key x.key) = true; rw [hq]; rfl
              clear hq
              cases hs1 : Op.bytesLess x.key.toList key.toList with
              | true =>
                clear hs0
                go_wp2
                go_quiet (fail)
                go_wp2
                go_roundw
                case rel => exact ⟨k + 1, by omega, by go_num, Lib.hid (fun j y hj hy => by
                  by_cases e : j = k
                  · subst e; rw [HX.out] at hy; cases hy; exact HQ.out
                  · exact HM.out j y (by omega) hy), Lib.hid (HO.out.kn ((Kp.refl _ _).drewN _))⟩
                case measure => simp [intOf]; omega
              | false =>
                rw [hs1, Bool.false_or] at hs0
                go_wp2
                go_quiet (fail)
                go_wp2
                go_roundw
                case rel => exact ⟨k + 1, by omega, by go_num, Lib.hid (fun j y hj hy => by
                  by_cases e : j = k
                  · subst e; rw [HX.out] at hy; cases hy; exact HQ.out
                  · exact HM.out j y (by omega) hy), Lib.hid (HO.out.kn ((Kp.refl _ _).drewN _))⟩
                case measure => simp [intOf]; omega
          · obtain rfl : k = l.length := by omega
            have HP := Lib.hid (show putP ⟨lf, lo, hi, r, l⟩ ⟨key, ⟨es, eg⟩, ec⟩ = (⟨lf, lo, hi, r, l.take l.length ++ (⟨key, ⟨es, eg⟩, ec⟩ : En) :: l.drop l.length⟩, 0) by rw [put_form' (p := ⟨lf, lo, hi, r, l⟩) HIN.out]; unfold putAt; simp only; rw [HN.out, findIx_miss (fun j y hy => HM.out j y (List.getElem?_eq_some_iff.1 hy).1 hy)]; rfl)
            have hd : decide ((l.length : Int) < (l.length : Int)) = false := by simp
            have hd2 : decide (l.length < l.length) = false := by simp
            go_wp2
            go_quiet (fail)
            go_upto_region 14 with fail
            have HO' := Lib.hid (HO.out.kn ((Kp.refl _ _).drewN nq))
            clear HO x0 x1 x2 x3 x4 xf y0 y1 y2 y3 yf hd hd2
            generalize wr.drewN nq = w1' at *
            have HO := HO'
            clear HO'
            obtain ⟨a1, hs1, hr1⟩ := cut_pre2 HR.out hc0 (i := l.length) (by omega)
            obtain ⟨a2, hs2, hr2⟩ := cut_post HR.out hc0 (i := l.length) (by omega)
            rw [Nat.sub_self] at hs2 hr2
            have hs2x := hs2
            have HR1 := Lib.hid hr1
            have HR2 := Lib.hid hr2
            have hlen1 : (l.take l.length).length = l.length := by rw [List.length_take]; omega
            have hlen2 : (l.drop (l.length)).length = l.length - (l.length) := by rw [List.length_drop]
            have HL := Lib.hid (And.intro hlen1 hlen2)
            clear hr1 hr2 hs2 hlen1 hlen2
            generalize l.take l.length = xs1 at *
            generalize l.drop (l.length) = xs2 at *
            have HB := Lib.hid (HO.out.alloc (.cells #[.string key, .int .i64 es, .int .i64 eg, .int .i64 ec] 28))
            have HOd := Lib.hid (HO.out.kn ((Kp.refl _ _).drew))
            have HOe := Lib.hid (HB.out.kn ((Kp.refl _ _).drew))
            obtain ⟨x0, x1, x2, x3, x4, xf⟩ := cells5 (HO.out.blk 2 rfl).1
            obtain ⟨y0, y1, y2, y3, yf⟩ := cells4 (HO.out.blk 1 rfl).1
            obtain ⟨u0, u1, u2, u3, u4, uf⟩ := cells5 (HB.out.blk 3 rfl).1
            obtain ⟨v0, v1, v2, v3, vf⟩ := cells4 (HB.out.blk 2 rfl).1
            have hw : True := trivial
            have hz2 : (l.length : Int) ≤ (l.length : Int) := by omega
            have hz3 : (l.length : Int) ≤ (cp : Int) := by omega
            have hz4 : (0 : Int) ≤ (l.length : Int) := by omega
            go_region_law (first
              | ((refine step_appL rfl (by rfl) elt_En HOd.out 3 rfl ?_ ?_ enc4 (HR1.out.kn HOd.out.old) enc1 (by have := HL.out.1; unfold maxLen; omega) (by have := HL.out.1; omega) ?_); (exact rfl); (exact rfl); intro a3 c3 w3 ho; rw [Nat.zero_add, List.nil_append] at ho; have HA := Lib.hid ho; have HC := Lib.hid (HA.out.alloc (.cells #[.string key, .int .i64 es, .int .i64 eg, .int .i64 ec] 28)); obtain ⟨p0, p1, p2, p3, p4, pf⟩ := cells5 (HA.out.blk 2 rfl).1; obtain ⟨q0, q1, q2, q3, qf⟩ := cells4 (HA.out.blk 1 rfl).1; obtain ⟨s0, s1, s2, s3, s4, sf⟩ := cells5 (HC.out.blk 3 rfl).1; obtain ⟨t0, t1, t2, t3, tf⟩ := cells4 (HC.out.blk 2 rfl).1)
              | ((refine step_appL rfl (by rfl) elt_En HOe.out 4 rfl ?_ ?_ enc4 (HR1.out.kn HOe.out.old) enc1 (by have := HL.out.1; unfold maxLen; omega) (by have := HL.out.1; omega) ?_); (exact rfl); (exact rfl); intro a3 c3 w3 ho; rw [Nat.zero_add, List.nil_append] at ho; have HC := Lib.hid ho; obtain ⟨p0, p1, p2, p3, p4, pf⟩ := cells5 (HC.out.blk 3 rfl).1; obtain ⟨q0, q1, q2, q3, qf⟩ := cells4 (HC.out.blk 2 rfl).1)
              | ((refine step_appL rfl (by rfl) elt_En HC.out 4 rfl ?_ ?_ enc4 (rl_one (HC.out.blk 0 rfl).1 (cap := 1)) enc1 (by have := HL.out.1; unfold maxLen; simp only [List.length_cons, List.length_nil]; omega) (by have := HL.out.1; simp only [List.length_cons, List.length_nil]; omega) ?_); (exact rfl); (exact rfl); intro a4 c4 w4 ho2; rw [List.length_singleton] at *; have HD := Lib.hid ho2; obtain ⟨p0', p1', p2', p3', p4', pf'⟩ := cells5 (HD.out.blk 3 rfl).1)
              | ((refine step_appL rfl (by rfl) elt_En HD.out 4 rfl ?_ ?_ enc4 (HR2.out.kn HD.out.old) enc1 (by have := HL.out; unfold maxLen; omega) (by have := HL.out; omega) ?_); (exact rfl); (exact rfl); intro a5 c5 w5 ho3; have HF := Lib.hid ho3; obtain ⟨p0'', p1'', p2'', p3'', p4'', pf''⟩ := cells5 (HF.out.blk 3 rfl).1))
            all_goals
              clear hw
              have HF2 := Lib.hid (show ∃ gB, One w w5 [Blk gB (.cells #[.string key, .int .i64 es, .int .i64 eg, .int .i64 ec] 28), Blk (w.heap.size + 1 + 1) (.cells #[.bool false, .string ⟨#[]⟩, .string ⟨#[]⟩, .int .i64 0, .slice none 0 0] 24), Blk (w.heap.size + 1) (.cells #[.string key, .int .i64 es, .int .i64 eg, .int .i64 ec] 28),
                Blk w.heap.size (.cells #[.bool lf, .string lo, .string hi, .int .i64 r, .slice a0 l.length cp] 24), RowA 28 4 (.slice a5 (xs1.length + 1 + xs2.length) c5) (xs1.length + 1 + xs2.length) (xs1.flatMap En.enc ++ [(⟨key, ⟨es, eg⟩, ec⟩ : En)].flatMap En.enc ++ xs2.flatMap En.enc)] from ⟨_, HF.out⟩)
              obtain ⟨gB, HG⟩ := HF2.out
              have HG := Lib.hid HG
              rw [← List.flatMap_append, ← List.flatMap_append, show xs1.length + 1 + xs2.length = (xs1 ++ [(⟨key, ⟨es, eg⟩, ec⟩ : En)] ++ xs2).length by simp; omega] at HG
              rw [show xs1.length + 1 + xs2.length = (xs1 ++ [(⟨key, ⟨es, eg⟩, ec⟩ : En)] ++ xs2).length by simp; omega]
              have HPX := Lib.hid (show xs1 ++ (⟨key, ⟨es, eg⟩, ec⟩ : En) :: xs2 = xs1 ++ [(⟨key, ⟨es, eg⟩, ec⟩ : En)] ++ xs2 by simp)
              rw [HPX.out] at HP
              generalize xs1 ++ [(⟨key, ⟨es, eg⟩, ec⟩ : En)] ++ xs2 = xs at *
              clear HF2 HF
              have HT := Lib.hid (HG.out.setC 3 rfl (j := 4) (.slice a5 xs.length c5))
              generalize w5.setCell ⟨w.heap.size, 4, none⟩ (.slice a5 xs.length c5) = w6 at *
              obtain ⟨x0, x1, x2, x3, x4, xf⟩ := cells5 (show w6.heap[w.heap.size]? = some (.cells #[.bool lf, .string lo, .string hi, .int .i64 r, .slice a5 xs.length c5] 24) from (HT.out.blk 3 rfl).1)
              obtain ⟨z0, z1, z2, z3, z4, zf⟩ := cells5 (HT.out.blk 1 rfl).1
              go_wp2_with fail
              have HT2 := Lib.hid (HT.out.set5 1 rfl (.bool lf) (.string lo) (.string hi) (.int .i64 r) (.slice a5 xs.length c5))
              exact bodyPost_ret (res_c1t rfl rfl (load_pg (HT2.out.blk 1 rfl).1) rfl) rfl (by rw [HP.out]; exact ⟨a5, c5, rfl, HT2.out.post 4 rfl⟩)
end Go.Proofs.Ytkdlodjpambelaa

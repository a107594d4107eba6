/- The walk of the reference's Remove. -/
import Derived.Test.YtkdlodjpambelaaPutP2
import Derived.Test.YtkdlodjpambelaaFindP
import Derived.Test.YtkdlodjpambelaaStepL
namespace Go.Proofs.Ytkdlodjpambelaa
set_option linter.unusedVariables false
set_option linter.unusedSimpArgs false
open Go Go.RowKit

theorem findIx_hit {q : En → Bool} {l : List En} {k : Nat} {x : En} (hx : l[k]? = some x) (h : q x = true) (hm : ∀ (j : Nat) y, j < k → l[j]? = some y → q y = false) : l.findIdx? q = some k := by
  have hk := (List.getElem?_eq_some_iff.1 hx).1
  exact List.findIdx?_eq_some_iff_getElem.2 ⟨hk, by rw [(List.getElem?_eq_some_iff.1 hx).2]; exact h, fun j hj => by rw [hm j _ hj (List.getElem?_eq_getElem (by omega))]; simp⟩
theorem findIx_miss {q : En → Bool} {l : List En} (hm : ∀ (j : Nat) y, l[j]? = some y → q y = false) : l.findIdx? q = none :=
  List.findIdx?_eq_none_iff.2 (fun y hy => by obtain ⟨i, hi⟩ := List.getElem?_of_mem hy; exact hm i y hi)
set_option maxHeartbeats 2000000 in
theorem remove_ref (p : Pg) (key : ByteArray) (w : World) {v : Value} (hr : Rl En.enc 4 w v p.list) (hb : p.list.length * 40 ≤ 140737488355328) : Calls Try.prog 44 #[pgv p v, .string key] w (GavePE (removeP p key) w) := by
  obtain ⟨a0, cp, rfl, hc0, hrd⟩ := hr
  have HR := Lib.hid hrd
  obtain ⟨lf, lo, hi, r, l⟩ := p
  simp only at hb hc0 hrd HR
  have HO := Lib.hid (((One.nil w).nilRow 28 4).alloc2 (.cells #[.bool lf, .string lo, .string hi, .int .i64 r, .slice a0 l.length cp] 24) (.cells #[.bool false, .string ⟨#[]⟩, .string ⟨#[]⟩, .int .i64 0, .slice none 0 0] 24))
  clear hrd
  go_enter Try.func44, Try.ntmps44
  go_wp2_with fail
  generalize (w.alloc (.cells #[.bool lf, .string lo, .string hi, .int .i64 r, .slice a0 l.length cp] 24)).alloc (.cells #[.bool false, .string ⟨#[]⟩, .string ⟨#[]⟩, .int .i64 0, .slice none 0 0] 24) = w1 at *
  obtain ⟨x0, x1, x2, x3, x4, xf⟩ := cells5 (HO.out.blk 1 rfl).1
  obtain ⟨z0, z1, z2, z3, z4, zf⟩ := cells5 (HO.out.blk 0 rfl).1
  go_loop [6] (fun s => ∃ k : Nat, k ≤ l.length ∧ s = .int .i64 k ∧ Hid (∀ (j : Nat) y, j < k → l[j]? = some y → eqS y.key key = false)) (fun s => l.length - (intOf s).toNat)
  case atStart => exact ⟨0, Nat.zero_le _, rfl, Lib.hid (fun j y h => by omega)⟩
  case round =>
    obtain ⟨k, hk, rfl, HM⟩ := hrel
    by_cases hlt : k < l.length
    · obtain ⟨x, hx⟩ : ∃ x, l[k]? = some x := ⟨_, List.getElem?_eq_getElem hlt⟩
      obtain ⟨b, off, rfl, hbw, e0, e1, e2, e3⟩ := rd4 (HR.out.kn HO.out.old) hx
      have hz0 : (0 : Int) ≤ (k : Int) := by omega
      have hz1 : (k : Int) < (l.length : Int) := by omega
      have HX := Lib.hid hx
      clear hx
      cases hq : (x.key.toList == key.toList) with
      | true =>
        have HP := Lib.hid (show removeP ⟨lf, lo, hi, r, l⟩ key = (⟨lf, lo, hi, r, l.take k ++ l.drop (k + 1)⟩, 0) by unfold removeP; simp only; rw [findIx_hit HX.out hq HM.out])
        obtain ⟨a1, hs1, hr1⟩ := cut_pre2 HR.out hc0 (i := k) (by omega)
        obtain ⟨a2, hs2, hr2⟩ := cut_post HR.out hc0 (i := k + 1) (by omega)
        have hs2' : ∀ W, (Instr.slice 22 (.slice (some ⟨b, off, none⟩) l.length cp) (some (.int .i64 ((k : Int) + 1))) none none).run Try.prog W = .ok (.slice a2 (l.length - (k + 1)) (cp - (k + 1))) W := hs2
        have HR1 := Lib.hid hr1
        have HR2 := Lib.hid hr2
        have hlen1 : (l.take k).length = k := by rw [List.length_take]; omega
        have hlen2 : (l.drop (k + 1)).length = l.length - (k + 1) := by rw [List.length_drop]
        have HL := Lib.hid (And.intro hlen1 hlen2)
        clear hr1 hr2 hs2 hlen1 hlen2
        generalize l.take k = xs1 at *
        generalize l.drop (k + 1) = xs2 at *
        go_upto_region 6 with fail
        have HOd := Lib.hid (HO.out.kn ((Kp.refl _ _).drew))
        have hk1 : k + 1 ≤ l.length := by omega
        have hw : IntKind.i64.wrap ((k : Int) + 1) = (k : Int) + 1 := Go.IntWalk.i64_in _ (by omega)
        have hz2 : (k : Int) + 1 ≤ (l.length : Int) := by omega
        have hz3 : (k : Int) ≤ (cp : Int) := by omega
        go_region_law (first
          | ((refine step_appL rfl (by rfl) elt_En HOd.out 2 rfl ?_ ?_ enc4 (HR1.out.kn HOd.out.old) enc1 (by have := HL.out.1; unfold maxLen; omega) (by have := HL.out.1; omega) ?_); (exact rfl); (exact rfl); intro a3 c3 w3 ho; rw [Nat.zero_add, List.nil_append] at ho; have HO3 := Lib.hid ho; obtain ⟨x0', x1', x2', x3', x4', xf'⟩ := cells5 (HO3.out.blk 1 rfl).1)
          | ((refine step_appL rfl (by rfl) elt_En HO3.out 2 rfl ?_ ?_ enc4 (HR2.out.kn HO3.out.old) enc1 (by have := HL.out; unfold maxLen; omega) (by have := HL.out; omega) ?_); (exact rfl); (exact rfl); intro a4 c4 w4 ho2; have HO4 := Lib.hid ho2; obtain ⟨x0'', x1'', x2'', x3'', x4'', xf''⟩ := cells5 (HO4.out.blk 1 rfl).1))
        all_goals
          clear hw
          have HT := Lib.hid (show One w (w4.setCell ⟨w.heap.size, 4, none⟩ (.slice a4 (xs1.length + xs2.length) c4)) [Blk (w.heap.size + 1) (.cells #[.bool false, .string ⟨#[]⟩, .string ⟨#[]⟩, .int .i64 0, .slice none 0 0] 24), Blk w.heap.size (.cells #[.bool lf, .string lo, .string hi, .int .i64 r, .slice a4 (xs1.length + xs2.length) c4] 24),
            RowA 28 4 (.slice a4 (xs1.length + xs2.length) c4) (xs1.length + xs2.length) (xs1.flatMap En.enc ++ xs2.flatMap En.enc)] from HO4.out.setC 1 rfl _)
          rw [← List.flatMap_append, ← List.length_append] at HT
          rw [← List.length_append]
          generalize xs1 ++ xs2 = xs at *
          clear x0 x1 x2 x3 x4 xf z0 z1 z2 z3 z4 zf
          generalize w4.setCell ⟨w.heap.size, 4, none⟩ (.slice a4 xs.length c4) = w5 at *
          obtain ⟨x0, x1, x2, x3, x4, xf⟩ := cells5 (HT.out.blk 1 rfl).1
          obtain ⟨z0, z1, z2, z3, z4, zf⟩ := cells5 (HT.out.blk 0 rfl).1
          go_wp2_with fail
          have HT2 := Lib.hid (HT.out.set5 0 rfl (.bool lf) (.string lo) (.string hi) (.int .i64 r) (.slice a4 xs.length c4))
          exact bodyPost_ret (res_c1t rfl rfl (load_pg (HT2.out.blk 0 rfl).1) rfl) rfl (by rw [HP.out]; exact ⟨a4, c4, rfl, HT2.out.post 2 rfl⟩)
      | false =>
        have HQ := Lib.hid (show eqS x.key key = false from hq)
        go_wp2
        go_round
        case rel => exact ⟨k + 1, by omega, by go_num, Lib.hid (fun j y hj hy => by
          by_cases e : j = k
          · subst e; rw [HX.out] at hy; cases hy; exact HQ.out
          · exact HM.out j y (by omega) hy)⟩
        case measure => simp [intOf]; omega
    · obtain rfl : k = l.length := by omega
      have HP := Lib.hid (show removeP ⟨lf, lo, hi, r, l⟩ key = (⟨false, ⟨#[]⟩, ⟨#[]⟩, 0, []⟩, 4) by unfold removeP; simp only; rw [findIx_miss (fun j y hy => HM.out j y (List.getElem?_eq_some_iff.1 hy).1 hy)]; rfl)
      go_wp2_with fail
      have HO2 := Lib.hid (HO.out.set5 0 rfl (.bool false) (.string ⟨#[]⟩) (.string ⟨#[]⟩) (.int .i64 0) (.slice none 0 0))
      exact bodyPost_ret (res_c1t rfl rfl (load_pg (HO2.out.blk 0 rfl).1) rfl) rfl (by rw [HP.out]; exact ⟨none, 0, rfl, HO2.out.post 2 rfl⟩)
end Go.Proofs.Ytkdlodjpambelaa

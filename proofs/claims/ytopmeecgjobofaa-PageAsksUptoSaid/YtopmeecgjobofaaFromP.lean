/- page.From and the reference's From; Full, Small. -/
import Derived.Test.YtopmeecgjobofaaPutP2
import Derived.Test.YtopmeecgjobofaaRemoveR
import Derived.Test.YtopmeecgjobofaaLawParts
namespace Go.Proofs.Ytopmeecgjobofaa
set_option linter.unusedVariables false
set_option linter.unusedSimpArgs false
open Go Go.RowKit

theorem from_some {p : Pg} {key : ByteArray} {k : Nat} (h : p.list.findIdx? (fun x => !ltS x.key key) = some k) : fromP p key = p.list.drop k := by
  unfold fromP
  rw [List.dropWhile_eq_drop_findIdx_not, (List.findIdx?_eq_some_iff_findIdx_eq.1 h).2]
theorem from_none {p : Pg} {key : ByteArray} (h : p.list.findIdx? (fun x => !ltS x.key key) = none) : fromP p key = [] := by
  unfold fromP
  rw [List.dropWhile_eq_drop_findIdx_not, List.findIdx?_eq_none_iff_findIdx_eq.1 h, List.drop_length]
set_option maxHeartbeats 2000000 in
theorem from_page (p : Pg) (key : ByteArray) (w : World) {v : Value} (hr : Rl En.enc 4 w v p.list) (hb : p.list.length * 40 ≤ 140737488355328) : Calls Try.prog 30 #[pgv p v, .string key] w fun e w' =>
    ∃ b a c, e = .returned (.func (.func 54) #[] #[.pointer (some ⟨b, 0, none⟩)]) ∧ w'.cell? ⟨b, 0, none⟩ = some (.slice a (fromP p key).length c) ∧ Rd En.enc 4 w' a (fromP p key) ∧ KN w w' := by
  obtain ⟨a0, cp, rfl, hc0, hrd⟩ := hr
  have HR := Lib.hid hrd
  obtain ⟨lf, lo, hi, r, l⟩ := p
  simp only at hb hc0 hrd HR
  have HC := Lib.hid (fun W B lf low high r (k : KN w W) (hB : W.cell? ⟨B, 0, none⟩ = some (.string key)) => index_page (fun x => !ltS x.key key) 49 #[.pointer (some ⟨B, 0, none⟩)] eg_from1 W (says_from1 key B W hB) (lf := lf) (low := low) (high := high) (r := r) ((Rl.of_rd hrd hc0).kn k) (by unfold maxLen; omega))
  have HO := Lib.hid ((One.nil w).alloc2 (.cells #[.bool lf, .string lo, .string hi, .int .i64 r, .slice a0 l.length cp] 24) (.cells #[.string key] 9))
  show Calls Try.prog 30 #[.agg #[.bool lf, .string lo, .string hi, .int .i64 r, .slice a0 l.length cp], .string key] w _
  cases hq : l.findIdx? (fun x => !ltS x.key key) with
  | none =>
    have hF : fromP ⟨lf, lo, hi, r, l⟩ key = [] := from_none hq
    have hv : ixOf (fun x => !ltS x.key key) l = -1 := by unfold ixOf; rw [hq]
    simp only [hv] at HC
    rw [hF]
    clear hq hrd hv hF
    go_enter Try.func30, Try.ntmps30
    go_wp2_with fail
    generalize (w.alloc (.cells #[.bool lf, .string lo, .string hi, .int .i64 r, .slice a0 l.length cp] 24)).alloc (.cells #[.string key] 9) = w1 at *
    refine (HC.out _ _ _ _ _ _ HO.out.old (cells1 (HO.out.blk 0 rfl).1).1).mono ?_
    rintro e w2 ⟨rfl, k2⟩
    have HO2 := Lib.hid (HO.out.kn k2)
    clear k2
    go_wp2
    go_ret
    exact ⟨w2.heap.size, none, 0, rfl, by simp, .inl rfl, (HO2.out.alloc _).old⟩
  | some k =>
    have hk : k < l.length := (List.findIdx?_eq_some_iff_getElem.1 hq).1
    have hF : fromP ⟨lf, lo, hi, r, l⟩ key = l.drop k := from_some hq
    have hv : ixOf (fun x => !ltS x.key key) l = (k : Int) := by unfold ixOf; rw [hq]
    simp only [hv] at HC
    rw [hF]
    obtain ⟨a1, hs1, hr1⟩ := cut_post hrd hc0 (i := k) (by omega)
    have hlen : (l.drop k).length = l.length - k := List.length_drop
    have HCl := Lib.hid (fun W (kn : KN w W) => clone_En (hr1.kn kn) (by unfold maxLen; omega) (by omega))
    clear hq hrd hv hF hr1
    go_enter Try.func30, Try.ntmps30
    go_wp2_with fail
    generalize (w.alloc (.cells #[.bool lf, .string lo, .string hi, .int .i64 r, .slice a0 l.length cp] 24)).alloc (.cells #[.string key] 9) = w1 at *
    refine (HC.out _ _ _ _ _ _ HO.out.old (cells1 (HO.out.blk 0 rfl).1).1).mono ?_
    rintro e w2 ⟨rfl, k2⟩
    have HO2 := Lib.hid (HO.out.kn k2)
    clear k2
    obtain ⟨x0, x1, x2, x3, x4, xf⟩ := cells5 (HO2.out.blk 1 rfl).1
    have hz : (0 : Int) ≤ (k : Int) := by omega
    go_wp2_with fail
    refine (HCl.out _ HO2.out.old).mono ?_
    rintro e w3 ⟨a3, c3, rfl, k3⟩
    have HO3 := Lib.hid (HO2.out.add k3)
    clear k3
    go_wp2
    go_ret
    obtain ⟨a', c', e', _, hrd'⟩ := One.rlE (One.alloc HO3.out (.cells #[.slice a3 (l.length - k) c3] 22)) 1 rfl
    cases e'
    exact ⟨w3.heap.size, a3, c3, rfl, by simp, hrd', (HO3.out.alloc _).old⟩
set_option maxHeartbeats 2000000 in
theorem from_ref (p : Pg) (key : ByteArray) (w : World) {v : Value} (hr : Rl En.enc 4 w v p.list) (hb : p.list.length * 40 ≤ 140737488355328) : Calls Try.prog 29 #[pgv p v, .string key] w fun e w' =>
    ∃ a c, e = .returned (.slice a (fromP p key).length c) ∧ Rd En.enc 4 w' a (fromP p key) ∧ KN w w' := by
  obtain ⟨a0, cp, rfl, hc0, hrd⟩ := hr
  have HR := Lib.hid hrd
  obtain ⟨lf, lo, hi, r, l⟩ := p
  simp only at hb hc0 hrd HR
  have HO := Lib.hid ((One.nil w).alloc (.cells #[.bool lf, .string lo, .string hi, .int .i64 r, .slice a0 l.length cp] 24))
  clear hrd
  go_enter Try.func29, Try.ntmps29
  go_wp2_with fail
  generalize w.alloc (.cells #[.bool lf, .string lo, .string hi, .int .i64 r, .slice a0 l.length cp] 24) = w1 at *
  obtain ⟨x0, x1, x2, x3, x4, xf⟩ := cells5 (HO.out.blk 0 rfl).1
  go_loop [5] (fun s => ∃ k : Nat, k ≤ l.length ∧ s = .int .i64 k ∧ Hid (∀ (j : Nat) y, j < k → l[j]? = some y → (!ltS y.key key) = false)) (fun s => l.length - (intOf s).toNat)
  case atStart => exact ⟨0, Nat.zero_le _, rfl, Lib.hid (fun j y h => by omega)⟩
  case round =>
    obtain ⟨k, hk, rfl, HM⟩ := hrel
    by_cases hlt : k < l.length
    · obtain ⟨x, hx⟩ : ∃ x, l[k]? = some x := ⟨_, List.getElem?_eq_getElem hlt⟩
      obtain ⟨b, off, rfl, hbw, e0, e1, e2, e3⟩ := rd4 (HR.out.kn HO.out.old) hx
      have hz0 : (0 : Int) ≤ (k : Int) := by omega
      have hz1 : (k : Int) < (l.length : Int) := by omega
      have HX := Lib.hid hx
      clear hx
      cases hq : Op.bytesLess x.key.toList key.toList with
      | false =>
        have HP := Lib.hid (show fromP ⟨lf, lo, hi, r, l⟩ key = l.drop k from from_some (findIx_hit HX.out (show (!ltS x.key key) = true by rw [show ltS x.key key = false from hq]; rfl) HM.out))
        obtain ⟨a2, hs2, hr2⟩ := cut_post HR.out hc0 (i := k) (by omega)
        have HR2 := Lib.hid hr2
        have hlen2 : (l.drop k).length = l.length - k := by rw [List.length_drop]
        clear hr2
        go_wp2
        go_ret
        rw [HP.out, hlen2]
        obtain ⟨a', c', e', _, hrd'⟩ := HR2.out
        injection e' with e1 e2 e3
        subst e1
        exact ⟨_, ⟨_, rfl⟩, hrd'.kn HO.out.old, HO.out.old⟩
      | true =>
        have HQ := Lib.hid (show (!ltS x.key key) = false by rw [show ltS x.key key = true from hq]; rfl)
        go_wp2
        go_round
        case rel => exact ⟨k + 1, by omega, by go_num, Lib.hid (fun j y hj hy => by
          by_cases e : j = k
          · subst e; rw [HX.out] at hy; cases hy; exact HQ.out
          · exact HM.out j y (by omega) hy)⟩
        case measure => simp [intOf]; omega
    · obtain rfl : k = l.length := by omega
      have HP := Lib.hid (show fromP ⟨lf, lo, hi, r, l⟩ key = [] from from_none (findIx_miss (fun j y hy => HM.out j y (List.getElem?_eq_some_iff.1 hy).1 hy)))
      go_wp2
      go_ret
      rw [HP.out]
      exact ⟨none, ⟨0, rfl⟩, .inl rfl, HO.out.old⟩
theorem full_page (lf : Bool) (lo hi : ByteArray) (r : Int) (a : Option Addr) (n c : Nat) (w : World) : Calls Try.prog 32 #[.agg #[.bool lf, .string lo, .string hi, .int .i64 r, .slice a n c]] w fun e w' => e = .returned (.bool (decide (8 < n))) ∧ KN w w' := by
  go_enter Try.func32, Try.ntmps32
  go_wp2
  go_ret
  exact ⟨by simp; try omega, kn_alloc _ _⟩
theorem small_page (lf : Bool) (lo hi : ByteArray) (r : Int) (a : Option Addr) (n c : Nat) (w : World) : Calls Try.prog 33 #[.agg #[.bool lf, .string lo, .string hi, .int .i64 r, .slice a n c]] w fun e w' => e = .returned (.bool (decide (n < 2))) ∧ KN w w' := by
  go_enter Try.func33, Try.ntmps33
  go_wp2
  go_ret
  exact ⟨by simp; try omega, kn_alloc _ _⟩
end Go.Proofs.Ytopmeecgjobofaa

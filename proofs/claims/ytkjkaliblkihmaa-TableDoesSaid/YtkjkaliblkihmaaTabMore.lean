/- The walks of the mapping table: how many pages. -/
import Derived.Test.YtkjkaliblkihmaaTabBegun
namespace Go.Proofs.Ytkjkaliblkihmaa
set_option linter.unusedVariables false
set_option linter.unusedSimpArgs false
open Go Go.RowKit

def manyOf (aps : List AP) (st : Int) : Nat := aps.countP (fun a => a.1 == st)
theorem many_take (aps : List AP) (st : Int) {k : Nat} {a : AP} (h : aps[k]? = some a) : manyOf (aps.take (k + 1)) st = manyOf (aps.take k) st + if a.1 == st then 1 else 0 := by
  unfold manyOf
  rw [List.take_add_one, h, List.countP_append]
  simp [List.countP_cons]
section
variable {w : World} {t : Nat} {F : Nat → Prop} {aps : List AP} {x : Int}
theorem tab_pages (h : (Tab t aps x).on w F) : Calls Try.prog 22 #[.pointer (some ⟨t, 0, none⟩)] w fun e w' => e = .returned (.int .i64 aps.length) ∧ w = w' := by
  have HT := Lib.hid h
  obtain ⟨p, m, pgs, h⟩ := h
  obtain ⟨c0, c1, _, _⟩ := cells2 h.tb
  have hl := h.len
  have hm := h.most
  rw [← hl]
  clear h hl
  go_enter Try.func22, Try.ntmps22
  go_wp2_with (first | (go_at_call 25; refine (tab_none HT.out).mono ?_; rintro e w' ⟨rfl, rfl⟩))
  go_ret
  exact ⟨rfl, rfl⟩
theorem tab_many (st : Int) (h : (Tab t aps x).on w F) : Calls Try.prog 32 #[.pointer (some ⟨t, 0, none⟩), .int .i64 st] w fun e w' => e = .returned (.int .i64 (manyOf aps st)) ∧ KN w w' := by
  have HT := Lib.hid h
  obtain ⟨p, m, pgs, h⟩ := h
  obtain ⟨c0, c1, _, _⟩ := cells2 h.tb
  have hl := h.len
  have hm := h.most
  have HI := Lib.hid h
  have hplt := h.lt p h.fp
  clear h
  go_enter Try.func32, Try.ntmps32
  go_wp2_with (first | (go_at_call 25; refine (tab_none HT.out).mono ?_; rintro e w' ⟨rfl, rfl⟩))
  go_loopw [5, 16] (fun c i wr => ∃ k : Nat, k ≤ pgs.length ∧ c = .int .i64 (manyOf (aps.take k) st) ∧ i = .int .i64 k ∧ Hid (KN w wr)) (fun _ i _ => pgs.length - (intOf i).toNat)
  case atStart => exact ⟨0, Nat.zero_le _, rfl, rfl, Lib.hid (Kp.refl _ _)⟩
  case round =>
    obtain ⟨k, hk, rfl, rfl, HK⟩ := hrel
    clear c0 c1
    by_cases hlt : k < pgs.length
    · obtain ⟨q, hq⟩ : ∃ q, pgs[k]? = some q := ⟨_, List.getElem?_eq_getElem hlt⟩
      obtain ⟨a, ha⟩ : ∃ a, aps[k]? = some a := ⟨_, List.getElem?_eq_getElem (by omega)⟩
      have hst := (HI.out.rd k q a hq ha).1
      obtain ⟨g0, g1⟩ := HI.out.page hq
      rw [hst] at g0
      replace g0 := cell_kp HK.out id g0
      replace g1 := cell_kp HK.out id g1
      have hmt := many_take aps st ha
      have hle : manyOf (aps.take k) st ≤ k := Nat.le_trans List.countP_le_length (by rw [List.length_take]; omega)
      have HM := Lib.hid hmt
      clear hmt hst ha hq
      by_cases he : a.1 = st
      · have he' : (a.1 == st) = true := by simpa using he
        have hmt := HM.out
        rw [if_pos he'] at hmt
        clear he
        go_wp2
        go_round
        case rel => exact ⟨k + 1, by omega, by rw [hmt]; go_num, by go_num, Lib.hid (HK.out.alloc _)⟩
        case measure => simp [intOf]; omega
      · have he' : (a.1 == st) = false := by simpa using he
        have hmt := HM.out
        rw [if_neg (by simp [he'])] at hmt
        clear he
        go_wp2
        go_round
        case rel => exact ⟨k + 1, by omega, by rw [hmt]; rfl, by go_num, Lib.hid (HK.out.alloc _)⟩
        case measure => simp [intOf]; omega
    · obtain rfl : k = pgs.length := by omega
      have e : aps.take pgs.length = aps := by rw [hl]; exact List.take_length
      rw [e]
      clear e
      go_wp2
      go_ret
      exact ⟨rfl, HK.out⟩
theorem tab_live (h : (Tab t aps x).on w F) : Calls Try.prog 15 #[.pointer (some ⟨t, 0, none⟩)] w fun e w' => e = .returned (.int .i64 (manyOf aps 1)) ∧ KN w w' := by
  have HT := Lib.hid h
  clear h
  go_enter Try.func15, Try.ntmps15
  go_wp2_with (first | (go_at_call 32; refine (tab_many 1 HT.out).mono ?_; rintro e w' ⟨rfl, hk⟩))
  go_ret
  exact ⟨rfl, hk⟩
theorem tab_gone (h : (Tab t aps x).on w F) : Calls Try.prog 16 #[.pointer (some ⟨t, 0, none⟩)] w fun e w' => e = .returned (.int .i64 (manyOf aps 2)) ∧ KN w w' := by
  have HT := Lib.hid h
  clear h
  go_enter Try.func16, Try.ntmps16
  go_wp2_with (first | (go_at_call 32; refine (tab_many 2 HT.out).mono ?_; rintro e w' ⟨rfl, hk⟩))
  go_ret
  exact ⟨rfl, hk⟩
end
end Go.Proofs.Ytkjkaliblkihmaa

/- TableOne: its walk. -/
import Derived.Test.YtkjkaliblkihmaaTabBegun
import Derived.Test.YtkjkaliblkihmaaTypesTab
namespace Go.Proofs.Ytkjkaliblkihmaa
set_option linter.unusedVariables false
set_option linter.unusedSimpArgs false
open Go Go.RowKit

def Hd.p (x : Hd) : Int × Int := (x.slot, x.gen)
theorem rd_hd {w : World} {a : Option Addr} {l : List Hd} (hr : Rd Hd.enc 2 w a l) {i : Nat} {x : Hd} (hx : l[i]? = some x) :
    ∃ b off, a = some ⟨b, off, none⟩ ∧ b < w.heap.size ∧ w.cell? ⟨b, off + i * 2, none⟩ = some (.int .i64 x.p.1) ∧ w.cell? ⟨b, off + i * 2 + 1, none⟩ = some (.int .i64 x.p.2) := by
  rcases hr with h0 | ⟨b, off, ha, hb, hc⟩
  · rw [h0] at hx; cases hx
  · exact ⟨b, off, ha, hb, hc i x hx 0 (by decide), hc i x hx 1 (by decide)⟩

theorem one_walk (first : Int × Int) (a : Option Addr) (cap : Nat) (l : List Hd) (w : World) (hl : l.length ≤ maxLen) (hr : Rd Hd.enc 2 w a l) :
    Calls Try.prog 3 #[hv first, .slice a l.length cap] w fun e w' => e = .returned (.bool true) ∧ KN w w' := by
  unfold maxLen at hl
  have HR := Lib.hid hr
  clear hr
  have HA := Lib.hid ((One.nil w).alloc (.cells #[.int .i64 first.1, .int .i64 first.2] 23))
  by_cases hz : first = (0, 0)
  · subst hz
    have hq : ∀ w, (binOp .eql 23 (hv (0, 0)) (hv (0, 0))).run Try.prog w = .ok (.bool true) w := fun w => by rw [run_eql_hv]; simp
    go_enter Try.func3, Try.ntmps3
    go_wp2_with fail
    refine (tab_new 3 (by omega) (by omega) _).mono ?_
    rintro e w1 ⟨t, rfl, hp⟩
    have HO := Lib.hid (HA.out.add hp)
    clear hp HA
    go_wp2_with fail
    refine (begun_true _).mono ?_
    rintro e w2 ⟨rfl, hk⟩
    have HO2 := Lib.hid (HO.out.kn hk)
    clear HO hk
    obtain ⟨x0, x1, _, _⟩ := cells2 (HO2.out.blk 1 rfl).1
    go_wp2_with fail
    refine (HO2.out.lift 0 rfl (fun F => tab_alloc (0, 0))).mono ?_
    rintro e w3 ⟨rfl, ho⟩
    have HO3 := Lib.hid (show One w w3 [Tab t [(0, (0, 0)), (0, (0, 0)), (0, (0, 0))] 0, Blk w.heap.size (.cells #[.int .i64 0, .int .i64 0] 23)] from ho)
    clear ho HO2 x0 x1
    obtain ⟨x0, x1, _, _⟩ := cells2 (HO3.out.blk 1 rfl).1
    have e3 : allocOf (List.replicate 3 (0, (0, 0))) (0, 0) = ((0, 1), List.replicate 3 (0, (0, 0))) := rfl
    rw [e3]
    go_wp2_with fail
    go_ret
    exact ⟨rfl, HO3.out.old⟩
  · have hq : ∀ w, (binOp .eql 23 (hv first) (hv (0, 0))).run Try.prog w = .ok (.bool false) w := fun w => by rw [run_eql_hv]; simp [hz]
    have HZ := Lib.hid hz
    clear hz
    go_enter Try.func3, Try.ntmps3
    go_wp2_with fail
    refine (tab_new 3 (by omega) (by omega) _).mono ?_
    rintro e w1 ⟨t, rfl, hp⟩
    have HO := Lib.hid (HA.out.add hp)
    clear hp HA
    go_wp2_with fail
    refine (begun_true _).mono ?_
    rintro e w2 ⟨rfl, hk⟩
    have HO2 := Lib.hid (HO.out.kn hk)
    clear HO hk
    obtain ⟨x0, x1, _, _⟩ := cells2 (HO2.out.blk 1 rfl).1
    go_wp2_with fail
    refine (HO2.out.lift 0 rfl (fun F => tab_alloc first)).mono ?_
    have e3 : allocOf (List.replicate 3 (0, (0, 0))) first = ((0, 0), [(1, first), (0, (0, 0)), (0, (0, 0))]) := by unfold allocOf; rw [if_neg HZ.out]; rfl
    rw [e3]
    rintro e w3 ⟨rfl, ho⟩
    have HO3 := Lib.hid (show One w w3 [Tab t [(1, first), (0, (0, 0)), (0, (0, 0))] 0, Blk w.heap.size (.cells #[.int .i64 first.1, .int .i64 first.2] 23)] from ho)
    clear ho HO2 x0 x1 e3
    obtain ⟨x0, x1, _, _⟩ := cells2 (HO3.out.blk 1 rfl).1
    go_wp2_with fail
    go_loopw [8, 9, 45] (fun dn ms i wr => ∃ (k d m : Nat) (h : Int × Int), k ≤ l.length ∧ i = .int .i64 k ∧ dn = .int .i64 d ∧ ms = .int .i64 m ∧ m ≤ k ∧ d ≤ 1 ∧ (d = 0 → m = 0 ∧ h = first) ∧ (d = 1 → h ≠ first) ∧
      Hid (One w wr [Tab t [(1, h), (0, (0, 0)), (0, (0, 0))] m, Blk w.heap.size (.cells #[.int .i64 first.1, .int .i64 first.2] 23)])) (fun _ _ i _ => l.length - (intOf i).toNat)
    case atStart => exact ⟨0, 0, 0, first, Nat.zero_le _, rfl, rfl, rfl, Nat.le_refl _, by omega, fun _ => ⟨rfl, rfl⟩, fun h => by omega, HO3⟩
    case round =>
      obtain ⟨k, d, m, h, hk, rfl, rfl, rfl, hmk, hd, hd0, hd1, HO⟩ := hrel
      clear HO3 x0 x1
      obtain ⟨x0, x1, _, _⟩ := cells2_al (HO.out.blk 1 rfl).1
      by_cases hlt : k < l.length
      · obtain ⟨b, off, ha, hb, h0, h1⟩ := rd_hd HR.out (List.getElem?_eq_getElem hlt)
        generalize (l[k]).p = o at h0 h1
        obtain rfl := ha
        have hB := HO.out.old.below
        rw [← hB.cell hb] at h0 h1
        clear hB
        have hrl : ∀ h' m' d' : Nat, ∀ hh : Int × Int, True := fun _ _ _ _ => trivial
        have HO' := Lib.hid (HO.out.kn (kn_alloc wr (.cells #[.int .i64 o.1, .int .i64 o.2] 23)))
        by_cases ho : o = first
        · subst ho
          have hq1 : ∀ w, (binOp .eql 23 (hv o) (hv o)).run Try.prog w = .ok (.bool true) w := fun w => by rw [run_eql_hv]; simp
          clear hrl
          go_wp2
          go_round
          case rel => exact ⟨k + 1, d, m, h, by omega, by go_num, rfl, rfl, by omega, hd, hd0, hd1, HO'⟩
          case measure => simp [intOf]; omega
        · have hq1 : ∀ w, (binOp .eql 23 (hv o) (hv first)).run Try.prog w = .ok (.bool false) w := fun w => by rw [run_eql_hv]; simp [ho]
          by_cases hz : o = (0, 0)
          · have hq2 : ∀ w, (binOp .eql 23 (hv o) (hv (0, 0))).run Try.prog w = .ok (.bool true) w := fun w => by rw [run_eql_hv]; simp [hz]
            clear hz ho
            go_wp2
            go_round
            case rel => exact ⟨k + 1, d, m, h, by omega, by go_num, rfl, rfl, by omega, hd, hd0, hd1, HO'⟩
            case measure => simp [intOf]; omega
          · have hq2 : ∀ w, (binOp .eql 23 (hv o) (hv (0, 0))).run Try.prog w = .ok (.bool false) w := fun w => by rw [run_eql_hv]; simp [hz]
            have HN := Lib.hid ho
            have HZ2 := Lib.hid hz
            clear hz ho
            by_cases hf : h = first
            · have e5 : swapOf [(1, h), (0, (0, 0)), (0, (0, 0))] m 0 first o = ((true, 0), [(1, o), (0, (0, 0)), (0, (0, 0))], (m : Int)) := by
                have e1 : looksOf [(1, h), (0, (0, 0)), (0, (0, 0))] 0 1 = 0 := rfl
                unfold swapOf
                rw [if_pos e1, if_neg HZ2.out, if_pos (show headOf [(1, h), (0, (0, 0)), (0, (0, 0))] 0 = first from hf)]
                rfl
              have hd' : d = 0 := by
                by_cases h0 : d = 0
                · exact h0
                · exact absurd hf (hd1 (by omega))
              subst hd'
              obtain ⟨rfl, _⟩ := hd0 rfl
              clear hf hd0 hd1 hd
              go_wp2_with fail
              refine (HO'.out.lift 0 rfl (fun F => tab_swap 0 first o)).mono ?_
              rw [e5]
              rintro e w5 ⟨rfl, ho⟩
              have HO5 := Lib.hid (show One w w5 [Tab t [(1, o), (0, (0, 0)), (0, (0, 0))] ((0 : Nat) : Int), Blk w.heap.size (.cells #[.int .i64 first.1, .int .i64 first.2] 23)] from ho)
              clear ho HO HO' e5 x0 x1
              obtain ⟨x0, x1, _, _⟩ := cells2_al (HO5.out.blk 1 rfl).1
              go_wp2
              go_round
              case rel => exact ⟨k + 1, 1, 0, o, by omega, by go_num, rfl, rfl, by omega, by omega, fun h => by omega, fun _ => HN.out, HO5⟩
              case measure => simp [intOf]; omega
            · have hm1 : wrap64 ((m : Int) + 1) = ((m + 1 : Nat) : Int) := by rw [Go.IntWalk.wrap64_in] <;> omega
              have e5 : swapOf [(1, h), (0, (0, 0)), (0, (0, 0))] m 0 first o = ((false, 0), [(1, h), (0, (0, 0)), (0, (0, 0))], ((m + 1 : Nat) : Int)) := by
                have e1 : looksOf [(1, h), (0, (0, 0)), (0, (0, 0))] 0 1 = 0 := rfl
                unfold swapOf
                rw [if_pos e1, if_neg HZ2.out, if_neg (show ¬ headOf [(1, h), (0, (0, 0)), (0, (0, 0))] 0 = first from hf), hm1]
              have hd' : d = 1 := by
                by_cases h0 : d = 0
                · exact absurd (hd0 h0).2 hf
                · omega
              subst hd'
              clear hd0 hd1 hd hm1
              have HF := Lib.hid hf
              clear hf
              go_wp2_with fail
              refine (HO'.out.lift 0 rfl (fun F => tab_swap 0 first o)).mono ?_
              rw [e5]
              rintro e w5 ⟨rfl, ho⟩
              have HO5 := Lib.hid (show One w w5 [Tab t [(1, h), (0, (0, 0)), (0, (0, 0))] ((m + 1 : Nat) : Int), Blk w.heap.size (.cells #[.int .i64 first.1, .int .i64 first.2] 23)] from ho)
              clear ho HO HO' e5 x0 x1
              obtain ⟨x0, x1, _, _⟩ := cells2_al (HO5.out.blk 1 rfl).1
              go_wp2
              go_round
              case rel => exact ⟨k + 1, 1, m + 1, h, by omega, by go_num, rfl, by go_num, by omega, by omega, fun h => by omega, fun _ => HF.out, HO5⟩
              case measure => simp [intOf]; omega
      · obtain rfl : k = l.length := by omega
        have hfin : ((d : Int) == 1) = true ∨ (((d : Int) == 1) = false ∧ m = 0) := by
          by_cases h0 : d = 0
          · right; subst h0; exact ⟨rfl, (hd0 rfl).1⟩
          · left; have : d = 1 := by omega
            subst this; rfl
        have hd2 : (d : Int) ≤ 1 := by omega
        have HM := Lib.hid hfin
        clear hfin hd0 hd1 hd
        rcases HM.out with h1 | ⟨h1, rfl⟩
        · go_wp2_with (first | (go_at_call 11; refine (HO.out.rd 0 rfl (fun F => tab_missed)).mono ?_; rintro e w' ⟨rfl, rfl⟩))
          go_ret
          exact ⟨rfl, HO.out.old⟩
        · go_wp2_with (first | (go_at_call 11; refine (HO.out.rd 0 rfl (fun F => tab_missed)).mono ?_; rintro e w' ⟨rfl, rfl⟩))
          go_ret
          exact ⟨rfl, HO.out.old⟩
end Go.Proofs.Ytkjkaliblkihmaa

/- TableDoes: its walk. -/
import Derived.Test.YtkjkaliblkihmaaEqualTb
import Derived.Test.YtkjkaliblkihmaaTypesTab
namespace Go.Proofs.Ytkjkaliblkihmaa
set_option linter.unusedVariables false
set_option linter.unusedSimpArgs false
open Go Go.RowKit Go.Sort

theorem new_bad_t (n : Int) (h : n < 1 ∨ 65536 < n) (w : World) : Calls Try.prog 7 #[.int .i64 n] w fun e w' => e = .returned (.tuple #[.pointer none, .int .i64 1]) ∧ w = w' := by
  have h1 : n < 1 ∨ (¬ n < 1 ∧ 65536 < n) := by omega
  rcases h1 with h1 | ⟨h1, h2⟩
  all_goals
    go_enter Try.func7, Try.ntmps7
    go_wp2
    go_ret2
    exact ⟨rfl, rfl⟩
theorem rd_op10 {w : World} {a : Option Addr} {l : List Op10} (h : Rd Op10.enc 6 w a l) {i : Nat} {x : Op10} (hx : l[i]? = some x) : ∃ b off, a = some ⟨b, off, none⟩ ∧ b < w.heap.size ∧
    w.cell? ⟨b, off + i * 6, none⟩ = some (.int .i64 x.do_) ∧ w.cell? ⟨b, off + i * 6 + 1, none⟩ = some (.int .i64 x.page) ∧ w.cell? ⟨b, off + i * 6 + 2, none⟩ = some (.int .i64 x.was.slot) ∧ w.cell? ⟨b, off + i * 6 + 3, none⟩ = some (.int .i64 x.was.gen) ∧ w.cell? ⟨b, off + i * 6 + 4, none⟩ = some (.int .i64 x.is_.slot) ∧ w.cell? ⟨b, off + i * 6 + 5, none⟩ = some (.int .i64 x.is_.gen) := by
  obtain ⟨b, off, ha, hb, hc⟩ := h.at hx
  exact ⟨b, off, ha, hb, hc 0 (by omega), hc 1 (by omega), hc 2 (by omega), hc 3 (by omega), hc 4 (by omega), hc 5 (by omega)⟩
set_option maxRecDepth 100000 in
set_option maxHeartbeats 8000000 in
theorem tbdoes_walk (pages : Int) (a : Option Addr) (cap : Nat) (l : List Op10) (stop : Int) (w : World) (hl : l.length ≤ 9223372036854775807) (hr : Rd Op10.enc 6 w a l) :
    Calls Try.prog 5 #[.int .i64 pages, .slice a l.length cap, .int .i64 stop] w fun e w' => e = .returned (.bool true) ∧ KN w w' := by
  by_cases hb : pages < 1 ∨ 65536 < pages
  · have hbad := Lib.hid (new_bad_t pages hb)
    have hbadr := Lib.hid (new_bad_r pages hb)
    clear hb hr
    go_enter Try.func5, Try.ntmps5
    go_wp2_with fail
    refine (hbad.out _).mono ?_
    rintro e w1 ⟨rfl, rfl⟩
    go_wp2_with fail
    refine (hbadr.out _).mono ?_
    rintro e w1 ⟨rfl, rfl⟩
    go_wp2_with fail
    refine (begun_true _).mono ?_
    rintro e w2 ⟨rfl, hk⟩
    have HK := Lib.hid hk
    clear hk
    go_wp2_with fail
    go_ret
    exact ⟨rfl, HK.out⟩
  · obtain ⟨n, rfl, hn1, hn2⟩ : ∃ n : Nat, pages = n ∧ 1 ≤ n ∧ n ≤ 65536 := ⟨pages.toNat, by omega, by omega, by omega⟩
    have HR := Lib.hid hr
    clear hb hr
    go_enter Try.func5, Try.ntmps5
    go_wp2_with fail
    refine (tab_new n hn1 hn2 _).mono ?_
    rintro e w1 ⟨t, rfl, hp1⟩
    have HO := Lib.hid ((One.nil w).add hp1)
    clear hp1
    go_wp2_with fail
    refine (new_r n hn1 hn2 _).mono ?_
    rintro e w2 ⟨u, rfl, hp2⟩
    have HO2 := Lib.hid ((HO.out.add hp2).perm (List.Perm.swap _ _ _))
    clear hp2 HO
    go_wp2_with fail
    refine (begun_true _).mono ?_
    rintro e w3 ⟨rfl, hk⟩
    have HO3 := Lib.hid (HO2.out.kn hk)
    have HS3 := Lib.hid (Sm.refl (List.replicate n ((0, (0, 0)) : AP)))
    clear HO2 hk
    go_wp2_with fail
    go_loopw [7, 42] (fun v7 i wr => ∃ (k t : Nat) (A R : List AP) (x : Int), k ≤ l.length ∧ i = .int .i64 k ∧ v7 = .pointer (some ⟨t, 0, none⟩) ∧ Hid (Sm A R) ∧ Hid (One w wr [Tab t A x, RfT u R x])) (fun _ i _ => l.length - (intOf i).toNat)
    case atStart => exact ⟨0, t, _, _, 0, Nat.zero_le _, rfl, rfl, HS3, HO3⟩
    case round =>
      clear HO3 HS3
      obtain ⟨k, t2, A, R, x, hk, rfl, rfl, HS, HO⟩ := hrel
      by_cases hlt : k < l.length
      · obtain ⟨o, hx⟩ : ∃ o, l[k]? = some o := ⟨_, List.getElem?_eq_getElem hlt⟩
        obtain ⟨b, off, rfl, hb, h0, h1, h2, h3, h4, h5⟩ := rd_op10 (HR.out.kn HO.out.old) hx
        clear hx
        go_upto_region 11 with (fail)
        have HO1 := Lib.hid (HO.out.alloc (.cells #[.int .i64 o.do_, .int .i64 o.page, .int .i64 o.was.slot, .int .i64 o.was.gen, .int .i64 o.is_.slot, .int .i64 o.is_.gen] 40))
        clear h0 h1 h2 h3 h4 h5 HO
        generalize wr.alloc (.cells #[.int .i64 o.do_, .int .i64 o.page, .int .i64 o.was.slot, .int .i64 o.was.gen, .int .i64 o.is_.slot, .int .i64 o.is_.gen] 40) = W1 at *
        generalize wr.heap.size = g at *
        obtain ⟨c0, c1, c2, c3, c4, c5⟩ := cells6 (HO1.out.blk 0 rfl).1
        go_wp2_with fail
        refine (step_all HO1.out.drop HS.out).mono ?_
        rintro e w5 ⟨t3, A3, R3, x3, rfl, hs3, ho⟩
        have HO5 := Lib.hid ho
        have HS5 := Lib.hid hs3
        clear ho hs3 HO1 HS c0 c1 c2 c3 c4 c5
        go_wp2_with fail
        refine (HO5.out.rd 0 rfl (fun F h => tab_missed h)).mono ?_
        rintro e w6 ⟨rfl, rfl⟩
        go_wp2_with fail
        refine (HO5.out.rd 1 rfl (fun F h => missed_r h)).mono ?_
        rintro e w6 ⟨rfl, rfl⟩
        go_wp2_with fail
        go_roundw
        case rel => exact ⟨k + 1, t3, A3, R3, x3, by omega, by go_num, rfl, HS5, HO5⟩
        case measure => simp [intOf]; omega
      · go_wp2_with fail
        refine (equal_t HO.out HS.out stop).mono ?_
        rintro e w5 ⟨rfl, hk5⟩
        have HO5 := Lib.hid (HO.out.kn hk5)
        clear hk5
        go_wp2
        go_ret
        exact ⟨rfl, HO5.out.old⟩
end Go.Proofs.Ytkjkaliblkihmaa

/- TableNone: its walk. -/
import Derived.Test.YtkjkaliblkihmaaSilentTab
import Derived.Test.YtkjkaliblkihmaaTypesTab
namespace Go.Proofs.Ytkjkaliblkihmaa
set_option linter.unusedVariables false
set_option linter.unusedSimpArgs false
open Go Go.RowKit

set_option maxRecDepth 100000 in
set_option maxHeartbeats 4000000 in
theorem none_walk (dv pv ws wg is ig : Int) (w : World) : Calls Try.prog 6 #[.agg #[.int .i64 dv, .int .i64 pv, .int .i64 ws, .int .i64 wg, .int .i64 is, .int .i64 ig]] w fun e w' => e = .returned (.bool true) ∧ KN w w' := by
  have HO := Lib.hid ((One.nil w).alloc (.cells #[.int .i64 dv, .int .i64 pv, .int .i64 ws, .int .i64 wg, .int .i64 is, .int .i64 ig] 40))
  go_enter Try.func6, Try.ntmps6
  go_wp2_with fail
  refine (begun_true _).mono ?_
  rintro e w1 ⟨rfl, hk1⟩
  have HO1 := Lib.hid (HO.out.kn hk1)
  clear hk1 HO
  go_wp2_with fail
  have HO2 := Lib.hid (HO1.out.alloc2 (.cells #[.slice none 0 0, .pointer none] 57) (.cells #[.pointer none, .pointer (some ⟨w1.heap.size, 0, none⟩)] 25))
  clear HO1
  generalize (w1.alloc (.cells #[.slice none 0 0, .pointer none] 57)).alloc (.cells #[.pointer none, .pointer (some ⟨w1.heap.size, 0, none⟩)] 25) = w2 at *
  generalize w1.heap.size = g at *
  go_loopw [17] (fun s wr => ∃ k : Nat, k ≤ 2 ∧ s = .int .i64 k ∧ Hid (One w wr [Blk (g + 1) (.cells #[.pointer none, .pointer (some ⟨g, 0, none⟩)] 25), Blk g (.cells #[.slice none 0 0, .pointer none] 57), Blk w.heap.size (.cells #[.int .i64 dv, .int .i64 pv, .int .i64 ws, .int .i64 wg, .int .i64 is, .int .i64 ig] 40)])) (fun s _ => 2 - (intOf s).toNat)
  case atStart => exact ⟨0, by omega, rfl, HO2⟩
  case round =>
    obtain ⟨k, hk, rfl, H0⟩ := hrel
    by_cases hlt : k < 2
    · obtain ⟨p, P0, hc⟩ : ∃ p, Hid (NoT wr p) ∧ wr.cell? ⟨g + 1, k, none⟩ = some (.pointer p) := by
        rcases (show k = 0 ∨ k = 1 by omega) with rfl | rfl
        · exact ⟨none, .inl rfl, cell_blk (H0.out.blk 0 rfl).1 rfl⟩
        · exact ⟨_, .inr ⟨_, rfl, (H0.out.blk 1 rfl).1⟩, cell_blk (H0.out.blk 0 rfl).1 rfl⟩
      have b1 : wr.cell? ⟨w.heap.size, 1, none⟩ = some (.int .i64 pv) := cell_blk (H0.out.blk 2 rfl).1 rfl
      have b2 : wr.cell? ⟨w.heap.size, 2, none⟩ = some (.int .i64 ws) := cell_blk (H0.out.blk 2 rfl).1 rfl
      have b3 : wr.cell? ⟨w.heap.size, 3, none⟩ = some (.int .i64 wg) := cell_blk (H0.out.blk 2 rfl).1 rfl
      have b4 : wr.cell? ⟨w.heap.size, 4, none⟩ = some (.int .i64 is) := cell_blk (H0.out.blk 2 rfl).1 rfl
      have b5 : wr.cell? ⟨w.heap.size, 5, none⟩ = some (.int .i64 ig) := cell_blk (H0.out.blk 2 rfl).1 rfl
      go_wp2_with fail
      clear b1 b2 b3 b4 b5 hc
      refine (alloc_no _ _ P0.out).mono ?_
      rintro e v1 ⟨rfl, k1⟩
      have H1 := Lib.hid (H0.out.kn k1)
      have P1 := Lib.hid (P0.out.kn k1)
      clear k1 H0 P0
      have b1 : v1.cell? ⟨w.heap.size, 1, none⟩ = some (.int .i64 pv) := cell_blk (H1.out.blk 2 rfl).1 rfl
      have b2 : v1.cell? ⟨w.heap.size, 2, none⟩ = some (.int .i64 ws) := cell_blk (H1.out.blk 2 rfl).1 rfl
      have b3 : v1.cell? ⟨w.heap.size, 3, none⟩ = some (.int .i64 wg) := cell_blk (H1.out.blk 2 rfl).1 rfl
      have b4 : v1.cell? ⟨w.heap.size, 4, none⟩ = some (.int .i64 is) := cell_blk (H1.out.blk 2 rfl).1 rfl
      have b5 : v1.cell? ⟨w.heap.size, 5, none⟩ = some (.int .i64 ig) := cell_blk (H1.out.blk 2 rfl).1 rfl
      go_wp2_with fail
      clear b1 b2 b3 b4 b5
      refine (load_no _ P1.out).mono ?_
      rintro e v2 ⟨rfl, k2⟩
      have H2 := Lib.hid (H1.out.kn k2)
      have P2 := Lib.hid (P1.out.kn k2)
      clear k2 H1 P1
      go_upto_region 8 with fail
      have Hx := Lib.hid (H2.out.alloc (.cells #[.int .i64 0, .int .i64 0] 23))
      have Px := Lib.hid (P2.out.kn (kn_alloc v2 (.cells #[.int .i64 0, .int .i64 0] 23)))
      clear H2 P2
      generalize v2.alloc (.cells #[.int .i64 0, .int .i64 0] 23) = vx at *
      generalize v2.heap.size = gx at *
      have H2 := Hx
      have P2 := Px
      clear Hx Px

      have b1 : vx.cell? ⟨w.heap.size, 1, none⟩ = some (.int .i64 pv) := cell_blk (H2.out.blk 3 rfl).1 rfl
      have b2 : vx.cell? ⟨w.heap.size, 2, none⟩ = some (.int .i64 ws) := cell_blk (H2.out.blk 3 rfl).1 rfl
      have b3 : vx.cell? ⟨w.heap.size, 3, none⟩ = some (.int .i64 wg) := cell_blk (H2.out.blk 3 rfl).1 rfl
      have b4 : vx.cell? ⟨w.heap.size, 4, none⟩ = some (.int .i64 is) := cell_blk (H2.out.blk 3 rfl).1 rfl
      have b5 : vx.cell? ⟨w.heap.size, 5, none⟩ = some (.int .i64 ig) := cell_blk (H2.out.blk 3 rfl).1 rfl
      obtain ⟨y0, y1, _, _⟩ := cells2 (H2.out.blk 0 rfl).1
      go_wp2_with fail
      clear b1 b2 b3 b4 b5 y0 y1
      refine (swap_no _ _ _ _ _ P2.out).mono ?_
      rintro e v3 ⟨rfl, k3⟩
      have H3 := Lib.hid (H2.out.kn k3)
      have P3 := Lib.hid (P2.out.kn k3)
      clear k3 H2 P2
      have b1 : v3.cell? ⟨w.heap.size, 1, none⟩ = some (.int .i64 pv) := cell_blk (H3.out.blk 3 rfl).1 rfl
      have b2 : v3.cell? ⟨w.heap.size, 2, none⟩ = some (.int .i64 ws) := cell_blk (H3.out.blk 3 rfl).1 rfl
      have b3 : v3.cell? ⟨w.heap.size, 3, none⟩ = some (.int .i64 wg) := cell_blk (H3.out.blk 3 rfl).1 rfl
      have b4 : v3.cell? ⟨w.heap.size, 4, none⟩ = some (.int .i64 is) := cell_blk (H3.out.blk 3 rfl).1 rfl
      have b5 : v3.cell? ⟨w.heap.size, 5, none⟩ = some (.int .i64 ig) := cell_blk (H3.out.blk 3 rfl).1 rfl
      obtain ⟨y0, y1, _, _⟩ := cells2 (H3.out.blk 0 rfl).1
      go_wp2_with fail
      clear b1 b2 b3 b4 b5 y0 y1
      refine (retire_no _ P3.out).mono ?_
      rintro e v4 ⟨rfl, k4⟩
      have H4 := Lib.hid (H3.out.kn k4)
      have P4 := Lib.hid (P3.out.kn k4)
      clear k4 H3 P3
      have b1 : v4.cell? ⟨w.heap.size, 1, none⟩ = some (.int .i64 pv) := cell_blk (H4.out.blk 3 rfl).1 rfl
      have b2 : v4.cell? ⟨w.heap.size, 2, none⟩ = some (.int .i64 ws) := cell_blk (H4.out.blk 3 rfl).1 rfl
      have b3 : v4.cell? ⟨w.heap.size, 3, none⟩ = some (.int .i64 wg) := cell_blk (H4.out.blk 3 rfl).1 rfl
      have b4 : v4.cell? ⟨w.heap.size, 4, none⟩ = some (.int .i64 is) := cell_blk (H4.out.blk 3 rfl).1 rfl
      have b5 : v4.cell? ⟨w.heap.size, 5, none⟩ = some (.int .i64 ig) := cell_blk (H4.out.blk 3 rfl).1 rfl
      obtain ⟨y0, y1, _, _⟩ := cells2 (H4.out.blk 0 rfl).1
      go_wp2_with fail
      clear b1 b2 b3 b4 b5 y0 y1
      refine (release_no _ P4.out).mono ?_
      rintro e v5 ⟨rfl, k5⟩
      have H5 := Lib.hid (H4.out.kn k5)
      have P5 := Lib.hid (P4.out.kn k5)
      clear k5 H4 P4
      have b1 : v5.cell? ⟨w.heap.size, 1, none⟩ = some (.int .i64 pv) := cell_blk (H5.out.blk 3 rfl).1 rfl
      have b2 : v5.cell? ⟨w.heap.size, 2, none⟩ = some (.int .i64 ws) := cell_blk (H5.out.blk 3 rfl).1 rfl
      have b3 : v5.cell? ⟨w.heap.size, 3, none⟩ = some (.int .i64 wg) := cell_blk (H5.out.blk 3 rfl).1 rfl
      have b4 : v5.cell? ⟨w.heap.size, 4, none⟩ = some (.int .i64 is) := cell_blk (H5.out.blk 3 rfl).1 rfl
      have b5 : v5.cell? ⟨w.heap.size, 5, none⟩ = some (.int .i64 ig) := cell_blk (H5.out.blk 3 rfl).1 rfl
      obtain ⟨y0, y1, _, _⟩ := cells2 (H5.out.blk 0 rfl).1
      go_wp2_with fail
      clear b1 b2 b3 b4 b5 y0 y1
      refine (state_no _ P5.out).mono ?_
      rintro e v6 ⟨rfl, k6⟩
      have H6 := Lib.hid (H5.out.kn k6)
      have P6 := Lib.hid (P5.out.kn k6)
      clear k6 H5 P5
      have b1 : v6.cell? ⟨w.heap.size, 1, none⟩ = some (.int .i64 pv) := cell_blk (H6.out.blk 3 rfl).1 rfl
      have b2 : v6.cell? ⟨w.heap.size, 2, none⟩ = some (.int .i64 ws) := cell_blk (H6.out.blk 3 rfl).1 rfl
      have b3 : v6.cell? ⟨w.heap.size, 3, none⟩ = some (.int .i64 wg) := cell_blk (H6.out.blk 3 rfl).1 rfl
      have b4 : v6.cell? ⟨w.heap.size, 4, none⟩ = some (.int .i64 is) := cell_blk (H6.out.blk 3 rfl).1 rfl
      have b5 : v6.cell? ⟨w.heap.size, 5, none⟩ = some (.int .i64 ig) := cell_blk (H6.out.blk 3 rfl).1 rfl
      obtain ⟨y0, y1, _, _⟩ := cells2 (H6.out.blk 0 rfl).1
      go_wp2_with fail
      clear b1 b2 b3 b4 b5 y0 y1
      refine (pages_no P6.out).mono ?_
      rintro e v7 ⟨rfl, k7⟩
      have H7 := Lib.hid (H6.out.kn k7)
      have P7 := Lib.hid (P6.out.kn k7)
      clear k7 H6 P6
      have b1 : v7.cell? ⟨w.heap.size, 1, none⟩ = some (.int .i64 pv) := cell_blk (H7.out.blk 3 rfl).1 rfl
      have b2 : v7.cell? ⟨w.heap.size, 2, none⟩ = some (.int .i64 ws) := cell_blk (H7.out.blk 3 rfl).1 rfl
      have b3 : v7.cell? ⟨w.heap.size, 3, none⟩ = some (.int .i64 wg) := cell_blk (H7.out.blk 3 rfl).1 rfl
      have b4 : v7.cell? ⟨w.heap.size, 4, none⟩ = some (.int .i64 is) := cell_blk (H7.out.blk 3 rfl).1 rfl
      have b5 : v7.cell? ⟨w.heap.size, 5, none⟩ = some (.int .i64 ig) := cell_blk (H7.out.blk 3 rfl).1 rfl
      obtain ⟨y0, y1, _, _⟩ := cells2 (H7.out.blk 0 rfl).1
      go_wp2_with fail
      clear b1 b2 b3 b4 b5 y0 y1
      refine (live_no P7.out).mono ?_
      rintro e v8 ⟨rfl, k8⟩
      have H8 := Lib.hid (H7.out.kn k8)
      have P8 := Lib.hid (P7.out.kn k8)
      clear k8 H7 P7
      have b1 : v8.cell? ⟨w.heap.size, 1, none⟩ = some (.int .i64 pv) := cell_blk (H8.out.blk 3 rfl).1 rfl
      have b2 : v8.cell? ⟨w.heap.size, 2, none⟩ = some (.int .i64 ws) := cell_blk (H8.out.blk 3 rfl).1 rfl
      have b3 : v8.cell? ⟨w.heap.size, 3, none⟩ = some (.int .i64 wg) := cell_blk (H8.out.blk 3 rfl).1 rfl
      have b4 : v8.cell? ⟨w.heap.size, 4, none⟩ = some (.int .i64 is) := cell_blk (H8.out.blk 3 rfl).1 rfl
      have b5 : v8.cell? ⟨w.heap.size, 5, none⟩ = some (.int .i64 ig) := cell_blk (H8.out.blk 3 rfl).1 rfl
      obtain ⟨y0, y1, _, _⟩ := cells2 (H8.out.blk 0 rfl).1
      go_wp2_with fail
      clear b1 b2 b3 b4 b5 y0 y1
      refine (gone_no P8.out).mono ?_
      rintro e v9 ⟨rfl, k9⟩
      have H9 := Lib.hid (H8.out.kn k9)
      have P9 := Lib.hid (P8.out.kn k9)
      clear k9 H8 P8
      have b1 : v9.cell? ⟨w.heap.size, 1, none⟩ = some (.int .i64 pv) := cell_blk (H9.out.blk 3 rfl).1 rfl
      have b2 : v9.cell? ⟨w.heap.size, 2, none⟩ = some (.int .i64 ws) := cell_blk (H9.out.blk 3 rfl).1 rfl
      have b3 : v9.cell? ⟨w.heap.size, 3, none⟩ = some (.int .i64 wg) := cell_blk (H9.out.blk 3 rfl).1 rfl
      have b4 : v9.cell? ⟨w.heap.size, 4, none⟩ = some (.int .i64 is) := cell_blk (H9.out.blk 3 rfl).1 rfl
      have b5 : v9.cell? ⟨w.heap.size, 5, none⟩ = some (.int .i64 ig) := cell_blk (H9.out.blk 3 rfl).1 rfl
      obtain ⟨y0, y1, _, _⟩ := cells2 (H9.out.blk 0 rfl).1
      go_wp2_with fail
      clear b1 b2 b3 b4 b5 y0 y1
      refine (missed_no P9.out).mono ?_
      rintro e v10 ⟨rfl, k10⟩
      have H10 := Lib.hid (H9.out.kn k10)
      have P10 := Lib.hid (P9.out.kn k10)
      clear k10 H9 P9
      have b1 : v10.cell? ⟨w.heap.size, 1, none⟩ = some (.int .i64 pv) := cell_blk (H10.out.blk 3 rfl).1 rfl
      have b2 : v10.cell? ⟨w.heap.size, 2, none⟩ = some (.int .i64 ws) := cell_blk (H10.out.blk 3 rfl).1 rfl
      have b3 : v10.cell? ⟨w.heap.size, 3, none⟩ = some (.int .i64 wg) := cell_blk (H10.out.blk 3 rfl).1 rfl
      have b4 : v10.cell? ⟨w.heap.size, 4, none⟩ = some (.int .i64 is) := cell_blk (H10.out.blk 3 rfl).1 rfl
      have b5 : v10.cell? ⟨w.heap.size, 5, none⟩ = some (.int .i64 ig) := cell_blk (H10.out.blk 3 rfl).1 rfl
      obtain ⟨y0, y1, _, _⟩ := cells2 (H10.out.blk 0 rfl).1
      go_wp2_with fail
      clear b1 b2 b3 b4 b5 y0 y1
      refine (clone_no P10.out).mono ?_
      rintro e v11 ⟨rfl, k11⟩
      have H11 := Lib.hid (H10.out.kn k11)
      have P11 := Lib.hid (P10.out.kn k11)
      clear k11 H10 P10
      have b1 : v11.cell? ⟨w.heap.size, 1, none⟩ = some (.int .i64 pv) := cell_blk (H11.out.blk 3 rfl).1 rfl
      have b2 : v11.cell? ⟨w.heap.size, 2, none⟩ = some (.int .i64 ws) := cell_blk (H11.out.blk 3 rfl).1 rfl
      have b3 : v11.cell? ⟨w.heap.size, 3, none⟩ = some (.int .i64 wg) := cell_blk (H11.out.blk 3 rfl).1 rfl
      have b4 : v11.cell? ⟨w.heap.size, 4, none⟩ = some (.int .i64 is) := cell_blk (H11.out.blk 3 rfl).1 rfl
      have b5 : v11.cell? ⟨w.heap.size, 5, none⟩ = some (.int .i64 ig) := cell_blk (H11.out.blk 3 rfl).1 rfl
      obtain ⟨y0, y1, _, _⟩ := cells2 (H11.out.blk 0 rfl).1
      go_wp2_with fail
      clear b1 b2 b3 b4 b5 y0 y1
      refine (silent_no P11.out).mono ?_
      rintro e v12 ⟨rfl, k12⟩
      have H12 := Lib.hid (H11.out.kn k12)
      have P12 := Lib.hid (P11.out.kn k12)
      clear k12 H11 P11
      go_wp2_with fail
      go_roundw
      case rel => exact ⟨k + 1, by omega, by go_num, Lib.hid H12.out.drop⟩
      case measure => simp [intOf]; omega
    · obtain rfl : k = 2 := by omega
      go_wp2
      go_ret
      exact ⟨rfl, H0.out.old⟩
end Go.Proofs.Ytkjkaliblkihmaa

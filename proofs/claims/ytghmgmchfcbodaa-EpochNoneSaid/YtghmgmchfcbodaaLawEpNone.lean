/- EpochNone: its walk. -/
import Derived.Test.YtghmgmchfcbodaaNoneEp
import Derived.Test.YtghmgmchfcbodaaEpochG
namespace Go.Proofs.Ytghmgmchfcbodaa
set_option linter.unusedVariables false
set_option linter.unusedSimpArgs false
open Go Go.RowKit

set_option maxRecDepth 100000 in
set_option maxHeartbeats 4000000 in
theorem none_walk (dv sv xk xl xg : Int) (w : World) : Calls Try.prog 7 #[.agg #[.int .i64 dv, .int .i64 sv, .int .i64 xk, .int .i64 xl, .int .i64 xg]] w fun e w' => e = .returned (.bool true) ∧ KN w w' := by
  have HO := Lib.hid ((One.nil w).alloc (.cells #[.int .i64 dv, .int .i64 sv, .int .i64 xk, .int .i64 xl, .int .i64 xg] 33))
  go_enter Try.func7, Try.ntmps7
  go_wp2_with fail
  refine (begun_true _).mono ?_
  rintro e w1 ⟨rfl, hk1⟩
  have HO1 := Lib.hid (HO.out.kn hk1)
  clear hk1 HO
  go_wp2_with fail
  have HO2 := Lib.hid (HO1.out.alloc2 (.cells #[.int .i64 0, .pointer none, .pointer none, .pointer none, .pointer none, .pointer none, .pointer none, .pointer none, .pointer none, .pointer none, .pointer none, .pointer none, .pointer none, .pointer none, .pointer none, .pointer none, .pointer none, .pointer none, .slice none 0 0, .slice none 0 0, .slice none 0 0] 67) (.cells #[.pointer none, .pointer (some ⟨w1.heap.size, 0, none⟩)] 23))
  clear HO1
  generalize (w1.alloc (.cells #[.int .i64 0, .pointer none, .pointer none, .pointer none, .pointer none, .pointer none, .pointer none, .pointer none, .pointer none, .pointer none, .pointer none, .pointer none, .pointer none, .pointer none, .pointer none, .pointer none, .pointer none, .pointer none, .slice none 0 0, .slice none 0 0, .slice none 0 0] 67)).alloc (.cells #[.pointer none, .pointer (some ⟨w1.heap.size, 0, none⟩)] 23) = w2 at *
  generalize w1.heap.size = g at *
  go_loopw [15] (fun s wr => ∃ k : Nat, k ≤ 2 ∧ s = .int .i64 k ∧ Hid (One w wr [Blk (g + 1) (.cells #[.pointer none, .pointer (some ⟨g, 0, none⟩)] 23), Blk g (.cells #[.int .i64 0, .pointer none, .pointer none, .pointer none, .pointer none, .pointer none, .pointer none, .pointer none, .pointer none, .pointer none, .pointer none, .pointer none, .pointer none, .pointer none, .pointer none, .pointer none, .pointer none, .pointer none, .slice none 0 0, .slice none 0 0, .slice none 0 0] 67), Blk w.heap.size (.cells #[.int .i64 dv, .int .i64 sv, .int .i64 xk, .int .i64 xl, .int .i64 xg] 33)])) (fun s _ => 2 - (intOf s).toNat)
  case atStart => exact ⟨0, by omega, rfl, HO2⟩
  case round =>
    obtain ⟨k, hk, rfl, H0⟩ := hrel
    by_cases hlt : k < 2
    · obtain ⟨p, P0, hc⟩ : ∃ p, Hid (NoE wr p) ∧ wr.cell? ⟨g + 1, k, none⟩ = some (.pointer p) := by
        rcases (show k = 0 ∨ k = 1 by omega) with rfl | rfl
        · exact ⟨none, .inl rfl, cell_blk (H0.out.blk 0 rfl).1 rfl⟩
        · exact ⟨_, .inr ⟨_, rfl, (H0.out.blk 1 rfl).1⟩, cell_blk (H0.out.blk 0 rfl).1 rfl⟩
      have b1 : wr.cell? ⟨w.heap.size, 1, none⟩ = some (.int .i64 sv) := cell_blk (H0.out.blk 2 rfl).1 rfl
      have b2 : wr.cell? ⟨w.heap.size, 2, none⟩ = some (.int .i64 xk) := cell_blk (H0.out.blk 2 rfl).1 rfl
      have b3 : wr.cell? ⟨w.heap.size, 3, none⟩ = some (.int .i64 xl) := cell_blk (H0.out.blk 2 rfl).1 rfl
      have b4 : wr.cell? ⟨w.heap.size, 4, none⟩ = some (.int .i64 xg) := cell_blk (H0.out.blk 2 rfl).1 rfl
      go_wp2_with fail
      clear b1 b2 b3 b4 hc
      refine (adv_no P0.out).mono ?_
      rintro e v1 ⟨rfl, k1⟩
      have H1 := Lib.hid (H0.out.kn k1)
      have P1 := Lib.hid (P0.out.kn k1)
      clear k1 H0 P0
      have b1 : v1.cell? ⟨w.heap.size, 1, none⟩ = some (.int .i64 sv) := cell_blk (H1.out.blk 2 rfl).1 rfl
      have b2 : v1.cell? ⟨w.heap.size, 2, none⟩ = some (.int .i64 xk) := cell_blk (H1.out.blk 2 rfl).1 rfl
      have b3 : v1.cell? ⟨w.heap.size, 3, none⟩ = some (.int .i64 xl) := cell_blk (H1.out.blk 2 rfl).1 rfl
      have b4 : v1.cell? ⟨w.heap.size, 4, none⟩ = some (.int .i64 xg) := cell_blk (H1.out.blk 2 rfl).1 rfl
      go_wp2_with fail
      clear b1 b2 b3 b4
      refine (pinned_no _ P1.out).mono ?_
      rintro e v2 ⟨rfl, k2⟩
      have H2 := Lib.hid (H1.out.kn k2)
      have P2 := Lib.hid (P1.out.kn k2)
      clear k2 H1 P1
      have b1 : v2.cell? ⟨w.heap.size, 1, none⟩ = some (.int .i64 sv) := cell_blk (H2.out.blk 2 rfl).1 rfl
      have b2 : v2.cell? ⟨w.heap.size, 2, none⟩ = some (.int .i64 xk) := cell_blk (H2.out.blk 2 rfl).1 rfl
      have b3 : v2.cell? ⟨w.heap.size, 3, none⟩ = some (.int .i64 xl) := cell_blk (H2.out.blk 2 rfl).1 rfl
      have b4 : v2.cell? ⟨w.heap.size, 4, none⟩ = some (.int .i64 xg) := cell_blk (H2.out.blk 2 rfl).1 rfl
      go_wp2_with fail
      clear b1 b2 b3 b4
      refine (pin_no _ P2.out).mono ?_
      rintro e v3 ⟨rfl, k3⟩
      have H3 := Lib.hid (H2.out.kn k3)
      have P3 := Lib.hid (P2.out.kn k3)
      clear k3 H2 P2
      have b1 : v3.cell? ⟨w.heap.size, 1, none⟩ = some (.int .i64 sv) := cell_blk (H3.out.blk 2 rfl).1 rfl
      have b2 : v3.cell? ⟨w.heap.size, 2, none⟩ = some (.int .i64 xk) := cell_blk (H3.out.blk 2 rfl).1 rfl
      have b3 : v3.cell? ⟨w.heap.size, 3, none⟩ = some (.int .i64 xl) := cell_blk (H3.out.blk 2 rfl).1 rfl
      have b4 : v3.cell? ⟨w.heap.size, 4, none⟩ = some (.int .i64 xg) := cell_blk (H3.out.blk 2 rfl).1 rfl
      go_wp2_with fail
      clear b1 b2 b3 b4
      refine (unpin_no _ P3.out).mono ?_
      rintro e v4 ⟨rfl, k4⟩
      have H4 := Lib.hid (H3.out.kn k4)
      have P4 := Lib.hid (P3.out.kn k4)
      clear k4 H3 P3
      have b1 : v4.cell? ⟨w.heap.size, 1, none⟩ = some (.int .i64 sv) := cell_blk (H4.out.blk 2 rfl).1 rfl
      have b2 : v4.cell? ⟨w.heap.size, 2, none⟩ = some (.int .i64 xk) := cell_blk (H4.out.blk 2 rfl).1 rfl
      have b3 : v4.cell? ⟨w.heap.size, 3, none⟩ = some (.int .i64 xl) := cell_blk (H4.out.blk 2 rfl).1 rfl
      have b4 : v4.cell? ⟨w.heap.size, 4, none⟩ = some (.int .i64 xg) := cell_blk (H4.out.blk 2 rfl).1 rfl
      go_wp2_with fail
      clear b1 b2 b3 b4
      refine (retire_no _ _ _ P4.out).mono ?_
      rintro e v5 ⟨rfl, k5⟩
      have H5 := Lib.hid (H4.out.kn k5)
      have P5 := Lib.hid (P4.out.kn k5)
      clear k5 H4 P4
      have b1 : v5.cell? ⟨w.heap.size, 1, none⟩ = some (.int .i64 sv) := cell_blk (H5.out.blk 2 rfl).1 rfl
      have b2 : v5.cell? ⟨w.heap.size, 2, none⟩ = some (.int .i64 xk) := cell_blk (H5.out.blk 2 rfl).1 rfl
      have b3 : v5.cell? ⟨w.heap.size, 3, none⟩ = some (.int .i64 xl) := cell_blk (H5.out.blk 2 rfl).1 rfl
      have b4 : v5.cell? ⟨w.heap.size, 4, none⟩ = some (.int .i64 xg) := cell_blk (H5.out.blk 2 rfl).1 rfl
      go_wp2_with fail
      clear b1 b2 b3 b4
      refine (now_no P5.out).mono ?_
      rintro e v6 ⟨rfl, k6⟩
      have k6 : KN v5 v6 := k6 ▸ Kp.refl _ _
      have H6 := Lib.hid (H5.out.kn k6)
      have P6 := Lib.hid (P5.out.kn k6)
      clear k6 H5 P5
      have b1 : v6.cell? ⟨w.heap.size, 1, none⟩ = some (.int .i64 sv) := cell_blk (H6.out.blk 2 rfl).1 rfl
      have b2 : v6.cell? ⟨w.heap.size, 2, none⟩ = some (.int .i64 xk) := cell_blk (H6.out.blk 2 rfl).1 rfl
      have b3 : v6.cell? ⟨w.heap.size, 3, none⟩ = some (.int .i64 xl) := cell_blk (H6.out.blk 2 rfl).1 rfl
      have b4 : v6.cell? ⟨w.heap.size, 4, none⟩ = some (.int .i64 xg) := cell_blk (H6.out.blk 2 rfl).1 rfl
      go_wp2_with fail
      clear b1 b2 b3 b4
      refine (young_no P6.out).mono ?_
      rintro e v7 ⟨rfl, k7⟩
      have H7 := Lib.hid (H6.out.kn k7)
      have P7 := Lib.hid (P6.out.kn k7)
      clear k7 H6 P6
      have b1 : v7.cell? ⟨w.heap.size, 1, none⟩ = some (.int .i64 sv) := cell_blk (H7.out.blk 2 rfl).1 rfl
      have b2 : v7.cell? ⟨w.heap.size, 2, none⟩ = some (.int .i64 xk) := cell_blk (H7.out.blk 2 rfl).1 rfl
      have b3 : v7.cell? ⟨w.heap.size, 3, none⟩ = some (.int .i64 xl) := cell_blk (H7.out.blk 2 rfl).1 rfl
      have b4 : v7.cell? ⟨w.heap.size, 4, none⟩ = some (.int .i64 xg) := cell_blk (H7.out.blk 2 rfl).1 rfl
      go_wp2_with fail
      clear b1 b2 b3 b4
      refine (clone_no P7.out).mono ?_
      rintro e v8 ⟨rfl, k8⟩
      have H8 := Lib.hid (H7.out.kn k8)
      have P8 := Lib.hid (P7.out.kn k8)
      clear k8 H7 P7
      go_wp2
      go_roundw
      case rel => exact ⟨k + 1, by omega, by go_num, H8⟩
      case measure => simp [intOf]; omega
    · go_wp2
      go_ret
      exact ⟨rfl, H0.out.old⟩
end Go.Proofs.Ytghmgmchfcbodaa

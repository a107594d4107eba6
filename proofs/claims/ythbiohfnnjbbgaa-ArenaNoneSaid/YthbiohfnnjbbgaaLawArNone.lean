/- ArenaNone: its walk. -/
import Derived.Test.YthbiohfnnjbbgaaNoneAr
namespace Go.Proofs.Ythbiohfnnjbbgaa
set_option linter.unusedVariables false
set_option linter.unusedSimpArgs false
open Go Go.RowKit

set_option maxRecDepth 100000 in
set_option maxHeartbeats 4000000 in
theorem arnone_walk (xs xg : Int) (tx : ByteArray) (w : World) : Calls Try.prog 6 #[.agg #[.int .i64 xs, .int .i64 xg], .string tx] w fun e w' => e = .returned (.bool true) ∧ KN w w' := by
  have hne : ∀ w, (binOp .neq 30 (.agg #[.int .i64 0, .int .i64 0]) (.agg #[.int .i64 0, .int .i64 0])).run Try.prog w = .ok (.bool false) w := fun w => run_neq_hv (0, 0) (0, 0) w
  have HO := Lib.hid ((One.nil w).alloc (.cells #[.int .i64 xs, .int .i64 xg] 30))
  go_enter Try.func6, Try.ntmps6
  go_wp2_with fail
  refine (begun_true _).mono ?_
  rintro e w1 ⟨rfl, hk1⟩
  have HO1 := Lib.hid (HO.out.kn hk1)
  clear hk1 HO
  go_wp2_with fail
  have HO2 := Lib.hid (HO1.out.alloc2 noAr (.cells #[.pointer none, .pointer (some ⟨w1.heap.size, 0, none⟩)] 37))
  clear HO1
  generalize hgen : (w1.alloc _).alloc _ = w2 at *
  clear hgen
  generalize w1.heap.size = g at *
  go_loopw [17] (fun s wr => ∃ k : Nat, k ≤ 2 ∧ s = .int .i64 k ∧ Hid (One w wr [Blk (g + 1) (.cells #[.pointer none, .pointer (some ⟨g, 0, none⟩)] 37), Blk g noAr, Blk w.heap.size (.cells #[.int .i64 xs, .int .i64 xg] 30)])) (fun s _ => 2 - (intOf s).toNat)
  case atStart => exact ⟨0, by omega, rfl, HO2⟩
  case round =>
    obtain ⟨k, hk, rfl, H0⟩ := hrel
    by_cases hlt : k < 2
    · obtain ⟨p, P0, hc⟩ : ∃ p, Hid (NoE wr p) ∧ wr.cell? ⟨g + 1, k, none⟩ = some (.pointer p) := by
        rcases (show k = 0 ∨ k = 1 by omega) with rfl | rfl
        · exact ⟨none, .inl rfl, cell_blk (H0.out.blk 0 rfl).1 rfl⟩
        · exact ⟨_, .inr ⟨_, rfl, (H0.out.blk 1 rfl).1⟩, cell_blk (H0.out.blk 0 rfl).1 rfl⟩
      go_wp2_with fail
      clear hc
      refine (put_no tx P0.out).mono ?_
      rintro e v1 ⟨rfl, k1⟩
      have H1 := Lib.hid (((H0.out.kn k1).alloc (.cells #[.int .i64 0, .int .i64 0] 30)).perm (List.reverse_perm _).symm)
      have P1 := Lib.hid ((P0.out.kn k1).kn (kn_alloc v1 (.cells #[.int .i64 0, .int .i64 0] 30)))
      clear k1 H0 P0
      go_upto_region 7 with fail
      generalize hgen : v1.alloc _ = u1 at *
      clear hgen
      generalize v1.heap.size = gk at *
      obtain ⟨b0, b1, _, _⟩ := cells2 (H1.out.blk 0 rfl).1
      obtain ⟨d0, d1, _, _⟩ := cells2 (H1.out.blk 3 rfl).1
      go_wp2_with fail
      clear b0 b1 d0 d1
      refine (get_no xs xg P1.out).mono ?_
      rintro e v2 ⟨rfl, k2⟩
      have H2 := Lib.hid (H1.out.kn k2)
      have P2 := Lib.hid (P1.out.kn k2)
      clear k2 H1 P1
      obtain ⟨b0, b1, _, _⟩ := cells2 (H2.out.blk 0 rfl).1
      obtain ⟨d0, d1, _, _⟩ := cells2 (H2.out.blk 3 rfl).1
      go_wp2_with fail
      clear b0 b1 d0 d1
      refine (set_no xs xg tx P2.out).mono ?_
      rintro e v3 ⟨rfl, k3⟩
      have H3 := Lib.hid (H2.out.kn k3)
      have P3 := Lib.hid (P2.out.kn k3)
      clear k3 H2 P2
      obtain ⟨b0, b1, _, _⟩ := cells2 (H3.out.blk 0 rfl).1
      obtain ⟨d0, d1, _, _⟩ := cells2 (H3.out.blk 3 rfl).1
      go_wp2_with fail
      clear b0 b1 d0 d1
      refine (free_no xs xg P3.out).mono ?_
      rintro e v4 ⟨rfl, k4⟩
      have H4 := Lib.hid (H3.out.kn k4)
      have P4 := Lib.hid (P3.out.kn k4)
      clear k4 H3 P3
      obtain ⟨b0, b1, _, _⟩ := cells2 (H4.out.blk 0 rfl).1
      obtain ⟨d0, d1, _, _⟩ := cells2 (H4.out.blk 3 rfl).1
      go_wp2_with fail
      clear b0 b1 d0 d1
      refine (slots_no P4.out).mono ?_
      rintro e v5 ⟨rfl, k5⟩
      have H5 := Lib.hid (H4.out.kn k5)
      have P5 := Lib.hid (P4.out.kn k5)
      clear k5 H4 P4
      obtain ⟨b0, b1, _, _⟩ := cells2 (H5.out.blk 0 rfl).1
      obtain ⟨d0, d1, _, _⟩ := cells2 (H5.out.blk 3 rfl).1
      go_wp2_with fail
      clear b0 b1 d0 d1
      refine (live_no P5.out).mono ?_
      rintro e v6 ⟨rfl, k6⟩
      have H6 := Lib.hid (H5.out.kn k6)
      have P6 := Lib.hid (P5.out.kn k6)
      clear k6 H5 P5
      obtain ⟨b0, b1, _, _⟩ := cells2 (H6.out.blk 0 rfl).1
      obtain ⟨d0, d1, _, _⟩ := cells2 (H6.out.blk 3 rfl).1
      go_wp2_with fail
      clear b0 b1 d0 d1
      refine (stale_no P6.out).mono ?_
      rintro e v7 ⟨rfl, k7⟩
      have H7 := Lib.hid (H6.out.kn k7)
      have P7 := Lib.hid (P6.out.kn k7)
      clear k7 H6 P6
      obtain ⟨b0, b1, _, _⟩ := cells2 (H7.out.blk 0 rfl).1
      obtain ⟨d0, d1, _, _⟩ := cells2 (H7.out.blk 3 rfl).1
      go_wp2_with fail
      clear b0 b1 d0 d1
      refine (clone_no P7.out).mono ?_
      rintro e v8 ⟨rfl, k8⟩
      have H8 := Lib.hid (H7.out.kn k8)
      have P8 := Lib.hid (P7.out.kn k8)
      clear k8 H7 P7
      obtain ⟨b0, b1, _, _⟩ := cells2 (H8.out.blk 0 rfl).1
      obtain ⟨d0, d1, _, _⟩ := cells2 (H8.out.blk 3 rfl).1
      go_wp2_with fail
      clear b0 b1 d0 d1
      refine (silent_no P8.out).mono ?_
      rintro e v9 ⟨rfl, k9⟩
      have H9 := Lib.hid (H8.out.kn k9)
      have P9 := Lib.hid (P8.out.kn k9)
      clear k9 H8 P8
      go_wp2
      go_roundw
      case rel => exact ⟨k + 1, by omega, by go_num, Lib.hid (One.drop (H9.out.perm (List.reverse_perm _).symm))⟩
      case measure => simp [intOf]; omega
    · go_wp2
      go_ret
      exact ⟨rfl, H0.out.old⟩
end Go.Proofs.Ythbiohfnnjbbgaa

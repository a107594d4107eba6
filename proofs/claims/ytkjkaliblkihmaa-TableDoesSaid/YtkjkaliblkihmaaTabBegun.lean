/- The mapping table: what each law begins with. -/
import Derived.Test.YtkjkaliblkihmaaTabOps
namespace Go.Proofs.Ytkjkaliblkihmaa
set_option linter.unusedVariables false
set_option linter.unusedSimpArgs false
open Go Go.RowKit

set_option maxRecDepth 100000 in
theorem begun_true (w : World) : Calls Try.prog 8 #[] w fun e w' => e = .returned (.bool true) ∧ KN w w' := by
  have hq : ∀ w, (binOp .eql 23 (hv (2, 1)) (hv (2, 1))).run Try.prog w = .ok (.bool true) w := fun w => by rw [run_eql_hv]; simp
  go_enter Try.func8, Try.ntmps8
  go_wp2_with fail
  refine (tab_new 2 (by omega) (by omega) w).mono ?_
  rintro e w1 ⟨t, rfl, hp⟩
  have HO := Lib.hid ((One.nil w).add hp)
  clear hp
  go_upto_region 5 with fail
  have HP := Lib.hid (HO.out.alloc2 (.cells #[.int .i64 1, .int .i64 1] 23) (.cells #[.int .i64 2, .int .i64 1] 23))
  clear HO
  generalize (w1.alloc (.cells #[.int .i64 1, .int .i64 1] 23)).alloc (.cells #[.int .i64 2, .int .i64 1] 23) = W at *
  generalize w1.heap.size = g at *
  obtain ⟨x0, x1, _, _⟩ := cells2 (HP.out.blk 1 rfl).1
  obtain ⟨y0, y1, _, _⟩ := cells2 (HP.out.blk 0 rfl).1
  go_wp2_with fail
  refine (HP.out.lift 2 rfl (fun F => tab_alloc (1, 1))).mono ?_
  rintro e w2 ⟨rfl, ho⟩
  have HO2 := Lib.hid (show One w w2 [Blk (g + 1) (.cells #[.int .i64 2, .int .i64 1] 23), Blk g (.cells #[.int .i64 1, .int .i64 1] 23), Tab t [(1, (1, 1)), (0, (0, 0))] 0] from ho)
  clear x0 x1 y0 y1 HP ho
  obtain ⟨x0, x1, _, _⟩ := cells2 (HO2.out.blk 1 rfl).1
  obtain ⟨y0, y1, _, _⟩ := cells2 (HO2.out.blk 0 rfl).1
  go_wp2_with fail
  refine (HO2.out.lift 2 rfl (fun F => tab_swap 0 (1, 1) (2, 1))).mono ?_
  rintro e w3 ⟨rfl, ho⟩
  have HO3 := Lib.hid (show One w w3 [Blk (g + 1) (.cells #[.int .i64 2, .int .i64 1] 23), Blk g (.cells #[.int .i64 1, .int .i64 1] 23), Tab t [(1, (2, 1)), (0, (0, 0))] 0] from ho)
  clear x0 x1 y0 y1 HO2 ho
  obtain ⟨y0, y1, _, _⟩ := cells2 (HO3.out.blk 0 rfl).1
  go_wp2_with fail
  refine (HO3.out.rd 2 rfl (fun F => tab_load 0)).mono ?_
  rintro e w4 ⟨rfl, hk⟩
  have HO4 := Lib.hid (HO3.out.kn hk)
  clear y0 y1 HO3 hk
  obtain ⟨y0, y1, _, _⟩ := cells2_al (HO4.out.blk 0 rfl).1
  have e4 : loadOf [(1, 2, 1), (0, 0, 0)] 0 = ((2, 1), 0) := rfl
  rw [e4]
  go_wp2_with fail
  go_ret
  exact ⟨rfl, HO4.out.old.alloc _⟩
end Go.Proofs.Ytkjkaliblkihmaa

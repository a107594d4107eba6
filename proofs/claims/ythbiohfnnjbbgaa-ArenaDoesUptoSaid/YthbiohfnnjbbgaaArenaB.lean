/- Arenas: begun. -/
import Derived.Test.YthbiohfnnjbbgaaArenaOS
namespace Go.Proofs.Ythbiohfnnjbbgaa
set_option linter.unusedVariables false
set_option linter.unusedSimpArgs false
open Go Go.RowKit

/-- A handle, as a value. -/
abbrev hv (h : Int × Int) : Value := .agg #[.int .i64 h.1, .int .i64 h.2]
theorem run_neq_hv (a b : Int × Int) (w : World) : (binOp .neq 30 (hv a) (hv b)).run Try.prog w = .ok (.bool (!decide (a = b))) w := by
  obtain ⟨a1, a2⟩ := a
  obtain ⟨b1, b2⟩ := b
  by_cases h1 : a1 = b1
  · by_cases h2 : a2 = b2
    · subst h1; subst h2; go_simp
    · have h3 : ¬ (a1, a2) = (b1, b2) := fun e => h2 (Prod.mk.inj e).2
      go_simp
  · have h3 : ¬ (a1, a2) = (b1, b2) := fun e => h1 (Prod.mk.inj e).1
    go_simp
theorem run_eql_hv (a b : Int × Int) (w : World) : (binOp .eql 30 (hv a) (hv b)).run Try.prog w = .ok (.bool (decide (a = b))) w := by
  obtain ⟨a1, a2⟩ := a
  obtain ⟨b1, b2⟩ := b
  by_cases h1 : a1 = b1
  · by_cases h2 : a2 = b2
    · subst h1; subst h2; go_simp
    · have h3 : ¬ (a1, a2) = (b1, b2) := fun e => h2 (Prod.mk.inj e).2
      go_simp
  · have h3 : ¬ (a1, a2) = (b1, b2) := fun e => h1 (Prod.mk.inj e).1
    go_simp
def sx : Slot ByteArray := ⟨⟨#[120]⟩, 1, true⟩
def sx0 : Slot ByteArray := ⟨⟨#[]⟩, 1, false⟩
def sy : Slot ByteArray := ⟨⟨#[121]⟩, 2, true⟩
set_option maxHeartbeats 2000000 in
theorem begun_true (w : World) : Calls Try.prog 8 #[] w fun e w' => e = .returned (.bool true) ∧ KN w w' := by
  go_enter Try.func8, Try.ntmps8
  go_wp2_with fail
  refine (new_S 1 (by decide) (by decide) w).mono ?_
  rintro e w1 ⟨t, rfl, hp⟩
  have HO := Lib.hid (show One w w1 [ArS t [zS] 0] from (One.nil w).add hp)
  clear hp
  go_wp2_with fail
  refine (show Calls Try.prog 14 #[.pointer (some ⟨t, 0, none⟩), .string ⟨#[120]⟩] w1 (fun e w' => e = .returned (.tuple #[.agg #[.int .i64 0, .int .i64 1], .int .i64 0]) ∧ One w w' [ArS t [sx] 0]) from HO.out.lift 0 rfl (fun F h => put_ok_S h (i := 0) (fr := []) (s := zS) rfl rfl (by decide) (by decide) ⟨#[120]⟩)).mono ?_
  rintro e w2 ⟨rfl, ho⟩
  have HO2 := Lib.hid (show One w w2 [ArS t [sx] 0] from ho)
  clear HO ho
  go_upto_region 5 with fail
  have HO3 := Lib.hid (HO2.out.alloc (.cells #[.int .i64 0, .int .i64 1] 30))
  clear HO2
  generalize hgen : w2.alloc _ = w3 at *
  clear hgen
  generalize w2.heap.size = g at *
  obtain ⟨x0, x1, _, _⟩ := cells2 (HO3.out.blk 0 rfl).1
  have hne : ∀ w, (binOp .neq 30 (.agg #[.int .i64 0, .int .i64 1]) (.agg #[.int .i64 0, .int .i64 1])).run Try.prog w = .ok (.bool false) w := fun w => run_neq_hv (0, 1) (0, 1) w
  go_wp2_with fail
  refine (show Calls Try.prog 15 #[.pointer (some ⟨t, 0, none⟩), .agg #[.int .i64 0, .int .i64 1]] w3 (fun e w' => e = .returned (.int .i64 0) ∧ One w w' [Blk g (.cells #[.int .i64 0, .int .i64 1] 30), ArS t [sx0] 0]) from HO3.out.lift 1 rfl (fun F h => free_good_S h (i := 0) (s := sx) rfl rfl (by decide))).mono ?_
  rintro e w4 ⟨rfl, ho⟩
  have HO4 := Lib.hid (One.drop (show One w w4 [Blk g (.cells #[.int .i64 0, .int .i64 1] 30), ArS t [sx0] 0] from ho))
  clear HO3 ho x0 x1 hne
  go_wp2_with fail
  refine (show Calls Try.prog 14 #[.pointer (some ⟨t, 0, none⟩), .string ⟨#[121]⟩] w4 (fun e w' => e = .returned (.tuple #[.agg #[.int .i64 0, .int .i64 2], .int .i64 0]) ∧ One w w' [ArS t [sy] 0]) from HO4.out.lift 0 rfl (fun F h => put_ok_S h (i := 0) (fr := []) (s := sx0) rfl rfl (by decide) (by decide) ⟨#[121]⟩)).mono ?_
  rintro e w5 ⟨rfl, ho⟩
  have HO5 := Lib.hid (show One w w5 [ArS t [sy] 0] from ho)
  clear HO4 ho
  go_upto_region 8 with fail
  have HO6 := Lib.hid (HO5.out.alloc (.cells #[.int .i64 0, .int .i64 2] 30))
  clear HO5
  generalize hgen : w5.alloc _ = w6 at *
  clear hgen
  generalize w5.heap.size = g at *
  obtain ⟨x0, x1, _, _⟩ := cells2 (HO6.out.blk 0 rfl).1
  go_wp2_with fail
  refine (show Calls Try.prog 17 #[.pointer (some ⟨t, 0, none⟩), .agg #[.int .i64 0, .int .i64 2]] w6 (fun e w' => e = .returned (.tuple #[.string ⟨#[121]⟩, .int .i64 0]) ∧ KN w6 w') from HO6.out.rd 1 rfl (fun F h => get_good_S h (i := 0) (s := sy) rfl rfl)).mono ?_
  rintro e w7 ⟨rfl, hk⟩
  have HO7 := Lib.hid (HO6.out.kn hk)
  obtain ⟨y0, y1, _, _⟩ := cells2 (HO7.out.blk 0 rfl).1
  clear hk x0 x1
  go_wp2_with fail
  go_ret
  exact ⟨rfl, HO7.out.old⟩
end Go.Proofs.Ythbiohfnnjbbgaa

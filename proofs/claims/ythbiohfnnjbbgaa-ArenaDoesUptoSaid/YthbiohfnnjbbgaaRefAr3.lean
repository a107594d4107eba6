/- The reference's arena: New. -/
import Derived.Test.YthbiohfnnjbbgaaRefAr2
import Derived.Test.YthbiohfnnjbbgaaArenaPS
import Derived.Test.YthbiohfnnjbbgaaHandL
namespace Go.Proofs.Ythbiohfnnjbbgaa
set_option linter.unusedVariables false
set_option linter.unusedSimpArgs false
open Go Go.RowKit

theorem elt_Bo : Elt Try.prog 87 4 (.bool false) 1 1 := ⟨Try.underlying87, by kernel_rfl, rfl, by decide⟩
theorem elt_Lo : Elt Try.prog 88 2 (.int .i64 0) 1 8 := ⟨Try.underlying88, by kernel_rfl, rfl, by decide⟩
theorem made_one (v : Value) (n : Nat) : madeCells #[v] n = (List.replicate n v).toArray := by
  apply Array.toList_inj.1
  rw [toList_madeCells_one]
theorem rf_made {w w' : World} {t g k s n : Nat} (h : One w w' [Blk t (.cells #[.slice (some ⟨g, 0, none⟩) n n, .slice (some ⟨k, 0, none⟩) n n, .slice (some ⟨s, 0, none⟩) n n, .int .i64 0] 90), Blk g (.cells (madeCells #[.bool false] n) 4), Blk k (.cells (madeCells #[.int .i64 0] n) 2), Blk s (.cells (madeCells #[.string (ByteArray.mk #[])] n) 9)]) :
    Post (RfA t (List.replicate n zS) 0) (fun _ => False) w w' := by
  have e1 : bArr (List.replicate n zS) = madeCells #[.bool false] n := by rw [made_one]; simp [bArr, zS]
  have e2 : gArr (List.replicate n zS) = madeCells #[.int .i64 0] n := by rw [made_one]; simp [gArr, zS]
  have e3 : hArr (List.replicate n zS) = madeCells #[.string (ByteArray.mk #[])] n := by rw [made_one]; simp [hArr, zS]
  have e4 : (List.replicate n zS).length = n := by simp
  have h5 := (One.all (l1 := [_, _, _, _]) (l2 := [])).1 h
  refine (h5.post 0 rfl).imp fun F' h' => ⟨g, k, s, ?_⟩
  unfold RfL rfO
  rw [e1, e2, e3, e4]
  exact h'
def GaveNewR (n : Nat) (w : World) : Ending → World → Prop := fun e w' => ∃ t : Nat, e = .returned (.tuple #[.pointer (some ⟨t, 0, none⟩), .int .i64 0]) ∧ Post (RfA t (List.replicate n zS) 0) (fun _ => False) w w'
set_option maxHeartbeats 4000000 in
theorem new_r (n : Nat) (h0 : 1 ≤ n) (h1 : n ≤ 65536) (w : World) : Calls Try.prog 20 #[.int .i64 (n : Int)] w (GaveNewR n w) := by
  have hmk := fun w => run_mk (w := w) elt_Bo n (by omega) (by omega)
  have hmk2 := fun w => run_mk (w := w) elt_Lo n (by omega) (by omega)
  have hmk3 := fun w => run_mk (w := w) elt_Tx n (by omega) (by omega)
  have h2 : ¬ (n : Int) < 1 := by omega
  have h3 : ¬ 65536 < (n : Int) := by omega
  go_enter Try.func20, Try.ntmps20
  go_upto_region 3 with fail
  go_region
  all_goals
    go_wp2_with fail
    go_ret2
    first
      | exact ⟨_, rfl, rf_made (((One.al4 (One.nil w) _ _ _ _).kn (Kp.refl _ _).drew).perm (.cons _ (perm4 _ _ _)))⟩
      | exact ⟨_, rfl, rf_made (((One.al4 (One.nil w) _ _ _ _).kn (Kp.refl _ _).drew).perm (.cons _ (.refl _)))⟩
      | exact ⟨_, rfl, rf_made (((One.al4 (One.nil w) _ _ _ _).kn (Kp.refl _ _).drew).perm (.cons _ (.swap _ _ _)))⟩
      | exact ⟨_, rfl, rf_made (((One.al4 (One.nil w) _ _ _ _).kn (Kp.refl _ _).drew).perm (.cons _ (.cons _ (.swap _ _ _))))⟩
      | exact ⟨_, rfl, rf_made (((One.al4 (One.nil w) _ _ _ _).kn (Kp.refl _ _).drew).perm (.cons _ (perm5 _ _ _)))⟩
      | exact ⟨_, rfl, rf_made (((One.al4 (One.nil w) _ _ _ _).kn (Kp.refl _ _).drew).perm (.cons _ (perm6 _ _ _)))⟩
theorem new_bad_r (n : Int) (h : n < 1 ∨ 65536 < n) (w : World) : Calls Try.prog 20 #[.int .i64 n] w fun e w' => e = .returned (.tuple #[.pointer none, .int .i64 1]) ∧ w = w' := by
  have h1 : n < 1 ∨ (¬ n < 1 ∧ 65536 < n) := by omega
  rcases h1 with h1 | ⟨h1, h2⟩
  all_goals
    go_enter Try.func20, Try.ntmps20
    go_wp2
    go_ret2
    exact ⟨rfl, rfl⟩
end Go.Proofs.Ythbiohfnnjbbgaa

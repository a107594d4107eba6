/- Epochs: New as an epoch; begun. -/
import Derived.Test.YtghmgmchfcbodaaEpochV
import Derived.BigQuiet
import Derived.Deep.DeepCutAuto
import Derived.Deep.DrawnRows
namespace Go.Proofs.Ytghmgmchfcbodaa
set_option linter.unusedVariables false
set_option linter.unusedSimpArgs false
open Go Go.RowKit

def ep0 : Eps := ⟨1, List.replicate 17 0, [[], [], []]⟩
theorem fit0 : ep0.Fit := ⟨by decide, by decide, by decide, by decide, by intro x hx; rw [List.eq_of_mem_replicate hx]; decide⟩
theorem new_a (w : World) : Calls Try.prog 8 #[] w fun e w' => ∃ b, e = .returned (.pointer (some ⟨b, 0, none⟩)) ∧ Post (EpA b ep0) (fun _ => False) w w' := by
  refine (new_ep w).mono ?_
  rintro e w' ⟨b, ps, rfl, h17, hp⟩
  exact ⟨b, rfl, hp.imp fun F' h' => ⟨ps, [nilL, nilL, nilL], h17, rfl, h'⟩⟩
def eqRe (a b : Re) : Bool := a.kind == b.kind && (a.handle.slot == b.handle.slot && a.handle.gen == b.handle.gen)
theorem eqRe_iff {a b : Re} : eqRe a b = true ↔ a = b := by
  obtain ⟨k, ⟨s, g⟩⟩ := a
  obtain ⟨k', ⟨s', g'⟩⟩ := b
  simp [eqRe]
theorem run_eql_ren (a b : Re) (w : World) : (binOp .eql 31 (ren a) (ren b)).run Try.prog w = .ok (.bool (eqRe a b)) w := by
  obtain ⟨k, ⟨s, g⟩⟩ := a
  obtain ⟨k', ⟨s', g'⟩⟩ := b
  unfold eqRe
  by_cases h1 : k = k'
  · by_cases h2 : s = s'
    · by_cases h3 : g = g'
      · subst h1; subst h2; subst h3; go_simp
      · have e3 : (g == g') = false := beq_false_of_ne h3
        go_simp
    · have e2 : (s == s') = false := beq_false_of_ne h2
      go_simp
  · have e1 : (k == k') = false := beq_false_of_ne h1
    go_simp
theorem run_neq_ren (a b : Re) (w : World) : (binOp .neq 31 (ren a) (ren b)).run Try.prog w = .ok (.bool (!eqRe a b)) w := by
  obtain ⟨k, ⟨s, g⟩⟩ := a
  obtain ⟨k', ⟨s', g'⟩⟩ := b
  unfold eqRe
  by_cases h1 : k = k'
  · by_cases h2 : s = s'
    · by_cases h3 : g = g'
      · subst h1; subst h2; subst h3; go_simp
      · have e3 : (g == g') = false := beq_false_of_ne h3
        go_simp
    · have e2 : (s == s') = false := beq_false_of_ne h2
      go_simp
  · have e1 : (k == k') = false := beq_false_of_ne h1
    go_simp
theorem rd3 {w : World} {a : Option Addr} {l : List Re} (h : Rd Re.enc 3 w a l) {i : Nat} {x : Re} (hx : l[i]? = some x) : ∃ b off, a = some ⟨b, off, none⟩ ∧ b < w.heap.size ∧
    w.cell? ⟨b, off + i * 3, none⟩ = some (.int .i64 x.kind) ∧ w.cell? ⟨b, off + i * 3 + 1, none⟩ = some (.int .i64 x.handle.slot) ∧ w.cell? ⟨b, off + i * 3 + 2, none⟩ = some (.int .i64 x.handle.gen) := by
  obtain ⟨b, off, ha, hb, hc⟩ := h.at hx
  exact ⟨b, off, ha, hb, hc 0 (by omega), hc 1 (by omega), hc 2 (by omega)⟩
/-- Advance of what is owned. -/
theorem One.adv {w0 w : World} {A : List Asr} (h : One w0 w A) (i : Nat) {b : Nat} {σ : Eps} (hi : A[i]? = some (EpA b σ)) (hf : σ.Fit) : Calls Try.prog 13 #[.pointer (some ⟨b, 0, none⟩)] w fun e w' => ∃ a cap, e = .returned (.tuple #[.slice a σ.advance.2.1.length cap, .int .i64 σ.advance.2.2]) ∧
    One w0 w' (A.set i (All [EpA b σ.advance.1, RowA 31 3 (.slice a σ.advance.2.1.length cap) σ.advance.2.1.length (σ.advance.2.1.flatMap Re.enc)])) := by
  obtain ⟨F, h1, _, hup⟩ := h.get i hi
  refine (advance_a h1 hf).mono ?_
  rintro e w' ⟨a, cap, he, hp⟩
  exact ⟨a, cap, he, hup hp⟩
theorem One.flat {w0 w : World} {A B : List Asr} (h : One w0 w (All A :: B)) : One w0 w (A ++ B) := One.all.2 h
def x1 : Re := ⟨1, ⟨2, 3⟩⟩
def ep1 : Eps := ⟨1, List.replicate 17 0, [[], [x1], []]⟩
def ep2 : Eps := ⟨2, List.replicate 17 0, [[], [x1], []]⟩
def ep3 : Eps := ⟨3, List.replicate 17 0, [[], [], []]⟩
theorem fit1 : ep1.Fit := ⟨by decide, by decide, by decide, by decide, by intro x hx; rw [List.eq_of_mem_replicate hx]; decide⟩
theorem fit2 : ep2.Fit := ⟨by decide, by decide, by decide, by decide, by intro x hx; rw [List.eq_of_mem_replicate hx]; decide⟩
theorem fit3 : ep3.Fit := ⟨by decide, by decide, by decide, by decide, by intro x hx; rw [List.eq_of_mem_replicate hx]; decide⟩
theorem adv1 : ep1.advance = (ep2, [], 0) := by rfl
theorem adv2 : ep2.advance = (ep3, [x1], 0) := by rfl
theorem ret0 : ep0.retire x1 = ep1 := by rfl
set_option maxHeartbeats 2000000 in
theorem begun_true (w : World) : Calls Try.prog 9 #[] w fun e w' => e = .returned (.bool true) ∧ KN w w' := by
  go_enter Try.func9, Try.ntmps9
  go_wp2_with fail
  refine (new_a w).mono ?_
  rintro e w1 ⟨b, rfl, hp⟩
  have HO := Lib.hid ((One.nil w).add hp)
  clear hp
  go_upto_region 3 with fail
  have HP := Lib.hid (HO.out.alloc (.cells #[.int .i64 1, .int .i64 2, .int .i64 3] 31))
  clear HO
  generalize w1.heap.size = g at *
  generalize w1.alloc (.cells #[.int .i64 1, .int .i64 2, .int .i64 3] 31) = W at *
  obtain ⟨x0, x1', x2, _⟩ := cells3 (HP.out.blk 0 rfl).1
  go_wp2_with fail
  refine (HP.out.rd 1 rfl (fun F h => now_a h fit0)).mono ?_
  rintro e w2 ⟨rfl, hk⟩
  subst hk
  go_wp2_with fail
  refine (HP.out.lift 1 rfl (fun F h => retire_a h fit0 x1 (by decide))).mono ?_
  rintro e w2 ⟨rfl, ho⟩
  rw [ret0] at ho
  have HO2 := Lib.hid (show One w w2 [Blk g (.cells #[.int .i64 1, .int .i64 2, .int .i64 3] 31), EpA b ep1] from ho)
  clear x0 x1' x2 HP ho
  go_wp2_with fail
  refine (HO2.out.adv 1 rfl fit1).mono ?_
  rintro e w3 ⟨a3, c3, rfl, ho⟩
  rw [adv1] at ho ⊢
  have HO3 := Lib.hid (One.flat (ho.perm (List.Perm.swap _ _ _)))
  clear HO2 ho
  go_wp2_with fail
  refine (HO3.out.adv 0 rfl fit2).mono ?_
  rintro e w4 ⟨a4, c4, rfl, ho⟩
  rw [adv2] at ho ⊢
  have HO4 := Lib.hid (One.flat ho)
  clear HO3 ho
  go_wp2_with fail
  have HN := Lib.hid (fun n => (HO4.out.kn ((Kp.refl _ _).drewN n)).rd 0 rfl (fun F h => now_a h fit3))
  obtain ⟨y0, y1, y2, _⟩ := cells3 (HO4.out.blk 3 rfl).1
  obtain ⟨F1, hr, _⟩ := HO4.out.get 1 rfl
  obtain ⟨a5, c5, hv, hc, hrd⟩ := Rl.of_row (l := [x1]) enc3 rfl hr
  obtain ⟨b5, o5, ha, hb5, z0, z1, z2⟩ := rd3 hrd (i := 0) rfl
  injection hv with e1 e2 e3
  subst e1
  subst e3
  subst ha
  simp only [Nat.zero_mul, Nat.add_zero] at z0 z1 z2
  have hq : ∀ w, (binOp .eql 31 (.agg #[.int .i64 1, .int .i64 2, .int .i64 3]) (.agg #[.int .i64 1, .int .i64 2, .int .i64 3])).run Try.prog w = .ok (.bool true) w := fun w => run_eql_ren ⟨1, ⟨2, 3⟩⟩ ⟨1, ⟨2, 3⟩⟩ w
  have z0' : w4.cell? ⟨b5, o5, none⟩ = some (.int .i64 1) := z0
  have z1' : w4.cell? ⟨b5, o5 + 1, none⟩ = some (.int .i64 2) := z1
  have z2' : w4.cell? ⟨b5, o5 + 2, none⟩ = some (.int .i64 3) := z2
  clear z0 z1 z2 hr hrd
  go_quiet ((go_at_call 19; exact quiet_l (HN.out _)))
  go_wp2_with fail
  go_ret
  exact ⟨rfl, HO4.out.old.drewN _⟩
end Go.Proofs.Ytghmgmchfcbodaa

/- EpochDoes: a step. -/
import Derived.Test.YtghmgmchfcbodaaDoesLaw
import Derived.Test.YtghmgmchfcbodaaEpochC
import Derived.Test.YtghmgmchfcbodaaSameRe
import Derived.Deep.RegionHeld3
import Derived.Deep.CutBlock
namespace Go.Proofs.Ytghmgmchfcbodaa
set_option linter.unusedVariables false
set_option linter.unusedSimpArgs false
open Go Go.RowKit

theorem One.advR {w0 w : World} {A : List Asr} {b : Nat} {ρ : Rps} (h : One w0 w (ReA b ρ :: A)) (hf : ρ.Fit) (hb : ρ.limbo.length ≤ 9000000) : Calls Try.prog 33 #[.pointer (some ⟨b, 0, none⟩)] w fun e w' => ∃ a cap, e = .returned (.tuple #[.slice a ρ.advance.2.1.length cap, .int .i64 ρ.advance.2.2]) ∧
    One w0 w' (ReA b ρ.advance.1 :: RowA 31 3 (.slice a ρ.advance.2.1.length cap) ρ.advance.2.1.length (ρ.advance.2.1.flatMap Re.enc) :: A) := by
  obtain ⟨F, h1, _, hup⟩ := h.get 0 rfl
  refine (advance_r h1 hf hb).mono ?_
  rintro e w' ⟨a, cap, he, hp⟩
  exact ⟨a, cap, he, One.flat (hup hp)⟩
/-- What a step gives. -/
def GaveStep (k : Nat) (w0 : World) (u : Nat) (e : Ending) (w' : World) : Prop :=
  ∃ t σ ρ, e = .returned (.tuple #[.pointer (some ⟨t, 0, none⟩), .bool true]) ∧ Sim k σ ρ ∧ One w0 w' [EpA t σ, ReA u ρ]
set_option maxRecDepth 100000 in
set_option maxHeartbeats 8000000 in
theorem step_e {w0 W : World} {t u k : Nat} {σ : Eps} {ρ : Rps} (h : One w0 W [EpA t σ, ReA u ρ]) (hs : Sim k σ ρ) (hk : k ≤ 1048576) (o : Op6) :
    Calls Try.prog 21 #[.pointer (some ⟨t, 0, none⟩), .pointer (some ⟨u, 0, none⟩), .agg #[.int .i64 o.do_, .int .i64 o.s, .int .i64 o.what.kind, .int .i64 o.what.handle.slot, .int .i64 o.what.handle.gen]] W (GaveStep (k + 1) w0 u) := by
  obtain ⟨d, s, ⟨xk, ⟨xl, xg⟩⟩⟩ := o
  have HO := Lib.hid ((h.alloc (opB d s xk xl xg)))
  have HS := Lib.hid hs
  clear h hs
  show Calls Try.prog 21 #[.pointer (some ⟨t, 0, none⟩), .pointer (some ⟨u, 0, none⟩), .agg #[.int .i64 d, .int .i64 s, .int .i64 xk, .int .i64 xl, .int .i64 xg]] W (GaveStep (k + 1) w0 u)
  go_enter Try.func21, Try.ntmps21
  go_upto_block 0 with fail
  generalize W.alloc (opB d s xk xl xg) = W1 at *
  generalize W.heap.size = g at *
  obtain ⟨c0, c1, c2, c3, c4⟩ := cells5o (HO.out.blk 0 rfl).1
  have hfit := HS.out.good.fit
  have hrf := HS.out.rfit
  by_cases hd0 : d = 0
  · subst hd0
    obtain ⟨he, h2⟩ := sim_pin HS.out s
    have HE := Lib.hid he
    have HS2 := Lib.hid h2
    clear he h2
    go_wp2_with fail
    go_region_held3 (fun w' => w'.cell? ⟨g, 1, none⟩ = some (.int .i64 s)) (first | (with_reducible exact s1) | (with_reducible exact s2) | go_keep)
      (first
        | (go_at_call 10; refine ((HO.out.kn (Kp.refl _ _).drew).lift 1 rfl (fun F h => pin_a h hfit s)).mono ?_; rintro e w5 ⟨rfl, ho⟩; have HO5 := Lib.hid ho; obtain ⟨_, s1, _⟩ := cells5o (HO5.out.blk 0 rfl).1; clear ho)
        | (go_at_call 30; refine (HO5.out.lift 2 rfl (fun F h => pin_r h hrf s)).mono ?_; rw [HE.out]; rintro e w6 ⟨rfl, ho⟩; have HO6 := Lib.hid ho.drop; obtain ⟨_, s2, _⟩ := cells5o (ho.blk 0 rfl).1; clear ho))
    go_wp2
    go_ret2
    exact ⟨t, _, _, rfl, HS2.out, HO6.out⟩
  by_cases hd1 : d = 1
  · subst hd1
    obtain ⟨he, h2⟩ := sim_unpin HS.out s
    have HE := Lib.hid he
    have HS2 := Lib.hid h2
    clear he h2
    go_wp2_with fail
    go_region_held3 (fun w' => w'.cell? ⟨g, 1, none⟩ = some (.int .i64 s)) (first | (with_reducible exact s1) | (with_reducible exact s2) | go_keep)
      (first
        | (go_at_call 11; refine ((HO.out.kn (Kp.refl _ _).drew).lift 1 rfl (fun F h => unpin_a h hfit s)).mono ?_; rintro e w5 ⟨rfl, ho⟩; have HO5 := Lib.hid ho; obtain ⟨_, s1, _⟩ := cells5o (HO5.out.blk 0 rfl).1; clear ho)
        | (go_at_call 31; refine (HO5.out.lift 2 rfl (fun F h => unpin_r h hrf s)).mono ?_; rw [HE.out]; rintro e w6 ⟨rfl, ho⟩; have HO6 := Lib.hid ho.drop; obtain ⟨_, s2, _⟩ := cells5o (ho.blk 0 rfl).1; clear ho))
    go_wp2
    go_ret2
    exact ⟨t, _, _, rfl, HS2.out, HO6.out⟩
  by_cases hd2 : d = 2
  · subst hd2
    have hb2 : ((σ.row (σ.now % 3)).length + 1) * 24 ≤ 140737488355328 := by have := HS.out.good.row (σ.now % 3); omega
    have hbr : ρ.limbo.length ≤ 9000000 := by have := HS.out.len; rw [HS.out.limbo]; omega
    have HS2 := Lib.hid (sim_retire HS.out ⟨xk, ⟨xl, xg⟩⟩)
    go_wp2_with fail
    go_region_held3 (fun w' => w'.cell? ⟨g, 2, none⟩ = some (.int .i64 xk) ∧ w'.cell? ⟨g, 3, none⟩ = some (.int .i64 xl) ∧ w'.cell? ⟨g, 4, none⟩ = some (.int .i64 xg)) (first | (with_reducible exact s1) | (with_reducible exact s2) | go_keep)
      (first
        | (go_at_call 12; refine ((HO.out.kn (Kp.refl _ _).drew).lift 1 rfl (fun F h => retire_a h hfit ⟨xk, ⟨xl, xg⟩⟩ hb2)).mono ?_; rintro e w5 ⟨rfl, ho⟩; have HO5 := Lib.hid ho; have s1 := (cells5o (HO5.out.blk 0 rfl).1).2.2; clear ho)
        | (go_at_call 32; refine (HO5.out.lift 2 rfl (fun F h => retire_r h hrf ⟨xk, ⟨xl, xg⟩⟩ hbr)).mono ?_; rintro e w6 ⟨rfl, ho⟩; have HO6 := Lib.hid ho.drop; have s2 := (cells5o (ho.blk 0 rfl).1).2.2; clear ho))
    go_wp2
    go_ret2
    exact ⟨t, _, _, rfl, HS2.out, HO6.out⟩
  by_cases hd4 : d = 4
  · subst hd4
    have hb2 : ((σ.row (σ.now % 3)).length + 1) * 24 ≤ 140737488355328 := by have := HS.out.good.row (σ.now % 3); omega
    have HLn := Lib.hid (show ∀ j, (σ.row j).length ≤ 9000000 from fun j => by have := HS.out.good.row j; omega)
    have HG1 := Lib.hid (good_retire HS.out.good ⟨xk, ⟨xl, xg⟩⟩)
    go_wp2_with fail
    obtain ⟨F1, he1, _⟩ := HO.out.get 1 rfl
    refine (clone_a he1 hfit HLn.out).mono ?_
    clear he1
    rintro e w5 ⟨t2, rfl, hp⟩
    have HO5 := Lib.hid ((HO.out.add hp).perm (List.Perm.swap _ _ _))
    clear hp HO c0 c1 c2 c3 c4
    obtain ⟨c0, c1, c2, c3, c4⟩ := cells5o (HO5.out.blk 0 rfl).1
    go_wp2_with fail
    refine (HO5.out.lift 2 rfl (fun F h => retire_a h hfit ⟨xk, ⟨xl, xg⟩⟩ hb2)).mono ?_
    rintro e w6 ⟨rfl, ho⟩
    have HO6 := Lib.hid (show One w0 w6 [Blk g (opB 4 s xk xl xg), EpA t2 σ, EpA t (σ.retire ⟨xk, ⟨xl, xg⟩⟩), ReA u ρ] from ho)
    clear ho HO5 c0 c1 c2 c3 c4
    generalize σ.retire ⟨xk, ⟨xl, xg⟩⟩ = σ3 at *
    have HG2 := Lib.hid (good_advance HG1.out (by omega))
    go_wp2_with fail
    refine ((HO6.out.perm ((List.Perm.cons _ (List.Perm.swap _ _ _)).trans (List.Perm.swap _ _ _))).adv' HG1.out.fit).mono ?_
    rintro e w7 ⟨a7, c7, rfl, ho⟩
    have HO7 := Lib.hid ((One.out ho).perm (List.Perm.swap _ _ _))
    clear ho HO6
    generalize σ3.advance = av at *
    obtain ⟨σ4, l4, f4⟩ := av
    simp only at HO7 HG2
    obtain ⟨c0, c1, c2, c3, c4⟩ := cells5o (HO7.out.blk 0 rfl).1
    go_wp2_with fail
    refine (HO7.out.lift 1 rfl (fun F h => pin_a h HG2.out.fit s)).mono ?_
    rintro e w8 ⟨rfl, ho⟩
    have HO8 := Lib.hid (ho.drop.drop)
    clear ho HO7 c0 c1 c2 c3 c4
    generalize σ4.pin s = pv at *
    obtain ⟨σ5, f5⟩ := pv
    go_wp2
    go_ret2
    exact ⟨t2, σ, ρ, rfl, sim_mono HS.out (by omega), HO8.out⟩
  have b0 : (d == 0) = false := beq_false_of_ne hd0
  have b1 : (d == 1) = false := beq_false_of_ne hd1
  have b2 : (d == 2) = false := beq_false_of_ne hd2
  have b4 : (d == 4) = false := beq_false_of_ne hd4
  obtain ⟨he, h2⟩ := sim_adv HS.out (by omega)
  have hbr : ρ.limbo.length ≤ 9000000 := by have := HS.out.len; rw [HS.out.limbo]; omega
  have hln : σ.advance.2.1.length ≤ 1048576 := by
    unfold Eps.advance
    split
    · simp
    · have := HS.out.good.row ((σ.now + 2) % 3)
      show (σ.row ((σ.now + 2) % 3)).length ≤ _
      omega
  have HE := Lib.hid he
  have HS2 := Lib.hid h2
  clear he h2
  go_wp2_with fail
  refine ((HO.out.perm (List.Perm.swap _ _ _)).adv' hfit).mono ?_
  rintro e w5 ⟨a5, c5, rfl, ho⟩
  have HO5 := Lib.hid (ho.perm (List.reverse_perm _).symm)
  clear ho HO c0 c1 c2 c3 c4
  go_wp2_with fail
  refine (HO5.out.advR hrf hbr).mono ?_
  rw [HE.out]
  rintro e w6 ⟨a6, c6, rfl, ho⟩
  have HO6 := Lib.hid ho
  clear ho HO5 HE
  generalize σ.advance = av at *
  obtain ⟨σ2, l2, f2⟩ := av
  generalize ρ.advance.1 = ρ2 at *
  simp only at HO6 HS2 hln
  have HO7 := Lib.hid (show One w0 w6 [ReA u ρ2, RowA 31 3 (.slice a6 l2.length c6) l2.length (l2.flatMap Re.enc), Blk g (opB d s xk xl xg), RowA 31 3 (.slice a5 l2.length c5) l2.length (l2.flatMap Re.enc), EpA t σ2] from HO6.out)
  clear HO6
  obtain ⟨F6, hr6, _⟩ := HO7.out.get 1 rfl
  obtain ⟨F5, hr5, _⟩ := HO7.out.get 3 rfl
  have R6 := Lib.hid (Rl.of_row (l := l2) enc3 rfl hr6)
  have R5 := Lib.hid (Rl.of_row (l := l2) enc3 rfl hr5)
  clear hr6 hr5
  go_wp2_with fail
  go_loopw [81] (fun s wq => ∃ j : Nat, j ≤ l2.length ∧ s = .int .i64 j ∧ Hid (KN w6 wq)) (fun s _ => l2.length - (intOf s).toNat)
  case atStart => exact ⟨0, Nat.zero_le _, rfl, Lib.hid (Kp.refl _ _)⟩
  case round =>
    obtain ⟨j, hj, rfl, HK⟩ := hrel
    by_cases hlt : j < l2.length
    · obtain ⟨x, hx⟩ : ∃ x, l2[j]? = some x := ⟨_, List.getElem?_eq_getElem hlt⟩
      obtain ⟨a8, c8, hv8, _, r8⟩ := R5.out.kn HK.out
      obtain ⟨a9, c9, hv9, _, r9⟩ := R6.out.kn HK.out
      injection hv8 with e1 e2 e3
      injection hv9 with e4 e5 e6
      subst e1
      subst e3
      subst e4
      subst e6
      obtain ⟨z1, o1, rfl, _, p0, p1, p2⟩ := rd3 r8 hx
      obtain ⟨z2, o2, rfl, _, q0, q1, q2⟩ := rd3 r9 hx
      obtain ⟨yk, ⟨yl, yg⟩⟩ := x
      simp only at p0 p1 p2 q0 q1 q2
      clear r8 r9 hx e2 e5
      have hne : ∀ w, (binOp .neq 31 (.agg #[.int .i64 yk, .int .i64 yl, .int .i64 yg]) (.agg #[.int .i64 yk, .int .i64 yl, .int .i64 yg])).run Try.prog w = .ok (.bool false) w := fun w => by
        have := run_neq_ren ⟨yk, ⟨yl, yg⟩⟩ ⟨yk, ⟨yl, yg⟩⟩ w
        rw [eqRe_iff.2 rfl] at this
        exact this
      have hz : (j : Int) < (l2.length : Int) := by omega
      go_wp2_with fail
      go_quiet (fail)
      go_wp2_with fail
      go_roundw
      case rel => exact ⟨j + 1, by omega, by go_num, Lib.hid (HK.out.drewN _)⟩
      case measure => simp [intOf]; omega
    · obtain rfl : j = l2.length := by omega
      have HSm := Lib.hid (same_re (R5.out.kn HK.out) (R6.out.kn HK.out) (by unfold maxLen; omega))
      have HOf := Lib.hid (HO7.out.kn HK.out)
      go_wp2_with fail
      refine HSm.out.mono ?_
      rintro e w7 ⟨rfl, hk7⟩
      have HO8 := Lib.hid (HOf.out.kn hk7)
      clear hk7
      go_wp2_with fail
      go_ret2
      refine ⟨t, σ2, ρ2, rfl, HS2.out, ?_⟩
      exact (((HO8.out.perm (List.reverse_perm _).symm).out.out.out))
end Go.Proofs.Ytghmgmchfcbodaa

/- EpochAges: its walk. -/
import Derived.Test.YtghmgmchfcbodaaEpochG
import Derived.Deep.CutBlock
namespace Go.Proofs.Ytghmgmchfcbodaa
set_option linter.unusedVariables false
set_option linter.unusedSimpArgs false
open Go Go.RowKit

def runTo (l : List Op6) (k : Nat) : Eps := (l.take k).foldl step4 ep0
theorem run_step (l : List Op6) {k : Nat} {o : Op6} (hx : l[k]? = some o) : runTo l (k + 1) = step4 (runTo l k) o := by
  unfold runTo
  rw [List.take_add_one, hx, List.foldl_append]
  rfl
theorem good_run (l : List Op6) (hl : l.length ≤ 1048576) : ∀ k, k ≤ l.length → Good k (runTo l k)
  | 0, _ => good0
  | k + 1, hk => by
    rw [run_step l (List.getElem?_eq_getElem (by omega))]
    exact good_step (good_run l hl k (by omega)) (by omega) _
set_option maxRecDepth 100000 in
set_option maxHeartbeats 4000000 in
theorem ages_walk (a : Option Addr) (cap : Nat) (l : List Op6) (w : World) (hl : l.length ≤ 1048576) (hr : Rd Op6.enc 5 w a l) :
    Calls Try.prog 4 #[.slice a l.length cap] w fun e w' => e = .returned (.bool true) ∧ KN w w' := by
  have HR := Lib.hid hr
  clear hr
  go_enter Try.func4, Try.ntmps4
  go_wp2_with fail
  refine (new_a _).mono ?_
  rintro e w1 ⟨t, rfl, hp1⟩
  have HO := Lib.hid ((One.nil w).add hp1)
  clear hp1
  go_wp2_with fail
  refine (begun_true _).mono ?_
  rintro e w2 ⟨rfl, hk⟩
  have HO2 := Lib.hid (HO.out.kn hk)
  clear HO hk
  go_wp2_with fail
  go_loopw [15] (fun i wr => ∃ k : Nat, k ≤ l.length ∧ i = .int .i64 k ∧ Hid (One w wr [EpA t (runTo l k)])) (fun i _ => l.length - (intOf i).toNat)
  case atStart => exact ⟨0, Nat.zero_le _, rfl, HO2⟩
  case round =>
    obtain ⟨k, hk, rfl, HO⟩ := hrel
    clear HO2
    by_cases hlt : k < l.length
    · obtain ⟨o, hx⟩ : ∃ o, l[k]? = some o := ⟨_, List.getElem?_eq_getElem hlt⟩
      obtain ⟨b, off, rfl, hb, h0, h1, h2, h3, h4⟩ := rd5 (HR.out.kn HO.out.old) hx
      have HS := Lib.hid (run_step l hx)
      have HG := Lib.hid (good_run l hl k hk)
      have HG1 := Lib.hid (good_run l hl (k + 1) (by omega))
      clear hx
      rw [HS.out] at HG1
      generalize runTo l k = σ at *
      obtain ⟨d, s, ⟨xk, ⟨xl, xg⟩⟩⟩ := o
      simp only at h0 h1 h2 h3 h4
      go_upto_block 2 with (fail)
      go_cut [] (fun wc => Hid (One w wc [EpA t (step4 σ ⟨d, s, ⟨xk, ⟨xl, xg⟩⟩⟩)]))
      case first =>
        have HO1 := Lib.hid ((HO.out.alloc (opB d s xk xl xg)).perm (List.Perm.swap _ _ _))
        clear h0 h1 h2 h3 h4 HO
        generalize wr.alloc (opB d s xk xl xg) = W at *
        generalize wr.heap.size = g at *
        obtain ⟨c0, c1, c2, c3, c4⟩ := cells5o (HO1.out.blk 1 rfl).1
        have hfit := HG.out.fit
        have hrow := HG.out.row
        by_cases hd0 : d = 0
        · subst hd0
          have HE := Lib.hid (show step4 σ ⟨0, s, ⟨xk, ⟨xl, xg⟩⟩⟩ = (σ.pin s).1 from rfl)
          go_wp2_with fail
          refine (HO1.out.lift 0 rfl (fun F h => pin_a h hfit s)).mono ?_
          rintro e w5 ⟨rfl, ho⟩
          have HO5 := Lib.hid (One.out (A := []) (show One w w5 [EpA t (σ.pin s).1, Blk g (opB 0 s xk xl xg)] from ho))
          go_wp2
          go_meet
          case rel => rw [HE.out]; exact HO5
        by_cases hd1 : d = 1
        · subst hd1
          have HE := Lib.hid (show step4 σ ⟨1, s, ⟨xk, ⟨xl, xg⟩⟩⟩ = (σ.unpin s).1 from rfl)
          go_wp2_with fail
          refine (HO1.out.lift 0 rfl (fun F h => unpin_a h hfit s)).mono ?_
          rintro e w5 ⟨rfl, ho⟩
          have HO5 := Lib.hid (One.out (A := []) (show One w w5 [EpA t (σ.unpin s).1, Blk g (opB 1 s xk xl xg)] from ho))
          go_wp2
          go_meet
          case rel => rw [HE.out]; exact HO5
        by_cases hd2 : d = 2
        · subst hd2
          have HE := Lib.hid (show step4 σ ⟨2, s, ⟨xk, ⟨xl, xg⟩⟩⟩ = σ.retire ⟨xk, ⟨xl, xg⟩⟩ from rfl)
          have hb2 : ((σ.row (σ.now % 3)).length + 1) * 24 ≤ 140737488355328 := by have := hrow (σ.now % 3); omega
          go_wp2_with fail
          refine (HO1.out.lift 0 rfl (fun F h => retire_a h hfit ⟨xk, ⟨xl, xg⟩⟩ hb2)).mono ?_
          rintro e w5 ⟨rfl, ho⟩
          have HO5 := Lib.hid (One.out (A := []) (show One w w5 [EpA t (σ.retire ⟨xk, ⟨xl, xg⟩⟩), Blk g (opB 2 s xk xl xg)] from ho))
          go_wp2
          go_meet
          case rel => rw [HE.out]; exact HO5
        by_cases hd3 : d = 3
        · subst hd3
          have HE := Lib.hid (show step4 σ ⟨3, s, ⟨xk, ⟨xl, xg⟩⟩⟩ = σ.advance.1 from rfl)
          go_wp2_with fail
          refine (HO1.out.adv' hfit).mono ?_
          rintro e w5 ⟨a5, c5, rfl, ho⟩
          have HO5 := Lib.hid (One.out (A := []) (One.out ho))
          go_wp2
          go_meet
          case rel => rw [HE.out]; exact HO5
        have HE := Lib.hid (show step4 σ ⟨d, s, ⟨xk, ⟨xl, xg⟩⟩⟩ = σ by unfold step4; rw [if_neg hd0, if_neg hd1, if_neg hd2, if_neg hd3])
        have b0 : (d == 0) = false := beq_false_of_ne hd0
        have b1 : (d == 1) = false := beq_false_of_ne hd1
        have b2 : (d == 2) = false := beq_false_of_ne hd2
        have b3 : (d == 3) = false := beq_false_of_ne hd3
        go_wp2
        go_meet
        case rel => rw [HE.out]; exact Lib.hid (One.out (A := []) HO1.out)
      case rest =>
        have HOc := hcut
        clear h0 h1 h2 h3 h4 HO hcut
        have hfit := HG1.out.fit
        have hgap := HG1.out.gap
        have hlen := Nat.le_trans (limbo_le HG1.out.row) (show 3 * (k + 1) ≤ 9000000 by omega)
        go_wp2_with fail
        refine (HOc.out.rd 0 rfl (fun F h => young_a h hfit hgap hlen)).mono ?_
        rintro e w6 ⟨rfl, hk6⟩
        have HO6 := Lib.hid (HOc.out.kn hk6)
        go_wp2
        go_roundw
        case rel => exact ⟨k + 1, by omega, by go_num, by rw [HS.out]; exact HO6⟩
        case measure => simp [intOf]; omega
    · go_wp2
      go_ret
      exact ⟨rfl, HO.out.old⟩
end Go.Proofs.Ytghmgmchfcbodaa

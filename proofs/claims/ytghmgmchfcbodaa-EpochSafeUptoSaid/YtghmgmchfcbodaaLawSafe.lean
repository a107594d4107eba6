/- EpochSafe: its walk. -/
import Derived.Test.YtghmgmchfcbodaaSafeLaw
import Derived.Deep.CutBlock
import Derived.Deep.DeepCutAuto
import Derived.Deep.RegionHeld3
import Derived.StillTailTactics
import Derived.Laws.Rows
namespace Go.Proofs.Ytghmgmchfcbodaa
set_option linter.unusedVariables false
set_option linter.unusedSimpArgs false
open Go Go.RowKit

abbrev iv (a : Int) : Value := .int .i64 a
def avs (p : List Int) : Value := .agg (p.map iv).toArray
def pinB (p : List Int) : Obj := .cells (p.map iv).toArray 26
theorem K3 : KeyT Try.prog 3 iv := keyT_int Try.underlying3
theorem zeroA (w : World) : (zeroValue 26).run Try.prog w = .ok (avs (List.replicate 17 0)) w := by kernel_rfl
theorem pin_cell {p : List Int} (hp : p.length = 17) {w : World} {g : Nat} (h : w.heap[g]? = some (pinB p)) {s : Nat} (hs : s < 17) : w.cell? ⟨g, s, none⟩ = some (.int .i64 (p.getD s 0)) := by
  refine cell_blk h ?_
  simp only [List.getElem?_toArray, List.getElem?_map, List.getD]
  rw [List.getElem?_eq_getElem (by omega)]
  rfl
theorem pin_set {p : List Int} {w w0 : World} {l : List Asr} {g i s : Nat} {x : Int} (h : One w0 w l) (hi : l[i]? = some (Blk g (pinB p))) : One w0 (w.setCell ⟨g, s, none⟩ (.int .i64 x)) (l.set i (Blk g (pinB (p.set s x)))) := by
  have := h.setC i (j := s) hi (.int .i64 x)
  simp only [List.setIfInBounds_toArray] at this
  unfold pinB
  rw [List.map_set]
  exact this
theorem len17 (p : List Int) (h : p.length = 17) : ∃ q0 q1 q2 q3 q4 q5 q6 q7 q8 q9 q10 q11 q12 q13 q14 q15 q16, p = [q0, q1, q2, q3, q4, q5, q6, q7, q8, q9, q10, q11, q12, q13, q14, q15, q16] := by
  match p, h with
  | [q0, q1, q2, q3, q4, q5, q6, q7, q8, q9, q10, q11, q12, q13, q14, q15, q16], _ => exact ⟨q0, q1, q2, q3, q4, q5, q6, q7, q8, q9, q10, q11, q12, q13, q14, q15, q16, rfl⟩
theorem has_of {m : Hel} {a : Int} {v : List Int} (h : look m a = some v) : has m a = true := by unfold has; rw [h]; rfl
set_option maxRecDepth 100000 in
set_option maxHeartbeats 8000000 in
theorem safe_walk (a : Option Addr) (cap : Nat) (l : List Op6) (w : World) (hl : l.length ≤ 1048576) (hr : Rd Op6.enc 5 w a l) :
    Calls Try.prog 3 #[.slice a l.length cap] w fun e w' => e = .returned (.bool true) ∧ KN w w' := by
  have HR := Lib.hid hr
  clear hr
  go_enter Try.func3, Try.ntmps3
  go_wp2_with fail
  refine (new_a _).mono ?_
  rintro e w1 ⟨t, rfl, hp1⟩
  have HO := Lib.hid ((One.nil w).add hp1)
  clear hp1
  go_wp2_with fail
  refine (begun_true _).mono ?_
  rintro e w2 ⟨rfl, hk⟩
  have HO2 := Lib.hid (HO.out.kn hk)
  clear HO hk
  have hmm : ∀ t w, (Instr.makeMap t none).run Try.prog w = .ok (.map (some w.heap.size)) (w.alloc (.map #[] 0)) := fun t w => run_makeMap t w
  go_upto_region 6 with fail
  clear hmm
  have HO3 := Lib.hid (show One w ((w2.alloc (pinB (List.replicate 17 0))).alloc (.map #[] 0)) [MapA iv avs (w2.heap.size + 1) [], Blk w2.heap.size (pinB (List.replicate 17 0)), EpA t ep0] by
    have := (HO2.out.alloc (pinB (List.replicate 17 0))).add (post_map iv avs _)
    rw [show (w2.alloc (pinB (List.replicate 17 0))).heap.size = w2.heap.size + 1 by simp] at this
    exact this)
  have HW := Lib.hid (show ((w2.alloc (pinB (List.replicate 17 0))).alloc (.map #[] 0)) = _ from rfl)
  unfold pinB at HO3
  simp only [List.replicate_succ, List.replicate_zero, List.map_cons, List.map_nil] at HO3
  clear HO2 HW
  generalize hgen : (w2.alloc _).alloc (.map #[] 0) = w3 at *
  clear hgen
  generalize w2.heap.size = gp at *
  go_wp2_with fail
  go_loopw [26] (fun i wr => ∃ (k : Nat) (σ : Eps) (p : List Int) (m : Hel), k ≤ l.length ∧ i = .int .i64 k ∧ Hid (Safe k σ p m) ∧ Hid (One w wr [MapA iv avs (gp + 1) m, Blk gp (pinB p), EpA t σ])) (fun i _ => l.length - (intOf i).toNat)
  case atStart => exact ⟨0, ep0, List.replicate 17 0, [], Nat.zero_le _, rfl, Lib.hid safe0, HO3⟩
  case round =>
    clear HO3
    obtain ⟨k, σ, p, m, hk, rfl, HS, HO⟩ := hrel
    by_cases hlt : k < l.length
    · obtain ⟨o, hx⟩ : ∃ o, l[k]? = some o := ⟨_, List.getElem?_eq_getElem hlt⟩
      obtain ⟨b, off, rfl, hb, h0, h1, h2, h3, h4⟩ := rd5 (HR.out.kn HO.out.old) hx
      clear hx
      obtain ⟨d, s, ⟨xk, ⟨xl, xg⟩⟩⟩ := o
      simp only at h0 h1 h2 h3 h4
      go_upto_block 2 with (fail)
      have HO1 := Lib.hid (HO.out.alloc (opB d s xk xl xg))
      clear h0 h1 h2 h3 h4 HO
      generalize wr.alloc (opB d s xk xl xg) = W at *
      generalize wr.heap.size = g at *
      obtain ⟨c0, c1, c2, c3, c4⟩ := cells5o (HO1.out.blk 0 rfl).1
      have hfit := HS.out.good.fit
      have hrow := HS.out.good.row
      by_cases hd0 : d = 0
      · subst hd0
        cases hin : inS s with
        | false =>
          have HE := Lib.hid (show σ.pin s = (σ, 1) by unfold Eps.pin; rw [if_neg (by rw [hin]; simp)])
          clear hin
          go_wp2_with fail
          refine (HO1.out.lift 3 rfl (fun F h => pin_a h hfit s)).mono ?_
          rw [HE.out]
          rintro e w5 ⟨rfl, ho⟩
          have HO5 := Lib.hid (show One w w5 [Blk g (opB 0 s xk xl xg), MapA iv avs (gp + 1) m, Blk gp (pinB p), EpA t σ] from ho)
          go_wp2
          go_roundw
          case rel => exact ⟨k + 1, σ, p, m, by omega, by go_num, Lib.hid (safe_mono HS.out (by omega)), Lib.hid HO5.out.drop⟩
          case measure => simp [intOf]; omega
        | true =>
          obtain ⟨i, rfl, hi⟩ := inS_lt hin
          by_cases hz : σ.at i = 0
          · have HE := Lib.hid (show σ.pin i = (σ.put i σ.now, 0) by unfold Eps.pin; rw [if_pos hin, if_pos hz])
            have HS2 := Lib.hid (safe_pin HS.out hi hz)
            have hbd := HS.out.pin i hi
            clear hin hz
            go_wp2_with fail
            refine (HO1.out.lift 3 rfl (fun F h => pin_a h hfit i)).mono ?_
            rw [HE.out]
            rintro e w5 ⟨rfl, ho⟩
            have HO5 := Lib.hid (show One w w5 [Blk g (opB 0 i xk xl xg), MapA iv avs (gp + 1) m, Blk gp (pinB p), EpA t (σ.put i σ.now)] from ho)
            have pc := pin_cell HS.out.plen (HO5.out.blk 2 rfl).1 hi
            have pf : w5.frozen? ⟨gp, i, none⟩ = false := free_blk (HO5.out.blk 2 rfl).1
            obtain ⟨d0, d1, d2, d3, d4⟩ := cells5o (HO5.out.blk 0 rfl).1
            clear c0 c1 c2 c3 c4 HO1 ho
            generalize p.getD i 0 = x at *
            have hx1 : -1048576 ≤ x := by omega
            have hx2 : x ≤ 1048576 := by omega
            have hi2 : (i : Int) < 17 := by omega
            clear hbd
            have q1 : IntKind.i64.wrap (-x) = -x := Go.IntWalk.i64_in _ (by omega)
            have q2 : IntKind.i64.wrap (max x (-x) + 1) = max x (-x) + 1 := Go.IntWalk.i64_in _ (by omega)
            go_wp2_with fail
            go_still_tail 14, (by kernel_rfl)
            all_goals (go_wp2_with fail)
            all_goals go_roundw
            case rel => exact ⟨k + 1, _, _, m, by omega, by go_num, HS2, Lib.hid (by
                have := (One.drop (pin_set HO5.out (i := 2) (s := i) (x := (max x (-x) + 1)) rfl)).kn ((Kp.refl _ _).drew)
                rw [show max x (-x) = if x < -x then -x else x by split <;> omega]
                rw [show max x (-x) = if x < -x then -x else x by split <;> omega] at this
                exact this)⟩
            case measure => simp [intOf]; omega
          · have HE := Lib.hid (show σ.pin i = (σ, 60) by unfold Eps.pin; rw [if_pos hin, if_neg hz])
            clear hin hz
            go_wp2_with fail
            refine (HO1.out.lift 3 rfl (fun F h => pin_a h hfit i)).mono ?_
            rw [HE.out]
            rintro e w5 ⟨rfl, ho⟩
            have HO5 := Lib.hid (show One w w5 [Blk g (opB 0 i xk xl xg), MapA iv avs (gp + 1) m, Blk gp (pinB p), EpA t σ] from ho)
            go_wp2
            go_roundw
            case rel => exact ⟨k + 1, σ, p, m, by omega, by go_num, Lib.hid (safe_mono HS.out (by omega)), Lib.hid HO5.out.drop⟩
            case measure => simp [intOf]; omega
      by_cases hd1 : d = 1
      · subst hd1
        cases hin : inS s with
        | false =>
          have HE := Lib.hid (show σ.unpin s = (σ, 1) by unfold Eps.unpin; rw [if_neg (by rw [hin]; simp)])
          clear hin
          go_wp2_with fail
          refine (HO1.out.lift 3 rfl (fun F h => unpin_a h hfit s)).mono ?_
          rw [HE.out]
          rintro e w5 ⟨rfl, ho⟩
          have HO5 := Lib.hid (show One w w5 [Blk g (opB 1 s xk xl xg), MapA iv avs (gp + 1) m, Blk gp (pinB p), EpA t σ] from ho)
          go_wp2
          go_roundw
          case rel => exact ⟨k + 1, σ, p, m, by omega, by go_num, Lib.hid (safe_mono HS.out (by omega)), Lib.hid HO5.out.drop⟩
          case measure => simp [intOf]; omega
        | true =>
          obtain ⟨i, rfl, hi⟩ := inS_lt hin
          by_cases hz : σ.at i = 0
          · have HE := Lib.hid (show σ.unpin i = (σ, 61) by unfold Eps.unpin; rw [if_pos hin, if_pos hz, put_same (by have := hfit.xlen; omega) hz])
            clear hin hz
            go_wp2_with fail
            refine (HO1.out.lift 3 rfl (fun F h => unpin_a h hfit i)).mono ?_
            rw [HE.out]
            rintro e w5 ⟨rfl, ho⟩
            have HO5 := Lib.hid (show One w w5 [Blk g (opB 1 i xk xl xg), MapA iv avs (gp + 1) m, Blk gp (pinB p), EpA t σ] from ho)
            go_wp2
            go_roundw
            case rel => exact ⟨k + 1, σ, p, m, by omega, by go_num, Lib.hid (safe_mono HS.out (by omega)), Lib.hid HO5.out.drop⟩
            case measure => simp [intOf]; omega
          · have HE := Lib.hid (show σ.unpin i = (σ.put i 0, 0) by unfold Eps.unpin; rw [if_pos hin, if_neg hz])
            have HS2 := Lib.hid (safe_unpin HS.out hi hz)
            have hbd := HS.out.pin i hi
            clear hin hz
            go_wp2_with fail
            refine (HO1.out.lift 3 rfl (fun F h => unpin_a h hfit i)).mono ?_
            rw [HE.out]
            rintro e w5 ⟨rfl, ho⟩
            have HO5 := Lib.hid (show One w w5 [Blk g (opB 1 i xk xl xg), MapA iv avs (gp + 1) m, Blk gp (pinB p), EpA t (σ.put i 0)] from ho)
            have pc := pin_cell HS.out.plen (HO5.out.blk 2 rfl).1 hi
            have pf : w5.frozen? ⟨gp, i, none⟩ = false := free_blk (HO5.out.blk 2 rfl).1
            obtain ⟨d0, d1, d2, d3, d4⟩ := cells5o (HO5.out.blk 0 rfl).1
            clear c0 c1 c2 c3 c4 HO1 ho
            generalize p.getD i 0 = x at *
            have hx1 : -1048576 ≤ x := by omega
            have hx2 : x ≤ 1048576 := by omega
            have hi2 : (i : Int) < 17 := by omega
            clear hbd
            have q1 : IntKind.i64.wrap (-x) = -x := Go.IntWalk.i64_in _ (by omega)
            go_wp2_with fail
            go_still_tail 8, (by kernel_rfl)
            all_goals (go_wp2_with fail)
            all_goals go_roundw
            case rel => exact ⟨k + 1, _, _, m, by omega, by go_num, HS2, Lib.hid (by
                have := (One.drop (pin_set HO5.out (i := 2) (s := i) (x := (-x)) rfl)).kn ((Kp.refl _ _).drew)
                exact this)⟩
            case measure => simp [intOf]; omega
      by_cases hd2 : d = 2
      · subst hd2
        have hb2 : ((σ.row (σ.now % 3)).length + 1) * 24 ≤ 140737488355328 := by have := hrow (σ.now % 3); omega
        have HS2 := Lib.hid (safe_retire HS.out)
        have hp17 := HS.out.plen
        have HI := Lib.hid (show (Try.prog.info? 26).map (·.size) = some (p.map iv).toArray.size by rw [List.size_toArray, List.length_map, hp17]; rfl)
        clear hp17
        go_wp2_with fail
        refine (HO1.out.lift 3 rfl (fun F h => retire_a h hfit ⟨k, ⟨0, 0⟩⟩ hb2)).mono ?_
        rintro e w5 ⟨rfl, ho⟩
        have HO5 := Lib.hid (show One w w5 [Blk g (opB 2 s xk xl xg), MapA iv avs (gp + 1) m, Blk gp (pinB p), EpA t (σ.retire ⟨k, ⟨0, 0⟩⟩)] from ho)
        clear c0 c1 c2 c3 c4 HO1 ho
        go_wp2_with (first
          | (refine wpList_load_row rfl 26 _ rfl gp rfl 26 (p.map iv).toArray _ _ (HO5.out.blk 2 rfl).1 Try.underlying26 rfl HI.out ?_)
          | (at_mapUpdate; refine wpList_put rfl _ _ _ rfl K3 Try.underlying27 HO5.out 1 rfl (k : Int) p rfl rfl rfl ?_; intro w6 ho6; have HO6 := Lib.hid (show One w w6 [Blk g (opB 2 s xk xl xg), MapA iv avs (gp + 1) (put m k p), Blk gp (pinB p), EpA t (σ.retire ⟨k, ⟨0, 0⟩⟩)] from ho6)))
        go_roundw
        case rel => exact ⟨k + 1, _, p, _, by omega, by go_num, HS2, Lib.hid HO6.out.drop⟩
        case measure => simp [intOf]; omega
      by_cases hd3 : d = 3
      · subst hd3
        obtain ⟨sa1, sa2, sa3⟩ := safe_adv2 HS.out (by omega)
        have SA := Lib.hid sa1
        have SB := Lib.hid sa2
        have hln : σ.advance.2.1.length ≤ 1048576 := by omega
        clear sa1 sa2 sa3
        go_wp2_with fail
        refine ((HO1.out.perm (List.reverse_perm _).symm).adv' hfit).mono ?_
        rintro e w5 ⟨a5, c5, rfl, ho⟩
        generalize σ.advance = av at *
        obtain ⟨σ2, l2, f2⟩ := av
        simp only at SA SB hln ho
        have HO5 := Lib.hid (show One w w5 [RowA 31 3 (.slice a5 l2.length c5) l2.length (l2.flatMap Re.enc), MapA iv avs (gp + 1) m, Blk gp (pinB p), Blk g (opB 3 s xk xl xg), EpA t σ2] from ho.perm (by
          exact ((List.Perm.cons _ (List.Perm.cons _ (List.Perm.swap _ _ _))).trans (List.perm_append_comm (l₁ := [EpA t σ2]))).trans (by exact .refl _)))
        clear c0 c1 c2 c3 c4 HO1 ho
        go_wp2_with fail
        go_loopw [88] (fun j wq => ∃ j' : Nat, j' ≤ l2.length ∧ j = .int .i64 j' ∧ Hid (One w wq [MapA iv avs (gp + 1) (dels m (l2.take j')), RowA 31 3 (.slice a5 l2.length c5) l2.length (l2.flatMap Re.enc), Blk gp (pinB p), EpA t σ2])) (fun j _ => l2.length - (intOf j).toNat)
        case atStart => exact ⟨0, Nat.zero_le _, rfl, Lib.hid (by
          have h := (((HO5.out.perm (List.Perm.swap _ _ _)).perm (List.Perm.cons _ (List.Perm.cons _ (List.Perm.cons _ (List.Perm.swap _ _ _))))).perm (List.perm_append_comm (l₁ := [MapA iv avs (gp + 1) m, RowA 31 3 (.slice a5 l2.length c5) l2.length (l2.flatMap Re.enc), Blk gp (pinB p), EpA t σ2]))).drop
          exact h)⟩
        case round =>
          clear HO5
          obtain ⟨j, hj, rfl, HQ⟩ := hrel
          by_cases hlt2 : j < l2.length
          · obtain ⟨x, hx⟩ : ∃ x, l2[j]? = some x := ⟨_, List.getElem?_eq_getElem hlt2⟩
            obtain ⟨was, hlook, hwl, hwn⟩ := SA.out j x hx
            have HDS := Lib.hid (dels_step m hx)
            obtain ⟨F1, hrr, _⟩ := HQ.out.get 1 rfl
            obtain ⟨a6, c6, hv, hc6, hrd⟩ := Rl.of_row (l := l2) enc3 rfl hrr
            injection hv with e1 e2 e3
            subst e1
            subst e3
            obtain ⟨bx, ox, rfl, hbx, p0, p1, p2⟩ := rd3 hrd hx
            clear hx hrr hrd e2
            generalize dels m (l2.take j) = mj at *
            obtain ⟨yk, ⟨yl, yg⟩⟩ := x
            simp only at p0 p1 p2 hlook
            have hl1 := ((HQ.out.looks 0 rfl K3 Try.underlying27 zeroA yk).2 (.cells #[.int .i64 yk, .int .i64 yl, .int .i64 yg] 31)).1
            rw [has_of hlook, hlook] at hl1
            obtain ⟨q0, q1, q2, q3, q4, q5, q6, q7, q8, q9, q10, q11, q12, q13, q14, q15, q16, hwas⟩ := len17 was hwl
            have HWA := Lib.hid hwas
            have HWN := Lib.hid hwn
            clear hwn hlook hwl
            have hl2 : (Instr.lookup 27 (.map (some (gp + 1))) (.int .i64 yk) true).run Try.prog (wr.alloc (.cells #[.int .i64 yk, .int .i64 yl, .int .i64 yg] 31)) = .ok (.tuple #[.agg #[.int .i64 q0, .int .i64 q1, .int .i64 q2, .int .i64 q3, .int .i64 q4, .int .i64 q5, .int .i64 q6, .int .i64 q7, .int .i64 q8, .int .i64 q9, .int .i64 q10, .int .i64 q11, .int .i64 q12, .int .i64 q13, .int .i64 q14, .int .i64 q15, .int .i64 q16], .bool true]) (wr.alloc (.cells #[.int .i64 yk, .int .i64 yl, .int .i64 yg] 31)) := by rw [hl1, hwas]; rfl
            clear hl1 hwas
            go_upto_region 28 with fail
            have HO6 := Lib.hid (show One w ((wr.alloc (.cells #[.int .i64 yk, .int .i64 yl, .int .i64 yg] 31)).alloc (pinB was)) [Blk (wr.heap.size + 1) (pinB was), Blk wr.heap.size (.cells #[.int .i64 yk, .int .i64 yl, .int .i64 yg] 31), MapA iv avs (gp + 1) mj, RowA 31 3 (.slice (some ⟨bx, ox, none⟩) l2.length c5) l2.length (l2.flatMap Re.enc), Blk gp (pinB p), EpA t σ2] from HQ.out.alloc2 _ _)
            have HW6 := Lib.hid (show (wr.alloc (.cells #[.int .i64 yk, .int .i64 yl, .int .i64 yg] 31)).alloc (pinB was) = (wr.alloc (.cells #[.int .i64 yk, .int .i64 yl, .int .i64 yg] 31)).alloc (.cells #[.int .i64 q0, .int .i64 q1, .int .i64 q2, .int .i64 q3, .int .i64 q4, .int .i64 q5, .int .i64 q6, .int .i64 q7, .int .i64 q8, .int .i64 q9, .int .i64 q10, .int .i64 q11, .int .i64 q12, .int .i64 q13, .int .i64 q14, .int .i64 q15, .int .i64 q16] 26) by rw [HWA.out]; rfl)
            rw [HW6.out] at HO6
            clear hl2 HW6 HQ p0 p1 p2
            generalize (wr.alloc (.cells #[.int .i64 yk, .int .i64 yl, .int .i64 yg] 31)).alloc (.cells #[.int .i64 q0, .int .i64 q1, .int .i64 q2, .int .i64 q3, .int .i64 q4, .int .i64 q5, .int .i64 q6, .int .i64 q7, .int .i64 q8, .int .i64 q9, .int .i64 q10, .int .i64 q11, .int .i64 q12, .int .i64 q13, .int .i64 q14, .int .i64 q15, .int .i64 q16] 26) = w6 at *
            generalize wr.heap.size = g6 at *
            obtain ⟨z0, z1, z2, _⟩ := cells3 (HO6.out.blk 1 rfl).1
            go_upto_region 29 with (at_delete; refine wpList_del rfl _ _ rfl K3 Try.underlying27 HO6.out 2 rfl yk rfl rfl ?_; intro w7 ho7; have HO7 := Lib.hid (show One w w7 [Blk (g6 + 1) (pinB was), Blk g6 (.cells #[.int .i64 yk, .int .i64 yl, .int .i64 yg] 31), MapA iv avs (gp + 1) (del mj yk), RowA 31 3 (.slice (some ⟨bx, ox, none⟩) l2.length c5) l2.length (l2.flatMap Re.enc), Blk gp (pinB p), EpA t σ2] from ho7))
            clear z0 z1 z2 HO6 ho7
            go_wp2_with fail
            go_loopw [104] (fun s' wv => ∃ s : Nat, s ≤ 17 ∧ s' = .int .i64 s ∧ Hid (KN w7 wv)) (fun s' _ => 17 - (intOf s').toNat)
            case atStart => exact ⟨0, Nat.zero_le _, rfl, Lib.hid (Kp.refl _ _)⟩
            case round =>
              obtain ⟨s, hs, rfl, HK⟩ := hrel
              by_cases hlt3 : s < 17
              · have hn := HWN.out s hlt3
                have HOv := HO7.out.kn HK.out
                have v1 := pin_cell (by rw [HWA.out]; rfl) (HOv.blk 0 rfl).1 hlt3
                have v2 := pin_cell HS.out.plen (HOv.blk 4 rfl).1 hlt3
                clear HOv
                generalize was.getD s 0 = x1 at *
                generalize p.getD s 0 = x2 at *
                have hs2 : (s : Int) < 17 := by omega
                by_cases hx1 : 0 < x1
                · have hx2 : (x2 == x1) = false := beq_false_of_ne (fun e => hn ⟨hx1, e⟩)
                  clear hn
                  go_wp2_with fail
                  go_quiet (fail)
                  go_wp2_with fail
                  go_roundw
                  case rel => exact ⟨s + 1, by omega, by go_num, Lib.hid (HK.out.drewN _)⟩
                  case measure => simp [intOf]; omega
                · have hx2 : decide (0 < x1) = false := by simpa using hx1
                  clear hn
                  go_wp2_with fail
                  go_quiet (fail)
                  go_wp2_with fail
                  go_roundw
                  case rel => exact ⟨s + 1, by omega, by go_num, Lib.hid (HK.out.drewN _)⟩
                  case measure => simp [intOf]; omega
              · have HO8 := Lib.hid (HO7.out.kn HK.out).drop.drop
                go_wp2_with fail
                go_roundw
                case rel => exact ⟨j + 1, by omega, by go_num, by rw [HDS.out]; exact HO8⟩
                case measure => simp [intOf]; omega
          · obtain rfl : j = l2.length := by omega
            have HQ2 := Lib.hid ((HQ.out.perm (List.Perm.swap _ _ _)).drop)
            rw [List.take_length] at HQ2
            go_wp2_with fail
            go_roundw
            case rel => exact ⟨k + 1, σ2, p, _, by omega, by go_num, SB, HQ2⟩
            case measure => simp [intOf]; omega
      have b0 : (d == 0) = false := beq_false_of_ne hd0
      have b1 : (d == 1) = false := beq_false_of_ne hd1
      have b2 : (d == 2) = false := beq_false_of_ne hd2
      have b3 : (d == 3) = false := beq_false_of_ne hd3
      go_wp2
      go_roundw
      case rel => exact ⟨k + 1, σ, p, m, by omega, by go_num, Lib.hid (safe_mono HS.out (by omega)), Lib.hid HO1.out.drop⟩
      case measure => simp [intOf]; omega
    · obtain rfl : k = l.length := by omega
      have hll := safe_len HS.out
      have hlm : σ.limbo.length ≤ 9000000 := Nat.le_trans (limbo_le HS.out.good.row) (by omega)
      have HLL := Lib.hid hll
      have HLM := Lib.hid hlm
      clear hll hlm
      go_wp2_with fail
      refine (HO.out.rd 2 rfl (fun F h => waiting_a h HS.out.good.fit HLM.out)).mono ?_
      rintro e w5 ⟨rfl, hk5⟩
      have HO5 := Lib.hid (HO.out.kn hk5)
      clear HO hk5
      have hlen := HO5.out.len 0 rfl Try.underlying27
      rw [HLL.out]
      go_wp2
      go_ret
      exact ⟨rfl, HO5.out.old⟩
end Go.Proofs.Ytghmgmchfcbodaa

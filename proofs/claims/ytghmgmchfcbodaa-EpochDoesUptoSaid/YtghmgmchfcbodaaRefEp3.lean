/- The reference's epochs: Advance. -/
import Derived.Test.YtghmgmchfcbodaaRefEp2
import Derived.BigQuiet
namespace Go.Proofs.Ytghmgmchfcbodaa
set_option linter.unusedVariables false
set_option linter.unusedSimpArgs false
open Go Go.RowKit

def Rps.held (ρ : Rps) : Bool := (List.range 17).any fun i => ρ.isAt (i : Int) && decide (ρ.atAt (i : Int) < ρ.now)
def gone (n : Int) (x : PW) : Bool := decide (x.1 ≤ n - 2)
def outsOf (n : Int) (l : List PW) : List Re := (l.filter (gone n)).map (·.2)
def keepsOf (n : Int) (l : List PW) : List PW := l.filter fun x => !gone n x
def Rps.advance (ρ : Rps) : Rps × List Re × Int := if ρ.held then (ρ, [], 62) else (⟨ρ.now + 1, ρ.is, ρ.at_, keepsOf ((ρ.now : Int) + 1) ρ.limbo⟩, outsOf ((ρ.now : Int) + 1) ρ.limbo, 0)
theorem rheld_yes {ρ : Rps} {i : Nat} (hi : i < 17) (h1 : ρ.isAt i = true) (h2 : ρ.atAt i < ρ.now) : ρ.held = true := by
  unfold Rps.held
  rw [List.any_eq_true]
  exact ⟨i, List.mem_range.2 hi, by rw [h1]; simp [h2]⟩
theorem rheld_no {ρ : Rps} (h : ∀ i : Nat, i < 17 → ρ.isAt i = false ∨ (ρ.now : Int) ≤ ρ.atAt i) : ρ.held = false := by
  unfold Rps.held
  rw [List.any_eq_false]
  intro i hi
  rcases h i (List.mem_range.1 hi) with h | h
  · rw [h]; simp
  · simp; intro; omega
theorem outs_step (n : Int) {l : List PW} {k : Nat} {x : PW} (hx : l[k]? = some x) : outsOf n (l.take (k + 1)) = if gone n x then outsOf n (l.take k) ++ [x.2] else outsOf n (l.take k) := by
  unfold outsOf
  rw [List.take_add_one, hx, List.filter_append, List.map_append]
  cases h : gone n x <;> simp [h]
theorem keeps_step (n : Int) {l : List PW} {k : Nat} {x : PW} (hx : l[k]? = some x) : keepsOf n (l.take (k + 1)) = if gone n x then keepsOf n (l.take k) else keepsOf n (l.take k) ++ [x] := by
  unfold keepsOf
  rw [List.take_add_one, hx, List.filter_append]
  cases h : gone n x <;> simp [h]
theorem outs_le (n : Int) (l : List PW) (k : Nat) : (outsOf n (l.take k)).length ≤ k := by
  unfold outsOf
  rw [List.length_map]
  exact Nat.le_trans (List.length_filter_le _ _) (by rw [List.length_take]; omega)
theorem keeps_le (n : Int) (l : List PW) (k : Nat) : (keepsOf n (l.take k)).length ≤ k := by
  unfold keepsOf
  exact Nat.le_trans (List.length_filter_le _ _) (by rw [List.length_take]; omega)
theorem rdw {w : World} {a : Option Addr} {l : List PW} (h : Rd encW 4 w a l) {i : Nat} {x : PW} (hx : l[i]? = some x) : ∃ b off, a = some ⟨b, off, none⟩ ∧ b < w.heap.size ∧
    w.cell? ⟨b, off + i * 4, none⟩ = some (.int .i64 x.1) ∧ w.cell? ⟨b, off + i * 4 + 1, none⟩ = some (.int .i64 x.2.kind) ∧ w.cell? ⟨b, off + i * 4 + 2, none⟩ = some (.int .i64 x.2.handle.slot) ∧ w.cell? ⟨b, off + i * 4 + 3, none⟩ = some (.int .i64 x.2.handle.gen) := by
  obtain ⟨b, off, ha, hb, hc⟩ := h.at hx
  exact ⟨b, off, ha, hb, hc 0 (by omega), hc 1 (by omega), hc 2 (by omega), hc 3 (by omega)⟩
def GaveAdvR (b : Nat) (q : Rps × List Re × Int) (F : Nat → Prop) (w : World) (e : Ending) (w' : World) : Prop :=
  ∃ a cap, e = .returned (.tuple #[.slice a q.2.1.length cap, .int .i64 q.2.2]) ∧ Post (All [ReA b q.1, RowA 31 3 (.slice a q.2.1.length cap) q.2.1.length (q.2.1.flatMap Re.enc)]) F w w'
set_option maxHeartbeats 4000000 in
theorem advance_r {b : Nat} {ρ : Rps} {w : World} {F : Nat → Prop} (h : (ReA b ρ).on w F) (hf : ρ.Fit) (hb : ρ.limbo.length ≤ 9000000) : Calls Try.prog 33 #[.pointer (some ⟨b, 0, none⟩)] w (GaveAdvR b ρ.advance F w) := by
  obtain ⟨a, cap, h⟩ := h
  have HH := Lib.hid h
  have HF := Lib.hid hf
  clear h hf
  go_enter Try.func33, Try.ntmps33
  go_wp2_with fail
  go_loopw [4] (fun s wr => ∃ k : Nat, k ≤ 17 ∧ s = .int .i64 k ∧ Hid (KN w wr) ∧ Hid (∀ i : Nat, i < k → ρ.isAt i = false ∨ (ρ.now : Int) ≤ ρ.atAt i)) (fun s _ => 17 - (intOf s).toNat)
  case atStart => exact ⟨0, Nat.zero_le _, rfl, Lib.hid (Kp.refl _ _), Lib.hid (fun i hi => by omega)⟩
  case round =>
    obtain ⟨k, hk, rfl, HK, HM⟩ := hrel
    by_cases hlt : k < 17
    · obtain ⟨c0, ci, ca, _, _⟩ := RAt.cells ((RAt b ρ a cap).kn HH.out HK.out) HF.out hlt
      have hz0 : (0 : Int) ≤ (k : Int) := by omega
      have hz1 : (k : Int) < 17 := by omega
      have hz2 : (k : Int) ≤ 16 := by omega
      cases hq : ρ.isAt k with
      | false =>
        rw [hq] at ci
        have HQ := Lib.hid hq
        clear hq
        go_wp2_with fail
        go_quiet (fail)
        go_wp2_with fail
        go_roundw
        case rel => exact ⟨k + 1, by omega, by go_num, Lib.hid (HK.out.drewN _), Lib.hid (fun i hi => by
          by_cases e : i = k
          · subst e; exact .inl HQ.out
          · exact HM.out i (by omega))⟩
        case measure => simp [intOf]; omega
      | true =>
        rw [hq] at ci
        have HQ := Lib.hid hq
        clear hq
        by_cases h1 : ρ.atAt k < (ρ.now : Int)
        · have HV := Lib.hid (show ρ.advance = (ρ, [], 62) by unfold Rps.advance; rw [if_pos (rheld_yes hlt HQ.out h1)])
          generalize ρ.atAt k = xa at *
          go_wp2_with fail
          go_quiet (fail)
          go_wp2_with fail
          go_ret2
          rw [HV.out]
          refine ⟨none, 0, rfl, (Post.same (A := RAt b ρ a cap) HH.out (HK.out.drewN _)).imp (fun F' h' => all_one ⟨a, cap, h'⟩ ⟨own_nil 0 _ _ _, by funext b; simp [Value.ownBlock]⟩)⟩
        · have h2 : decide (ρ.atAt k < (ρ.now : Int)) = false := by simpa using h1
          have HX := Lib.hid (show (ρ.now : Int) ≤ ρ.atAt k by omega)
          have HXX := Lib.hid (show (ρ.now : Int) ≤ ρ.atAt k from HX.out)
          clear HX
          obtain ⟨xa, hxa⟩ : ∃ xa, ρ.atAt k = xa := ⟨_, rfl⟩
          have HXA := Lib.hid hxa
          rw [hxa] at ca h2
          clear hxa h1
          go_wp2_with fail
          go_quiet (fail)
          go_wp2_with fail
          go_roundw
          case rel => exact ⟨k + 1, by omega, by go_num, Lib.hid (HK.out.drewN _), Lib.hid (fun i hi => by
            by_cases e : i = k
            · subst e; exact .inr HXX.out
            · exact HM.out i (by omega))⟩
          case measure => simp [intOf]; omega
    · obtain rfl : k = 17 := by omega
      have HV := Lib.hid (show ρ.advance = (⟨ρ.now + 1, ρ.is, ρ.at_, keepsOf ((ρ.now : Int) + 1) ρ.limbo⟩, outsOf ((ρ.now : Int) + 1) ρ.limbo, 0) by
        unfold Rps.advance
        rw [if_neg (by rw [rheld_no (fun i hi => HM.out i hi)]; simp)])
      clear HM
      have HP := Lib.hid (Pw.kn (Pw.start (show (All [Blk b (RObj ρ.now ρ.is ρ.at_ (.slice a ρ.limbo.length cap)), RowA 88 4 (.slice a ρ.limbo.length cap) ρ.limbo.length (ρ.limbo.flatMap encW)]).on w F from HH.out)) HK.out)
      have HL := Lib.hid (And.intro HF.out.ilen HF.out.alen)
      have htop := HF.out.top
      clear HH HF HK
      obtain ⟨now, is, at_, lm⟩ := ρ
      simp only at HP HL hb htop HV
      generalize hn : lm.length = n at *
      obtain ⟨c0, cl, fr, hbw⟩ := RObj.cells (HP.out.blk 0 rfl) HL.out.1 HL.out.2
      generalize hnn : (now : Int) + 1 = nn at *
      go_wp2_with fail
      have HP2 := Lib.hid (show Pw F w (wr.setCell ⟨b, 0, none⟩ (.int .i64 nn)) [RowA 31 3 (.slice none 0 0) 0 [], RowA 88 4 (.slice none 0 0) 0 [], Blk b (RObj nn is at_ (.slice a n cap)), RowA 88 4 (.slice a n cap) n (lm.flatMap encW)] from by
        have h1 := HP.out.setC 0 rfl (j := 0) (.int .i64 nn)
        rw [rc_set_now] at h1
        exact (h1.nilRow 88 4).nilRow 31 3)
      have hnb : 0 < nn ∧ nn ≤ 4611686018427387904 := by omega
      clear HP c0 cl fr hbw
      generalize wr.setCell ⟨b, 0, none⟩ (.int .i64 nn) = w1 at *
      have hw1 : IntKind.i64.wrap (nn - 2) = nn - 2 := Go.IntWalk.i64_in _ (by omega)
      go_loopw [5, 6, 7] (fun v5 v6 s wq => ∃ (k : Nat) (a1 : Option Addr) (c1 : Nat) (a2 : Option Addr) (c2 : Nat), k ≤ n ∧ s = .int .i64 k ∧ v5 = .slice a1 (outsOf nn (lm.take k)).length c1 ∧ v6 = .slice a2 (keepsOf nn (lm.take k)).length c2 ∧
        Hid (Pw F w wq [RowA 31 3 (.slice a1 (outsOf nn (lm.take k)).length c1) (outsOf nn (lm.take k)).length ((outsOf nn (lm.take k)).flatMap Re.enc), RowA 88 4 (.slice a2 (keepsOf nn (lm.take k)).length c2) (keepsOf nn (lm.take k)).length ((keepsOf nn (lm.take k)).flatMap encW), Blk b (RObj nn is at_ (.slice a n cap)), RowA 88 4 (.slice a n cap) n (lm.flatMap encW)])) (fun _ _ s _ => n - (intOf s).toNat)
      case atStart => exact ⟨0, none, 0, none, 0, Nat.zero_le _, rfl, rfl, rfl, HP2⟩
      case round =>
        clear HP2
        obtain ⟨k, a1, c1, a2, c2, hk, rfl, rfl, rfl, HQ⟩ := hrel
        obtain ⟨c0, cl, fr, hbw⟩ := RObj.cells (HQ.out.blk 2 rfl) HL.out.1 HL.out.2
        by_cases hlt : k < n
        · obtain ⟨x, hx⟩ : ∃ x, lm[k]? = some x := ⟨_, List.getElem?_eq_getElem (by omega)⟩
          obtain ⟨F1, hrr, _⟩ := HQ.out.get 3 rfl
          obtain ⟨a6, c6, hv, hc6, hrd⟩ := Rl.of_row (l := lm) encW4 hn hrr
          injection hv with e1 e2 e3
          subst e1
          subst e3
          obtain ⟨bx, ox, rfl, hbx, p0, p1, p2, p3⟩ := rdw hrd hx
          have HO := Lib.hid (outs_step nn hx)
          have HKp := Lib.hid (keeps_step nn hx)
          have ho1 := outs_le nn lm k
          have hk1 := keeps_le nn lm k
          clear hx hrr hrd e2
          generalize outsOf nn (lm.take k) = os at *
          generalize keepsOf nn (lm.take k) = ks at *
          obtain ⟨xt, ⟨xk, ⟨xl, xg⟩⟩⟩ := x
          simp only at p0 p1 p2 p3
          have hz1 : (k : Int) < (n : Int) := by omega
          by_cases hg : xt ≤ nn - 2
          · have HG := Lib.hid (show gone nn (xt, ⟨xk, ⟨xl, xg⟩⟩) = true by simp [gone, hg])
            simp only [HG.out, if_true] at HO HKp
            clear HG
            go_wp2_with fail
            go_quiet (fail)
            rename_i nq
            have HD := Lib.hid ((HQ.out.kn ((Kp.refl _ _).drewN nq)).alloc (.cells #[.int .i64 xk, .int .i64 xl, .int .i64 xg] 31))
            have HA := Lib.hid (HD.out.app (P := Try.prog) (m := [(⟨xk, ⟨xl, xg⟩⟩ : Re)]) elt_Re 37 1 rfl enc3 (rl_re (heap_alloc_same _ _) (cap := 1)) re_one (by unfold maxLen; simp only [List.length_singleton]; omega) (by simp only [List.length_singleton]; omega))
            simp only [List.length_singleton, List.set_cons_zero, List.set_cons_succ] at HA
            clear HD
            go_wp2_with (at_builtin; refine wpList_appX 71 rfl rfl rfl rfl (v := .slice a1 os.length c1) (s := .slice (some ⟨wr.heap.size, 0, none⟩) 1 1) rfl rfl HA.out ?_; rintro r w5 ⟨a5, c5, rfl, ho⟩; have HP5 := Lib.hid ho.drop; clear ho)
            go_roundw
            case rel =>
              (repeat apply Exists.intro)
              refine ⟨?_, rfl⟩
              refine ⟨k + 1, a5, c5, a2, c2, by omega, by go_num, ?_, by rw [HKp.out], ?_⟩
              · rw [HO.out, List.length_append]; rfl
              · rw [HO.out, HKp.out, List.length_append, List.flatMap_append]
                exact HP5
            case measure => simp [intOf]; omega
          · have hg2 : decide (xt ≤ nn - 2) = false := by simpa using hg
            have HG := Lib.hid (show gone nn (xt, ⟨xk, ⟨xl, xg⟩⟩) = false by simp [gone, hg])
            simp only [HG.out, Bool.false_eq_true, if_false] at HO HKp
            clear HG
            go_wp2_with fail
            go_quiet (fail)
            rename_i nq
            have HD := Lib.hid ((HQ.out.kn ((Kp.refl _ _).drewN nq)).alloc (.cells #[.int .i64 xt, .int .i64 xk, .int .i64 xl, .int .i64 xg] 88))
            have HA := Lib.hid (HD.out.app (P := Try.prog) (m := [((xt, ⟨xk, ⟨xl, xg⟩⟩) : PW)]) elt_W 58 2 rfl encW4 (rl_w (heap_alloc_same _ _) (cap := 1)) encW1 (by unfold maxLen; simp only [List.length_singleton]; omega) (by simp only [List.length_singleton]; omega))
            simp only [List.length_singleton, List.set_cons_zero, List.set_cons_succ] at HA
            clear HD
            go_wp2_with (at_builtin; refine wpList_appX 81 rfl rfl rfl rfl (v := .slice a2 ks.length c2) (s := .slice (some ⟨wr.heap.size, 0, none⟩) 1 1) rfl rfl HA.out ?_; rintro r w5 ⟨a5, c5, rfl, ho⟩; have HP5 := Lib.hid ho.drop; clear ho)
            go_roundw
            case rel =>
              (repeat apply Exists.intro)
              refine ⟨?_, rfl⟩
              refine ⟨k + 1, a1, c1, a5, c5, by omega, by go_num, by rw [HO.out], ?_, ?_⟩
              · rw [HKp.out, List.length_append]; rfl
              · rw [HO.out, HKp.out, List.length_append, List.flatMap_append]
                exact HP5
            case measure => simp [intOf]; omega
        · obtain rfl : k = n := by omega
          rw [List.take_of_length_le (by omega)] at HQ ⊢
          go_wp2_with fail
          go_ret2
          rw [HV.out]
          refine ⟨a1, c1, rfl, ?_⟩
          have h1 := HQ.out.setC 2 rfl (j := 35) (.slice a2 (keepsOf nn lm).length c2)
          rw [rc_set_v HL.out.1 HL.out.2] at h1
          have h2 := Pw.group (l1 := [_, _]) (l2 := [_]) (Pw.drop (h1.perm (List.reverse_perm _).symm))
          exact h2.imp fun F' h' => ⟨a2, c2, by rw [← hnn] at h' ⊢; exact h'⟩
end Go.Proofs.Ytghmgmchfcbodaa

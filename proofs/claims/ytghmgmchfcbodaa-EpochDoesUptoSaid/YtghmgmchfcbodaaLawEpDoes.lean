/- EpochDoes: its walk. -/
import Derived.Test.YtghmgmchfcbodaaStepE
import Derived.Test.YtghmgmchfcbodaaEqualE
namespace Go.Proofs.Ytghmgmchfcbodaa
set_option linter.unusedVariables false
set_option linter.unusedSimpArgs false
open Go Go.RowKit Go.Sort

set_option maxRecDepth 100000 in
set_option maxHeartbeats 8000000 in
theorem epdoes_walk (a : Option Addr) (cap : Nat) (l : List Op6) (stop : Int) (w : World) (hl : l.length ≤ 1048576) (hr : Rd Op6.enc 5 w a l) :
    Calls Try.prog 6 #[.slice a l.length cap, .int .i64 stop] w fun e w' => e = .returned (.bool true) ∧ KN w w' := by
  have HR := Lib.hid hr
  clear hr
  go_enter Try.func6, Try.ntmps6
  go_wp2_with fail
  refine (new_a _).mono ?_
  rintro e w1 ⟨t, rfl, hp1⟩
  have HO := Lib.hid ((One.nil w).add hp1)
  clear hp1
  go_wp2_with fail
  refine (new_r _).mono ?_
  rintro e w2 ⟨u, rfl, hp2⟩
  have HO2 := Lib.hid ((HO.out.add hp2).perm (List.Perm.swap _ _ _))
  clear hp2 HO
  go_wp2_with fail
  refine (begun_true _).mono ?_
  rintro e w3 ⟨rfl, hk⟩
  have HO3 := Lib.hid (HO2.out.kn hk)
  clear HO2 hk
  go_wp2_with fail
  go_loopw [5, 20] (fun v5 i wr => ∃ (k t : Nat) (σ : Eps) (ρ : Rps), k ≤ l.length ∧ i = .int .i64 k ∧ v5 = .pointer (some ⟨t, 0, none⟩) ∧ Hid (Sim k σ ρ) ∧ Hid (One w wr [EpA t σ, ReA u ρ])) (fun _ i _ => l.length - (intOf i).toNat)
  case atStart => exact ⟨0, t, ep0, ref0, Nat.zero_le _, rfl, rfl, Lib.hid sim0, HO3⟩
  case round =>
    clear HO3
    obtain ⟨k, t, σ, ρ, hk, rfl, rfl, HS, HO⟩ := hrel
    by_cases hlt : k < l.length
    · obtain ⟨o, hx⟩ : ∃ o, l[k]? = some o := ⟨_, List.getElem?_eq_getElem hlt⟩
      obtain ⟨b, off, rfl, hb, h0, h1, h2, h3, h4⟩ := rd5 (HR.out.kn HO.out.old) hx
      clear hx
      go_upto_region 9 with (fail)
      have HO1 := Lib.hid (HO.out.alloc (opB o.do_ o.s o.what.kind o.what.handle.slot o.what.handle.gen))
      clear h0 h1 h2 h3 h4 HO
      generalize wr.alloc (opB o.do_ o.s o.what.kind o.what.handle.slot o.what.handle.gen) = W at *
      generalize wr.heap.size = g at *
      obtain ⟨c0, c1, c2, c3, c4⟩ := cells5o (HO1.out.blk 0 rfl).1
      go_wp2_with fail
      refine (step_e HO1.out.drop HS.out (by omega) o).mono ?_
      rintro e w5 ⟨t2, σ2, ρ2, rfl, hs2, ho2⟩
      have HS2 := Lib.hid hs2
      have HO5 := Lib.hid ho2
      have hfit := hs2.good.fit
      have hrf := hs2.rfit
      have hlm : σ2.limbo.length ≤ 9000000 := by have := hs2.len; omega
      obtain ⟨F1, he, _⟩ := ho2.get 0 rfl
      have HE := Lib.hid he
      obtain ⟨F2, ⟨a4, c4', hra⟩, _⟩ := ho2.get 1 rfl
      obtain ⟨u0, _, _, _, _⟩ := RAt.cells hra hrf (i := 0) (by decide)
      have hu := cell_blk (RAt.blk hra) (rc_v (now := ρ2.now) (v := .slice a4 ρ2.limbo.length c4') hrf.ilen hrf.alen)
      rw [hs2.limbo] at hu
      rw [hs2.now] at u0
      clear hra c0 c1 c2 c3 c4 hs2 ho2 he HO1
      have cN := fun d os => quiet_same (d := d) (os := os) (now_a ((EpA t2 σ2).kn HE.out (kn_regrown w5 d os)) hfit)
      have cW : ∀ d os, Calls Try.prog 14 #[.pointer (some ⟨t2, 0, none⟩)] (grow (redrawn w5 d) os) fun e w'' => e = .returned (.int .i64 σ2.limbo.length) ∧ ∃ p : Regrown, w'' = grow (redrawn w5 p.d) p.os := fun d os => quiet_kn (waiting_a ((EpA t2 σ2).kn HE.out (kn_regrown w5 d os)) hfit hlm)
      have q0 := cell_regrown u0
      have q1 := cell_regrown hu
      clear u0 hu
      go_wp2_with fail
      refine wp_region_quiet_below (by kernel_rfl) (by kernel_rfl) ?_
      repeat (go_big_quiet_step (first | (go_at_call 19; with_reducible exact cN _ _) | (go_at_call 14; with_reducible exact cW _ _)))
      refine wpQuiet_nil ?_
      intro _ hw'
      obtain ⟨⟨dq, osq⟩, hw''⟩ := hw'
      subst hw''
      go_wp2_with fail
      go_roundw
      case rel => exact ⟨k + 1, t2, σ2, ρ2, by omega, by go_num, rfl, HS2, Lib.hid (HO5.out.kn (kn_regrown w5 dq osq))⟩
      case measure => simp [intOf]; omega
    · go_wp2_with fail
      refine (equal_e HO.out HS.out (by omega) stop).mono ?_
      rintro e w5 ⟨rfl, hk5⟩
      have HO5 := Lib.hid (HO.out.kn hk5)
      clear hk5
      go_wp2
      go_ret
      exact ⟨rfl, HO5.out.old⟩
end Go.Proofs.Ytghmgmchfcbodaa

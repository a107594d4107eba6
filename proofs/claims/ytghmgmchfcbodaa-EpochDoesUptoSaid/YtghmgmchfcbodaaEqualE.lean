/- EpochDoes: equal. -/
import Derived.Test.YtghmgmchfcbodaaToldE
import Derived.Test.YtghmgmchfcbodaaDoesLaw
namespace Go.Proofs.Ytghmgmchfcbodaa
set_option linter.unusedVariables false
set_option linter.unusedSimpArgs false
open Go Go.RowKit Go.Sort

set_option maxRecDepth 100000 in
set_option maxHeartbeats 8000000 in
theorem equal_e {w0 W : World} {t u k : Nat} {σ : Eps} {ρ : Rps} (h : One w0 W [EpA t σ, ReA u ρ]) (hs : Sim k σ ρ) (hk : k ≤ 1048576) (stop : Int) :
    Calls Try.prog 22 #[.pointer (some ⟨t, 0, none⟩), .pointer (some ⟨u, 0, none⟩), .int .i64 stop] W fun e w' => e = .returned (.bool true) ∧ KN W w' := by
  have HO := Lib.hid h
  have HS := Lib.hid hs
  have hfit := hs.good.fit
  have hrf := hs.rfit
  have hlm : σ.limbo.length ≤ 9000000 := by have := hs.len; omega
  obtain ⟨F1, he, _⟩ := h.get 0 rfl
  obtain ⟨F2, hre, _⟩ := h.get 1 rfl
  obtain ⟨a2, c2, hra⟩ := hre
  obtain ⟨u0, _, _, _, _⟩ := RAt.cells hra hrf (i := 0) (by decide)
  have hu := cell_blk (RAt.blk hra) (rc_v (now := ρ.now) (v := .slice a2 ρ.limbo.length c2) hrf.ilen hrf.alen)
  obtain ⟨a3, c3, hv, _, hrd⟩ := RAt.rl hra
  injection hv with e1 e2 e3
  subst e1
  subst e3
  rw [hs.limbo] at hu hrd
  have HE := Lib.hid he
  have HU := Lib.hid hu
  have HRd := Lib.hid hrd
  have HN := Lib.hid (show (ρ.now : Int) = σ.now by rw [hs.now])
  rw [HN.out] at u0
  have HLm := Lib.hid hlm
  clear h hs he hra hu hrd e2
  go_enter Try.func22, Try.ntmps22
  go_wp2_with fail
  refine (limbo_a HE.out hfit HLm.out).mono ?_
  rintro e w1 ⟨b1, b2, rfl, G, hA, k1, _⟩
  have HA := Lib.hid hA
  have HK1 := Lib.hid k1
  clear hA k1
  go_wp2_with fail
  refine (callsIn_wide.1 (told_in b1 b2 σ.limbo HLm.out stop w1 G HA.out u a2 c2 (cell_kn HU.out HK1.out) (HRd.out.kn HK1.out))).mono ?_
  rintro e w2 ⟨rfl, hb⟩
  have HK2 := Lib.hid (Below.kn' hb)
  clear hb
  go_wp2_with fail
  refine (callsIn_wide.1 (told_in b1 b2 σ.limbo HLm.out 0 w2 G ((LimA b1 b2 σ.limbo).kn HA.out HK2.out) u a2 c2 (cell_kn HU.out (HK1.out.trans HK2.out (fun _ h => h.elim))) (HRd.out.kn (HK1.out.trans HK2.out (fun _ h => h.elim))))).mono ?_
  rintro e w3 ⟨rfl, hb⟩
  have HK3 := Lib.hid ((HK1.out.trans HK2.out (fun _ h => h.elim)).trans (Below.kn' hb) (fun _ h => h.elim))
  clear hb HA HK1 HK2 HU HRd
  go_wp2_with fail
  go_loopw [8] (fun s wr => ∃ (j : Nat) (s' : Int), j ≤ 19 ∧ s = .int .i64 s' ∧ Hid (s' = (j : Int) - 1) ∧ Hid (KN W wr)) (fun s _ => (18 - intOf s).toNat)
  case atStart => exact ⟨0, -1, by omega, rfl, Lib.hid (by omega), HK3⟩
  case round =>
    clear HK3
    obtain ⟨j, s, hj, rfl, Hs, HK⟩ := hrel
    have HOr := Lib.hid (HO.out.kn HK.out)
    by_cases hlt : s ≤ 17
    · have hs0 : -1 ≤ s := by have := Hs.out; omega
      have HSp := Lib.hid (sim_pinned HS.out s)
      go_wp2_with fail
      refine (HOr.out.rd 0 rfl (fun F h => pinned_a h hfit s)).mono ?_
      rintro e w5 ⟨rfl, rfl⟩
      go_wp2_with fail
      refine (HOr.out.rd 1 rfl (fun F h => pinned_r h hrf s)).mono ?_
      rw [HSp.out]
      rintro e w5 ⟨rfl, rfl⟩
      clear HSp
      generalize σ.pinned s = pq at *
      obtain ⟨px, py⟩ := pq
      go_wp2_with fail
      go_roundw
      case rel => exact ⟨j + 1, s + 1, by have := Hs.out; omega, rfl, Lib.hid (by have := Hs.out; omega), HK⟩
      case measure => simp [intOf]; omega
    · have HFe := Lib.hid ((EpA t σ).kn HE.out HK.out)
      have u0' := cell_kn u0 HK.out
      obtain ⟨F2, ⟨a4, c4, hra⟩, _⟩ := HOr.out.get 1 rfl
      have hu := cell_blk (RAt.blk hra) (rc_v (now := ρ.now) (v := .slice a4 ρ.limbo.length c4) hrf.ilen hrf.alen)
      rw [HS.out.limbo] at hu
      clear hra
      have cN := fun d os => quiet_same (d := d) (os := os) (now_a ((EpA t σ).kn HFe.out (kn_regrown wr d os)) hfit)
      have cW : ∀ d os, Calls Try.prog 14 #[.pointer (some ⟨t, 0, none⟩)] (grow (redrawn wr d) os) fun e w'' => e = .returned (.int .i64 σ.limbo.length) ∧ ∃ p : Regrown, w'' = grow (redrawn wr p.d) p.os := fun d os => quiet_kn (waiting_a ((EpA t σ).kn HFe.out (kn_regrown wr d os)) hfit HLm.out)
      have q0 := cell_regrown u0'
      have q1 := cell_regrown hu
      clear u0 u0' hu
      go_wp2_with fail
      refine wp_region_quiet_below (by kernel_rfl) (by kernel_rfl) ?_
      repeat (go_big_quiet_step (first | (go_at_call 19; with_reducible exact cN _ _) | (go_at_call 14; with_reducible exact cW _ _)))
      refine wpQuiet_nil ?_
      intro _ hw'
      obtain ⟨⟨dq, osq⟩, hw''⟩ := hw'
      subst hw''
      go_wp2_with fail
      go_ret
      exact ⟨rfl, HK.out.trans (kn_regrown wr dq osq) (fun _ h => h.elim)⟩
end Go.Proofs.Ytghmgmchfcbodaa

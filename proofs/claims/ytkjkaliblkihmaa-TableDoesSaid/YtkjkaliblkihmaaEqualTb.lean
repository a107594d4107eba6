/- TableDoes: equal. -/
import Derived.Test.YtkjkaliblkihmaaToldTb
import Derived.Test.YtkjkaliblkihmaaStepTb
import Derived.WalkLawsBesides
namespace Go.Proofs.Ytkjkaliblkihmaa
set_option linter.unusedVariables false
set_option linter.unusedSimpArgs false
open Go Go.RowKit Go.Sort

set_option maxRecDepth 100000 in
set_option maxHeartbeats 8000000 in
theorem equal_t {t u : Nat} {A R : List AP} {x : Int} {w0 W : World} (H : One w0 W [Tab t A x, RfT u R x]) (hs : Sm A R) (stop : Int) :
    Calls Try.prog 20 #[.pointer (some ⟨t, 0, none⟩), .pointer (some ⟨u, 0, none⟩), .int .i64 stop] W fun e w' => e = .returned (.bool true) ∧ KN W w' := by
  have hmA := H.most10 0 rfl
  have hmR : R.length ≤ 65536 := by rw [← hs.len]; exact hmA
  have hlen := hs.len
  obtain ⟨F1, ha, _⟩ := H.get 0 rfl
  obtain ⟨F2, hr, _⟩ := H.get 1 rfl
  have HA := Lib.hid (fun (W' : World) (k : KN W W') => (Tab t A x).kn ha k)
  have HRr := Lib.hid (fun (W' : World) (k : KN W W') => (RfT u R x).kn hr k)
  have HS := Lib.hid hs
  have HLen := Lib.hid hlen
  clear H hs ha hr hlen
  go_enter Try.func20, Try.ntmps20
  go_wp2_with fail
  refine (tab_all hmA (HA.out _ (Kp.refl _ _))).mono ?_
  rintro e w1 ⟨x1, x2, rfl, G, hA, k1, _⟩
  have HAl := Lib.hid hA
  have HK1 := Lib.hid k1
  clear hA k1
  go_wp2_with fail
  refine (callsIn_wide.1 (told_in x1 x2 u A R x stop HS.out hmA w1 G F2 HAl.out (HRr.out _ HK1.out))).mono ?_
  rintro e w2 ⟨rfl, hb⟩
  have HK2 := Lib.hid (HK1.out.trans (Below.kn' hb) (fun _ h => h.elim))
  have HAl2 := Lib.hid ((AllA x1 x2 (livesOf A)).kn HAl.out (Below.kn' hb))
  clear hb HAl HK1
  go_wp2_with fail
  refine (callsIn_wide.1 (told_in x1 x2 u A R x 0 HS.out hmA w2 G F2 HAl2.out (HRr.out _ HK2.out))).mono ?_
  rintro e w3 ⟨rfl, hb⟩
  have HK3 := Lib.hid (HK2.out.trans (Below.kn' hb) (fun _ h => h.elim))
  clear hb HAl2 HK2
  go_wp2_with fail
  go_loopw [8] (fun s wr => ∃ p : Int, -1 ≤ p ∧ p ≤ 200 ∧ s = .int .i64 p ∧ Hid (KN W wr)) (fun s _ => (200 - intOf s).toNat)
  case atStart => exact ⟨-1, by omega, by omega, rfl, HK3⟩
  case round =>
    clear HK3
    obtain ⟨p, hp0, hp1, rfl, HK⟩ := hrel
    go_wp2_with fail
    refine (pages_r (HRr.out _ HK.out)).mono ?_
    rintro e w5 ⟨rfl, rfl⟩
    have HC1 := Lib.hid (tab_state p (HA.out _ HK.out))
    have HC2 := Lib.hid (state_r p (HRr.out _ HK.out) hmR)
    rw [HS.out.st] at HC1
    have HP := Lib.hid (tab_pages (HA.out _ HK.out))
    have HLv := Lib.hid (tab_live (HA.out _ HK.out))
    rw [HLen.out] at HP
    rw [HS.out.many] at HLv
    generalize stOf R p = sv at *
    go_wp2_with fail
    all_goals first
      | ((with_reducible refine HC1.out.mono ?_)
         rintro e w5 ⟨rfl, rfl⟩
         go_wp2_with fail
         refine HC2.out.mono ?_
         rintro e w6 ⟨rfl, rfl⟩
         go_wp2_with fail
         go_roundw
         case rel => exact ⟨p + 1, by omega, by omega, rfl, HK⟩
         case measure => simp [intOf]; omega)
      | ((with_reducible refine HP.out.mono ?_)
         rintro e w5 ⟨rfl, rfl⟩
         go_wp2_with fail
         refine (pages_r (HRr.out _ HK.out)).mono ?_
         rintro e w6 ⟨rfl, rfl⟩
         go_wp2_with fail
         refine HLv.out.mono ?_
         rintro e w7 ⟨rfl, hk7⟩
         have HK7 := Lib.hid (HK.out.trans hk7 (fun _ h => h.elim))
         clear hk7
         go_wp2_with fail
         refine (many_r 1 (HRr.out _ HK7.out) hmR).mono ?_
         rintro e w8 ⟨rfl, rfl⟩
         have HG := Lib.hid (tab_gone (HA.out _ HK7.out))
         rw [HS.out.many] at HG
         go_wp2_with fail
         refine HG.out.mono ?_
         rintro e w9 ⟨rfl, hk9⟩
         have HK9 := Lib.hid (HK7.out.trans hk9 (fun _ h => h.elim))
         clear hk9
         go_wp2_with fail
         refine (many_r 2 (HRr.out _ HK9.out) hmR).mono ?_
         rintro e w8 ⟨rfl, rfl⟩
         go_wp2_with fail
         refine (tab_missed (HA.out _ HK9.out)).mono ?_
         rintro e w8 ⟨rfl, rfl⟩
         go_wp2_with fail
         refine (missed_r (HRr.out _ HK9.out)).mono ?_
         rintro e w8 ⟨rfl, rfl⟩
         go_wp2_with fail
         go_ret
         exact ⟨rfl, HK9.out⟩)
end Go.Proofs.Ytkjkaliblkihmaa

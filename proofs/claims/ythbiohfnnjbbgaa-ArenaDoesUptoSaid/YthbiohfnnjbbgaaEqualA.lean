/- The pair: equal. -/
import Derived.Test.YthbiohfnnjbbgaaToldA
import Derived.Test.YthbiohfnnjbbgaaStepC
namespace Go.Proofs.Ythbiohfnnjbbgaa
set_option linter.unusedVariables false
set_option linter.unusedSimpArgs false
open Go Go.RowKit Go.Sort

set_option maxRecDepth 100000 in
set_option maxHeartbeats 8000000 in
theorem equal_p {n k p t r c : Nat} {a : Option Addr} {hs : List (Int × Int)} {L R : Rs} {st : Int} {w0 W : World} (H : One w0 W (DzL p t r a c hs L R st)) (D : Dz n k hs L R st) (hn : n ≤ 65536) (stop : Int) :
    Calls Try.prog 24 #[.pointer (some ⟨p, 0, none⟩), .int .i64 stop] W fun e w' => e = .returned (.bool true) ∧ KN W w' := by
  have hm : L.length ≤ 65536 := by have := D.len; omega
  have hlen := D.same.len
  have hfr := D.same.free
  obtain ⟨b0, b1, b2, _⟩ := cells3 (H.blk 0 rfl).1
  have hpb := (H.blk 0 rfl).1
  obtain ⟨F1, ha, _⟩ := H.get 2 rfl
  obtain ⟨F2, hr, _⟩ := H.get 3 rfl
  have HA := Lib.hid (fun (W' : World) (k : KN W W') => (ArS t L st).kn ha k)
  have HRr := Lib.hid (fun (W' : World) (k : KN W W') => (RfA r R st).kn hr k)
  have HP := Lib.hid (fun (W' : World) (k : KN W W') => k.blk hpb id)
  have HS := Lib.hid D.same
  have HE := Lib.hid (And.intro hlen hfr)
  clear H D hpb ha hr hlen hfr
  go_enter Try.func24, Try.ntmps24
  go_wp2_with fail
  refine (all_a (HA.out _ (Kp.refl _ _)) hm).mono ?_
  rintro e w1 ⟨x1, x2, rfl, G, hA, k1, _⟩
  have HAl := Lib.hid hA
  have HK1 := Lib.hid k1
  clear hA k1
  go_wp2_with fail
  refine (callsIn_wide.1 (told_in x1 x2 p t r _ L R st stop HS.out hm w1 G F2 HAl.out (HP.out _ HK1.out) (HRr.out _ HK1.out))).mono ?_
  rintro e w2 ⟨rfl, hb⟩
  have HK2 := Lib.hid (HK1.out.trans (Below.kn' hb) (fun _ h => h.elim))
  have HAl2 := Lib.hid ((AllA x1 x2 (allOf L)).kn HAl.out (Below.kn' hb))
  clear hb HAl HK1
  go_wp2_with fail
  refine (callsIn_wide.1 (told_in x1 x2 p t r _ L R st 0 HS.out hm w2 G F2 HAl2.out (HP.out _ HK2.out) (HRr.out _ HK2.out))).mono ?_
  rintro e w3 ⟨rfl, hb⟩
  have HK3 := Lib.hid (HK2.out.trans (Below.kn' hb) (fun _ h => h.elim))
  clear hb HAl2 HK2 b0 b1 b2
  obtain ⟨b0, b1, b2, _⟩ := cells3 (HP.out _ HK3.out)
  have kt := fun d os => HK3.out.trans (kn_regrown w3 d os) (fun _ h => h.elim)
  have c1 := fun d os => quiet_same (d := d) (os := os) (slots_S (HA.out _ (kt d os)))
  have c2 := fun d os => quiet_same (d := d) (os := os) (slots_r (HRr.out _ (kt d os)))
  have c3 := fun d os => quiet_kn (d := d) (os := os) (live_S (HA.out _ (kt d os)) hm)
  have c4 := fun d os => quiet_same (d := d) (os := os) (live_r (HRr.out _ (kt d os)) (by rw [← HE.out.1]; exact hm))
  have c5 := fun d os => quiet_same (d := d) (os := os) (stale_S (HA.out _ (kt d os)))
  have c6 := fun d os => quiet_same (d := d) (os := os) (stale_r (HRr.out _ (kt d os)))
  rw [← HE.out.1] at c2 c4
  rw [← HE.out.2] at c4
  have C1 := Lib.hid c1
  have C2 := Lib.hid c2
  have C3 := Lib.hid c3
  have C4 := Lib.hid c4
  have C5 := Lib.hid c5
  have C6 := Lib.hid c6
  clear c1 c2 c3 c4 c5 c6 kt
  have m0 := fun d os => cell_regrown (d := d) (os := os) b0
  have m1 := fun d os => cell_regrown (d := d) (os := os) b1
  clear b0 b1 b2
  go_wp2_with fail
  refine wp_region_quiet_below (by kernel_rfl) (by kernel_rfl) ?_
  repeat (go_big_quiet_step (first | (go_at_call 25; with_reducible exact C1.out _ _) | (go_at_call 42; with_reducible exact C2.out _ _) | (go_at_call 18; with_reducible exact C3.out _ _) | (go_at_call 22; with_reducible exact C4.out _ _) | (go_at_call 19; with_reducible exact C5.out _ _) | (go_at_call 23; with_reducible exact C6.out _ _)))
  refine wpQuiet_nil ?_
  intro _ hw'
  obtain ⟨⟨dq, osq⟩, hw''⟩ := hw'
  subst hw''
  go_wp2_with fail
  go_ret
  exact ⟨rfl, HK3.out.trans (kn_regrown w3 dq osq) (fun _ h => h.elim)⟩
end Go.Proofs.Ythbiohfnnjbbgaa

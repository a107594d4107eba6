/- The pair: step, its kinds that read. -/
import Derived.Test.YthbiohfnnjbbgaaHandA
import Derived.Test.YthbiohfnnjbbgaaArenaOS
import Derived.Deep.RegionHeld3
namespace Go.Proofs.Ythbiohfnnjbbgaa
set_option linter.unusedVariables false
set_option linter.unusedSimpArgs false
open Go Go.RowKit

abbrev DzL (p t r : Nat) (a : Option Addr) (c : Nat) (hs : List (Int × Int)) (L R : Rs) (st : Int) : List Asr := [Blk p (prO t r (.slice a hs.length c)), RH a c hs, ArS t L st, RfA r R st]
/-- What holds behind k steps. -/
structure Dz (n k : Nat) (hs : List (Int × Int)) (L R : Rs) (st : Int) : Prop where
  same : Same4 L R
  len : L.length = n
  gen : ∀ s ∈ L, 0 ≤ s.gen ∧ s.gen ≤ k
  st0 : 0 ≤ st ∧ st ≤ 2 * k
  hl : hs.length ≤ k
def StepPost (n k p r : Nat) (w0 : World) : Ending → World → Prop := fun e w' => e = .returned (.bool true) ∧ ∃ t a c hs L R st, Dz n (k + 1) hs L R st ∧ One w0 w' (DzL p t r a c hs L R st)
theorem Dz.up {n k : Nat} {hs : List (Int × Int)} {L R : Rs} {st st' : Int} (h : Dz n k hs L R st) (h1 : st ≤ st') (h2 : st' ≤ st + 2) : Dz n (k + 1) hs L R st' :=
  ⟨h.same, h.len, fun s hs => by have := h.gen s hs; exact ⟨this.1, by omega⟩, by have := h.st0; exact ⟨by omega, by omega⟩, by have := h.hl; omega⟩
set_option maxRecDepth 100000 in
set_option maxHeartbeats 4000000 in
theorem step_get {n k p t r c : Nat} {a : Option Addr} {hs : List (Int × Int)} {L R : Rs} {st : Int} {w0 w : World} {d us os og : Int} {tx : ByteArray} (H : One w0 w (DzL p t r a c hs L R st)) (D : Dz n k hs L R st) (hk : k ≤ 2000000)
    (hd0 : d ≠ 0) (hd2 : d ≠ 2) (hd3 : d ≠ 3) (hd4 : d ≠ 4) :
    Calls Try.prog 21 #[.pointer (some ⟨p, 0, none⟩), .agg #[.int .i64 d, .int .i64 us, .string tx, .int .i64 os, .int .i64 og]] w (StepPost n k p r w0) := by
  have HO := Lib.hid (H.alloc (.cells #[.int .i64 d, .int .i64 us, .string tx, .int .i64 os, .int .i64 og] 42))
  have HC := Lib.hid (handle_p (d := d) (us := us) (os := os) (og := og) (tx := tx) (HO.out.blk 1 rfl).1 (HO.out.rl 2 rfl encHn2 rfl).1 (by have := D.hl; omega))
  have HD := Lib.hid D
  clear H D
  go_enter Try.func21, Try.ntmps21
  obtain ⟨o0, o1, o2, o3, o4⟩ := cells5x (HO.out.blk 0 rfl).1
  go_wp2_with fail
  refine HC.out.mono ?_
  rintro e w1 ⟨⟨x, y, rfl⟩, hk1⟩
  have HO1 := Lib.hid ((HO.out.kn hk1).alloc (.cells #[.int .i64 x, .int .i64 y] 30))
  clear hk1 HO HC o0 o1 o2 o3 o4
  go_upto_region 2 with fail
  generalize w1.alloc (.cells #[.int .i64 x, .int .i64 y] 30) = W at *
  generalize w1.heap.size = gh at *
  generalize w.heap.size = go at *
  obtain ⟨o0, o1, o2, o3, o4⟩ := cells5x (HO1.out.blk 1 rfl).1
  obtain ⟨g0, g1, _, _⟩ := cells2 (HO1.out.blk 0 rfl).1
  obtain ⟨b0, b1, b2, _⟩ := cells3 (HO1.out.blk 2 rfl).1
  have hst := HD.out.st0
  cases hga : goodAt L x y with
  | some s =>
    obtain ⟨i, s', rfl, h1, h2, rfl, h4, h5, h6, h7⟩ := HD.out.same.good hga
    have HC1 := Lib.hid (fun W' (k : KN W W') => (HO1.out.kn k).rd 4 rfl (fun F h => get_good_S h h1 h2))
    have HC2 := Lib.hid (fun W' (k : KN W W') => (HO1.out.kn k).rd 5 rfl (fun F h => get_good_r h h4 h5))
    rw [h6, h7] at HC2
    clear hga h1 h2 h4 h5 h6 h7
    go_wp2_with fail
    go_region_held3 (fun w' => w'.cell? ⟨p, 0, none⟩ = some (.pointer (some ⟨t, 0, none⟩)) ∧ w'.cell? ⟨gh, 0, none⟩ = some (.int .i64 (i : Int)) ∧ w'.cell? ⟨gh, 1, none⟩ = some (.int .i64 s.gen)) (first | go_keep | (exact ⟨z0, z1, z2⟩)) ((go_at_call 17; refine (HC1.out _ (by repeat (first | exact Kp.refl _ _ | apply Kp.drew | apply Kp.alloc))).mono ?_; rintro e w5 ⟨rfl, hk5⟩; have HK := Lib.hid (show KN W w5 from Kp.trans (by repeat (first | exact Kp.refl _ _ | apply Kp.drew | apply Kp.alloc)) hk5 (fun _ h => h.elim)); clear hk5; have z0 := cell_kp HK.out id b0; have z1 := cell_kp HK.out id g0; have z2 := cell_kp HK.out id g1))
    have q0 := cell_kp HK.out id b1
    clear z0 b0 b1 b2 g0 g1 o0 o1 o2 o3 o4
    go_wp2_with fail
    have HC3 := Lib.hid (fun W' (k : KN w5 W') => HC2.out W' (HK.out.trans k (fun _ h => h.elim)))
    go_region_held3 (fun w' => w'.cell? ⟨p, 1, none⟩ = some (.pointer (some ⟨r, 0, none⟩)) ∧ w'.cell? ⟨gh, 0, none⟩ = some (.int .i64 (i : Int)) ∧ w'.cell? ⟨gh, 1, none⟩ = some (.int .i64 s.gen)) (first | go_keep | (exact ⟨y0, y1, y2⟩)) ((go_at_call 39; refine (HC3.out _ (by repeat (first | exact Kp.refl _ _ | apply Kp.drew | apply Kp.alloc))).mono ?_; rintro e w6 ⟨rfl, hk6⟩; have HK5 := Lib.hid (show KN w5 w6 from Kp.trans (by repeat (first | exact Kp.refl _ _ | apply Kp.drew | apply Kp.alloc)) hk6 (fun _ h => h.elim)); have HK6 := Lib.hid (HK.out.trans HK5.out (fun _ h => h.elim)); have y0 := cell_kp HK5.out id q0; have y1 := cell_kp HK5.out id z1; have y2 := cell_kp HK5.out id z2; clear hk6))
    go_wp2_with fail
    go_ret
    exact ⟨rfl, _, _, _, _, _, _, _, HD.out.up (Int.le_refl _) (by omega), (HO1.out.kn HK6.out).drop.drop⟩
  | none =>
    have HB := Lib.hid hga
    have HBR := Lib.hid (show (goodAt R x y).isSome = false by rw [HD.out.same.symm_some, hga]; rfl)
    have HC1 := Lib.hid (fun W' (k : KN W W') => (HO1.out.kn k).lift 4 rfl (fun F h => get_bad_S h HB.out (by omega)))
    clear hga
    go_wp2_with fail
    go_region_held3 (fun w' => w'.cell? ⟨p, 0, none⟩ = some (.pointer (some ⟨t, 0, none⟩)) ∧ w'.cell? ⟨gh, 0, none⟩ = some (.int .i64 x) ∧ w'.cell? ⟨gh, 1, none⟩ = some (.int .i64 y)) (first | go_keep | (exact ⟨z0, z1, z2⟩)) ((go_at_call 17; refine (HC1.out _ (by repeat (first | exact Kp.refl _ _ | apply Kp.drew | apply Kp.alloc))).mono ?_; rintro e w5 ⟨rfl, ho⟩; have HO5 := Lib.hid ho; clear ho; obtain ⟨z1, z2, _, _⟩ := cells2 (HO5.out.blk 0 rfl).1; obtain ⟨z0, q0, _, _⟩ := cells3 (HO5.out.blk 2 rfl).1))
    clear z0 b0 b1 b2 g0 g1 o0 o1 o2 o3 o4
    simp only [List.set_cons_succ, List.set_cons_zero] at HO5
    have HC2 := Lib.hid (fun W' (k : KN w5 W') => (HO5.out.kn k).lift 5 rfl (fun F h => get_bad_r h HBR.out (by omega)))
    go_wp2_with fail
    go_region_held3 (fun w' => w'.cell? ⟨p, 1, none⟩ = some (.pointer (some ⟨r, 0, none⟩)) ∧ w'.cell? ⟨gh, 0, none⟩ = some (.int .i64 x) ∧ w'.cell? ⟨gh, 1, none⟩ = some (.int .i64 y)) (first | go_keep | (exact ⟨y0, y1, y2⟩)) ((go_at_call 39; refine (HC2.out _ (by repeat (first | exact Kp.refl _ _ | apply Kp.drew | apply Kp.alloc))).mono ?_; rintro e w6 ⟨rfl, ho⟩; have HO6 := Lib.hid ho; clear ho; obtain ⟨y1, y2, _, _⟩ := cells2 (HO6.out.blk 0 rfl).1; obtain ⟨_, y0, _, _⟩ := cells3 (HO6.out.blk 2 rfl).1))
    simp only [List.set_cons_succ, List.set_cons_zero] at HO6
    go_wp2_with fail
    go_ret
    exact ⟨rfl, _, _, _, _, _, _, _, HD.out.up (st' := st + 1) (by omega) (by omega), HO6.out.drop.drop⟩
end Go.Proofs.Ythbiohfnnjbbgaa

/- The pair: step, Set and Free. -/
import Derived.Test.YthbiohfnnjbbgaaStepA
namespace Go.Proofs.Ythbiohfnnjbbgaa
set_option linter.unusedVariables false
set_option linter.unusedSimpArgs false
open Go Go.RowKit

theorem Dz.set {n k : Nat} {hs : List (Int × Int)} {L R : Rs} {st : Int} (h : Dz n k hs L R st) {i : Nat} {s a b : Slot ByteArray} (hx : L[i]? = some s) (e1 : a.given = b.given) (e2 : a.gen = b.gen) (e3 : a.given = true → a.has = b.has) (e4 : a.gen = s.gen) : Dz n (k + 1) hs (L.set i a) (R.set i b) st := by
  refine ⟨h.same.set i e1 e2 e3, by rw [List.length_set]; exact h.len, fun x hx2 => ?_, by have := h.st0; exact ⟨by omega, by omega⟩, by have := h.hl; omega⟩
  rcases List.mem_or_eq_of_mem_set hx2 with hx2 | rfl
  · have := h.gen x hx2
    exact ⟨this.1, by omega⟩
  · have := h.gen s (List.mem_of_getElem? hx)
    rw [e4]
    exact ⟨this.1, by omega⟩
set_option maxRecDepth 100000 in
set_option maxHeartbeats 8000000 in
theorem step_set {n k p t r c : Nat} {a : Option Addr} {hs : List (Int × Int)} {L R : Rs} {st : Int} {w0 w : World} {us os og : Int} {tx : ByteArray} (H : One w0 w (DzL p t r a c hs L R st)) (D : Dz n k hs L R st) (hk : k ≤ 2000000) (hn : n ≤ 65536) :
    Calls Try.prog 21 #[.pointer (some ⟨p, 0, none⟩), .agg #[.int .i64 2, .int .i64 us, .string tx, .int .i64 os, .int .i64 og]] w (StepPost n k p r w0) := by
  have HO := Lib.hid (H.alloc (.cells #[.int .i64 2, .int .i64 us, .string tx, .int .i64 os, .int .i64 og] 42))
  have HC := Lib.hid (handle_p (d := 2) (us := us) (os := os) (og := og) (tx := tx) (HO.out.blk 1 rfl).1 (HO.out.rl 2 rfl encHn2 rfl).1 (by have := D.hl; omega))
  have HD := Lib.hid D
  clear H D
  go_enter Try.func21, Try.ntmps21
  obtain ⟨o0, o1, o2, o3, o4⟩ := cells5x (HO.out.blk 0 rfl).1
  go_wp2_with fail
  refine HC.out.mono ?_
  rintro e w1 ⟨⟨x, y, rfl⟩, hk1⟩
  have HO1 := Lib.hid ((HO.out.kn hk1).alloc (.cells #[.int .i64 x, .int .i64 y] 30))
  clear hk1 HO HC o0 o1 o2 o3 o4
  go_upto_region 2 with fail
  generalize w1.alloc (.cells #[.int .i64 x, .int .i64 y] 30) = W at *
  generalize w1.heap.size = gh at *
  generalize w.heap.size = go at *
  obtain ⟨o0, o1, o2, o3, o4⟩ := cells5x (HO1.out.blk 1 rfl).1
  obtain ⟨g0, g1, _, _⟩ := cells2 (HO1.out.blk 0 rfl).1
  obtain ⟨b0, b1, b2, _⟩ := cells3 (HO1.out.blk 2 rfl).1
  have hst := HD.out.st0
  have hlen := HD.out.len
  have hlen2 := HD.out.same.len
  have HOn := HO1
  unfold DzL at HOn
  clear HO1
  cases hga : goodAt L x y with
  | some s =>
    obtain ⟨i, s', rfl, h1, h2, rfl, h4, h5, h6, h7⟩ := HD.out.same.good hga
    have GA : Hid (∀ Wc X, One w0 Wc [Blk gh (.cells #[.int .i64 i, .int .i64 s.gen] 30), Blk go (.cells #[.int .i64 2, .int .i64 us, .string tx, .int .i64 os, .int .i64 og] 42), Blk p (prO t r (.slice a hs.length c)), RH a c hs, ArS t L st, X] → Calls Try.prog 16 #[.pointer (some ⟨t, 0, none⟩), .agg #[.int .i64 i, .int .i64 s.gen], .string tx] Wc fun e w' => e = .returned (.int .i64 0) ∧ One w0 w' [Blk gh (.cells #[.int .i64 i, .int .i64 s.gen] 30), Blk go (.cells #[.int .i64 2, .int .i64 us, .string tx, .int .i64 os, .int .i64 og] 42), Blk p (prO t r (.slice a hs.length c)), RH a c hs, ArS t (L.set i ⟨tx, s.gen, s.given⟩) st, X]) := Lib.hid (fun Wc X h => h.lift 4 rfl (fun F h => set_good_S h h1 h2 tx))
    have GR : Hid (∀ Wc X, One w0 Wc [Blk gh (.cells #[.int .i64 i, .int .i64 s.gen] 30), Blk go (.cells #[.int .i64 2, .int .i64 us, .string tx, .int .i64 os, .int .i64 og] 42), Blk p (prO t r (.slice a hs.length c)), RH a c hs, X, RfA r R st] → Calls Try.prog 37 #[.pointer (some ⟨r, 0, none⟩), .agg #[.int .i64 i, .int .i64 s.gen], .string tx] Wc fun e w' => e = .returned (.int .i64 0) ∧ One w0 w' [Blk gh (.cells #[.int .i64 i, .int .i64 s.gen] 30), Blk go (.cells #[.int .i64 2, .int .i64 us, .string tx, .int .i64 os, .int .i64 og] 42), Blk p (prO t r (.slice a hs.length c)), RH a c hs, X, RfA r (R.set i ⟨tx, s.gen, s'.given⟩) st]) := Lib.hid (fun Wc X h => h.lift 5 rfl (fun F h => by have := set_good_r h h4 h5 tx; rw [h6] at this; exact this))
    have HD2 := Lib.hid (HD.out.set (a := ⟨tx, s.gen, s.given⟩) (b := ⟨tx, s.gen, s'.given⟩) h1 (by rw [h2, h5]) rfl (fun _ => rfl) rfl)
    clear hga h1 h2 h4 h5 h7
    go_wp2_with fail
    go_region_held3 (fun w' => w'.cell? ⟨p, 0, none⟩ = some (.pointer (some ⟨t, 0, none⟩)) ∧ w'.cell? ⟨p, 1, none⟩ = some (.pointer (some ⟨r, 0, none⟩)) ∧ w'.cell? ⟨gh, 0, none⟩ = some (.int .i64 (i : Int)) ∧ w'.cell? ⟨gh, 1, none⟩ = some (.int .i64 s.gen) ∧ w'.cell? ⟨go, 2, none⟩ = some (.string tx)) (first | go_keep | (exact ⟨z0, z1, z2, z3, z4⟩)) (first
      | (go_at_call 16; refine (GA.out _ _ (HOn.out.kn (by repeat (first | exact Kp.refl _ _ | apply Kp.drew | apply Kp.alloc)))).mono ?_; rintro e w5 ⟨rfl, ho⟩; have HOn := Lib.hid ho; clear ho; obtain ⟨z2, z3, _, _⟩ := cells2 (HOn.out.blk 0 rfl).1; obtain ⟨z0, z1, _, _⟩ := cells3 (HOn.out.blk 2 rfl).1; obtain ⟨_, _, z4, _, _⟩ := cells5x (HOn.out.blk 1 rfl).1)
      | (go_at_call 37; refine (GR.out _ _ (HOn.out.kn (by repeat (first | exact Kp.refl _ _ | apply Kp.drew | apply Kp.alloc)))).mono ?_; rintro e w5 ⟨rfl, ho⟩; have HOn := Lib.hid ho; clear ho; obtain ⟨z2, z3, _, _⟩ := cells2 (HOn.out.blk 0 rfl).1; obtain ⟨z0, z1, _, _⟩ := cells3 (HOn.out.blk 2 rfl).1; obtain ⟨_, _, z4, _, _⟩ := cells5x (HOn.out.blk 1 rfl).1))
    all_goals
      go_wp2_with fail
      go_ret
      exact ⟨rfl, _, _, _, _, _, _, _, HD2.out, (HOn.out.kn (by repeat (first | exact Kp.refl _ _ | apply Kp.drew | apply Kp.alloc))).drop.drop⟩
  | none =>
    have HB := Lib.hid hga
    have HBR := Lib.hid (show (goodAt R x y).isSome = false by rw [HD.out.same.symm_some, hga]; rfl)
    have GA : Hid (∀ Wc X, One w0 Wc [Blk gh (.cells #[.int .i64 x, .int .i64 y] 30), Blk go (.cells #[.int .i64 2, .int .i64 us, .string tx, .int .i64 os, .int .i64 og] 42), Blk p (prO t r (.slice a hs.length c)), RH a c hs, ArS t L st, X] → Calls Try.prog 16 #[.pointer (some ⟨t, 0, none⟩), .agg #[.int .i64 x, .int .i64 y], .string tx] Wc fun e w' => e = .returned (.int .i64 7) ∧ One w0 w' [Blk gh (.cells #[.int .i64 x, .int .i64 y] 30), Blk go (.cells #[.int .i64 2, .int .i64 us, .string tx, .int .i64 os, .int .i64 og] 42), Blk p (prO t r (.slice a hs.length c)), RH a c hs, ArS t L (st + 1), X]) := Lib.hid (fun Wc X h => h.lift 4 rfl (fun F h => set_bad_S h HB.out (by omega) tx))
    have GR : Hid (∀ Wc X, One w0 Wc [Blk gh (.cells #[.int .i64 x, .int .i64 y] 30), Blk go (.cells #[.int .i64 2, .int .i64 us, .string tx, .int .i64 os, .int .i64 og] 42), Blk p (prO t r (.slice a hs.length c)), RH a c hs, X, RfA r R st] → Calls Try.prog 37 #[.pointer (some ⟨r, 0, none⟩), .agg #[.int .i64 x, .int .i64 y], .string tx] Wc fun e w' => e = .returned (.int .i64 7) ∧ One w0 w' [Blk gh (.cells #[.int .i64 x, .int .i64 y] 30), Blk go (.cells #[.int .i64 2, .int .i64 us, .string tx, .int .i64 os, .int .i64 og] 42), Blk p (prO t r (.slice a hs.length c)), RH a c hs, X, RfA r R (st + 1)]) := Lib.hid (fun Wc X h => h.lift 5 rfl (fun F h => set_bad_r h HBR.out (by omega) tx))
    clear hga
    go_wp2_with fail
    go_region_held3 (fun w' => w'.cell? ⟨p, 0, none⟩ = some (.pointer (some ⟨t, 0, none⟩)) ∧ w'.cell? ⟨p, 1, none⟩ = some (.pointer (some ⟨r, 0, none⟩)) ∧ w'.cell? ⟨gh, 0, none⟩ = some (.int .i64 x) ∧ w'.cell? ⟨gh, 1, none⟩ = some (.int .i64 y) ∧ w'.cell? ⟨go, 2, none⟩ = some (.string tx)) (first | go_keep | (exact ⟨z0, z1, z2, z3, z4⟩)) (first
      | (go_at_call 16; refine (GA.out _ _ (HOn.out.kn (by repeat (first | exact Kp.refl _ _ | apply Kp.drew | apply Kp.alloc)))).mono ?_; rintro e w5 ⟨rfl, ho⟩; have HOn := Lib.hid ho; clear ho; obtain ⟨z2, z3, _, _⟩ := cells2 (HOn.out.blk 0 rfl).1; obtain ⟨z0, z1, _, _⟩ := cells3 (HOn.out.blk 2 rfl).1; obtain ⟨_, _, z4, _, _⟩ := cells5x (HOn.out.blk 1 rfl).1)
      | (go_at_call 37; refine (GR.out _ _ (HOn.out.kn (by repeat (first | exact Kp.refl _ _ | apply Kp.drew | apply Kp.alloc)))).mono ?_; rintro e w5 ⟨rfl, ho⟩; have HOn := Lib.hid ho; clear ho; obtain ⟨z2, z3, _, _⟩ := cells2 (HOn.out.blk 0 rfl).1; obtain ⟨z0, z1, _, _⟩ := cells3 (HOn.out.blk 2 rfl).1; obtain ⟨_, _, z4, _, _⟩ := cells5x (HOn.out.blk 1 rfl).1))
    all_goals
      go_wp2_with fail
      go_ret
      exact ⟨rfl, _, _, _, _, _, _, _, HD.out.up (st' := st + 1) (by omega) (by omega), (HOn.out.kn (by repeat (first | exact Kp.refl _ _ | apply Kp.drew | apply Kp.alloc))).drop.drop⟩
set_option maxRecDepth 100000 in
set_option maxHeartbeats 8000000 in
theorem step_free {n k p t r c : Nat} {a : Option Addr} {hs : List (Int × Int)} {L R : Rs} {st : Int} {w0 w : World} {us os og : Int} {tx : ByteArray} (H : One w0 w (DzL p t r a c hs L R st)) (D : Dz n k hs L R st) (hk : k ≤ 2000000) (hn : n ≤ 65536) :
    Calls Try.prog 21 #[.pointer (some ⟨p, 0, none⟩), .agg #[.int .i64 3, .int .i64 us, .string tx, .int .i64 os, .int .i64 og]] w (StepPost n k p r w0) := by
  have HO := Lib.hid (H.alloc (.cells #[.int .i64 3, .int .i64 us, .string tx, .int .i64 os, .int .i64 og] 42))
  have HC := Lib.hid (handle_p (d := 3) (us := us) (os := os) (og := og) (tx := tx) (HO.out.blk 1 rfl).1 (HO.out.rl 2 rfl encHn2 rfl).1 (by have := D.hl; omega))
  have HD := Lib.hid D
  clear H D
  go_enter Try.func21, Try.ntmps21
  obtain ⟨o0, o1, o2, o3, o4⟩ := cells5x (HO.out.blk 0 rfl).1
  go_wp2_with fail
  refine HC.out.mono ?_
  rintro e w1 ⟨⟨x, y, rfl⟩, hk1⟩
  have HO1 := Lib.hid ((HO.out.kn hk1).alloc (.cells #[.int .i64 x, .int .i64 y] 30))
  clear hk1 HO HC o0 o1 o2 o3 o4
  go_upto_region 2 with fail
  generalize w1.alloc (.cells #[.int .i64 x, .int .i64 y] 30) = W at *
  generalize w1.heap.size = gh at *
  generalize w.heap.size = go at *
  obtain ⟨o0, o1, o2, o3, o4⟩ := cells5x (HO1.out.blk 1 rfl).1
  obtain ⟨g0, g1, _, _⟩ := cells2 (HO1.out.blk 0 rfl).1
  obtain ⟨b0, b1, b2, _⟩ := cells3 (HO1.out.blk 2 rfl).1
  have hst := HD.out.st0
  have hlen := HD.out.len
  have hlen2 := HD.out.same.len
  have HOn := HO1
  unfold DzL at HOn
  clear HO1
  cases hga : goodAt L x y with
  | some s =>
    obtain ⟨i, s', rfl, h1, h2, rfl, h4, h5, h6, h7⟩ := HD.out.same.good hga
    have GA : Hid (∀ Wc X, One w0 Wc [Blk gh (.cells #[.int .i64 i, .int .i64 s.gen] 30), Blk go (.cells #[.int .i64 3, .int .i64 us, .string tx, .int .i64 os, .int .i64 og] 42), Blk p (prO t r (.slice a hs.length c)), RH a c hs, ArS t L st, X] → Calls Try.prog 15 #[.pointer (some ⟨t, 0, none⟩), .agg #[.int .i64 i, .int .i64 s.gen]] Wc fun e w' => e = .returned (.int .i64 0) ∧ One w0 w' [Blk gh (.cells #[.int .i64 i, .int .i64 s.gen] 30), Blk go (.cells #[.int .i64 3, .int .i64 us, .string tx, .int .i64 os, .int .i64 og] 42), Blk p (prO t r (.slice a hs.length c)), RH a c hs, ArS t (L.set i ⟨(ByteArray.mk #[]), s.gen, false⟩) st, X]) := Lib.hid (fun Wc X h => h.lift 4 rfl (fun F h => free_good_S h h1 h2 (by omega)))
    have GR : Hid (∀ Wc X, One w0 Wc [Blk gh (.cells #[.int .i64 i, .int .i64 s.gen] 30), Blk go (.cells #[.int .i64 3, .int .i64 us, .string tx, .int .i64 os, .int .i64 og] 42), Blk p (prO t r (.slice a hs.length c)), RH a c hs, X, RfA r R st] → Calls Try.prog 38 #[.pointer (some ⟨r, 0, none⟩), .agg #[.int .i64 i, .int .i64 s.gen]] Wc fun e w' => e = .returned (.int .i64 0) ∧ One w0 w' [Blk gh (.cells #[.int .i64 i, .int .i64 s.gen] 30), Blk go (.cells #[.int .i64 3, .int .i64 us, .string tx, .int .i64 os, .int .i64 og] 42), Blk p (prO t r (.slice a hs.length c)), RH a c hs, X, RfA r (R.set i ⟨s'.has, s.gen, false⟩) st]) := Lib.hid (fun Wc X h => h.lift 5 rfl (fun F h => by have := free_good_r h h4 h5; rw [h6] at this; exact this))
    have HD2 := Lib.hid (HD.out.set (a := ⟨(ByteArray.mk #[]), s.gen, false⟩) (b := ⟨s'.has, s.gen, false⟩) h1 rfl rfl (fun h => by cases h) rfl)
    clear hga h1 h2 h4 h5 h7
    go_wp2_with fail
    go_region_held3 (fun w' => w'.cell? ⟨p, 0, none⟩ = some (.pointer (some ⟨t, 0, none⟩)) ∧ w'.cell? ⟨p, 1, none⟩ = some (.pointer (some ⟨r, 0, none⟩)) ∧ w'.cell? ⟨gh, 0, none⟩ = some (.int .i64 (i : Int)) ∧ w'.cell? ⟨gh, 1, none⟩ = some (.int .i64 s.gen) ∧ w'.cell? ⟨go, 2, none⟩ = some (.string tx)) (first | go_keep | (exact ⟨z0, z1, z2, z3, z4⟩)) (first
      | (go_at_call 15; refine (GA.out _ _ (HOn.out.kn (by repeat (first | exact Kp.refl _ _ | apply Kp.drew | apply Kp.alloc)))).mono ?_; rintro e w5 ⟨rfl, ho⟩; have HOn := Lib.hid ho; clear ho; obtain ⟨z2, z3, _, _⟩ := cells2 (HOn.out.blk 0 rfl).1; obtain ⟨z0, z1, _, _⟩ := cells3 (HOn.out.blk 2 rfl).1; obtain ⟨_, _, z4, _, _⟩ := cells5x (HOn.out.blk 1 rfl).1)
      | (go_at_call 38; refine (GR.out _ _ (HOn.out.kn (by repeat (first | exact Kp.refl _ _ | apply Kp.drew | apply Kp.alloc)))).mono ?_; rintro e w5 ⟨rfl, ho⟩; have HOn := Lib.hid ho; clear ho; obtain ⟨z2, z3, _, _⟩ := cells2 (HOn.out.blk 0 rfl).1; obtain ⟨z0, z1, _, _⟩ := cells3 (HOn.out.blk 2 rfl).1; obtain ⟨_, _, z4, _, _⟩ := cells5x (HOn.out.blk 1 rfl).1))
    all_goals
      go_wp2_with fail
      go_ret
      exact ⟨rfl, _, _, _, _, _, _, _, HD2.out, (HOn.out.kn (by repeat (first | exact Kp.refl _ _ | apply Kp.drew | apply Kp.alloc))).drop.drop⟩
  | none =>
    have HB := Lib.hid hga
    have HBR := Lib.hid (show (goodAt R x y).isSome = false by rw [HD.out.same.symm_some, hga]; rfl)
    have GA : Hid (∀ Wc X, One w0 Wc [Blk gh (.cells #[.int .i64 x, .int .i64 y] 30), Blk go (.cells #[.int .i64 3, .int .i64 us, .string tx, .int .i64 os, .int .i64 og] 42), Blk p (prO t r (.slice a hs.length c)), RH a c hs, ArS t L st, X] → Calls Try.prog 15 #[.pointer (some ⟨t, 0, none⟩), .agg #[.int .i64 x, .int .i64 y]] Wc fun e w' => e = .returned (.int .i64 7) ∧ One w0 w' [Blk gh (.cells #[.int .i64 x, .int .i64 y] 30), Blk go (.cells #[.int .i64 3, .int .i64 us, .string tx, .int .i64 os, .int .i64 og] 42), Blk p (prO t r (.slice a hs.length c)), RH a c hs, ArS t L (st + 1), X]) := Lib.hid (fun Wc X h => h.lift 4 rfl (fun F h => free_bad_S h HB.out (by omega)))
    have GR : Hid (∀ Wc X, One w0 Wc [Blk gh (.cells #[.int .i64 x, .int .i64 y] 30), Blk go (.cells #[.int .i64 3, .int .i64 us, .string tx, .int .i64 os, .int .i64 og] 42), Blk p (prO t r (.slice a hs.length c)), RH a c hs, X, RfA r R st] → Calls Try.prog 38 #[.pointer (some ⟨r, 0, none⟩), .agg #[.int .i64 x, .int .i64 y]] Wc fun e w' => e = .returned (.int .i64 7) ∧ One w0 w' [Blk gh (.cells #[.int .i64 x, .int .i64 y] 30), Blk go (.cells #[.int .i64 3, .int .i64 us, .string tx, .int .i64 os, .int .i64 og] 42), Blk p (prO t r (.slice a hs.length c)), RH a c hs, X, RfA r R (st + 1)]) := Lib.hid (fun Wc X h => h.lift 5 rfl (fun F h => free_bad_r h HBR.out (by omega)))
    clear hga
    go_wp2_with fail
    go_region_held3 (fun w' => w'.cell? ⟨p, 0, none⟩ = some (.pointer (some ⟨t, 0, none⟩)) ∧ w'.cell? ⟨p, 1, none⟩ = some (.pointer (some ⟨r, 0, none⟩)) ∧ w'.cell? ⟨gh, 0, none⟩ = some (.int .i64 x) ∧ w'.cell? ⟨gh, 1, none⟩ = some (.int .i64 y) ∧ w'.cell? ⟨go, 2, none⟩ = some (.string tx)) (first | go_keep | (exact ⟨z0, z1, z2, z3, z4⟩)) (first
      | (go_at_call 15; refine (GA.out _ _ (HOn.out.kn (by repeat (first | exact Kp.refl _ _ | apply Kp.drew | apply Kp.alloc)))).mono ?_; rintro e w5 ⟨rfl, ho⟩; have HOn := Lib.hid ho; clear ho; obtain ⟨z2, z3, _, _⟩ := cells2 (HOn.out.blk 0 rfl).1; obtain ⟨z0, z1, _, _⟩ := cells3 (HOn.out.blk 2 rfl).1; obtain ⟨_, _, z4, _, _⟩ := cells5x (HOn.out.blk 1 rfl).1)
      | (go_at_call 38; refine (GR.out _ _ (HOn.out.kn (by repeat (first | exact Kp.refl _ _ | apply Kp.drew | apply Kp.alloc)))).mono ?_; rintro e w5 ⟨rfl, ho⟩; have HOn := Lib.hid ho; clear ho; obtain ⟨z2, z3, _, _⟩ := cells2 (HOn.out.blk 0 rfl).1; obtain ⟨z0, z1, _, _⟩ := cells3 (HOn.out.blk 2 rfl).1; obtain ⟨_, _, z4, _, _⟩ := cells5x (HOn.out.blk 1 rfl).1))
    all_goals
      go_wp2_with fail
      go_ret
      exact ⟨rfl, _, _, _, _, _, _, _, HD.out.up (st' := st + 1) (by omega) (by omega), (HOn.out.kn (by repeat (first | exact Kp.refl _ _ | apply Kp.drew | apply Kp.alloc))).drop.drop⟩
end Go.Proofs.Ythbiohfnnjbbgaa

/- The pair: step, Clone. -/
import Derived.Test.YthbiohfnnjbbgaaStepP
import Derived.Test.YthbiohfnnjbbgaaCloneT
namespace Go.Proofs.Ythbiohfnnjbbgaa
set_option linter.unusedVariables false
set_option linter.unusedSimpArgs false
open Go Go.RowKit

theorem One.liftE {P : Program} {f : FuncId} {args : Array Value} {X : Type} {r : X → Ending} {Q : X → Prop} {A : Asr} {A' : X → Asr} {w0 w : World} {l : List Asr} (h : One w0 w l) (i : Nat) (hi : l[i]? = some A)
    (hc : ∀ F, A.on w F → Calls P f args w fun e w' => ∃ x, e = r x ∧ Q x ∧ Post (A' x) F w w') : Calls P f args w fun e w' => ∃ x, e = r x ∧ Q x ∧ One w0 w' (l.set i (A' x)) := by
  obtain ⟨F, h1, _, h3⟩ := h.get i hi
  exact (hc F h1).mono fun e w' ⟨x, he, hq, hp⟩ => ⟨x, he, hq, h3 hp⟩
theorem put_any_S {t : Nat} {l : Rs} {st : Int} {w : World} {F : Nat → Prop} (h : (ArS t l st).on w F) (hg : ∀ s ∈ l, 0 ≤ s.gen ∧ s.gen ≤ 9000000) (hm : l.length ≤ 65536) (x : ByteArray) :
    Calls Try.prog 14 #[.pointer (some ⟨t, 0, none⟩), .string x] w fun e w' => ∃ y : (Int × Int × Int) × Rs, e = .returned (.tuple #[.agg #[.int .i64 y.1.1, .int .i64 y.1.2.1], .int .i64 y.1.2.2]) ∧ y.2.length = l.length ∧ Post (ArS t y.2 st) F w w' := by
  cases hf : freeOf l with
  | nil => exact (put_full_S h hf x).mono fun e w' ⟨he, hk⟩ => ⟨((0, 0, 5), l), he, rfl, Post.same h hk⟩
  | cons f fr =>
    obtain ⟨i, rfl⟩ : ∃ i : Nat, f = i := by
      have : f ∈ freeOf l := by rw [hf]; exact List.mem_cons_self
      obtain ⟨i, _, rfl⟩ := List.mem_map.1 this
      exact ⟨i, rfl⟩
    obtain ⟨h1, h2, _⟩ := free_put (s := (⟨x, 0, true⟩ : Slot ByteArray)) hf rfl
    obtain ⟨s, hs1⟩ : ∃ s, l[i]? = some s := ⟨_, List.getElem?_eq_getElem h1⟩
    exact (put_ok_S h hf hs1 (hg s (List.mem_of_getElem? hs1)) hm x).mono fun e w' ⟨he, hp⟩ => ⟨((i, s.gen + 1, 0), _), he, by simp, hp⟩
theorem free_any_S {t : Nat} {l : Rs} {st : Int} {w : World} {F : Nat → Prop} (h : (ArS t l st).on w F) (hst : 0 ≤ st ∧ st ≤ 4611686018427387904) (hm : l.length ≤ 65536) (x y : Int) :
    Calls Try.prog 15 #[.pointer (some ⟨t, 0, none⟩), .agg #[.int .i64 x, .int .i64 y]] w fun e w' => ∃ z : Int × Rs × Int, e = .returned (.int .i64 z.1) ∧ True ∧ Post (ArS t z.2.1 z.2.2) F w w' := by
  cases hga : goodAt l x y with
  | none => exact (free_bad_S h hga hst).mono fun e w' ⟨he, hp⟩ => ⟨(7, l, st + 1), he, trivial, hp⟩
  | some s =>
    obtain ⟨i, _, rfl, h1, h2, rfl, _⟩ := (Same4.refl l).good hga
    exact (free_good_S h h1 h2 hm).mono fun e w' ⟨he, hp⟩ => ⟨(0, _, st), he, trivial, hp⟩
set_option maxRecDepth 100000 in
set_option maxHeartbeats 4000000 in
theorem step_clone {n k p t r c : Nat} {a : Option Addr} {hs : List (Int × Int)} {L R : Rs} {st : Int} {w0 w : World} {us os og : Int} {tx : ByteArray} (H : One w0 w (DzL p t r a c hs L R st)) (D : Dz n k hs L R st) (hk : k ≤ 2000000) (hn : n ≤ 65536) (hn1 : 1 ≤ n) :
    Calls Try.prog 21 #[.pointer (some ⟨p, 0, none⟩), .agg #[.int .i64 4, .int .i64 us, .string tx, .int .i64 os, .int .i64 og]] w (StepPost n k p r w0) := by
  have HO := Lib.hid (H.alloc (.cells #[.int .i64 4, .int .i64 us, .string tx, .int .i64 os, .int .i64 og] 42))
  have HC := Lib.hid (handle_p (d := 4) (us := us) (os := os) (og := og) (tx := tx) (HO.out.blk 1 rfl).1 (HO.out.rl 2 rfl encHn2 rfl).1 (by have := D.hl; omega))
  have HD := Lib.hid D
  clear H D
  go_enter Try.func21, Try.ntmps21
  obtain ⟨o0, o1, o2, o3, o4⟩ := cells5x (HO.out.blk 0 rfl).1
  go_wp2_with fail
  refine HC.out.mono ?_
  rintro e w1 ⟨⟨x, y, rfl⟩, hk1⟩
  have HO1 := Lib.hid ((HO.out.kn hk1).alloc (.cells #[.int .i64 x, .int .i64 y] 30))
  clear hk1 HO HC o0 o1 o2 o3 o4
  go_upto_region 2 with fail
  generalize w1.alloc (.cells #[.int .i64 x, .int .i64 y] 30) = W at *
  generalize w1.heap.size = gh at *
  generalize w.heap.size = go at *
  obtain ⟨o0, o1, o2, o3, o4⟩ := cells5x (HO1.out.blk 1 rfl).1
  obtain ⟨g0, g1, _, _⟩ := cells2 (HO1.out.blk 0 rfl).1
  obtain ⟨b0, b1, b2, _⟩ := cells3 (HO1.out.blk 2 rfl).1
  have hst := HD.out.st0
  have hlen := HD.out.len
  have HCl := Lib.hid (HO1.out.rd 4 rfl (fun F h => callsIn_wide.1 (clone_in h (by omega) (by omega))))
  go_wp2_with fail
  refine HCl.out.mono ?_
  rintro e w2 ⟨t2, rfl, hp2⟩
  have HO2 := Lib.hid (HO1.out.add hp2)
  clear hp2 HO1 HCl o0 o1 o2 o3 o4 g0 g1 b0 b1 b2
  obtain ⟨o0, o1, o2, o3, o4⟩ := cells5x (HO2.out.blk 2 rfl).1
  obtain ⟨b0, b1, b2, _⟩ := cells3 (HO2.out.blk 3 rfl).1
  have HP := Lib.hid (fun W' (k : KN w2 W') => (HO2.out.kn k).liftE 5 rfl (fun F h => put_any_S h (fun s hs => by have := HD.out.gen s hs; exact ⟨this.1, by omega⟩) (by omega) tx))
  go_upto_region 15 with fail
  go_region_held3 (fun w' => w'.cell? ⟨p, 0, none⟩ = some (.pointer (some ⟨t, 0, none⟩)) ∧ w'.cell? ⟨go, 2, none⟩ = some (.string tx)) (first | go_keep | (exact ⟨z0, z4⟩)) ((go_at_call 14; refine (HP.out _ (by repeat (first | exact Kp.refl _ _ | apply Kp.drew))).mono ?_; rintro e w5 ⟨⟨⟨pa, pb, pc⟩, L2⟩, rfl, hl2, ho⟩; have HO3 := Lib.hid ho; clear ho; obtain ⟨z0, _, _, _⟩ := cells3 (HO3.out.blk 3 rfl).1; obtain ⟨_, _, z4, _, _⟩ := cells5x (HO3.out.blk 2 rfl).1))
  simp only [List.set_cons_succ, List.set_cons_zero] at HO3
  clear HP o0 o1 o2 o3 o4 b0 b1 b2
  obtain ⟨g0, g1, _, _⟩ := cells2 (HO3.out.blk 1 rfl).1
  obtain ⟨b0, b1, b2, _⟩ := cells3 (HO3.out.blk 3 rfl).1
  have HP := Lib.hid (fun W' (k : KN w5 W') => (HO3.out.kn k).liftE 5 rfl (fun F h => free_any_S h (by omega) (by omega) x y))
  go_upto_region 16 with fail
  go_region_held3 (fun w' => w'.cell? ⟨p, 0, none⟩ = some (.pointer (some ⟨t, 0, none⟩)) ∧ w'.cell? ⟨gh, 0, none⟩ = some (.int .i64 x) ∧ w'.cell? ⟨gh, 1, none⟩ = some (.int .i64 y)) (first | go_keep | (exact ⟨z5, z6, z7⟩)) ((go_at_call 15; refine (HP.out _ (by repeat (first | exact Kp.refl _ _ | apply Kp.drew))).mono ?_; rintro e w6 ⟨⟨fe, L3, st3⟩, rfl, _, ho⟩; have HO4 := Lib.hid ho; clear ho; obtain ⟨z5, _, _, _⟩ := cells3 (HO4.out.blk 3 rfl).1; obtain ⟨z6, z7, _, _⟩ := cells2 (HO4.out.blk 1 rfl).1))
  simp only [List.set_cons_succ, List.set_cons_zero] at HO4
  clear HP g0 g1 b0 b1 b2
  obtain ⟨b0, b1, b2, bf, _⟩ := cells3 (HO4.out.blk 3 rfl).1
  have HO5 := Lib.hid (HO4.out.setCA 3 rfl (j := 0) (.pointer (some ⟨t2, 0, none⟩)))
  go_wp2_with fail
  go_ret
  exact ⟨rfl, t2, a, c, hs, L, R, st, HD.out.up (Int.le_refl _) (by omega), HO5.out.sel [3, 3, 0, 3] rfl⟩
end Go.Proofs.Ythbiohfnnjbbgaa

/- The pair: step, Put. -/
import Derived.Test.YthbiohfnnjbbgaaStepB
namespace Go.Proofs.Ythbiohfnnjbbgaa
set_option linter.unusedVariables false
set_option linter.unusedSimpArgs false
open Go Go.RowKit

theorem Dz.put {n k : Nat} {hs : List (Int × Int)} {L R : Rs} {st : Int} (h : Dz n k hs L R st) {i : Nat} {s : Slot ByteArray} (hx : L[i]? = some s) (x : ByteArray) (g : Int × Int) : Dz n (k + 1) (hs ++ [g]) (L.set i ⟨x, s.gen + 1, true⟩) (R.set i ⟨x, s.gen + 1, true⟩) st := by
  refine ⟨h.same.set i rfl rfl (fun _ => rfl), by rw [List.length_set]; exact h.len, fun y hx2 => ?_, by have := h.st0; exact ⟨by omega, by omega⟩, by have := h.hl; rw [List.length_append]; simp; omega⟩
  have hg := h.gen s (List.mem_of_getElem? hx)
  rcases List.mem_or_eq_of_mem_set hx2 with hx2 | rfl
  · have := h.gen y hx2
    exact ⟨this.1, by omega⟩
  · exact ⟨by show 0 ≤ s.gen + 1; omega, by show s.gen + 1 ≤ ((k + 1 : Nat) : Int); omega⟩
theorem put_rows {p t r c : Nat} {a : Option Addr} {hs : List (Int × Int)} {g : Int × Int} {L R : Rs} {st : Int} {w0 w : World} (h : One w0 w [Blk p (prO t r (.slice a (hs.length + 1) c)), RowA 30 2 (.slice a (hs.length + 1) c) (hs.length + 1) ((hs ++ [g]).flatMap encHn), ArS t L st, RfA r R st]) : One w0 w (DzL p t r a c (hs ++ [g]) L R st) := by
  have e : (hs ++ [g]).length = hs.length + 1 := by simp
  unfold DzL RH
  rw [e]
  exact h
set_option maxRecDepth 100000 in
set_option maxHeartbeats 8000000 in
theorem step_put {n k p t r c : Nat} {a : Option Addr} {hs : List (Int × Int)} {L R : Rs} {st : Int} {w0 w : World} {us os og : Int} {tx : ByteArray} (H : One w0 w (DzL p t r a c hs L R st)) (D : Dz n k hs L R st) (hk : k ≤ 2000000) (hn : n ≤ 65536) :
    Calls Try.prog 21 #[.pointer (some ⟨p, 0, none⟩), .agg #[.int .i64 0, .int .i64 us, .string tx, .int .i64 os, .int .i64 og]] w (StepPost n k p r w0) := by
  have HO := Lib.hid (H.alloc (.cells #[.int .i64 0, .int .i64 us, .string tx, .int .i64 os, .int .i64 og] 42))
  have HC := Lib.hid (handle_p (d := 0) (us := us) (os := os) (og := og) (tx := tx) (HO.out.blk 1 rfl).1 (HO.out.rl 2 rfl encHn2 rfl).1 (by have := D.hl; omega))
  have HD := Lib.hid D
  clear H D
  go_enter Try.func21, Try.ntmps21
  obtain ⟨o0, o1, o2, o3, o4⟩ := cells5x (HO.out.blk 0 rfl).1
  go_wp2_with fail
  refine HC.out.mono ?_
  rintro e w1 ⟨⟨x, y, rfl⟩, hk1⟩
  have HO1 := Lib.hid ((HO.out.kn hk1).alloc (.cells #[.int .i64 x, .int .i64 y] 30)).drop
  clear hk1 HO HC o0 o1 o2 o3 o4
  go_upto_region 2 with fail
  generalize w1.alloc (.cells #[.int .i64 x, .int .i64 y] 30) = W at *
  generalize w1.heap.size = gh at *
  generalize w.heap.size = go at *
  obtain ⟨o0, o1, o2, o3, o4⟩ := cells5x (HO1.out.blk 0 rfl).1
  obtain ⟨b0, b1, b2, _⟩ := cells3 (HO1.out.blk 1 rfl).1
  have hst := HD.out.st0
  have hlen := HD.out.len
  have hlen2 := HD.out.same.len
  have HOn := HO1
  unfold DzL at HOn
  clear HO1
  cases hf : freeOf L with
  | cons f fr =>
    obtain ⟨i, rfl⟩ : ∃ i : Nat, f = i := by
      have : f ∈ freeOf L := by rw [hf]; exact List.mem_cons_self
      obtain ⟨i, _, rfl⟩ := List.mem_map.1 this
      exact ⟨i, rfl⟩
    obtain ⟨h1, h2, _⟩ := free_put (s := (⟨tx, 0, true⟩ : Slot ByteArray)) hf rfl
    obtain ⟨s, hs1⟩ : ∃ s, L[i]? = some s := ⟨_, List.getElem?_eq_getElem h1⟩
    rw [given_of hs1] at h2
    obtain ⟨s', hs2, e1, e2, _⟩ := HD.out.same.to hs1
    have hgen := HD.out.gen s (List.mem_of_getElem? hs1)
    have hfr : freeOf R = (i : Int) :: fr := by rw [← HD.out.same.free, hf]
    have HA := Lib.hid (fun W' (k : KN W W') => (HOn.out.kn k).lift 3 rfl (fun F h => put_ok_S h hf hs1 ⟨hgen.1, by omega⟩ (by omega) tx))
    have HB := Lib.hid (fun W' (k : KN (W.alloc (.cells #[.int .i64 0, .int .i64 0] 30)) W') => ((HOn.out.alloc (.cells #[.int .i64 0, .int .i64 0] 30)).kn k).lift 4 rfl (fun F h => put_ok_S h hf hs1 ⟨hgen.1, by omega⟩ (by omega) tx))
    have HF := Lib.hid (And.intro hs1 (And.intro hs2 (And.intro hfr (And.intro e1 e2))))
    clear hf hs1 hs2 hfr e1 e2
    go_upto_region 4 with fail
    go_cut [6, 7] (fun h6 c7 wx => ∃ g6 : Nat, h6 = .pointer (some ⟨g6, 0, none⟩) ∧ c7 = .int .i64 0 ∧ Hid (One w0 wx (Blk g6 (.cells #[.int .i64 i, .int .i64 (s.gen + 1)] 30) :: [Blk go (.cells #[.int .i64 0, .int .i64 us, .string tx, .int .i64 os, .int .i64 og] 42), Blk p (prO t r (.slice a hs.length c)), RH a c hs, ArS t (L.set i ⟨tx, s.gen + 1, true⟩) st, RfA r R st])))
    case first =>
      go_region_held3 (fun w' => w'.cell? ⟨p, 0, none⟩ = some (.pointer (some ⟨t, 0, none⟩)) ∧ w'.cell? ⟨go, 2, none⟩ = some (.string tx)) (first | go_keep | (exact ⟨z0, z4⟩) | (exact ⟨y0, y4⟩)) (first
      | (go_at_call 14; refine (HA.out _ (by first | exact Kp.refl _ _ | exact (Kp.refl _ _).drew | exact (Kp.refl _ _).drew.drew)).mono ?_; rintro e w5 ⟨rfl, ho⟩; have HOn := Lib.hid ho; clear ho; obtain ⟨z0, z1, _, _⟩ := cells3 (HOn.out.blk 1 rfl).1; obtain ⟨_, _, z4, _, _⟩ := cells5x (HOn.out.blk 0 rfl).1)
      | (go_at_call 14; refine (HB.out _ (by first | exact Kp.refl _ _ | exact (Kp.refl _ _).drew | exact (Kp.refl _ _).drew.drew)).mono ?_; rintro e w5 ⟨rfl, ho⟩; have HOn := Lib.hid ho; clear ho; obtain ⟨z0, z1, _, _⟩ := cells3 (HOn.out.blk 2 rfl).1; obtain ⟨_, _, z4, _, _⟩ := cells5x (HOn.out.blk 1 rfl).1; obtain ⟨n0, n1, n2, n3⟩ := cells2 (HOn.out.blk 0 rfl).1; have HOs := Lib.hid ((HOn.out.setCA 0 rfl (j := 0) (.int .i64 (i : Int))).setCA 0 rfl (j := 1) (.int .i64 (s.gen + 1))); obtain ⟨y0, y1, _, _⟩ := cells3 (HOs.out.blk 2 rfl).1; obtain ⟨_, _, y4, _, _⟩ := cells5x (HOs.out.blk 1 rfl).1))
      all_goals
        go_wp2_with fail
        go_meet
        first
          | exact ⟨_, rfl, rfl, Lib.hid (HOs.out.kn (by repeat (first | exact Kp.refl _ _ | apply Kp.drew)))⟩
          | exact ⟨_, rfl, rfl, Lib.hid ((HOn.out.kn (by repeat (first | exact Kp.refl _ _ | apply Kp.drew))).alloc _)⟩
          | exact ⟨_, rfl, rfl, Lib.hid (((HOn.out.kn (by repeat (first | exact Kp.refl _ _ | apply Kp.drew))).alloc _).kn (by repeat (first | exact Kp.refl _ _ | apply Kp.drew)))⟩
    case rest =>
      obtain ⟨g6, rfl, rfl, HOn⟩ := hcut
      clear HA HB o0 o1 o2 o3 o4 b0 b1 b2
      obtain ⟨o0, o1, o2, o3, o4⟩ := cells5x (HOn.out.blk 1 rfl).1
      obtain ⟨b0, b1, b2, _⟩ := cells3 (HOn.out.blk 2 rfl).1
      have hput : ∀ F W', (RfA r R st).on W' F → Calls Try.prog 36 #[.pointer (some ⟨r, 0, none⟩), .string tx] W' fun e w' => e = .returned (.tuple #[.agg #[.int .i64 i, .int .i64 (s.gen + 1)], .int .i64 0]) ∧ Post (RfA r (R.set i ⟨tx, s.gen + 1, true⟩) st) F W' w' := fun F W' h => by
        have := put_ok_r h HF.out.2.1 (by rw [← HF.out.2.2.2.1]; exact h2) (free_first HF.out.2.2.1) (by rw [← HF.out.2.2.2.2]; exact ⟨hgen.1, by omega⟩) (by omega) tx
        rw [← HF.out.2.2.2.2] at this
        exact this
      have HPu := Lib.hid hput
      clear hput
      have HA := Lib.hid (fun W' (k : KN wc W') => (HOn.out.kn k).lift 5 rfl (fun F h => HPu.out F W' h))
      have HB := Lib.hid (fun W' (k : KN (wc.alloc (.cells #[.int .i64 0, .int .i64 0] 30)) W') => ((HOn.out.alloc (.cells #[.int .i64 0, .int .i64 0] 30)).kn k).lift 6 rfl (fun F h => HPu.out F W' h))
      go_upto_region 5 with fail
      go_cut [8, 9] (fun h6 c7 wx => ∃ g8 : Nat, h6 = .pointer (some ⟨g8, 0, none⟩) ∧ c7 = .int .i64 0 ∧ Hid (One w0 wx (Blk g8 (.cells #[.int .i64 i, .int .i64 (s.gen + 1)] 30) :: [Blk g6 (.cells #[.int .i64 i, .int .i64 (s.gen + 1)] 30), Blk go (.cells #[.int .i64 0, .int .i64 us, .string tx, .int .i64 os, .int .i64 og] 42), Blk p (prO t r (.slice a hs.length c)), RH a c hs, ArS t (L.set i ⟨tx, s.gen + 1, true⟩) st, RfA r (R.set i ⟨tx, s.gen + 1, true⟩) st])))
      case first =>
        go_region_held3 (fun w' => w'.cell? ⟨p, 1, none⟩ = some (.pointer (some ⟨r, 0, none⟩)) ∧ w'.cell? ⟨go, 2, none⟩ = some (.string tx)) (first | go_keep | (exact ⟨z1, z4⟩) | (exact ⟨y1, y4⟩)) (first
          | (go_at_call 36; refine (HA.out _ (by first | exact Kp.refl _ _ | exact (Kp.refl _ _).drew | exact (Kp.refl _ _).drew.drew)).mono ?_; rintro e w5 ⟨rfl, ho⟩; have HOn := Lib.hid ho; clear ho; obtain ⟨z0, z1, _, _⟩ := cells3 (HOn.out.blk 2 rfl).1; obtain ⟨_, _, z4, _, _⟩ := cells5x (HOn.out.blk 1 rfl).1)
          | (go_at_call 36; refine (HB.out _ (by first | exact Kp.refl _ _ | exact (Kp.refl _ _).drew | exact (Kp.refl _ _).drew.drew)).mono ?_; rintro e w5 ⟨rfl, ho⟩; have HOn := Lib.hid ho; clear ho; obtain ⟨z0, z1, _, _⟩ := cells3 (HOn.out.blk 3 rfl).1; obtain ⟨_, _, z4, _, _⟩ := cells5x (HOn.out.blk 2 rfl).1; obtain ⟨n0, n1, n2, n3⟩ := cells2 (HOn.out.blk 0 rfl).1; have HOs := Lib.hid ((HOn.out.setCA 0 rfl (j := 0) (.int .i64 (i : Int))).setCA 0 rfl (j := 1) (.int .i64 (s.gen + 1))); obtain ⟨y0, y1, _, _⟩ := cells3 (HOs.out.blk 3 rfl).1; obtain ⟨_, _, y4, _, _⟩ := cells5x (HOs.out.blk 2 rfl).1))
        all_goals
          go_wp2_with fail
          go_meet
          first
            | exact ⟨_, rfl, rfl, Lib.hid (HOs.out.kn (by repeat (first | exact Kp.refl _ _ | apply Kp.drew)))⟩
            | exact ⟨_, rfl, rfl, Lib.hid ((HOn.out.kn (by repeat (first | exact Kp.refl _ _ | apply Kp.drew))).alloc _)⟩
            | exact ⟨_, rfl, rfl, Lib.hid (((HOn.out.kn (by repeat (first | exact Kp.refl _ _ | apply Kp.drew))).alloc _).kn (by repeat (first | exact Kp.refl _ _ | apply Kp.drew)))⟩
      case rest =>
        obtain ⟨g8, rfl, rfl, HOn⟩ := hcut
        clear HA HB o0 o1 o2 o3 o4 b0 b1 b2
        obtain ⟨x0, x1, _, _⟩ := cells2 (HOn.out.blk 1 rfl).1
        obtain ⟨w0', w1', _, _⟩ := cells2 (HOn.out.blk 0 rfl).1
        obtain ⟨b0, b1, b2, bf⟩ := cells3 (HOn.out.blk 3 rfl).1
        have u0 := cellU x0
        have u1 := cellU x1
        have u2 := cellU b2
        have hl := HD.out.hl
        have HL := Lib.hid (HOn.out.low 4 rfl)
        have GH : Hid (∀ (Wc : World) (g : Nat), One w0 Wc [Blk g8 (.cells #[.int .i64 i, .int .i64 (s.gen + 1)] 30), Blk g6 (.cells #[.int .i64 i, .int .i64 (s.gen + 1)] 30), Blk go (.cells #[.int .i64 0, .int .i64 us, .string tx, .int .i64 os, .int .i64 og] 42), Blk p (prO t r (.slice a hs.length c)), RH a c hs, ArS t (L.set i ⟨tx, s.gen + 1, true⟩) st, RfA r (R.set i ⟨tx, s.gen + 1, true⟩) st] → Wc.heap[g]? = some (.cells #[.int .i64 i, .int .i64 (s.gen + 1)] 30 (0, 0)) → ∃ rv w', (Builtin.append_ #[28, 28] 28 #[.slice a hs.length c, .slice (some ⟨g, 0, none⟩) 1 1]).run Try.prog Wc = .ok rv w' ∧ ∃ a1 cap, rv = .slice a1 (hs.length + 1) cap ∧ One w0 w' [Blk g8 (.cells #[.int .i64 i, .int .i64 (s.gen + 1)] 30), Blk g6 (.cells #[.int .i64 i, .int .i64 (s.gen + 1)] 30), Blk go (.cells #[.int .i64 0, .int .i64 us, .string tx, .int .i64 os, .int .i64 og] 42), Blk p (prO t r (.slice a hs.length c)), RowA 30 2 (.slice a1 (hs.length + 1) cap) (hs.length + 1) ((hs ++ [((i : Int), s.gen + 1)]).flatMap encHn), ArS t (L.set i ⟨tx, s.gen + 1, true⟩) st, RfA r (R.set i ⟨tx, s.gen + 1, true⟩) st]) := Lib.hid (fun Wc g h hb => by
          obtain ⟨rv, w', h1, a1, cap, h2, h3, _⟩ := h.grow (m := [((i : Int), s.gen + 1)]) elt_Hn 28 4 rfl encHn2 (rl_hn hb (cap := 1)) hn_one (by simp only [List.length_singleton]; omega) (by decide) (h.low 4 rfl)
          exact ⟨rv, w', h1, a1, cap, h2, h3⟩)
        go_upto_region 7 with fail
        go_region_law (first
          | (refine step_appX (so := .tmp 48) (xo := .tmp 50) (t := 28) (v := .slice a hs.length c) (s := .slice (some ⟨_, 0, none⟩) 1 1) (by rfl) (by rfl) (by simp [Act.eval, Act.put]) (by simp [Act.eval, Act.put]; rfl) (GH.out _ _ (HOn.out.kn (by repeat (first | exact Kp.refl _ _ | apply Kp.drew | apply Kp.alloc))) (by first | exact heap_at (by first | rfl | exact (Go.Deep.nblk_alloc _ _).symm) | exact blk_alloc _ (heap_at (by first | rfl | exact (Go.Deep.nblk_alloc _ _).symm)))) ?_; rintro r' w7 ⟨a1, c1, rfl, ho⟩; have HOn := Lib.hid ho; clear ho; obtain ⟨y0, y1, y2, y3⟩ := cells3 (HOn.out.blk 3 rfl).1))
        all_goals
          have HOz := Lib.hid ((HOn.out.kn (by repeat (first | exact Kp.refl _ _ | apply Kp.drew))).setCA 3 rfl (j := 2) (.slice a1 (hs.length + 1) c1))
          obtain ⟨m0, m1, _, _⟩ := cells2 (HOz.out.blk 0 rfl).1
          obtain ⟨v0, v1, _, _⟩ := cells2 (HOz.out.blk 1 rfl).1
          go_wp2_with fail
          go_ret
          exact ⟨rfl, _, _, _, _, _, _, _, HD.out.put HF.out.1 tx ((i : Int), s.gen + 1), put_rows (HOz.out.kn (by repeat (first | exact Kp.refl _ _ | apply Kp.drew))).drop.drop.drop⟩
  | nil =>
    have HN := Lib.hid (free_none (show freeOf R = [] by rw [← HD.out.same.free, hf]))
    have HA := Lib.hid (fun W' (k : KN W W') => ((HOn.out.kn k).rd 3 rfl (fun F h => put_full_S h hf tx)).mono (fun e w' hh => And.intro hh.1 ((HOn.out.kn k).kn hh.2)))
    have HB := Lib.hid (fun W' (k : KN (W.alloc (.cells #[.int .i64 0, .int .i64 0] 30)) W') => (((HOn.out.alloc (.cells #[.int .i64 0, .int .i64 0] 30)).kn k).rd 4 rfl (fun F h => put_full_S h hf tx)).mono (fun e w' hh => And.intro hh.1 (((HOn.out.alloc (.cells #[.int .i64 0, .int .i64 0] 30)).kn k).kn hh.2)))
    clear hf
    go_upto_region 4 with fail
    go_cut [6, 7] (fun h6 c7 wx => ∃ g6 : Nat, h6 = .pointer (some ⟨g6, 0, none⟩) ∧ c7 = .int .i64 5 ∧ Hid (One w0 wx (Blk g6 (.cells #[.int .i64 0, .int .i64 0] 30) :: [Blk go (.cells #[.int .i64 0, .int .i64 us, .string tx, .int .i64 os, .int .i64 og] 42), Blk p (prO t r (.slice a hs.length c)), RH a c hs, ArS t L st, RfA r R st])))
    case first =>
      go_region_held3 (fun w' => w'.cell? ⟨p, 0, none⟩ = some (.pointer (some ⟨t, 0, none⟩)) ∧ w'.cell? ⟨go, 2, none⟩ = some (.string tx)) (first | go_keep | (exact ⟨z0, z4⟩) | (exact ⟨y0, y4⟩)) (first
      | (go_at_call 14; refine (HA.out _ (by first | exact Kp.refl _ _ | exact (Kp.refl _ _).drew | exact (Kp.refl _ _).drew.drew)).mono ?_; rintro e w5 ⟨rfl, ho⟩; have HOn := Lib.hid ho; clear ho; obtain ⟨z0, z1, _, _⟩ := cells3 (HOn.out.blk 1 rfl).1; obtain ⟨_, _, z4, _, _⟩ := cells5x (HOn.out.blk 0 rfl).1)
      | (go_at_call 14; refine (HB.out _ (by first | exact Kp.refl _ _ | exact (Kp.refl _ _).drew | exact (Kp.refl _ _).drew.drew)).mono ?_; rintro e w5 ⟨rfl, ho⟩; have HOn := Lib.hid ho; clear ho; obtain ⟨z0, z1, _, _⟩ := cells3 (HOn.out.blk 2 rfl).1; obtain ⟨_, _, z4, _, _⟩ := cells5x (HOn.out.blk 1 rfl).1; obtain ⟨n0, n1, n2, n3⟩ := cells2 (HOn.out.blk 0 rfl).1; have HOs := Lib.hid ((HOn.out.setCA 0 rfl (j := 0) (.int .i64 0)).setCA 0 rfl (j := 1) (.int .i64 0)); obtain ⟨y0, y1, _, _⟩ := cells3 (HOs.out.blk 2 rfl).1; obtain ⟨_, _, y4, _, _⟩ := cells5x (HOs.out.blk 1 rfl).1))
      all_goals
        go_wp2_with fail
        go_meet
        first
          | exact ⟨_, rfl, rfl, Lib.hid (HOs.out.kn (by repeat (first | exact Kp.refl _ _ | apply Kp.drew)))⟩
          | exact ⟨_, rfl, rfl, Lib.hid ((HOn.out.kn (by repeat (first | exact Kp.refl _ _ | apply Kp.drew))).alloc _)⟩
          | exact ⟨_, rfl, rfl, Lib.hid (((HOn.out.kn (by repeat (first | exact Kp.refl _ _ | apply Kp.drew))).alloc _).kn (by repeat (first | exact Kp.refl _ _ | apply Kp.drew)))⟩
    case rest =>
      obtain ⟨g6, rfl, rfl, HOn⟩ := hcut
      clear HA HB o0 o1 o2 o3 o4 b0 b1 b2
      obtain ⟨o0, o1, o2, o3, o4⟩ := cells5x (HOn.out.blk 1 rfl).1
      obtain ⟨b0, b1, b2, _⟩ := cells3 (HOn.out.blk 2 rfl).1
      have HA := Lib.hid (fun W' (k : KN wc W') => ((HOn.out.kn k).rd 5 rfl (fun F h => put_full_r h HN.out (by omega) tx)).mono (fun e w' hh => And.intro hh.1 ((HOn.out.kn k).kn hh.2)))
      have HB := Lib.hid (fun W' (k : KN (wc.alloc (.cells #[.int .i64 0, .int .i64 0] 30)) W') => (((HOn.out.alloc (.cells #[.int .i64 0, .int .i64 0] 30)).kn k).rd 6 rfl (fun F h => put_full_r h HN.out (by omega) tx)).mono (fun e w' hh => And.intro hh.1 (((HOn.out.alloc (.cells #[.int .i64 0, .int .i64 0] 30)).kn k).kn hh.2)))
      go_upto_region 5 with fail
      go_cut [8, 9] (fun h6 c7 wx => ∃ g8 : Nat, h6 = .pointer (some ⟨g8, 0, none⟩) ∧ c7 = .int .i64 5 ∧ Hid (One w0 wx (Blk g8 (.cells #[.int .i64 0, .int .i64 0] 30) :: [Blk g6 (.cells #[.int .i64 0, .int .i64 0] 30), Blk go (.cells #[.int .i64 0, .int .i64 us, .string tx, .int .i64 os, .int .i64 og] 42), Blk p (prO t r (.slice a hs.length c)), RH a c hs, ArS t L st, RfA r R st])))
      case first =>
        go_region_held3 (fun w' => w'.cell? ⟨p, 1, none⟩ = some (.pointer (some ⟨r, 0, none⟩)) ∧ w'.cell? ⟨go, 2, none⟩ = some (.string tx)) (first | go_keep | (exact ⟨z1, z4⟩) | (exact ⟨y1, y4⟩)) (first
          | (go_at_call 36; refine (HA.out _ (by first | exact Kp.refl _ _ | exact (Kp.refl _ _).drew | exact (Kp.refl _ _).drew.drew)).mono ?_; rintro e w5 ⟨rfl, ho⟩; have HOn := Lib.hid ho; clear ho; obtain ⟨z0, z1, _, _⟩ := cells3 (HOn.out.blk 2 rfl).1; obtain ⟨_, _, z4, _, _⟩ := cells5x (HOn.out.blk 1 rfl).1)
          | (go_at_call 36; refine (HB.out _ (by first | exact Kp.refl _ _ | exact (Kp.refl _ _).drew | exact (Kp.refl _ _).drew.drew)).mono ?_; rintro e w5 ⟨rfl, ho⟩; have HOn := Lib.hid ho; clear ho; obtain ⟨z0, z1, _, _⟩ := cells3 (HOn.out.blk 3 rfl).1; obtain ⟨_, _, z4, _, _⟩ := cells5x (HOn.out.blk 2 rfl).1; obtain ⟨n0, n1, n2, n3⟩ := cells2 (HOn.out.blk 0 rfl).1; have HOs := Lib.hid ((HOn.out.setCA 0 rfl (j := 0) (.int .i64 0)).setCA 0 rfl (j := 1) (.int .i64 0)); obtain ⟨y0, y1, _, _⟩ := cells3 (HOs.out.blk 3 rfl).1; obtain ⟨_, _, y4, _, _⟩ := cells5x (HOs.out.blk 2 rfl).1))
        all_goals
          go_wp2_with fail
          go_meet
          first
            | exact ⟨_, rfl, rfl, Lib.hid (HOs.out.kn (by repeat (first | exact Kp.refl _ _ | apply Kp.drew)))⟩
            | exact ⟨_, rfl, rfl, Lib.hid ((HOn.out.kn (by repeat (first | exact Kp.refl _ _ | apply Kp.drew))).alloc _)⟩
            | exact ⟨_, rfl, rfl, Lib.hid (((HOn.out.kn (by repeat (first | exact Kp.refl _ _ | apply Kp.drew))).alloc _).kn (by repeat (first | exact Kp.refl _ _ | apply Kp.drew)))⟩
      case rest =>
        obtain ⟨g8, rfl, rfl, HOn⟩ := hcut
        clear HA HB o0 o1 o2 o3 o4 b0 b1 b2
        obtain ⟨m0, m1, _, _⟩ := cells2 (HOn.out.blk 0 rfl).1
        obtain ⟨v0, v1, _, _⟩ := cells2 (HOn.out.blk 1 rfl).1
        go_wp2_with fail
        go_ret
        exact ⟨rfl, _, _, _, _, _, _, _, HD.out.up (Int.le_refl _) (by omega), HOn.out.drop.drop.drop⟩
end Go.Proofs.Ythbiohfnnjbbgaa

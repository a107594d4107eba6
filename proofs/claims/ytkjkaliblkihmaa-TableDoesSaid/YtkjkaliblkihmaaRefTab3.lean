/- The reference's table: Alloc, Many, New. -/
import Derived.Test.YtkjkaliblkihmaaRefTab2
namespace Go.Proofs.Ytkjkaliblkihmaa
set_option linter.unusedVariables false
set_option linter.unusedSimpArgs false
open Go Go.RowKit

section
variable {u : Nat} {R : List AP} {x : Int} {w : World} {F : Nat → Prop}
theorem alloc_r_zero (hh : (RfT u R x).on w F) : Calls Try.prog 33 #[.pointer (some ⟨u, 0, none⟩), hv (0, 0)] w fun e w' => e = .returned (.tuple #[.int .i64 0, .int .i64 1]) ∧ KN w w' := by
  have hq : ∀ w, (binOp .eql 23 (hv (0, 0)) (hv (0, 0))).run Try.prog w = .ok (.bool true) w := fun w => by rw [run_eql_hv]; simp
  clear hh
  go_enter Try.func33, Try.ntmps33
  go_wp2
  go_ret2
  exact ⟨rfl, kn_alloc _ _⟩
theorem alloc_r_full (g : Int × Int) (hz : g ≠ (0, 0)) (hh : (RfT u R x).on w F) (hf : ∀ a ∈ R, a.1 ≠ 0) (hm : R.length ≤ 65536) : Calls Try.prog 33 #[.pointer (some ⟨u, 0, none⟩), hv g] w fun e w' => e = .returned (.tuple #[.int .i64 0, .int .i64 5]) ∧ KN w w' := by
  have hq : ∀ w, (binOp .eql 23 (hv g) (hv (0, 0))).run Try.prog w = .ok (.bool false) w := fun w => by rw [run_eql_hv]; simp [hz]
  obtain ⟨s, h, arr, ha, hp⟩ := rt_here hh
  have HP := Lib.hid (hp.kn (kn_alloc w (.cells #[.int .i64 g.1, .int .i64 g.2] 23)))
  obtain ⟨⟨c0, c1, c2⟩, _⟩ := HP.out.atT
  obtain ⟨y0, y1, _, _⟩ := cells2 (heap_alloc_same w (.cells #[.int .i64 g.1, .int .i64 g.2] 23))
  have HA := Lib.hid ha
  have HF := Lib.hid hf
  clear hh hp ha hf hz
  go_enter Try.func33, Try.ntmps33
  go_upto_region 1 with fail
  have HK := Lib.hid (kn_alloc w (.cells #[.int .i64 g.1, .int .i64 g.2] 23))
  generalize w.alloc (.cells #[.int .i64 g.1, .int .i64 g.2] 23) = W at *
  go_wp2_with fail
  go_loop [6] (fun v => ∃ k : Nat, k ≤ R.length ∧ v = .int .i64 k) (fun v => R.length - (intOf v).toNat)
  case atStart => exact ⟨0, Nat.zero_le _, rfl⟩
  case round =>
    obtain ⟨k, hk, rfl⟩ := hrel
    by_cases hlt : k < R.length
    · obtain ⟨a, hx⟩ : ∃ a, R[k]? = some a := ⟨_, List.getElem?_eq_getElem hlt⟩
      obtain ⟨⟨s0, _, _⟩, _⟩ := HP.out.slotT HA.out hx
      have hne : (a.1 == 0) = false := by simpa using HF.out a (List.mem_of_getElem? hx)
      have hz1 : (k : Int) < (R.length : Int) := by omega
      clear hx
      generalize a.1 = av at *
      go_wp2
      go_round
      case rel => exact ⟨k + 1, by omega, by go_num⟩
      case measure => simp [intOf]; omega
    · obtain rfl : k = R.length := by omega
      go_wp2
      go_ret2
      exact ⟨rfl, HK.out⟩
set_option maxHeartbeats 1000000 in
theorem alloc_r_at (g : Int × Int) (hz : g ≠ (0, 0)) (hh : (RfT u R x).on w F) {i : Nat} {a : AP} (hai : R[i]? = some a) (ha0 : a.1 = 0) (hf : ∀ j, j < i → ∀ b, R[j]? = some b → b.1 ≠ 0) (hm : R.length ≤ 65536) :
    Calls Try.prog 33 #[.pointer (some ⟨u, 0, none⟩), hv g] w fun e w' => e = .returned (.tuple #[.int .i64 (i : Int), .int .i64 0]) ∧ Post (RfT u (R.set i (1, g)) x) F w w' := by
  have hq : ∀ w, (binOp .eql 23 (hv g) (hv (0, 0))).run Try.prog w = .ok (.bool false) w := fun w => by rw [run_eql_hv]; simp [hz]
  obtain ⟨s, h, arr, ha, hp⟩ := rt_here hh
  have HP := Lib.hid (hp.alloc (.cells #[.int .i64 g.1, .int .i64 g.2] 23))
  have HPn := Lib.hid (hp.kn (kn_alloc w (.cells #[.int .i64 g.1, .int .i64 g.2] 23)))
  have HA := Lib.hid ha
  have HF := Lib.hid hf
  have HI := Lib.hid (And.intro hai ha0)
  have hil := (List.getElem?_eq_some_iff.1 hai).1
  obtain ⟨⟨c0, c1, c2⟩, _⟩ := HPn.out.atT
  obtain ⟨y0, y1, _, _⟩ := cells2 (HP.out.blk 0 rfl)
  have hgne : ¬ h = w.heap.size := fun e => by
    have := lt_blk (hp.blk 2 rfl)
    omega
  have hsne : ¬ s = w.heap.size := fun e => by
    have := lt_blk (hp.blk 1 rfl)
    omega
  have hus : ¬ s = u := fun e => by
    have h1 := hp.blk 1 rfl
    have h0 := hp.blk 0 rfl
    rw [e, h0] at h1
    have := Option.some.inj h1
    injection this with _ e2
    cases e2
  have hnu : ¬ h = u := fun e => by
    have h2 := hp.blk 2 rfl
    have h0 := hp.blk 0 rfl
    rw [e, h0] at h2
    have := Option.some.inj h2
    injection this with _ e2
    cases e2
  clear hh hp ha hf hz hai ha0
  go_enter Try.func33, Try.ntmps33
  go_upto_region 1 with fail
  generalize w.alloc (.cells #[.int .i64 g.1, .int .i64 g.2] 23) = W at *
  generalize w.heap.size = gb at *
  go_wp2_with fail
  go_loop [6] (fun v => ∃ k : Nat, k ≤ i ∧ v = .int .i64 k) (fun v => i + 1 - (intOf v).toNat)
  case atStart => exact ⟨0, Nat.zero_le _, rfl⟩
  case round =>
    obtain ⟨k, hk, rfl⟩ := hrel
    have hz1 : (k : Int) < (R.length : Int) := by omega
    by_cases hlt : k < i
    · obtain ⟨b, hx⟩ : ∃ b, R[k]? = some b := ⟨_, List.getElem?_eq_getElem (by omega)⟩
      obtain ⟨⟨s0, _, _⟩, _⟩ := HPn.out.slotT HA.out hx
      have hne : (b.1 == 0) = false := by simpa using HF.out k hlt b hx
      clear hx
      generalize b.1 = av at *
      go_wp2
      go_round
      case rel => exact ⟨k + 1, by omega, by go_num⟩
      case measure => simp [intOf]; omega
    · obtain rfl : k = i := by omega
      obtain ⟨⟨s0, _, _⟩, sf0, _⟩ := HPn.out.slotT HA.out HI.out.1
      rw [HI.out.2] at s0
      go_upto_region 8 with fail
      obtain ⟨h1, h2⟩ := rt_st HPn.out HA.out HI.out.1 1
      have HP1 := Lib.hid h1
      have HA1 := Lib.hid h2
      have hx2 : (R.set k (1, a.2))[k]? = some (1, a.2) := List.getElem?_set_self hil
      have HX2 := Lib.hid hx2
      have HG := Lib.hid ((setB_other W (.cells ((stArr R).setIfInBounds k (.int .i64 1)) 3) (fun e => hsne e)).trans (HP.out.blk 0 rfl))
      rw [← setCell_setB (i := k) (.int .i64 1) (HPn.out.blk 1 rfl)] at HG
      clear h1 h2 hx2 c0 c1 c2 s0 sf0 y0 y1
      generalize W.setCell ⟨s, k, none⟩ (.int .i64 1) = W1 at *
      obtain ⟨⟨c0, c1, c2⟩, _⟩ := HP1.out.atT
      obtain ⟨_, sf0, sf1, sf2⟩ := HP1.out.slotT HA1.out HX2.out
      obtain ⟨⟨t0, t1, t2⟩, _⟩ := HP1.out.slotT HA1.out HX2.out
      obtain ⟨y0, y1, _, _⟩ := cells2 HG.out
      rw [List.length_set] at c0 c1
      go_region_held3 (fun w' => w'.cell? ⟨u, 1, none⟩ = some (.slice (some ⟨h, 0, none⟩) R.length R.length) ∧ w'.cell? ⟨gb, 0, none⟩ = some (.int .i64 g.1) ∧ w'.cell? ⟨gb, 1, none⟩ = some (.int .i64 g.2)) (first | go_keep) (fail)
      go_wp2_with fail
      go_ret2
      have HP2 := Lib.hid (HP1.out.kn ((Kp.refl (fun _ => False) W1).drew))
      obtain ⟨arr', h3, h4⟩ := rt_hd HP2.out HA1.out HX2.out g
      rw [List.set_set] at h3 h4
      exact ⟨rfl, Post.imp h3 fun F' h' => ⟨s, h, arr', h4, h'⟩⟩
theorem alloc_r (g : Int × Int) (hh : (RfT u R x).on w F) (hm : R.length ≤ 65536) : Calls Try.prog 33 #[.pointer (some ⟨u, 0, none⟩), hv g] w fun e w' =>
    e = .returned (.tuple #[.int .i64 (allocOf R g).1.1, .int .i64 (allocOf R g).1.2]) ∧ Post (RfT u (allocOf R g).2 x) F w w' := by
  by_cases hz : g = (0, 0)
  · subst hz
    have e1 : allocOf R (0, 0) = ((0, 1), R) := if_pos rfl
    rw [e1]
    exact (alloc_r_zero hh).mono fun e w' ⟨he, hk⟩ => ⟨he, .same hh hk⟩
  · unfold allocOf
    rw [if_neg hz]
    cases hf : R.findIdx? (fun a => a.1 == 0) with
    | none =>
      rw [List.findIdx?_eq_none_iff] at hf
      exact (alloc_r_full g hz hh (fun a ha => by simpa using hf a ha) hm).mono fun e w' ⟨he, hk⟩ => ⟨he, .same hh hk⟩
    | some i =>
      rw [List.findIdx?_eq_some_iff_getElem] at hf
      obtain ⟨hi, h1, h2⟩ := hf
      exact alloc_r_at g hz hh (List.getElem?_eq_getElem hi) (by simpa using h1) (fun j hj b hb => by
        have := h2 j hj
        have hj' : j < R.length := by omega
        rw [List.getElem?_eq_getElem hj'] at hb
        cases hb
        simpa using this) hm
theorem many_r (st : Int) (hh : (RfT u R x).on w F) (hm : R.length ≤ 65536) : Calls Try.prog 42 #[.pointer (some ⟨u, 0, none⟩), .int .i64 st] w fun e w' => e = .returned (.int .i64 (manyOf R st)) ∧ w = w' := by
  obtain ⟨s, h, arr, ha, hp⟩ := rt_here hh
  have HP := Lib.hid hp
  have HA := Lib.hid ha
  obtain ⟨⟨c0, c1, c2⟩, _⟩ := hp.atT
  clear hh hp ha
  go_enter Try.func42, Try.ntmps42
  go_wp2_with fail
  go_loop [5, 6] (fun v i => ∃ k : Nat, k ≤ R.length ∧ i = .int .i64 k ∧ v = .int .i64 (manyOf (R.take k) st : Nat)) (fun _ i => R.length - (intOf i).toNat)
  case atStart => exact ⟨0, Nat.zero_le _, rfl, rfl⟩
  case round =>
    obtain ⟨k, hk, rfl, rfl⟩ := hrel
    by_cases hlt : k < R.length
    · obtain ⟨a, hx⟩ : ∃ a, R[k]? = some a := ⟨_, List.getElem?_eq_getElem hlt⟩
      obtain ⟨⟨s0, _, _⟩, _⟩ := HP.out.slotT HA.out hx
      have hz1 : (k : Int) < (R.length : Int) := by omega
      have hmt := many_take R st hx
      have hle : manyOf (R.take k) st ≤ k := by
        unfold manyOf
        exact Nat.le_trans List.countP_le_length (by simp; omega)
      by_cases hs : a.1 = st
      · have hs1 : (a.1 == st) = true := by simpa using hs
        rw [hs1, if_pos rfl] at hmt
        have HM := Lib.hid hmt
        clear hmt hx hs
        generalize manyOf (R.take k) st = q at *
        generalize a.1 = av at *
        go_wp2
        go_round
        case rel => exact ⟨k + 1, by omega, by go_num, by rw [HM.out]; go_num⟩
        case measure => simp [intOf]; omega
      · have hs1 : (a.1 == st) = false := by simpa using hs
        rw [hs1] at hmt
        simp only [Bool.false_eq_true, if_false, Nat.add_zero] at hmt
        have HM := Lib.hid hmt
        clear hmt hx hs
        generalize manyOf (R.take k) st = q at *
        generalize a.1 = av at *
        go_wp2
        go_round
        case rel => exact ⟨k + 1, by omega, by go_num, by rw [HM.out]⟩
        case measure => simp [intOf]; omega
    · obtain rfl : k = R.length := by omega
      rw [List.take_length]
      go_wp2
      go_ret
      exact ⟨rfl, rfl⟩
end
theorem elt_st : Elt Try.prog 77 3 (.int .i64 0) 1 8 := elt_int
theorem stArr_rep (n : Nat) : madeCells #[.int .i64 0] n = stArr (List.replicate n ((0, (0, 0)) : AP)) := by
  apply Array.toList_inj.1
  rw [toList_madeCells_one]
  simp [stArr]
theorem One.al3 {w0 w : World} {l : List Asr} (h : One w0 w l) (o1 o2 o3 : Obj) : One w0 (((w.alloc o1).alloc o2).alloc o3) (Blk (w.heap.size + 1 + 1) o3 :: Blk (w.heap.size + 1) o2 :: Blk w.heap.size o1 :: l) := by
  have := ((h.alloc o1).alloc o2).alloc o3
  simpa using this
theorem rt_made {w w' : World} {t s h n : Nat} (H : One w w' [Blk t (.cells #[.slice (some ⟨s, 0, none⟩) n n, .slice (some ⟨h, 0, none⟩) n n, .int .i64 0] 79), Blk s (.cells (madeCells #[.int .i64 0] n) 3), Blk h (.cells (madeCells #[.int .i64 0, .int .i64 0] (n * 2)) 23)]) :
    Post (RfT t (List.replicate n (0, (0, 0))) 0) (fun _ => False) w w' := by
  have e4 : (List.replicate n ((0, (0, 0)) : AP)).length = n := by simp
  have h5 := (One.all (l1 := [_, _, _]) (l2 := [])).1 H
  refine (One.post h5 0 rfl).imp fun F' h' => ⟨s, h, _, Arr.made (enc := encR) (n := 2) (z := #[.int .i64 0, .int .i64 0]) (x := (0, (0, 0))) rfl (by omega) rfl n, ?_⟩
  unfold RtL
  rw [← stArr_rep, e4]
  exact h'
theorem new_r (n : Nat) (h0 : 1 ≤ n) (h1 : n ≤ 65536) (w : World) : Calls Try.prog 17 #[.int .i64 (n : Int)] w fun e w' => ∃ t, e = .returned (.tuple #[.pointer (some ⟨t, 0, none⟩), .int .i64 0]) ∧ Post (RfT t (List.replicate n (0, (0, 0))) 0) (fun _ => False) w w' := by
  have hmk := fun w => run_mk (w := w) elt_int n (by omega) (by omega)
  have hmk2 := fun w => run_mk (w := w) elt_hd n (by omega) (by omega)
  have h2 : ¬ (n : Int) < 1 := by omega
  have h3 : ¬ 65536 < (n : Int) := by omega
  go_enter Try.func17, Try.ntmps17
  go_upto_region 3 with fail
  go_region
  all_goals
    go_wp2_with fail
    go_ret2
    first
      | exact ⟨_, rfl, rt_made (((One.al3 (One.nil w) _ _ _).kn (Kp.refl _ _).drew).perm (.cons _ (.swap _ _ _)))⟩
      | exact ⟨_, rfl, rt_made ((One.al3 (One.nil w) _ _ _).kn (Kp.refl _ _).drew)⟩
theorem new_bad_r (n : Int) (h : n < 1 ∨ 65536 < n) (w : World) : Calls Try.prog 17 #[.int .i64 n] w fun e w' => e = .returned (.tuple #[.pointer none, .int .i64 1]) ∧ w = w' := by
  have h1 : n < 1 ∨ (¬ n < 1 ∧ 65536 < n) := by omega
  rcases h1 with h1 | ⟨h1, h2⟩
  all_goals
    go_enter Try.func17, Try.ntmps17
    go_wp2
    go_ret2
    exact ⟨rfl, rfl⟩
end Go.Proofs.Ytkjkaliblkihmaa

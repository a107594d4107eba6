/- The reference's table: Load, Swap, Retire, Release, Alloc. -/
import Derived.Test.YtkjkaliblkihmaaRefTab
namespace Go.Proofs.Ytkjkaliblkihmaa
set_option linter.unusedVariables false
set_option linter.unusedSimpArgs false
open Go Go.RowKit

def rretOf (R : List AP) (n : Int) : Int × List AP := if looksOf R n 1 = 0 then (0, R.set n.toNat (2, headOf R n)) else (4, R)
def rrelOf (R : List AP) (n : Int) : Int × List AP := if looksOf R n 2 = 0 then (0, R.set n.toNat (0, headOf R n)) else (4, R)
section
variable {u : Nat} {R : List AP} {x : Int} {w : World} {F : Nat → Prop}
/-- A page that is in a state that is not free's is there. -/
theorem there {n st : Int} (h : stOf R n = st) (hst : st ≠ 0) : ∃ (i : Nat) (a : AP), n = i ∧ R[i]? = some a ∧ a.1 = st := by
  unfold stOf at h
  by_cases h0 : 0 ≤ n
  · rw [if_pos h0] at h
    cases hx : R[n.toNat]? with
    | none => rw [hx] at h; exact absurd h.symm hst
    | some a => rw [hx] at h; exact ⟨n.toNat, a, by omega, hx, h⟩
  · rw [if_neg h0] at h; exact absurd h.symm hst
theorem looks_st {n st : Int} (hst : st ≠ 0) : looksOf R n st = if stOf R n = st then 0 else 4 := by
  by_cases h : stOf R n = st
  · obtain ⟨i, a, rfl, hx, ha⟩ := there h hst
    rw [if_pos h, looks_at hx ha]
  · rw [if_neg h]
    unfold looksOf
    rw [if_neg (fun e => h e.2.2)]
theorem load_r (n : Int) (hh : (RfT u R x).on w F) (hm : R.length ≤ 65536) : Calls Try.prog 37 #[.pointer (some ⟨u, 0, none⟩), .int .i64 n] w fun e w' => e = .returned (.tuple #[hv (loadOf R n).1, .int .i64 (loadOf R n).2]) ∧ KN w w' := by
  have HS := Lib.hid (fun (W : World) (k : KN w W) => state_r n ((RfT u R x).kn hh k) hm)
  have HK := Lib.hid (kn_alloc w (.cells #[.int .i64 0, .int .i64 0] 23))
  unfold loadOf
  rw [looks_st (by decide)]
  by_cases h1 : stOf R n = 1
  · obtain ⟨i, a, rfl, hx, ha1⟩ := there h1 (by decide)
    rw [if_pos h1, if_pos rfl, headOf_at hx]
    obtain ⟨s, h, arr, ha, hp⟩ := rt_here hh
    obtain ⟨⟨c0, c1, c2⟩, _⟩ := (hp.kn HK.out).atT
    obtain ⟨⟨s0, s1, s2⟩, _⟩ := (hp.kn HK.out).slotT ha hx
    obtain ⟨g0, g1, gf0, gf1⟩ := cells2 (heap_alloc_same w (.cells #[.int .i64 0, .int .i64 0] 23))
    have hi := (List.getElem?_eq_some_iff.1 hx).1
    have hi1 : (i : Int) < (R.length : Int) := by omega
    rw [h1] at HS
    obtain ⟨a1, hd1, hd2⟩ := a
    simp only at s0 s1 s2 ha1
    clear hh hp ha hx h1
    go_enter Try.func37, Try.ntmps37
    go_wp2_with fail
    refine (HS.out _ HK.out).mono ?_
    rintro e w' ⟨rfl, hw⟩
    subst hw
    go_wp2_with fail
    exact bodyPost_ret (v := .tuple #[hv (hd1, hd2), .int .i64 0]) (by simp [results, Try.results37, go_sem, g0, g1]) rfl ⟨rfl, kn_alloc _ _⟩
  · rw [if_neg h1, if_neg (by decide)]
    obtain ⟨g0, g1, gf0, gf1⟩ := cells2 (heap_alloc_same w (.cells #[.int .i64 0, .int .i64 0] 23))
    have hne : (stOf R n != 1) = true := by simpa using h1
    clear hh h1
    generalize stOf R n = sv at *
    go_enter Try.func37, Try.ntmps37
    go_wp2_with fail
    refine (HS.out _ HK.out).mono ?_
    rintro e w' ⟨rfl, hw⟩
    subst hw
    go_wp2_with fail
    exact bodyPost_ret (v := .tuple #[hv (0, 0), .int .i64 4]) (by simp [results, Try.results37, go_sem, g0, g1]) rfl ⟨rfl, by first | exact HK.out | exact (HK.out.setCell (.inr (Nat.le_refl _)) _).setCell (.inr (Nat.le_refl _)) _⟩
theorem retire_r (n : Int) (hh : (RfT u R x).on w F) (hm : R.length ≤ 65536) : Calls Try.prog 35 #[.pointer (some ⟨u, 0, none⟩), .int .i64 n] w fun e w' => e = .returned (.int .i64 (rretOf R n).1) ∧ Post (RfT u (rretOf R n).2 x) F w w' := by
  have HS := Lib.hid (state_r n hh hm)
  unfold rretOf
  rw [looks_st (by decide)]
  by_cases h1 : stOf R n = 1
  · obtain ⟨i, a, rfl, hx, ha1⟩ := there h1 (by decide)
    rw [if_pos h1, if_pos rfl, headOf_at hx]
    obtain ⟨s, h, arr, ha, hp⟩ := rt_here hh
    obtain ⟨⟨c0, c1, c2⟩, _⟩ := hp.atT
    obtain ⟨⟨s0, s1, s2⟩, f0, _⟩ := hp.slotT ha hx
    have hi := (List.getElem?_eq_some_iff.1 hx).1
    have hi1 : (i : Int) < (R.length : Int) := by omega
    have HE := Lib.hid (rt_st hp ha hx 2)
    rw [h1] at HS
    clear hh hp ha hx h1
    go_enter Try.func35, Try.ntmps35
    go_wp2_with fail
    refine HS.out.mono ?_
    rintro e w' ⟨rfl, rfl⟩
    go_wp2_with fail
    go_ret
    exact ⟨rfl, HE.out.1.rt HE.out.2⟩
  · rw [if_neg h1, if_neg (by decide)]
    have hne : (stOf R n != 1) = true := by simpa using h1
    have HH := Lib.hid hh
    clear hh h1
    generalize stOf R n = sv at *
    go_enter Try.func35, Try.ntmps35
    go_wp2_with fail
    refine HS.out.mono ?_
    rintro e w' ⟨rfl, rfl⟩
    go_wp2_with fail
    go_ret
    exact ⟨rfl, Post.same HH.out (Kp.refl _ _)⟩
theorem release_r (n : Int) (hh : (RfT u R x).on w F) (hm : R.length ≤ 65536) : Calls Try.prog 36 #[.pointer (some ⟨u, 0, none⟩), .int .i64 n] w fun e w' => e = .returned (.int .i64 (rrelOf R n).1) ∧ Post (RfT u (rrelOf R n).2 x) F w w' := by
  have HS := Lib.hid (state_r n hh hm)
  unfold rrelOf
  rw [looks_st (by decide)]
  by_cases h1 : stOf R n = 2
  · obtain ⟨i, a, rfl, hx, ha1⟩ := there h1 (by decide)
    rw [if_pos h1, if_pos rfl, headOf_at hx]
    obtain ⟨s, h, arr, ha, hp⟩ := rt_here hh
    obtain ⟨⟨c0, c1, c2⟩, _⟩ := hp.atT
    obtain ⟨⟨s0, s1, s2⟩, f0, _⟩ := hp.slotT ha hx
    have hi := (List.getElem?_eq_some_iff.1 hx).1
    have hi1 : (i : Int) < (R.length : Int) := by omega
    have HE := Lib.hid (rt_st hp ha hx 0)
    rw [h1] at HS
    clear hh hp ha hx h1
    go_enter Try.func36, Try.ntmps36
    go_wp2_with fail
    refine HS.out.mono ?_
    rintro e w' ⟨rfl, rfl⟩
    go_wp2_with fail
    go_ret
    exact ⟨rfl, HE.out.1.rt HE.out.2⟩
  · rw [if_neg h1, if_neg (by decide)]
    have hne : (stOf R n != 2) = true := by simpa using h1
    have HH := Lib.hid hh
    clear hh h1
    generalize stOf R n = sv at *
    go_enter Try.func36, Try.ntmps36
    go_wp2_with fail
    refine HS.out.mono ?_
    rintro e w' ⟨rfl, rfl⟩
    go_wp2_with fail
    go_ret
    exact ⟨rfl, Post.same HH.out (Kp.refl _ _)⟩
set_option maxHeartbeats 1000000 in
theorem swap_r (n : Int) (was is : Int × Int) (hh : (RfT u R x).on w F) (hm : R.length ≤ 65536) : Calls Try.prog 34 #[.pointer (some ⟨u, 0, none⟩), .int .i64 n, hv was, hv is] w fun e w' =>
    e = .returned (.tuple #[.bool (swapOf R x n was is).1.1, .int .i64 (swapOf R x n was is).1.2]) ∧ Post (RfT u (swapOf R x n was is).2.1 (swapOf R x n was is).2.2) F w w' := by
  have HK := Lib.hid (show KN w ((w.alloc (.cells #[.int .i64 was.1, .int .i64 was.2] 23)).alloc (.cells #[.int .i64 is.1, .int .i64 is.2] 23)) from (kn_alloc w _).alloc _)
  have HB := Lib.hid (blk_alloc (.cells #[.int .i64 is.1, .int .i64 is.2] 23) (heap_alloc_same w (.cells #[.int .i64 was.1, .int .i64 was.2] 23)))
  have HB2 := Lib.hid (heap_alloc_two w (.cells #[.int .i64 was.1, .int .i64 was.2] 23) (.cells #[.int .i64 is.1, .int .i64 is.2] 23))
  have HS := Lib.hid (state_r n ((RfT u R x).kn hh HK.out) hm)
  have HH := Lib.hid hh
  clear hh
  unfold swapOf
  rw [looks_st (by decide)]
  by_cases h1 : stOf R n = 1
  · rw [if_pos h1, if_pos rfl]
    obtain ⟨i, a, rfl, hx, ha1⟩ := there h1 (by decide)
    rw [headOf_at hx, Int.toNat_natCast]
    rw [h1] at HS
    have HX := Lib.hid hx
    have hi := (List.getElem?_eq_some_iff.1 hx).1
    have hi1 : (i : Int) < (R.length : Int) := by omega
    clear h1 hx
    by_cases hz : is = (0, 0)
    · rw [if_pos hz]
      have hq : ∀ w, (binOp .eql 23 (hv is) (hv (0, 0))).run Try.prog w = .ok (.bool true) w := fun w => by rw [run_eql_hv]; simp [hz]
      clear hz
      go_enter Try.func34, Try.ntmps34
      go_upto_region 1 with fail
      obtain ⟨y0, y1, _, _⟩ := cells2 HB.out
      obtain ⟨z0, z1, _, _⟩ := cells2 HB2.out
      generalize (w.alloc (.cells #[.int .i64 was.1, .int .i64 was.2] 23)).alloc (.cells #[.int .i64 is.1, .int .i64 is.2] 23) = W at *
      go_wp2_with fail
      refine HS.out.mono ?_
      rintro e w' ⟨rfl, rfl⟩
      go_wp2_with fail
      go_ret2
      exact ⟨rfl, Post.same HH.out HK.out⟩
    · rw [if_neg hz]
      have hq : ∀ w, (binOp .eql 23 (hv is) (hv (0, 0))).run Try.prog w = .ok (.bool false) w := fun w => by rw [run_eql_hv]; simp [hz]
      obtain ⟨s, h, arr, ha, hp⟩ := rt_here HH.out
      obtain ⟨⟨c0, c1, c2⟩, cf⟩ := (hp.kn HK.out).atT
      obtain ⟨⟨s0, s1, s2⟩, sf0, sf1, sf2⟩ := (hp.kn HK.out).slotT ha HX.out
      have HP := Lib.hid (hp.kn HK.out)
      have HA := Lib.hid ha
      obtain ⟨y0, y1, _, _⟩ := cells2 HB.out
      obtain ⟨z0, z1, _, _⟩ := cells2 HB2.out
      have nz := HB2.out
      have hne : ¬ h = w.heap.size + 1 := fun e => by
        have h2 := hp.blk 2 rfl
        have := lt_blk h2
        omega
      have hnu : ¬ h = u := fun e => by
        have h2 := hp.blk 2 rfl
        have h0 := hp.blk 0 rfl
        rw [e, h0] at h2
        have := Option.some.inj h2
        injection this with _ e2
        cases e2
      clear hz hp ha nz
      have hqn : ∀ w, (binOp .neq 23 (.agg #[.int .i64 a.2.1, .int .i64 a.2.2]) (.agg #[.int .i64 was.1, .int .i64 was.2])).run Try.prog w = .ok (.bool (!decide (a.2 = was))) w := fun w => run_neq_hv a.2 was w
      obtain ⟨a1, hd1, hd2⟩ := a
      simp only at s0 s1 s2 hqn ha1
      by_cases hw : ((hd1, hd2) : Int × Int) = was
      · rw [if_pos hw]
        rw [decide_eq_true hw] at hqn
        simp only [Bool.not_true] at hqn
        clear hw
        go_enter Try.func34, Try.ntmps34
        go_upto_region 1 with fail
        generalize (w.alloc (.cells #[.int .i64 was.1, .int .i64 was.2] 23)).alloc (.cells #[.int .i64 is.1, .int .i64 is.2] 23) = W at *
        go_wp2_with fail
        refine HS.out.mono ?_
        rintro e w' ⟨rfl, rfl⟩
        go_wp2_with fail
        go_quiet (fail)
        go_wp2_with fail
        go_region_held3 (fun w' => w'.cell? ⟨u, 1, none⟩ = some (.slice (some ⟨h, 0, none⟩) R.length R.length) ∧ w'.cell? ⟨w.heap.size + 1, 0, none⟩ = some (.int .i64 is.1) ∧ w'.cell? ⟨w.heap.size + 1, 1, none⟩ = some (.int .i64 is.2)) (first | go_keep) (fail)
        go_wp2_with fail
        go_ret2
        have HP2 := Lib.hid (HP.out.kn ((Kp.refl (fun _ => False) W).drewN (nq + 1)))
        obtain ⟨arr', h3, h4⟩ := rt_hd HP2.out HA.out HX.out is
        simp only at h3 h4
        rw [ha1] at h3 h4
        exact ⟨rfl, Post.imp h3 fun F' h' => ⟨s, h, arr', h4, h'⟩⟩
      · rw [if_neg hw]
        rw [decide_eq_false hw] at hqn
        simp only [Bool.not_false] at hqn
        clear hw
        go_enter Try.func34, Try.ntmps34
        go_upto_region 1 with fail
        generalize (w.alloc (.cells #[.int .i64 was.1, .int .i64 was.2] 23)).alloc (.cells #[.int .i64 is.1, .int .i64 is.2] 23) = W at *
        go_wp2_with fail
        refine HS.out.mono ?_
        rintro e w' ⟨rfl, rfl⟩
        go_wp2_with fail
        go_quiet (fail)
        go_wp2_with fail
        go_ret2
        have HP2 := Lib.hid (HP.out.kn ((Kp.refl (fun _ => False) W).drewN nq))
        exact ⟨rfl, (rt_ms HP2.out (wrap64 (x + 1))).rt HA.out⟩
  · rw [if_neg h1, if_neg (by decide)]
    have hne : (stOf R n != 1) = true := by simpa using h1
    clear h1
    generalize stOf R n = sv at *
    go_enter Try.func34, Try.ntmps34
    go_upto_region 1 with fail
    generalize (w.alloc (.cells #[.int .i64 was.1, .int .i64 was.2] 23)).alloc (.cells #[.int .i64 is.1, .int .i64 is.2] 23) = W at *
    go_wp2_with fail
    refine HS.out.mono ?_
    rintro e w' ⟨rfl, rfl⟩
    go_wp2_with fail
    go_ret2
    exact ⟨rfl, Post.same HH.out HK.out⟩
end
end Go.Proofs.Ytkjkaliblkihmaa

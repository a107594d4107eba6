/- Arenas of string: Get, Set, Free, Slots, Live, Stale. -/
import Derived.Test.YthbiohfnnjbbgaaArenaMS
namespace Go.Proofs.Ythbiohfnnjbbgaa
set_option linter.unusedVariables false
set_option linter.unusedSimpArgs false
open Go Go.RowKit

section
variable {t sb m cx : Nat} {v : Value} {arr : Array Value} {l : List (Slot ByteArray)} {st : Int} {w w' : World} {F : Nat → Prop}
theorem get_good_S {i : Nat} {s : Slot ByteArray} (h : (ArS t l st).on w F) (hs : l[i]? = some s) (hg : s.given = true) : Calls Try.prog 17 #[.pointer (some ⟨t, 0, none⟩), .agg #[.int .i64 i, .int .i64 s.gen]] w fun e w' => e = .returned (.tuple #[.string s.has, .int .i64 0]) ∧ KN w w' := by
  obtain ⟨sb, m, cx, v, arr, ha, hp⟩ := ar_here_S h
  have hk := kn_alloc w (.cells #[.int .i64 i, .int .i64 s.gen] 30)
  obtain ⟨x0, x1, _, _⟩ := cells2 (heap_alloc_same w (.cells #[.int .i64 i, .int .i64 s.gen] 30))
  have HC := Lib.hid (at_good_S (hp.kn hk) ha hs hg)
  have HE := Lib.hid (fun (W : World) (k : KN w W) => ((hp.kn k).slotS ha hs).1)
  clear h hs hg hk ha hp
  go_enter Try.func17, Try.ntmps17
  go_wp2_with fail
  refine HC.out.mono ?_
  rintro e w5 ⟨rfl, hk5⟩
  have HK := Lib.hid ((kn_alloc w (.cells #[.int .i64 i, .int .i64 s.gen] 30)).trans hk5 (fun _ h => h.elim))
  have e0 := HE.out _ HK.out
  clear hk5
  go_wp2_with fail
  go_ret2
  exact ⟨rfl, HK.out⟩
theorem get_bad_S {i g : Int} (h : (ArS t l st).on w F) (hb : goodAt l i g = none) (hst : 0 ≤ st ∧ st ≤ 4611686018427387904) : Calls Try.prog 17 #[.pointer (some ⟨t, 0, none⟩), .agg #[.int .i64 i, .int .i64 g]] w fun e w' => e = .returned (.tuple #[.string (ByteArray.mk #[]), .int .i64 7]) ∧ Post (ArS t l (st + 1)) F w w' := by
  obtain ⟨sb, m, cx, v, arr, ha, hp⟩ := ar_here_S h
  have hk := kn_alloc w (.cells #[.int .i64 i, .int .i64 g] 30)
  obtain ⟨x0, x1, _, _⟩ := cells2 (heap_alloc_same w (.cells #[.int .i64 i, .int .i64 g] 30))
  have HC := Lib.hid (at_bad_S (hp.kn hk) ha hb hst)
  have HA := Lib.hid ha
  clear h hk ha hp hb hst
  go_enter Try.func17, Try.ntmps17
  go_wp2_with fail
  refine HC.out.mono ?_
  rintro e w5 ⟨rfl, hp5⟩
  have HP := Lib.hid hp5
  clear hp5
  go_wp2_with fail
  go_ret2
  exact ⟨rfl, Pw.arS HP.out HA.out⟩
theorem set_bad_S {i g : Int} (h : (ArS t l st).on w F) (hb : goodAt l i g = none) (hst : 0 ≤ st ∧ st ≤ 4611686018427387904) (x : ByteArray) : Calls Try.prog 16 #[.pointer (some ⟨t, 0, none⟩), .agg #[.int .i64 i, .int .i64 g], .string x] w fun e w' => e = .returned (.int .i64 7) ∧ Post (ArS t l (st + 1)) F w w' := by
  obtain ⟨sb, m, cx, v, arr, ha, hp⟩ := ar_here_S h
  have hk := kn_alloc w (.cells #[.int .i64 i, .int .i64 g] 30)
  obtain ⟨x0, x1, _, _⟩ := cells2 (heap_alloc_same w (.cells #[.int .i64 i, .int .i64 g] 30))
  have HC := Lib.hid (at_bad_S (hp.kn hk) ha hb hst)
  have HA := Lib.hid ha
  clear h hk ha hp hb hst
  go_enter Try.func16, Try.ntmps16
  go_wp2_with fail
  refine HC.out.mono ?_
  rintro e w5 ⟨rfl, hp5⟩
  have HP := Lib.hid hp5
  clear hp5
  go_wp2_with fail
  go_ret
  exact ⟨rfl, Pw.arS HP.out HA.out⟩
theorem set_good_S {i : Nat} {s : Slot ByteArray} (h : (ArS t l st).on w F) (hs : l[i]? = some s) (hg : s.given = true) (x : ByteArray) : Calls Try.prog 16 #[.pointer (some ⟨t, 0, none⟩), .agg #[.int .i64 i, .int .i64 s.gen], .string x] w fun e w' => e = .returned (.int .i64 0) ∧ Post (ArS t (l.set i ⟨x, s.gen, s.given⟩) st) F w w' := by
  obtain ⟨sb, m, cx, v, arr, ha, hp⟩ := ar_here_S h
  have hk := kn_alloc w (.cells #[.int .i64 i, .int .i64 s.gen] 30)
  obtain ⟨x0, x1, _, _⟩ := cells2 (heap_alloc_same w (.cells #[.int .i64 i, .int .i64 s.gen] 30))
  have HC := Lib.hid (at_good_S (hp.kn hk) ha hs hg)
  have HE := Lib.hid (fun (W : World) (k : KN w W) => And.intro ((hp.kn k).slotS ha hs).1 ((hp.kn k).atS).2.2.1)
  have HP := Lib.hid hp
  have HA := Lib.hid (ha.set hs (j := 0) (x' := ⟨x, s.gen, s.given⟩) (v := .string x) (by omega) (enS_len s) rfl)
  have HF := Lib.hid (free_same (s' := (⟨x, s.gen, s.given⟩ : Slot ByteArray)) hs rfl)
  clear h hs hg hk ha hp
  go_enter Try.func16, Try.ntmps16
  go_wp2_with fail
  refine HC.out.mono ?_
  rintro e w5 ⟨rfl, hk5⟩
  have HK := Lib.hid ((kn_alloc w (.cells #[.int .i64 i, .int .i64 s.gen] 30)).trans hk5 (fun _ h => h.elim))
  obtain ⟨e0, ef⟩ := HE.out _ HK.out
  clear hk5
  go_wp2_with fail
  go_ret
  refine ⟨rfl, ?_⟩
  have h1 := (HP.out.kn HK.out).setC 1 rfl (j := i * 3) (.string x)
  exact Pw.ar2S h1 HA.out (by simp) HF.out
theorem slots_S (h : (ArS t l st).on w F) : Calls Try.prog 25 #[.pointer (some ⟨t, 0, none⟩)] w fun e w' => e = .returned (.int .i64 l.length) ∧ w = w' := by
  obtain ⟨sb, m, cx, v, arr, ha, hp⟩ := ar_here_S h
  have HC := Lib.hid (none_S hp)
  obtain ⟨⟨c0, c1, c2⟩, _⟩ := hp.atS
  clear h hp ha
  go_enter Try.func25, Try.ntmps25
  go_wp2_with fail
  refine HC.out.mono ?_
  rintro e w5 ⟨rfl, rfl⟩
  go_wp2_with fail
  go_ret
  exact ⟨rfl, rfl⟩
theorem live_S (h : (ArS t l st).on w F) (hm : l.length ≤ 65536) : Calls Try.prog 18 #[.pointer (some ⟨t, 0, none⟩)] w fun e w' => e = .returned (.int .i64 ((l.length : Int) - (freeOf l).length)) ∧ KN w w' := by
  obtain ⟨sb, m, cx, v, arr, ha, hp⟩ := ar_here_S h
  have HC := Lib.hid (none_S hp)
  obtain ⟨F1, hw, _⟩ := hp.get 2 rfl
  obtain ⟨a, cap, rfl, _⟩ := WinA.form hw
  obtain ⟨⟨c0, c1, c2⟩, _⟩ := hp.atS
  have hfl := free_len l
  have hwr : IntKind.i64.wrap ((l.length : Int) - ((freeOf l).length : Int)) = (l.length : Int) - (freeOf l).length := Go.IntWalk.i64_in _ (by omega)
  clear h hp ha hw
  generalize (freeOf l).length = q at *
  generalize l.length = n at *
  go_enter Try.func18, Try.ntmps18
  go_wp2_with fail
  refine HC.out.mono ?_
  rintro e w5 ⟨rfl, rfl⟩
  go_wp2_with fail
  go_quiet (fail)
  go_wp2_with fail
  go_ret
  exact ⟨rfl, (Kp.refl _ _).drewN _⟩
theorem stale_S (h : (ArS t l st).on w F) : Calls Try.prog 19 #[.pointer (some ⟨t, 0, none⟩)] w fun e w' => e = .returned (.int .i64 st) ∧ w = w' := by
  obtain ⟨sb, m, cx, v, arr, ha, hp⟩ := ar_here_S h
  have HC := Lib.hid (none_S hp)
  obtain ⟨⟨c0, c1, c2⟩, _⟩ := hp.atS
  have HL := Lib.hid (aload (hp.blk 3 rfl))
  clear h hp ha
  go_enter Try.func19, Try.ntmps19
  go_wp2_with fail
  refine HC.out.mono ?_
  rintro e w5 ⟨rfl, rfl⟩
  go_wp2_with fail
  refine HL.out.mono ?_
  rintro e w5 ⟨rfl, rfl⟩
  go_wp2_with fail
  go_ret
  exact ⟨rfl, rfl⟩
theorem free_bad_S {i g : Int} (h : (ArS t l st).on w F) (hb : goodAt l i g = none) (hst : 0 ≤ st ∧ st ≤ 4611686018427387904) : Calls Try.prog 15 #[.pointer (some ⟨t, 0, none⟩), .agg #[.int .i64 i, .int .i64 g]] w fun e w' => e = .returned (.int .i64 7) ∧ Post (ArS t l (st + 1)) F w w' := by
  obtain ⟨sb, m, cx, v, arr, ha, hp⟩ := ar_here_S h
  have hk := kn_alloc w (.cells #[.int .i64 i, .int .i64 g] 30)
  obtain ⟨x0, x1, _, _⟩ := cells2 (heap_alloc_same w (.cells #[.int .i64 i, .int .i64 g] 30))
  have HC := Lib.hid (at_bad_S (hp.kn hk) ha hb hst)
  have HA := Lib.hid ha
  clear h hk ha hp hb hst
  go_enter Try.func15, Try.ntmps15
  go_wp2_with fail
  refine HC.out.mono ?_
  rintro e w5 ⟨rfl, hp5⟩
  have HP := Lib.hid hp5
  clear hp5
  go_wp2_with fail
  go_ret
  exact ⟨rfl, Pw.arS HP.out HA.out⟩
set_option maxHeartbeats 2000000 in
theorem free_good_S {i : Nat} {s : Slot ByteArray} (h : (ArS t l st).on w F) (hs : l[i]? = some s) (hg : s.given = true) (hm : l.length ≤ 65536) : Calls Try.prog 15 #[.pointer (some ⟨t, 0, none⟩), .agg #[.int .i64 i, .int .i64 s.gen]] w fun e w' => e = .returned (.int .i64 0) ∧ Post (ArS t (l.set i ⟨(ByteArray.mk #[]), s.gen, false⟩) st) F w w' := by
  obtain ⟨sb, m, cx, v, arr, ha, hp⟩ := ar_here_S h
  have hil := (List.getElem?_eq_some_iff.1 hs).1
  have hk := kn_alloc w (.cells #[.int .i64 i, .int .i64 s.gen] 30)
  obtain ⟨x0, x1, _, _⟩ := cells2 (heap_alloc_same w (.cells #[.int .i64 i, .int .i64 s.gen] 30))
  have HC := Lib.hid (at_good_S (hp.kn hk) ha hs hg)
  have HP := Lib.hid (hp.alloc (.cells #[.int .i64 i, .int .i64 s.gen] 30))
  have HAS := Lib.hid (And.intro ha hs)
  have HFB := Lib.hid (free_back (s' := (⟨(ByteArray.mk #[]), s.gen, false⟩ : Slot ByteArray)) hs hg rfl)
  have hfl := free_len l
  have HSo := Lib.hid (free_sorted l)
  clear h hs hg hk ha hp
  go_enter Try.func15, Try.ntmps15
  go_wp2_with fail
  refine HC.out.mono ?_
  rintro e w5 ⟨rfl, hk5⟩
  have HP5 := Lib.hid (HP.out.kn hk5)
  clear hk5 HP HC x0 x1
  generalize w.heap.size = gh at *
  have hb1 := HP5.out.blk 2 rfl
  have e0 : w5.cell? ⟨sb, i * 3, none⟩ = some (.string s.has) := cell_blk hb1 (HAS.out.1.cell HAS.out.2 (j := 0) (by omega))
  have e2 : w5.cell? ⟨sb, i * 3 + 2, none⟩ = some (.bool s.given) := cell_blk hb1 (HAS.out.1.cell HAS.out.2 (j := 2) (by omega))
  have ef : ∀ j, w5.frozen? ⟨sb, j, none⟩ = false := fun j => free_blk hb1
  clear hb1
  go_upto_region 6 with fail
  have HP6 := Lib.hid ((HP5.out.setC 2 rfl (j := i * 3) (.string (ByteArray.mk #[]))).setC 2 rfl (j := i * 3 + 2) (.bool false))
  simp only [List.set_cons_zero, List.set_cons_succ] at HP6
  clear HP5 e0 e2 ef
  generalize (w5.setCell ⟨sb, i * 3, none⟩ (.string (ByteArray.mk #[]))).setCell ⟨sb, i * 3 + 2, none⟩ (.bool false) = w6 at *
  have a1 := HAS.out.1.set HAS.out.2 (j := 0) (x' := ⟨(ByteArray.mk #[]), s.gen, s.given⟩) (v := .string (ByteArray.mk #[])) (by omega) (enS_len s) rfl
  have a2 := a1.set (List.getElem?_set_self hil) (j := 2) (x' := ⟨(ByteArray.mk #[]), s.gen, false⟩) (v := .bool false) (by omega) (enS_len _) rfl
  rw [List.set_set] at a2
  have HA6 := Lib.hid a2
  clear a1 a2 HAS
  have c1 : w6.cell? ⟨t, 1, none⟩ = some v := cell_blk (HP6.out.blk 1 rfl) rfl
  obtain ⟨x0, x1, _, _⟩ := cells2 (HP6.out.blk 0 rfl)
  have HSe := Lib.hid (fun (W : World) (k : KN w6 W) => show Calls Try.prog 30 #[v, .int .i64 (i : Int)] W _ from by
    obtain ⟨F1, hw, _⟩ := (HP6.out.kn k).get 3 rfl
    exact search_w hw (i : Int) HSo.out (by omega))
  go_region_held3 (fun w' => w'.cell? ⟨t, 1, none⟩ = some v ∧ w'.cell? ⟨gh, 0, none⟩ = some (.int .i64 (i : Int))) (go_keep) ((go_at_call 30; refine (HSe.out _ (Kp.refl _ _).drew).mono ?_; rintro e w7 ⟨rfl, q, hw7⟩; subst hw7))
  have HP7 := Lib.hid (HP6.out.kn ((Kp.refl (fun _ => False) w6).drew.drewN q))
  have c1' : (w6.drewN (1 + q)).cell? ⟨t, 1, none⟩ = some v := c1
  have x0' : (w6.drewN (1 + q)).cell? ⟨gh, 0, none⟩ = some (.int .i64 (i : Int)) := x0
  have hcl : (freeOf l).countP (· < (i : Int)) ≤ (freeOf l).length := HFB.out.2
  have HIn := Lib.hid (fun (W : World) (vb vc : Nat) (k : KN w6 W) (hvb : w6.heap.size ≤ vb) (hb : W.heap[vb]? = some (.cells #[.int .i64 (i : Int)] 3 (0, 0))) => show Calls Try.prog 31 #[v, .int .i64 (((freeOf l).countP (· < (i : Int)) : Nat) : Int), .slice (some ⟨vb, 0, none⟩) 1 vc] W (fun e w9 => ∃ a9 n9 c9, e = .returned (.slice a9 n9 c9) ∧ Pw F w w9 [Blk gh (.cells #[.int .i64 (i : Int), .int .i64 s.gen] 30), Blk t (.cells #[.slice (some ⟨sb, 0, none⟩) l.length (l.length + cx), v, .pointer (some ⟨m, 0, none⟩)] 61), Blk sb (.cells ((arr.setIfInBounds (i * 3) (.string (ByteArray.mk #[]))).setIfInBounds (i * 3 + 2) (.bool false)) 84), WinA 3 (.slice a9 n9 c9) (insAt (freeOf l) ((freeOf l).countP (· < (i : Int))) i), Blk m (atom st)]) from by
    obtain ⟨F1, hw, _⟩ := HP6.out.get 3 rfl
    obtain ⟨F2, hw2, _, hup⟩ := (HP6.out.kn k).get 3 rfl
    have hF : ¬ F1 vb := fun hh => by have := (WinA 3 v (freeOf l)).lt hw vb hh; omega
    have hww := (WinA 3 v (freeOf l)).kn hw k
    have e : F1 = F2 := by
      rcases hww with ⟨h1, _, h3⟩ | ⟨b, off, cap, cs, h1, _, _, _, _, _, h3⟩
      · rcases hw2 with ⟨_, _, h4⟩ | ⟨b', off', cap', cs', h5, _⟩
        · rw [h3, h4]
        · rw [h1] at h5; cases h5
      · rcases hw2 with ⟨h5, _⟩ | ⟨b', off', cap', cs', h5, _, _, _, _, _, h4⟩
        · rw [h1] at h5; cases h5
        · rw [h1] at h5; cases h5; rw [h3, h4]
    refine (insert_w hw2 hcl hb (by rw [← e]; exact hF) (by omega)).mono ?_
    rintro e w9 ⟨v', rfl, hp⟩
    have hp0 := hp
    obtain ⟨F9, h9, _⟩ := hp0
    obtain ⟨a9, c9, rfl, _⟩ := WinA.form h9
    exact ⟨a9, _, c9, rfl, hup hp⟩)
  generalize (freeOf l).countP (· < (i : Int)) = cnt at *
  clear HP6 c1' x0' x1 HSe hfl HSo
  go_wp2_with fail
  have hlt1 : t < w6.heap.size := World.block_lt_of_cell? w6 _ c1
  have hlt2 : gh < w6.heap.size := World.block_lt_of_cell? w6 _ x0
  have en1 : ∀ n o, ((w6.drewN n).alloc o).cell? ⟨t, 1, none⟩ = some v := fun n o => cell_kp (((Kp.refl (fun _ => False) w6).drewN n).alloc o) id c1
  go_region_with ((go_at_call 31; refine (HIn.out _ w6.heap.size 1 (((Kp.refl _ w6).drewN _).alloc _) (Nat.le_refl _) (heap_alloc_same (w6.drewN _) _)).mono ?_; rintro e w9 ⟨a9, n9, c9, rfl, hp9⟩; have HP9 := Lib.hid hp9; have k9 : w9.cell? ⟨t, 1, none⟩ = some v := cell_blk (hp9.blk 1 rfl) rfl; have f9 : w9.frozen? ⟨t, 1, none⟩ = false := free_blk (hp9.blk 1 rfl); clear hp9))
  all_goals
    go_wp2_with fail
    go_ret
    refine ⟨rfl, ?_⟩
    have h1 := (HP9.out.setC 1 rfl (j := 1) (.slice a9 n9 c9)).drop
    exact Pw.ar2S h1 HA6.out (by simp) HFB.out.1
end
end Go.Proofs.Ythbiohfnnjbbgaa

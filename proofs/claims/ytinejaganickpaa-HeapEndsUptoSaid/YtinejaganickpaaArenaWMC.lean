/- Arenas of cresset/heap.cell: Put, at, Get, Set, Free, Slots, Live, Stale. -/
import Derived.Test.YtinejaganickpaaArenaWPC
namespace Go.Proofs.Ytinejaganickpaa
set_option linter.unusedVariables false
set_option linter.unusedSimpArgs false
open Go Go.RowKit

section
variable {t sb m cx : Nat} {v : Value} {arr : Array Value} {l : List (Slot Cl)} {st : Int} {w w' : World} {F : Nat → Prop}
/-- Two cells of a block, the first ones. -/
theorem ar_here_C (h : (ArC t l st).on w F) : ∃ sb m cx v arr, Arr enC 7 arr l ∧ Pw F w w (PC t sb m cx v arr l st) := by
  obtain ⟨sb, m, cx, v, arr, ha, h⟩ := h
  exact ⟨sb, m, cx, v, arr, ha, Pw.start h⟩
theorem Pw.ar2C {v' : Value} {arr' : Array Value} {l' : List (Slot Cl)} {n : Nat} {fr : List Int} (h : Pw F w w' [Blk t (.cells #[.slice (some ⟨sb, 0, none⟩) n (n + cx), v', .pointer (some ⟨m, 0, none⟩)] 128), Blk sb (.cells arr' 134), WinA 3 v' fr, Blk m (atom st)]) (ha : Arr enC 7 arr' l') (hn : l'.length = n) (hf : freeOf l' = fr) : Post (ArC t l' st) F w w' := by
  subst hn; subst hf
  exact Pw.arC h ha
theorem put_full_C (h : (ArC t l st).on w F) (hf : freeOf l = []) (x : Cl) : Calls Try.prog 36 #[.pointer (some ⟨t, 0, none⟩), .agg #[.string x.key, .int .i64 x.newest.slot, .int .i64 x.newest.gen, .bool x.closed, .bool x.retired]] w fun e w' => e = .returned (.tuple #[.agg #[.int .i64 0, .int .i64 0], .int .i64 5]) ∧ KN w w' := by
  obtain ⟨sb, m, cx, v, arr, ha, hp⟩ := ar_here_C h
  have HC := Lib.hid (fun (W : World) (k : KN w W) => none_C (hp.kn k))
  obtain ⟨F1, hw, _⟩ := hp.get 2 rfl
  obtain ⟨a, cap, rfl, _⟩ := WinA.form hw
  clear h
  obtain ⟨⟨c0, c1, c2⟩, _⟩ := (hp.kn ((kn_alloc w (.cells #[.string x.key, .int .i64 x.newest.slot, .int .i64 x.newest.gen, .bool x.closed, .bool x.retired] 94)).alloc (.cells #[.int .i64 0, .int .i64 0] 36))).atC
  rw [hf] at c1
  simp only [List.length_nil] at c1
  clear hp hw ha
  obtain ⟨g0, g1, gf0, gf1⟩ := cells2 (heap_alloc_same (w.alloc (.cells #[.string x.key, .int .i64 x.newest.slot, .int .i64 x.newest.gen, .bool x.closed, .bool x.retired] 94)) (.cells #[.int .i64 0, .int .i64 0] 36))
  go_enter Try.func36, Try.ntmps36
  go_wp2_with fail
  refine (HC.out _ (by exact (kn_alloc _ _).alloc _)).mono ?_
  rintro e w' ⟨rfl, hw⟩
  subst hw
  go_wp2_with fail
  exact bodyPost_ret (v := .tuple #[.agg #[.int .i64 0, .int .i64 0], .int .i64 5]) (by simp [results, Try.results36, go_sem, g0, g1]) rfl ⟨rfl, (kn_alloc _ _).alloc _⟩
set_option maxHeartbeats 2000000 in
theorem put_ok_C {i : Nat} {fr : List Int} {s : Slot Cl} (h : (ArC t l st).on w F) (hf : freeOf l = (i : Int) :: fr) (hs : l[i]? = some s) (hg : 0 ≤ s.gen ∧ s.gen ≤ 9000000) (hm : l.length ≤ 65536) (x : Cl) :
    Calls Try.prog 36 #[.pointer (some ⟨t, 0, none⟩), .agg #[.string x.key, .int .i64 x.newest.slot, .int .i64 x.newest.gen, .bool x.closed, .bool x.retired]] w fun e w' => e = .returned (.tuple #[.agg #[.int .i64 i, .int .i64 (s.gen + 1)], .int .i64 0]) ∧ Post (ArC t (l.set i ⟨x, s.gen + 1, true⟩) st) F w w' := by
  obtain ⟨sb, m, cx, v, arr, ha, hp⟩ := ar_here_C h
  have hil := (List.getElem?_eq_some_iff.1 hs).1
  have HFr := Lib.hid (free_put (s := (⟨x, s.gen + 1, true⟩ : Slot Cl)) hf rfl).2.2
  have HC := Lib.hid (fun (W : World) (k : KN w W) => none_C (hp.kn k))
  have HA := Lib.hid ha
  have HS := Lib.hid hs
  have hsz : (w.alloc (.cells #[.string x.key, .int .i64 x.newest.slot, .int .i64 x.newest.gen, .bool x.closed, .bool x.retired] 94)).heap.size = w.heap.size + 1 := by simp
  have hq := (hp.alloc (.cells #[.string x.key, .int .i64 x.newest.slot, .int .i64 x.newest.gen, .bool x.closed, .bool x.retired] 94)).alloc (.cells #[.int .i64 0, .int .i64 0] 36)
  rw [hsz] at hq
  have HP := Lib.hid hq
  clear h hp ha hq hsz
  have hz1 : (i : Int) < (l.length : Int) := by omega
  go_enter Try.func36, Try.ntmps36
  go_wp2_with fail
  refine (HC.out _ (by exact (kn_alloc _ _).alloc _)).mono ?_
  rintro e w' ⟨rfl, hw⟩
  subst hw
  clear HC
  generalize (w.alloc (.cells #[.string x.key, .int .i64 x.newest.slot, .int .i64 x.newest.gen, .bool x.closed, .bool x.retired] 94)).alloc (.cells #[.int .i64 0, .int .i64 0] 36) = w1 at *
  generalize w.heap.size + 1 = gx at *
  generalize w.heap.size = ga at *
  obtain ⟨F1, hwin, _⟩ := HP.out.get 4 rfl
  rw [hf] at hwin
  obtain ⟨b, off, cap, rfl, hc1, hc2, q0, _⟩ := WinA.head hwin
  have hb0 := HP.out.blk 2 rfl
  have c0 : w1.cell? ⟨t, 0, none⟩ = some (.slice (some ⟨sb, 0, none⟩) l.length (l.length + cx)) := cell_blk hb0 rfl
  have c1 : w1.cell? ⟨t, 1, none⟩ = some (.slice (some ⟨b, off, none⟩) (fr.length + 1) cap) := cell_blk hb0 rfl
  have f1 : w1.frozen? ⟨t, 1, none⟩ = false := free_blk hb0
  clear hb0 hwin
  have HW2 : Hid (Pw F w (w1.setCell ⟨t, 1, none⟩ (.slice (some (if cap = 1 then ⟨b, off, none⟩ else ⟨b, off + 1, none⟩)) fr.length (cap - 1))) [Blk gx (.cells #[.int .i64 0, .int .i64 0] 36), Blk ga (.cells #[.string x.key, .int .i64 x.newest.slot, .int .i64 x.newest.gen, .bool x.closed, .bool x.retired] 94), Blk t (.cells #[.slice (some ⟨sb, 0, none⟩) l.length (l.length + cx), .slice (some (if cap = 1 then ⟨b, off, none⟩ else ⟨b, off + 1, none⟩)) fr.length (cap - 1), .pointer (some ⟨m, 0, none⟩)] 128), Blk sb (.cells arr 134), WinA 3 (.slice (some (if cap = 1 then ⟨b, off, none⟩ else ⟨b, off + 1, none⟩)) fr.length (cap - 1)) fr, Blk m (atom st)]) := Lib.hid (by
    obtain ⟨F1, hwin, _, hup⟩ := HP.out.get 4 rfl
    rw [hf] at hwin
    exact (hup (Post.same (WinA.tail hwin) (Kp.refl _ _))).setC 2 rfl _)
  clear HP
  have hfr0 : ¬ ((fr.length : Int) + 1 = 0) := by omega
  have hfr1 : (0 : Int) < (fr.length : Int) + 1 := by omega
  obtain ⟨ea, hea⟩ : ∃ ea : Addr, ea = (if cap = 1 then ⟨b, off, none⟩ else ⟨b, off + 1, none⟩) := ⟨_, rfl⟩
  have HD : cap = 1 ∨ ¬ cap = 1 := Classical.em _
  rcases HD with hcap | hcap
  all_goals
    first
      | (simp only [if_pos hcap] at HW2 hea; subst hcap)
      | simp only [if_neg hcap] at HW2 hea
    subst hea
    go_upto_region 7 with fail
    generalize hgen : w1.setCell ⟨t, 1, none⟩ _ = w2 at *
    clear hgen c0 c1 f1 q0
    have hb0 := HW2.out.blk 2 rfl
    have c0 : w2.cell? ⟨t, 0, none⟩ = some (.slice (some ⟨sb, 0, none⟩) l.length (l.length + cx)) := cell_blk hb0 rfl
    have hb1 := HW2.out.blk 3 rfl
    have hby := HW2.out.blk 1 rfl
    have y0 : w2.cell? ⟨ga, 0, none⟩ = some (.string x.key) := cell_blk hby rfl
    have y1 : w2.cell? ⟨ga, 1, none⟩ = some (.int .i64 x.newest.slot) := cell_blk hby rfl
    have y2 : w2.cell? ⟨ga, 2, none⟩ = some (.int .i64 x.newest.gen) := cell_blk hby rfl
    have y3 : w2.cell? ⟨ga, 3, none⟩ = some (.bool x.closed) := cell_blk hby rfl
    have y4 : w2.cell? ⟨ga, 4, none⟩ = some (.bool x.retired) := cell_blk hby rfl
    have e0 : w2.cell? ⟨sb, i * 7, none⟩ = some (.string s.has.key) := cell_blk hb1 (HA.out.cell HS.out (j := 0) (by omega))
    have e1 : w2.cell? ⟨sb, i * 7 + 1, none⟩ = some (.int .i64 s.has.newest.slot) := cell_blk hb1 (HA.out.cell HS.out (j := 1) (by omega))
    have e2 : w2.cell? ⟨sb, i * 7 + 2, none⟩ = some (.int .i64 s.has.newest.gen) := cell_blk hb1 (HA.out.cell HS.out (j := 2) (by omega))
    have e3 : w2.cell? ⟨sb, i * 7 + 3, none⟩ = some (.bool s.has.closed) := cell_blk hb1 (HA.out.cell HS.out (j := 3) (by omega))
    have e4 : w2.cell? ⟨sb, i * 7 + 4, none⟩ = some (.bool s.has.retired) := cell_blk hb1 (HA.out.cell HS.out (j := 4) (by omega))
    have eg : w2.cell? ⟨sb, i * 7 + 6, none⟩ = some (.bool s.given) := cell_blk hb1 (HA.out.cell HS.out (j := 6) (by omega))
    have ef : ∀ j, w2.frozen? ⟨sb, j, none⟩ = false := fun j => free_blk hb1
    clear hb0 hb1 hby
    go_upto_region 9 with fail
    have HW3 := HW2.out.setRow (i := 3) (base := i * 7) [(0, .string x.key), (1, .int .i64 x.newest.slot), (2, .int .i64 x.newest.gen), (3, .bool x.closed), (4, .bool x.retired), (6, .bool true)] rfl
    simp only [List.foldl_cons, List.foldl_nil, List.set_cons_zero, List.set_cons_succ, Nat.add_zero] at HW3
    have HA3 := HA.out.sets (x' := ⟨x, s.gen, true⟩) [(0, .string x.key), (1, .int .i64 x.newest.slot), (2, .int .i64 x.newest.gen), (3, .bool x.closed), (4, .bool x.retired), (6, .bool true)] HS.out rfl rfl rfl
    simp only [List.foldl_cons, List.foldl_nil, Nat.add_zero] at HA3
    generalize ((((((arr.setIfInBounds (i * 7) (.string x.key)).setIfInBounds (i * 7 + 1) (.int .i64 x.newest.slot)).setIfInBounds (i * 7 + 2) (.int .i64 x.newest.gen)).setIfInBounds (i * 7 + 3) (.bool x.closed)).setIfInBounds (i * 7 + 4) (.bool x.retired)).setIfInBounds (i * 7 + 6) (.bool true)) = arr3 at HW3 HA3
    replace HW3 := Lib.hid HW3
    replace HA3 := Lib.hid HA3
    clear HW2 c0 eg ef y0 y1 y2 y3 y4 e0 e1 e2 e3 e4
    generalize ((((((w2.setCell ⟨sb, i * 7, none⟩ (.string x.key)).setCell ⟨sb, i * 7 + 1, none⟩ (.int .i64 x.newest.slot)).setCell ⟨sb, i * 7 + 2, none⟩ (.int .i64 x.newest.gen)).setCell ⟨sb, i * 7 + 3, none⟩ (.bool x.closed)).setCell ⟨sb, i * 7 + 4, none⟩ (.bool x.retired)).setCell ⟨sb, i * 7 + 6, none⟩ (.bool true)) = w3 at *
    have hb1 := HW3.out.blk 3 rfl
    have e1 : w3.cell? ⟨sb, i * 7 + 5, none⟩ = some (.int .i64 s.gen) := cell_blk hb1 (HA3.out.cell (x := ⟨x, s.gen, true⟩) (List.getElem?_set_self hil) (j := 5) (by omega))
    have ef : ∀ j, w3.frozen? ⟨sb, j, none⟩ = false := fun j => free_blk hb1
    clear hb1
    go_upto_region 10 with fail
    have HW4 := Lib.hid (HW3.out.setC 3 rfl (j := i * 7 + 5) (.int .i64 (s.gen + 1)))
    simp only [List.set_cons_zero, List.set_cons_succ] at HW4
    have a3 := HA3.out.set (List.getElem?_set_self hil) (j := 5) (x' := ⟨x, s.gen + 1, true⟩) (v := .int .i64 (s.gen + 1)) (by omega) (enC_len _) rfl
    rw [List.set_set] at a3
    have HA4 := Lib.hid a3
    clear HW3 HA3 a3 e1 ef
    generalize w3.setCell ⟨sb, i * 7 + 5, none⟩ (.int .i64 (s.gen + 1)) = w4 at *
    have hb1 := HW4.out.blk 3 rfl
    have e1 : w4.cell? ⟨sb, i * 7 + 5, none⟩ = some (.int .i64 (s.gen + 1)) := cell_blk hb1 (HA4.out.cell (x := ⟨x, s.gen + 1, true⟩) (List.getElem?_set_self hil) (j := 5) (by omega))
    obtain ⟨g0, g1, gf0, gf1⟩ := cells2 (HW4.out.blk 0 rfl)
    clear hb1
    go_wp2_with fail
    have HW5 := Lib.hid ((HW4.out.setC 0 rfl (j := 0) (.int .i64 (i : Int))).setC 0 rfl (j := 1) (.int .i64 (s.gen + 1)))
    obtain ⟨r0, r1, _, _⟩ := cells2 (HW5.out.blk 0 rfl)
    refine bodyPost_ret (v := .tuple #[.agg #[.int .i64 i, .int .i64 (s.gen + 1)], .int .i64 0]) (by simp [results, Try.results36, go_sem, r0, r1]) rfl ⟨rfl, ?_⟩
    exact Pw.ar2C HW5.out.drop.drop HA4.out (by simp) HFr.out
/-- at: a good handle. -/
theorem at_good_C {i : Nat} {s : Slot Cl} (h : Pw F w w' (PC t sb m cx v arr l st)) (ha : Arr enC 7 arr l) (hs : l[i]? = some s) (hg : s.given = true) : Calls Try.prog 64 #[.pointer (some ⟨t, 0, none⟩), .agg #[.int .i64 i, .int .i64 s.gen]] w' fun e w'' => e = .returned (.tuple #[.pointer (some ⟨sb, i * 7, none⟩), .int .i64 0]) ∧ KN w' w'' := by
  have hil := (List.getElem?_eq_some_iff.1 hs).1
  have HC := Lib.hid (fun (W : World) (k : KN w' W) => none_C (h.kn k))
  have hk := kn_alloc w' (.cells #[.int .i64 i, .int .i64 s.gen] 36)
  obtain ⟨⟨c0, c1, c2⟩, _⟩ := (h.kn hk).atC
  have e1 : (w'.alloc (.cells #[.int .i64 i, .int .i64 s.gen] 36)).cell? ⟨sb, i * 7 + 5, none⟩ = some (.int .i64 s.gen) := (h.kn hk).slotC ha hs 5 (by omega)
  have e2 : (w'.alloc (.cells #[.int .i64 i, .int .i64 s.gen] 36)).cell? ⟨sb, i * 7 + 6, none⟩ = some (.bool s.given) := (h.kn hk).slotC ha hs 6 (by omega)
  rw [hg] at e2
  obtain ⟨x0, x1, _, _⟩ := cells2 (heap_alloc_same w' (.cells #[.int .i64 i, .int .i64 s.gen] 36))
  have hz0 : (0 : Int) ≤ (i : Int) := by omega
  have hz1 : (i : Int) < (l.length : Int) := by omega
  have hd1 : decide ((i : Int) < 0) = false := by simp
  have hd2 : decide (l.length ≤ i) = false := by simp; omega
  clear h ha hs hg hk c1 c2
  go_enter Try.func64, Try.ntmps64
  go_wp2_with fail
  refine (HC.out _ (by exact kn_alloc _ _)).mono ?_
  rintro e w5 ⟨rfl, hw⟩
  subst hw
  go_wp2_with fail
  go_quiet (fail)
  go_wp2_with fail
  go_quiet (fail)
  go_wp2_with fail
  go_ret2
  exact ⟨rfl, ((kn_alloc _ _).drewN _).drewN _⟩
/-- at: another one is told. -/
theorem at_bad_C {i g : Int} (h : Pw F w w' (PC t sb m cx v arr l st)) (ha : Arr enC 7 arr l) (hb : goodAt l i g = none) (hst : 0 ≤ st ∧ st ≤ 4611686018427387904) : Calls Try.prog 64 #[.pointer (some ⟨t, 0, none⟩), .agg #[.int .i64 i, .int .i64 g]] w' fun e w'' => e = .returned (.tuple #[.pointer none, .int .i64 7]) ∧ Pw F w w'' (PC t sb m cx v arr l (st + 1)) := by
  have HC := Lib.hid (fun (W : World) (k : KN w' W) => none_C (h.kn k))
  have hk := kn_alloc w' (.cells #[.int .i64 i, .int .i64 g] 36)
  obtain ⟨⟨c0, c1, c2⟩, _⟩ := (h.kn hk).atC
  have HAdd := Lib.hid (fun (W : World) (k : KN w' W) => aadd 1 ((h.kn k).blk 3 rfl))
  have HP := Lib.hid h
  have HSl := Lib.hid (fun (j : Nat) (s : Slot Cl) (hs : l[j]? = some s) => show (w'.alloc (.cells #[.int .i64 i, .int .i64 g] 36)).cell? ⟨sb, j * 7 + 5, none⟩ = some (.int .i64 s.gen) ∧ (w'.alloc (.cells #[.int .i64 i, .int .i64 g] 36)).cell? ⟨sb, j * 7 + 6, none⟩ = some (.bool s.given) from ⟨(h.kn hk).slotC ha hs 5 (by omega), (h.kn hk).slotC ha hs 6 (by omega)⟩)
  have hwr : wrap64 (st + 1) = st + 1 := IntWalk.wrap64_in _ ⟨by omega, by omega⟩
  rw [hwr] at HAdd
  have HEnd := Lib.hid (fun (W : World) (k : KN w' W) => show Pw F w (setB W m (atom (st + 1))) (PC t sb m cx v arr l (st + 1)) from by
    obtain ⟨F1, h1, _, hup⟩ := (HP.out.kn k).get 3 rfl
    exact hup (post_setB (atom (st + 1)) h1))
  obtain ⟨x0, x1, _, _⟩ := cells2 (heap_alloc_same w' (.cells #[.int .i64 i, .int .i64 g] 36))
  clear h ha hk c1 hwr
  unfold goodAt at hb
  by_cases hi0 : i < 0
  · clear hb HSl
    go_enter Try.func64, Try.ntmps64
    go_wp2_with fail
    refine (HC.out _ (by exact kn_alloc _ _)).mono ?_
    rintro e w5 ⟨rfl, hw⟩
    subst hw
    go_wp2_with fail
    go_quiet (fail)
    go_wp2_with fail
    refine (HAdd.out _ ((kn_alloc _ _).drewN _)).mono ?_
    rintro e w6 ⟨rfl, hw6⟩
    have HW6 := Lib.hid hw6
    clear hw6
    go_wp2_with fail
    go_ret2
    exact ⟨rfl, by rw [HW6.out]; exact HEnd.out _ ((kn_alloc _ _).drewN _)⟩
  · obtain ⟨j, rfl⟩ : ∃ j : Nat, i = j := ⟨i.toNat, by omega⟩
    rw [if_pos (by omega), Int.toNat_natCast] at hb
    have hd1 : decide ((j : Int) < 0) = false := by simp
    by_cases hj : j < l.length
    · obtain ⟨s, hs⟩ : ∃ s, l[j]? = some s := ⟨_, List.getElem?_eq_getElem hj⟩
      obtain ⟨e1, e2⟩ := HSl.out j s hs
      rw [hs] at hb
      have hz0 : (0 : Int) ≤ (j : Int) := by omega
      have hz1 : (j : Int) < (l.length : Int) := by omega
      have hd2 : decide (l.length ≤ j) = false := by simp; omega
      clear HSl hs
      by_cases hg : s.given = true
      · have hne : s.gen ≠ g := by
          intro e
          simp [hg, e] at hb
        have hnb : (s.gen != g) = true := by simpa using hne
        rw [hg] at e2
        clear hb hne hg
        generalize s.gen = sg at *
        go_enter Try.func64, Try.ntmps64
        go_wp2_with fail
        refine (HC.out _ (by exact kn_alloc _ _)).mono ?_
        rintro e w5 ⟨rfl, hw⟩
        subst hw
        go_wp2_with fail
        go_quiet (fail)
        go_wp2_with fail
        refine (HAdd.out _ ((kn_alloc _ _).drewN _)).mono ?_
        rintro e w6 ⟨rfl, hw6⟩
        have HW6 := Lib.hid hw6
        clear hw6
        go_wp2_with fail
        go_ret2
        exact ⟨rfl, by rw [HW6.out]; exact HEnd.out _ ((kn_alloc _ _).drewN _)⟩
      · have hg2 : s.given = false := by simpa using hg
        rw [hg2] at e2
        clear hb hg hg2 e1
        go_enter Try.func64, Try.ntmps64
        go_wp2_with fail
        refine (HC.out _ (by exact kn_alloc _ _)).mono ?_
        rintro e w5 ⟨rfl, hw⟩
        subst hw
        go_wp2_with fail
        go_quiet (fail)
        go_wp2_with fail
        refine (HAdd.out _ ((kn_alloc _ _).drewN _)).mono ?_
        rintro e w6 ⟨rfl, hw6⟩
        have HW6 := Lib.hid hw6
        clear hw6
        go_wp2_with fail
        go_ret2
        exact ⟨rfl, by rw [HW6.out]; exact HEnd.out _ ((kn_alloc _ _).drewN _)⟩
    · have hd2 : decide (l.length ≤ j) = true := by simp; omega
      clear hb HSl
      go_enter Try.func64, Try.ntmps64
      go_wp2_with fail
      refine (HC.out _ (by exact kn_alloc _ _)).mono ?_
      rintro e w5 ⟨rfl, hw⟩
      subst hw
      go_wp2_with fail
      go_quiet (fail)
      go_wp2_with fail
      refine (HAdd.out _ ((kn_alloc _ _).drewN _)).mono ?_
      rintro e w6 ⟨rfl, hw6⟩
      have HW6 := Lib.hid hw6
      clear hw6
      go_wp2_with fail
      go_ret2
      exact ⟨rfl, by rw [HW6.out]; exact HEnd.out _ ((kn_alloc _ _).drewN _)⟩
end
end Go.Proofs.Ytinejaganickpaa

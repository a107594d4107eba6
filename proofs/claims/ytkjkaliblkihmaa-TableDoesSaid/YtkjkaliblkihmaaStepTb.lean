/- TableDoes: step. Printed by wip/gen10s.py. -/
import Derived.Test.YtkjkaliblkihmaaCloneTb
namespace Go.Proofs.Ytkjkaliblkihmaa
set_option linter.unusedVariables false
set_option linter.unusedSimpArgs false
open Go Go.RowKit

theorem cells6 {w : World} {b : Nat} {T : TypeId} {v0 v1 v2 v3 v4 v5 : Value} (h : w.heap[b]? = some (.cells #[v0, v1, v2, v3, v4, v5] T (0, 0))) : w.cell? ⟨b, 0, none⟩ = some v0 ∧ w.cell? ⟨b, 1, none⟩ = some v1 ∧ w.cell? ⟨b, 2, none⟩ = some v2 ∧ w.cell? ⟨b, 3, none⟩ = some v3 ∧ w.cell? ⟨b, 4, none⟩ = some v4 ∧ w.cell? ⟨b, 5, none⟩ = some v5 :=
  ⟨cell_blk h rfl, cell_blk h rfl, cell_blk h rfl, cell_blk h rfl, cell_blk h rfl, cell_blk h rfl⟩
def StepPost (u : Nat) (w0 : World) : Ending → World → Prop := fun e w' => ∃ (t : Nat) (A R : List AP) (x : Int), e = .returned (.tuple #[.pointer (some ⟨t, 0, none⟩), .bool true]) ∧ Sm A R ∧ One w0 w' [Tab t A x, RfT u R x]
theorem One.most10 {w0 w : World} {l : List Asr} (h : One w0 w l) (i : Nat) {t : Nat} {A : List AP} {x : Int} (hi : l[i]? = some (Tab t A x)) : A.length ≤ 65536 := let ⟨F, h1, _⟩ := h.get i hi; tab_most h1
set_option maxRecDepth 100000 in
set_option maxHeartbeats 4000000 in
theorem step_alloc {t u : Nat} {A R : List AP} {x : Int} {w0 w : World} {pg w1 w2 i1 i2 : Int} (H : One w0 w [Tab t A x, RfT u R x]) (hs : Sm A R) :
    Calls Try.prog 18 #[.pointer (some ⟨t, 0, none⟩), .pointer (some ⟨u, 0, none⟩), .agg #[.int .i64 0, .int .i64 pg, .int .i64 w1, .int .i64 w2, .int .i64 i1, .int .i64 i2]] w (StepPost u w0) := by
  have hmA := H.most10 0 rfl
  have hmR : R.length ≤ 65536 := by rw [← hs.len]; exact hmA
  have HO := Lib.hid (H.alloc (.cells #[.int .i64 0, .int .i64 pg, .int .i64 w1, .int .i64 w2, .int .i64 i1, .int .i64 i2] 40))
  have HS := Lib.hid hs
  clear H hs
  go_enter Try.func18, Try.ntmps18
  go_upto_region 1 with fail
  generalize w.alloc (.cells #[.int .i64 0, .int .i64 pg, .int .i64 w1, .int .i64 w2, .int .i64 i1, .int .i64 i2] 40) = W at *
  generalize w.heap.size = go at *
  obtain ⟨o0, o1, o2, o3, o4, o5⟩ := cells6 (HO.out.blk 0 rfl).1
  obtain ⟨e1, e2⟩ := HS.out.alloc (i1, i2)
  have HE := Lib.hid e1
  have HS2 := Lib.hid e2
  clear e1 e2
  go_wp2_with fail
  refine (HO.out.lift 1 rfl (fun F h => tab_alloc (i1, i2) h)).mono ?_
  rintro e w5 ⟨rfl, ho⟩
  have HO1 := Lib.hid ho
  simp only [List.set_cons_succ, List.set_cons_zero] at HO1
  clear ho o0 o1 o2 o3 o4 o5
  obtain ⟨o0, o1, o2, o3, o4, o5⟩ := cells6 (HO1.out.blk 0 rfl).1
  go_wp2_with fail
  refine (HO1.out.lift 2 rfl (fun F h => alloc_r (i1, i2) h hmR)).mono ?_
  rw [← HE.out]
  rintro e w6 ⟨rfl, ho⟩
  have HO2 := Lib.hid ho
  simp only [List.set_cons_succ, List.set_cons_zero] at HO2
  clear ho o0 o1 o2 o3 o4 o5 HE
  generalize (allocOf A (i1, i2)).1 = v at *
  obtain ⟨v1, v2⟩ := v
  go_wp2_with fail
  go_ret2
  exact ⟨t, _, _, x, rfl, HS2.out, HO2.out.drop⟩
set_option maxRecDepth 100000 in
set_option maxHeartbeats 4000000 in
theorem step_swap {t u : Nat} {A R : List AP} {x : Int} {w0 w : World} {pg w1 w2 i1 i2 : Int} (H : One w0 w [Tab t A x, RfT u R x]) (hs : Sm A R) :
    Calls Try.prog 18 #[.pointer (some ⟨t, 0, none⟩), .pointer (some ⟨u, 0, none⟩), .agg #[.int .i64 2, .int .i64 pg, .int .i64 w1, .int .i64 w2, .int .i64 i1, .int .i64 i2]] w (StepPost u w0) := by
  have hmA := H.most10 0 rfl
  have hmR : R.length ≤ 65536 := by rw [← hs.len]; exact hmA
  have HO := Lib.hid (H.alloc (.cells #[.int .i64 2, .int .i64 pg, .int .i64 w1, .int .i64 w2, .int .i64 i1, .int .i64 i2] 40))
  have HS := Lib.hid hs
  clear H hs
  go_enter Try.func18, Try.ntmps18
  go_upto_region 1 with fail
  generalize w.alloc (.cells #[.int .i64 2, .int .i64 pg, .int .i64 w1, .int .i64 w2, .int .i64 i1, .int .i64 i2] 40) = W at *
  generalize w.heap.size = go at *
  obtain ⟨o0, o1, o2, o3, o4, o5⟩ := cells6 (HO.out.blk 0 rfl).1
  obtain ⟨e1, e2, e3⟩ := HS.out.swap x pg (w1, w2) (i1, i2)
  have HE := Lib.hid (And.intro e1 e3)
  have HS2 := Lib.hid e2
  clear e1 e2 e3
  go_wp2_with fail
  refine (HO.out.lift 1 rfl (fun F h => tab_swap pg (w1, w2) (i1, i2) h)).mono ?_
  rintro e w5 ⟨rfl, ho⟩
  have HO1 := Lib.hid ho
  simp only [List.set_cons_succ, List.set_cons_zero] at HO1
  clear ho o0 o1 o2 o3 o4 o5
  obtain ⟨o0, o1, o2, o3, o4, o5⟩ := cells6 (HO1.out.blk 0 rfl).1
  go_wp2_with fail
  refine (HO1.out.lift 2 rfl (fun F h => swap_r pg (w1, w2) (i1, i2) h hmR)).mono ?_
  rw [← HE.out.1, ← HE.out.2]
  rintro e w6 ⟨rfl, ho⟩
  have HO2 := Lib.hid ho
  simp only [List.set_cons_succ, List.set_cons_zero] at HO2
  clear ho o0 o1 o2 o3 o4 o5 HE
  generalize (swapOf A x pg (w1, w2) (i1, i2)).1 = v at *
  obtain ⟨v1, v2⟩ := v
  cases v1 <;>
  · go_wp2_with fail
    go_ret2
    exact ⟨t, _, _, _, rfl, HS2.out, HO2.out.drop⟩
set_option maxRecDepth 100000 in
set_option maxHeartbeats 4000000 in
theorem step_retire {t u : Nat} {A R : List AP} {x : Int} {w0 w : World} {pg w1 w2 i1 i2 : Int} (H : One w0 w [Tab t A x, RfT u R x]) (hs : Sm A R) :
    Calls Try.prog 18 #[.pointer (some ⟨t, 0, none⟩), .pointer (some ⟨u, 0, none⟩), .agg #[.int .i64 3, .int .i64 pg, .int .i64 w1, .int .i64 w2, .int .i64 i1, .int .i64 i2]] w (StepPost u w0) := by
  have hmA := H.most10 0 rfl
  have hmR : R.length ≤ 65536 := by rw [← hs.len]; exact hmA
  have HO := Lib.hid (H.alloc (.cells #[.int .i64 3, .int .i64 pg, .int .i64 w1, .int .i64 w2, .int .i64 i1, .int .i64 i2] 40))
  have HS := Lib.hid hs
  clear H hs
  go_enter Try.func18, Try.ntmps18
  go_upto_region 1 with fail
  generalize w.alloc (.cells #[.int .i64 3, .int .i64 pg, .int .i64 w1, .int .i64 w2, .int .i64 i1, .int .i64 i2] 40) = W at *
  generalize w.heap.size = go at *
  obtain ⟨o0, o1, o2, o3, o4, o5⟩ := cells6 (HO.out.blk 0 rfl).1
  obtain ⟨e1, e2⟩ := HS.out.retire pg
  have HE := Lib.hid e1
  have HS2 := Lib.hid e2
  clear e1 e2
  have GA : Hid (∀ Wc X, One w0 Wc [Blk go (.cells #[.int .i64 3, .int .i64 pg, .int .i64 w1, .int .i64 w2, .int .i64 i1, .int .i64 i2] 40), Tab t A x, X] → Calls Try.prog 12 #[.pointer (some ⟨t, 0, none⟩), .int .i64 pg] Wc fun e w' => e = .returned (.int .i64 (retireOf A pg).1) ∧ One w0 w' [Blk go (.cells #[.int .i64 3, .int .i64 pg, .int .i64 w1, .int .i64 w2, .int .i64 i1, .int .i64 i2] 40), Tab t (retireOf A pg).2 x, X]) := Lib.hid (fun Wc X h => h.lift 1 rfl (fun F h => tab_retire pg h))
  have GR : Hid (∀ Wc X, One w0 Wc [Blk go (.cells #[.int .i64 3, .int .i64 pg, .int .i64 w1, .int .i64 w2, .int .i64 i1, .int .i64 i2] 40), X, RfT u R x] → Calls Try.prog 35 #[.pointer (some ⟨u, 0, none⟩), .int .i64 pg] Wc fun e w' => e = .returned (.int .i64 (retireOf A pg).1) ∧ One w0 w' [Blk go (.cells #[.int .i64 3, .int .i64 pg, .int .i64 w1, .int .i64 w2, .int .i64 i1, .int .i64 i2] 40), X, RfT u (rretOf R pg).2 x]) := Lib.hid (fun Wc X h => by
    rw [HE.out]
    exact h.lift 2 rfl (fun F h => retire_r pg h hmR))
  have HOn := HO
  clear HO HE
  generalize (retireOf A pg).1 = v at *
  go_wp2_with fail
  go_region_held3 (fun w' => w'.cell? ⟨go, 1, none⟩ = some (.int .i64 pg)) (first | go_keep | (exact z1)) (first
    | (go_at_call 12; refine (GA.out _ _ (HOn.out.kn (by repeat (first | exact Kp.refl _ _ | apply Kp.drew | apply Kp.alloc)))).mono ?_; rintro e w5 ⟨rfl, ho⟩; have HOn := Lib.hid ho; clear ho; obtain ⟨_, z1, _, _, _, _⟩ := cells6 (HOn.out.blk 0 rfl).1)
    | (go_at_call 35; refine (GR.out _ _ (HOn.out.kn (by repeat (first | exact Kp.refl _ _ | apply Kp.drew | apply Kp.alloc)))).mono ?_; rintro e w5 ⟨rfl, ho⟩; have HOn := Lib.hid ho; clear ho; obtain ⟨_, z1, _, _, _, _⟩ := cells6 (HOn.out.blk 0 rfl).1))
  all_goals
    go_wp2_with fail
    go_ret2
    exact ⟨t, _, _, x, rfl, HS2.out, (HOn.out.kn (by repeat (first | exact Kp.refl _ _ | apply Kp.drew | apply Kp.alloc))).drop⟩
set_option maxRecDepth 100000 in
set_option maxHeartbeats 4000000 in
theorem step_release {t u : Nat} {A R : List AP} {x : Int} {w0 w : World} {pg w1 w2 i1 i2 : Int} (H : One w0 w [Tab t A x, RfT u R x]) (hs : Sm A R) :
    Calls Try.prog 18 #[.pointer (some ⟨t, 0, none⟩), .pointer (some ⟨u, 0, none⟩), .agg #[.int .i64 4, .int .i64 pg, .int .i64 w1, .int .i64 w2, .int .i64 i1, .int .i64 i2]] w (StepPost u w0) := by
  have hmA := H.most10 0 rfl
  have hmR : R.length ≤ 65536 := by rw [← hs.len]; exact hmA
  have HO := Lib.hid (H.alloc (.cells #[.int .i64 4, .int .i64 pg, .int .i64 w1, .int .i64 w2, .int .i64 i1, .int .i64 i2] 40))
  have HS := Lib.hid hs
  clear H hs
  go_enter Try.func18, Try.ntmps18
  go_upto_region 1 with fail
  generalize w.alloc (.cells #[.int .i64 4, .int .i64 pg, .int .i64 w1, .int .i64 w2, .int .i64 i1, .int .i64 i2] 40) = W at *
  generalize w.heap.size = go at *
  obtain ⟨o0, o1, o2, o3, o4, o5⟩ := cells6 (HO.out.blk 0 rfl).1
  obtain ⟨e1, e2⟩ := HS.out.release pg
  have HE := Lib.hid e1
  have HS2 := Lib.hid e2
  clear e1 e2
  have GA : Hid (∀ Wc X, One w0 Wc [Blk go (.cells #[.int .i64 4, .int .i64 pg, .int .i64 w1, .int .i64 w2, .int .i64 i1, .int .i64 i2] 40), Tab t A x, X] → Calls Try.prog 13 #[.pointer (some ⟨t, 0, none⟩), .int .i64 pg] Wc fun e w' => e = .returned (.int .i64 (releaseOf A pg).1) ∧ One w0 w' [Blk go (.cells #[.int .i64 4, .int .i64 pg, .int .i64 w1, .int .i64 w2, .int .i64 i1, .int .i64 i2] 40), Tab t (releaseOf A pg).2 x, X]) := Lib.hid (fun Wc X h => h.lift 1 rfl (fun F h => tab_release pg h))
  have GR : Hid (∀ Wc X, One w0 Wc [Blk go (.cells #[.int .i64 4, .int .i64 pg, .int .i64 w1, .int .i64 w2, .int .i64 i1, .int .i64 i2] 40), X, RfT u R x] → Calls Try.prog 36 #[.pointer (some ⟨u, 0, none⟩), .int .i64 pg] Wc fun e w' => e = .returned (.int .i64 (releaseOf A pg).1) ∧ One w0 w' [Blk go (.cells #[.int .i64 4, .int .i64 pg, .int .i64 w1, .int .i64 w2, .int .i64 i1, .int .i64 i2] 40), X, RfT u (rrelOf R pg).2 x]) := Lib.hid (fun Wc X h => by
    rw [HE.out]
    exact h.lift 2 rfl (fun F h => release_r pg h hmR))
  have HOn := HO
  clear HO HE
  generalize (releaseOf A pg).1 = v at *
  go_wp2_with fail
  go_region_held3 (fun w' => w'.cell? ⟨go, 1, none⟩ = some (.int .i64 pg)) (first | go_keep | (exact z1)) (first
    | (go_at_call 13; refine (GA.out _ _ (HOn.out.kn (by repeat (first | exact Kp.refl _ _ | apply Kp.drew | apply Kp.alloc)))).mono ?_; rintro e w5 ⟨rfl, ho⟩; have HOn := Lib.hid ho; clear ho; obtain ⟨_, z1, _, _, _, _⟩ := cells6 (HOn.out.blk 0 rfl).1)
    | (go_at_call 36; refine (GR.out _ _ (HOn.out.kn (by repeat (first | exact Kp.refl _ _ | apply Kp.drew | apply Kp.alloc)))).mono ?_; rintro e w5 ⟨rfl, ho⟩; have HOn := Lib.hid ho; clear ho; obtain ⟨_, z1, _, _, _, _⟩ := cells6 (HOn.out.blk 0 rfl).1))
  all_goals
    go_wp2_with fail
    go_ret2
    exact ⟨t, _, _, x, rfl, HS2.out, (HOn.out.kn (by repeat (first | exact Kp.refl _ _ | apply Kp.drew | apply Kp.alloc))).drop⟩
set_option maxRecDepth 100000 in
set_option maxHeartbeats 4000000 in
theorem step_load {t u : Nat} {A R : List AP} {x : Int} {w0 w : World} {d pg w1 w2 i1 i2 : Int} (H : One w0 w [Tab t A x, RfT u R x]) (hs : Sm A R) (hd0 : d ≠ 0) (hd2 : d ≠ 2) (hd3 : d ≠ 3) (hd4 : d ≠ 4) (hd5 : d ≠ 5) :
    Calls Try.prog 18 #[.pointer (some ⟨t, 0, none⟩), .pointer (some ⟨u, 0, none⟩), .agg #[.int .i64 d, .int .i64 pg, .int .i64 w1, .int .i64 w2, .int .i64 i1, .int .i64 i2]] w (StepPost u w0) := by
  have hmA := H.most10 0 rfl
  have hmR : R.length ≤ 65536 := by rw [← hs.len]; exact hmA
  have HO := Lib.hid (H.alloc (.cells #[.int .i64 d, .int .i64 pg, .int .i64 w1, .int .i64 w2, .int .i64 i1, .int .i64 i2] 40))
  have HS := Lib.hid hs
  clear H hs
  go_enter Try.func18, Try.ntmps18
  go_upto_region 1 with fail
  generalize w.alloc (.cells #[.int .i64 d, .int .i64 pg, .int .i64 w1, .int .i64 w2, .int .i64 i1, .int .i64 i2] 40) = W at *
  generalize w.heap.size = go at *
  obtain ⟨o0, o1, o2, o3, o4, o5⟩ := cells6 (HO.out.blk 0 rfl).1
  have HE := Lib.hid (HS.out.load pg)
  go_wp2_with fail
  refine (HO.out.rd 1 rfl (fun F h => tab_load pg h)).mono ?_
  rintro e w5 ⟨rfl, hk5⟩
  have HO1 := Lib.hid ((HO.out.kn hk5).alloc (.cells #[.int .i64 (loadOf A pg).1.1, .int .i64 (loadOf A pg).1.2] 23))
  clear hk5 o0 o1 o2 o3 o4 o5 HO
  go_upto_region 21 with fail
  generalize w5.alloc (.cells #[.int .i64 (loadOf A pg).1.1, .int .i64 (loadOf A pg).1.2] 23) = W6 at *
  generalize w5.heap.size = g6 at *
  obtain ⟨o0, o1, o2, o3, o4, o5⟩ := cells6 (HO1.out.blk 1 rfl).1
  go_wp2_with fail
  refine (HO1.out.rd 3 rfl (fun F h => load_r pg h hmR)).mono ?_
  rw [← HE.out]
  rintro e w7 ⟨rfl, hk7⟩
  have HO2 := Lib.hid ((HO1.out.kn hk7).alloc (.cells #[.int .i64 (loadOf A pg).1.1, .int .i64 (loadOf A pg).1.2] 23))
  clear hk7 o0 o1 o2 o3 o4 o5 HO1
  go_upto_region 22 with fail
  generalize w7.alloc (.cells #[.int .i64 (loadOf A pg).1.1, .int .i64 (loadOf A pg).1.2] 23) = W8 at *
  generalize w7.heap.size = g8 at *
  obtain ⟨x0, x1, _, _⟩ := cells2 (HO2.out.blk 0 rfl).1
  obtain ⟨y0, y1, _, _⟩ := cells2 (HO2.out.blk 1 rfl).1
  clear HE
  generalize loadOf A pg = v at *
  obtain ⟨⟨v1, v2⟩, v3⟩ := v
  simp only at x0 x1 y0 y1
  go_wp2_with fail
  go_ret2
  exact ⟨t, A, R, x, rfl, HS.out, HO2.out.drop.drop.drop⟩
set_option maxRecDepth 100000 in
set_option maxHeartbeats 4000000 in
theorem step_clone {t u : Nat} {A R : List AP} {x : Int} {w0 w : World} {pg w1 w2 i1 i2 : Int} (H : One w0 w [Tab t A x, RfT u R x]) (hs : Sm A R) :
    Calls Try.prog 18 #[.pointer (some ⟨t, 0, none⟩), .pointer (some ⟨u, 0, none⟩), .agg #[.int .i64 5, .int .i64 pg, .int .i64 w1, .int .i64 w2, .int .i64 i1, .int .i64 i2]] w (StepPost u w0) := by
  have hmA := H.most10 0 rfl
  have hmR : R.length ≤ 65536 := by rw [← hs.len]; exact hmA
  have HO := Lib.hid (H.alloc (.cells #[.int .i64 5, .int .i64 pg, .int .i64 w1, .int .i64 w2, .int .i64 i1, .int .i64 i2] 40))
  have HS := Lib.hid hs
  clear H hs
  go_enter Try.func18, Try.ntmps18
  go_upto_region 1 with fail
  generalize w.alloc (.cells #[.int .i64 5, .int .i64 pg, .int .i64 w1, .int .i64 w2, .int .i64 i1, .int .i64 i2] 40) = W at *
  generalize w.heap.size = go at *
  obtain ⟨o0, o1, o2, o3, o4, o5⟩ := cells6 (HO.out.blk 0 rfl).1
  have HCl := Lib.hid (HO.out.rd 1 rfl (fun F h => callsIn_wide.1 (clone_in h)))
  go_wp2_with fail
  refine HCl.out.mono ?_
  rintro e wc ⟨t2, rfl, hp2⟩
  have HO1 := Lib.hid (HO.out.add hp2)
  clear hp2 HO HCl o0 o1 o2 o3 o4 o5
  obtain ⟨o0, o1, o2, o3, o4, o5⟩ := cells6 (HO1.out.blk 1 rfl).1
  go_wp2_with fail
  refine (HO1.out.lift 2 rfl (fun F h => tab_alloc (i1, i2) h)).mono ?_
  rintro e w5 ⟨rfl, ho⟩
  have HO2 := Lib.hid ho
  simp only [List.set_cons_succ, List.set_cons_zero] at HO2
  clear ho o0 o1 o2 o3 o4 o5 HO1
  generalize (allocOf A (i1, i2)).1 = v at *
  generalize (allocOf A (i1, i2)).2 = A2 at *
  obtain ⟨o0, o1, o2, o3, o4, o5⟩ := cells6 (HO2.out.blk 1 rfl).1
  go_wp2_with fail
  refine (HO2.out.lift 2 rfl (fun F h => tab_swap pg (w1, w2) (i1, i2) h)).mono ?_
  rintro e w6 ⟨rfl, ho⟩
  have HO3 := Lib.hid ho
  simp only [List.set_cons_succ, List.set_cons_zero] at HO3
  clear ho o0 o1 o2 o3 o4 o5 HO2
  generalize (swapOf A2 x pg (w1, w2) (i1, i2)).1 = v5 at *
  generalize (swapOf A2 x pg (w1, w2) (i1, i2)).2.1 = A3 at *
  generalize (swapOf A2 x pg (w1, w2) (i1, i2)).2.2 = x3 at *
  obtain ⟨o0, o1, o2, o3, o4, o5⟩ := cells6 (HO3.out.blk 1 rfl).1
  go_wp2_with fail
  refine (HO3.out.lift 2 rfl (fun F h => tab_retire pg h)).mono ?_
  rintro e w7 ⟨rfl, ho⟩
  have HO4 := Lib.hid ho
  simp only [List.set_cons_succ, List.set_cons_zero] at HO4
  clear ho o0 o1 o2 o3 o4 o5 HO3
  generalize (retireOf A3 pg).1 = v6 at *
  generalize (retireOf A3 pg).2 = A4 at *
  go_wp2_with fail
  go_ret2
  exact ⟨t2, A, R, x, rfl, HS.out, HO4.out.sel [0, 2] rfl⟩
theorem step_all {t u : Nat} {A R : List AP} {x : Int} {w0 w : World} {d pg w1 w2 i1 i2 : Int} (H : One w0 w [Tab t A x, RfT u R x]) (hs : Sm A R) :
    Calls Try.prog 18 #[.pointer (some ⟨t, 0, none⟩), .pointer (some ⟨u, 0, none⟩), .agg #[.int .i64 d, .int .i64 pg, .int .i64 w1, .int .i64 w2, .int .i64 i1, .int .i64 i2]] w (StepPost u w0) := by
  by_cases h0 : d = 0
  · subst h0; exact step_alloc H hs
  by_cases h2 : d = 2
  · subst h2; exact step_swap H hs
  by_cases h3 : d = 3
  · subst h3; exact step_retire H hs
  by_cases h4 : d = 4
  · subst h4; exact step_release H hs
  by_cases h5 : d = 5
  · subst h5; exact step_clone H hs
  exact step_load H hs h0 h2 h3 h4 h5
end Go.Proofs.Ytkjkaliblkihmaa

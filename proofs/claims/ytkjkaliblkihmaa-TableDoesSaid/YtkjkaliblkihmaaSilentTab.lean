/- silent of a table that no call made. -/
import Derived.Test.YtkjkaliblkihmaaNoneTab
import Derived.Test.YtkjkaliblkihmaaTabAll
namespace Go.Proofs.Ytkjkaliblkihmaa
set_option linter.unusedVariables false
set_option linter.unusedSimpArgs false
open Go Go.RowKit Go.Shelf
attribute [local go_sem] Oper.semAt_some

theorem Below.kn' {w w' : World} (h : Below w.heap.size w w') : KN w w' := ⟨h.os, h.tape, h.output, h.size, fun k hk _ => h.block k hk⟩
theorem setCell_other {w : World} {p : Addr} {v : Value} {b : Nat} (h : b ≠ p.block) : (w.setCell p v).heap[b]? = w.heap[b]? := Below.heap_setCell w p v b h
theorem putObj_other {w : World} {D b : Nat} {o : Obj} (h : b ≠ D) : (w.putObj D o).heap[b]? = w.heap[b]? := by
  simp only [World.putObj]
  exact Array.getElem?_setIfInBounds_ne (Ne.symm h)
theorem below_putO {B D : Nat} {a w : World} {o : Obj} (h : Below B a w) (hD : B ≤ D) : Below B a (w.putObj D o) :=
  h.trans ⟨rfl, rfl, rfl, by simp [World.putObj], fun k hk => putObj_other (by omega)⟩
set_option maxRecDepth 100000 in
set_option maxHeartbeats 2000000 in
theorem silent_in (w : World) (p : Option Addr) (h : NoT w p) : CallsIn Fence.wide 3 Try.prog 24 #[.pointer p] w fun e W' => e = .returned (.bool true) ∧ Below w.heap.size w W' := by
  have HO := Lib.hid ((One.nil w).alloc (.cells #[.bool false] 4))
  have HN := Lib.hid (h.kn HO.out.old)
  clear h
  refine callsIn_of_wp_marks Try.func24 rfl trivial ?_ rfl
  simp only [Try.ntmps24, List.size_toArray, List.length_cons, List.length_nil, Nat.reduceAdd, Nat.reduceSub, Array.replicate_succ, Array.replicate_zero, List.push_toArray, List.append_toArray, List.nil_append, List.cons_append]
  gi_wp2_with fail
  refine ⟨trivial, ?_⟩
  refine ((callsIn_wide (n := 2)).2 (all_no HN.out)).mono ?_
  rintro e w1 ⟨b1, b2, rfl, hb1, hb2, hg1, hg2, hc1, hc2, k1⟩
  have HO1 := Lib.hid (HO.out.kn k1)
  have HA : (AllA b1 b2 []).on w1 (fun b => b = b1 ∨ b = b2) := ⟨⟨⟨none, 0, none, 0, ⟨(cells1 hc1).1, (cells1 hc2).1⟩, RdN.nil _ _ _ _ _, RdN.nil _ _ _ _ _⟩, .inl rfl, .inr rfl⟩, fun k hk => by rcases hk with rfl | rfl <;> assumption⟩
  have HSEQ := Lib.hid (all_stops Fence.wide 2 trivial rfl (by omega) b1 b2 (fun b => b = b1 ∨ b = b2) [] (by simp) w1 HA)
  have hw1 : w.heap.size < w1.heap.size := lt_blk (HO1.out.blk 0 rfl).1
  have HF0 := Lib.hid HO1.out.loopF
  have hBel := HO1.out.old.below
  clear HO HN HO1 HA hg1 hg2 hc1 hc2 k1
  gi_wp2_with fail
  refine wpIn_rangeFunc_ownH rfl (show 1 ≤ 3 by omega) (gf := 48) (lb := #[.pointer (some ⟨b1, 0, none⟩), .pointer (some ⟨b2, 0, none⟩)]) rfl trivial (enters_of Try.func48 (by kernel_rfl) rfl)
    HSEQ.out KpG.trans (KpG.put (G := fun b => b = b1 ∨ b = b2) (fun i hi => by rcases hi with rfl | rfl <;> assumption)) (Below.refl _ _) (fun _ => rfl)
    (fun pre W => OneF w1.heap.size w W [Blk w.heap.size (.cells #[.bool false] 4)])
    (fun c pre W => False)
    (oneF_own (by omega) _)
    (fun c s W W' row hs hg hr => hs.elim)
    HF0.out
    (fun x a' W => True)
    (fun x a' _ X Y row hs hg hr => trivial)
    ?assign ?body ?done ?stop
  case assign =>
    intro l pre x W K hI hK
    gi_wp2
    exact hK _ _ (keepsFrom_kn (Kp.refl _ _)) (KpG.refl _ _) hI trivial
  case body =>
    rintro l pre x a' W hl ⟨r, hr⟩ hI _ hlt
    exact absurd hlt (by simp)
  case done =>
    rintro D ys W hD rfl hI hK
    obtain ⟨n0, f0⟩ := cells1 (hI.one.blk 0 rfl).1
    have HI := Lib.hid hI
    have HK := Lib.hid hK
    clear hI hK
    gi_wp2
    refine ⟨by simp, .inl ⟨_, _, rfl, run_takeDeferred ((setCell_other (by simp; omega)).trans HK.out), ?_⟩⟩
    obtain ⟨r1, _⟩ := cells1 ((putObj_other (w := W.setCell ⟨w.heap.size, 0, none⟩ (.bool true)) (D := D) (o := .deferred none) (by omega)).trans ((HI.out.one.set1 0 rfl (.bool true)).blk 0 rfl).1)
    refine ⟨.bool true, by simp [results, Try.results24, go_sem, r1], rfl, below_putO (HI.out.one.old.below.setCell (by simp) _) (by omega)⟩
  case stop =>
    rintro D c pre W hD hpre hI hK
    exact hI.elim
theorem silent_no {w : World} {p : Option Addr} (h : NoT w p) : Calls Try.prog 24 #[.pointer p] w (No (.bool true) w) :=
  (callsIn_wide.1 (silent_in w p h)).mono fun e W' ⟨he, hb⟩ => ⟨he, Below.kn' hb⟩
end Go.Proofs.Ytkjkaliblkihmaa

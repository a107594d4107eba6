/- Epochs: young. -/
import Derived.Test.YtghmgmchfcbodaaEpochW
import Derived.Test.YtghmgmchfcbodaaQuietT
namespace Go.Proofs.Ytghmgmchfcbodaa
set_option linter.unusedVariables false
set_option linter.unusedSimpArgs false
open Go Go.RowKit Go.Shelf Go.Sort
attribute [local go_sem] Oper.semAt_some

/-- Nothing waits from the epoch but one. -/
def Eps.Gap (σ : Eps) : Prop := σ.row ((σ.now + 1) % 3) = []
theorem limbo_young {σ : Eps} (hf : σ.Fit) (hg : σ.Gap) {x : PW} (hx : x ∈ σ.limbo) : x.1 = (σ.now : Int) ∨ x.1 = (σ.now : Int) - 1 := by
  unfold Eps.limbo Eps.upto at hx
  obtain ⟨m, hm, hx⟩ := List.mem_flatMap.1 hx
  obtain ⟨y, hy, rfl⟩ := List.mem_map.1 hx
  rw [List.mem_range'_1] at hm
  have hp := hf.pos
  by_cases e : m + 2 = σ.now
  · have h3 : m % 3 = (σ.now + 1) % 3 := by omega
    rw [h3, hg] at hy
    cases hy
  · show ((m : Nat) : Int) = _ ∨ ((m : Nat) : Int) = _
    omega
set_option maxRecDepth 100000 in
set_option maxHeartbeats 4000000 in
theorem young_in {p : Option Addr} {xs : List PW} {nw : Int} {w : World} (h : ∀ W, KN w W → Calls Try.prog 17 #[.pointer p] W (LimGave xs W)) (hnow : ∀ W, KN w W → Calls Try.prog 19 #[.pointer p] W fun e w' => e = .returned (.int .i64 nw) ∧ W = w') (hwt : ∀ W, KN w W → Calls Try.prog 14 #[.pointer p] W fun e w' => e = .returned (.int .i64 xs.length) ∧ KN W w')
    (hy : ∀ x ∈ xs, x.1 = nw ∨ x.1 = nw - 1) (h0 : 0 ≤ nw) (ht : nw < 4611686018427387904) (hlen : xs.length ≤ 9000000) : CallsIn Fence.wide 3 Try.prog 15 #[.pointer p] w fun e W' => e = .returned (.bool true) ∧ Below w.heap.size w W' := by
  have HO := Lib.hid ((One.nil w).alloc3 (.cells #[.pointer p] 23) (.cells #[.bool false] 4) (.cells #[.int .i64 0] 3))
  have HN := Lib.hid (h _ HO.out.old)
  have HL := Lib.hid hlen
  have HW := Lib.hid hnow
  have HWT := Lib.hid hwt
  have HY := Lib.hid hy
  clear h hnow hwt hy hlen
  refine callsIn_of_wp_marks Try.func15 rfl trivial ?_ rfl
  simp only [Try.ntmps15, List.size_toArray, List.length_cons, List.length_nil, Nat.reduceAdd, Nat.reduceSub, Array.replicate_succ, Array.replicate_zero, List.push_toArray, List.append_toArray, List.nil_append, List.cons_append]
  gi_wp2_with fail
  refine ⟨trivial, ?_⟩
  refine ((callsIn_wide (n := 2)).2 HN.out).mono ?_
  rintro e w1 ⟨b1, b2, rfl, G, hA, k1, hG⟩
  have HO1 := Lib.hid (HO.out.kn k1)
  have HSEQ := Lib.hid (limbo_stops Fence.wide 2 trivial rfl (by omega) b1 b2 G xs HL.out w1 hA)
  have hw1 : w.heap.size + 1 + 1 < w1.heap.size := lt_blk (HO1.out.blk 0 rfl).1
  have hGl := hA.2
  have hGn : ∀ i, i < w.heap.size + 3 → ¬ G i := fun i hi hh => by
    rcases hG _ hh with h | h
    · exact h
    · simp at h; omega
  have HF0 := Lib.hid HO1.out.loopF
  have hBel := HO1.out.old.below
  clear HO HN HO1 hA hG k1
  gi_wp2_with fail
  refine wpIn_rangeFunc_ownH rfl (show 1 ≤ 3 by omega) (gf := 29) (lb := #[.pointer (some ⟨b1, 0, none⟩), .pointer (some ⟨b2, 0, none⟩)]) rfl trivial (enters_of Try.func29 (by kernel_rfl) rfl)
    HSEQ.out KpG.trans (KpG.put (G := G) hGl) (Below.refl _ _) (fun _ => rfl)
    (fun pre W => OneF w1.heap.size w W [Blk (w.heap.size + 1 + 1) (.cells #[.int .i64 (pre.length : Nat)] 3), Blk (w.heap.size + 1) (.cells #[.bool false] 4), Blk w.heap.size (.cells #[.pointer p] 23)])
    (fun c pre W => ¬ pre <+: xs)
    (oneF_own (by omega) _)
    (fun c s W W' row hs hg hr => hs)
    HF0.out
    (fun x a' W => a' = { tmps := #[.pointer p, .pointer (some ⟨w.heap.size, 0, none⟩), .pointer (some ⟨w.heap.size + 1, 0, none⟩), .pointer (some ⟨w.heap.size + 1 + 1, 0, none⟩), .int .i64 x.1, .pointer p, .func (.func 29) #[] #[.pointer (some ⟨b1, 0, none⟩), .pointer (some ⟨b2, 0, none⟩)], .int .i64 x.1, ren x.2, undef, undef, undef, undef, undef, undef, undef, undef, undef, undef, undef, undef, undef, undef, undef, undef, undef], defers := [] })
    (fun x a' _ X Y row hs hg hr => hs)
    ?assign ?body ?done ?stop
  case assign =>
    intro l pre x W K hI hK
    gi_wp2
    exact hK _ _ (keepsFrom_kn (Kp.refl _ _)) (KpG.refl _ _) hI rfl
  case body =>
    rintro l pre x a' W hl ⟨r, hr⟩ hI rfl hlt
    obtain ⟨n0, f0⟩ := cells1 (hI.one.blk 0 rfl).1
    obtain ⟨n1, f1⟩ := cells1 (hI.one.blk 1 rfl).1
    obtain ⟨n2, f2⟩ := cells1 (hI.one.blk 2 rfl).1
    have HI := Lib.hid hI
    have hz : (pre.length : Int) < 9000000 := by have := HL.out; omega
    have hW2 := HW.out W hI.one.old
    clear hI
    have hle : (((pre ++ [x]).length : Nat) : Int) = pre.length + 1 := by simp
    have hcs : x.1 = nw ∨ x.1 = nw - 1 ∨ ((x.1 ≠ nw ∧ x.1 ≠ nw - 1) ∧ Hid (¬ (pre ++ [x] <+: xs))) := by
      by_cases h1 : x.1 = nw
      · exact .inl h1
      · by_cases h2 : x.1 = nw - 1
        · exact .inr (.inl h2)
        · refine .inr (.inr ⟨⟨h1, h2⟩, Lib.hid ?_⟩)
          rintro ⟨t, ht⟩
          exact (HY.out x (by rw [← ht]; simp)).elim h1 h2
    have HLE := Lib.hid hle
    clear hle
    rcases hcs with hx1 | hx1 | ⟨⟨hx1, hx2⟩, HB⟩
    · have hle := HLE.out
      gi_wp2_with fail
      refine ⟨trivial, ?_⟩
      refine (CallsIn.inRound l ((callsIn_wide (n := 0)).2 hW2)).mono ?_
      rintro e w' ⟨rfl, rfl⟩
      gi_wp2_with fail
      refine ⟨trivial, ?_⟩
      gi_wp2_with fail
      refine ⟨keepsFrom_setC (keepsFrom_kn (Kp.refl _ _)) _ (by omega), kpg_setC (KpG.refl _ _) _ (hGn _ (by omega)), ?_⟩
      simp only [hle]
      exact HI.out.setC 0 rfl _
    · have hle := HLE.out
      have hne : (x.1 != nw) = true := by simp; omega
      have hwr : (IntKind.i64.wrap (nw - 1)) = x.1 := by rw [hx1]; exact Go.IntWalk.i64_in _ (by omega)
      clear hx1
      generalize x.1 = xt at *
      gi_wp2_with fail
      refine ⟨trivial, ?_⟩
      refine (CallsIn.inRound l ((callsIn_wide (n := 0)).2 hW2)).mono ?_
      rintro e w' ⟨rfl, rfl⟩
      gi_wp2_with fail
      refine ⟨trivial, ?_⟩
      refine (CallsIn.inRound l ((callsIn_wide (n := 0)).2 hW2)).mono ?_
      rintro e w' ⟨rfl, rfl⟩
      gi_wp2_with fail
      refine ⟨keepsFrom_setC (keepsFrom_kn (Kp.refl _ _)) _ (by omega), kpg_setC (KpG.refl _ _) _ (hGn _ (by omega)), ?_⟩
      simp only [hle]
      exact HI.out.setC 0 rfl _
    · have hne : (x.1 != nw) = true := by simp; omega
      obtain ⟨nm, hnm⟩ : ∃ nm : Int, nw - 1 = nm := ⟨_, rfl⟩
      have hne2 : (x.1 != nm) = true := by simp; omega
      have hwr : (IntKind.i64.wrap (nw - 1)) = nm := by rw [← hnm]; exact Go.IntWalk.i64_in _ (by omega)
      clear hx1 hx2 hnm
      generalize x.1 = xt at *
      gi_wp2_with fail
      refine ⟨trivial, ?_⟩
      refine (CallsIn.inRound l ((callsIn_wide (n := 0)).2 hW2)).mono ?_
      rintro e w' ⟨rfl, rfl⟩
      gi_wp2_with fail
      refine ⟨trivial, ?_⟩
      refine (CallsIn.inRound l ((callsIn_wide (n := 0)).2 hW2)).mono ?_
      rintro e w' ⟨rfl, rfl⟩
      gi_wp2_with fail
      exact ⟨keepsFrom_setC (keepsFrom_kn (Kp.refl _ _)) _ (by omega), HB.out⟩
  case done =>
    rintro D xs W hD rfl hI hK
    obtain ⟨n0, f0⟩ := cells1 (hI.one.blk 0 rfl).1
    obtain ⟨n1, f1⟩ := cells1 (hI.one.blk 1 rfl).1
    obtain ⟨n2, f2⟩ := cells1 (hI.one.blk 2 rfl).1
    have HI := Lib.hid hI
    have HK := Lib.hid hK
    have cW : ∀ d os, Calls Try.prog 14 #[.pointer p] (grow (redrawn W d) os) fun e w'' => e = .returned (.int .i64 xs.length) ∧ ∃ p : Regrown, w'' = grow (redrawn W p.d) p.os := fun d os => quiet_kn (HWT.out _ (HI.out.one.old.then (kn_regrown _ d os) (fun _ h => h.elim)))
    have q0 := cell_regrown n0
    have q1 := cell_regrown n1
    have q2 := cell_regrown n2
    have hW1 := World.block_lt_of_cell? W _ n1
    have F1 := Lib.hid f1
    have N1 := Lib.hid n1
    clear hI hK n0 n1 n2 f0 f1 f2
    gi_wp2_with fail
    refine wpIn_wide.2 ?_
    refine wp_region_below_tail 4 (by kernel_rfl) (by kernel_rfl) ?_
    simp only [List.take_succ_cons, List.take_zero, List.drop_succ_cons, List.drop_zero]
    repeat (go_big_quiet_step (first | (go_at_call 14; exact cW _ _)))
    refine wpQuiet_nil ?_
    intro _ hw'
    obtain ⟨⟨dq, osq⟩, hw''⟩ := hw'
    subst hw''
    have f1' := frozen_kn hW1 F1.out (kn_regrown _ dq osq)
    have n1' := cell_kn N1.out (kn_regrown _ dq osq)
    go_wp2_with fail
    gi_wp2
    refine ⟨by simp, .inl ⟨_, _, rfl, run_takeDeferred ((setCell_other (by simp; omega)).trans ((kn_regrown W dq osq).blk HK.out id)), ?_⟩⟩
    obtain ⟨r1, _⟩ := cells1 ((putObj_other (w := (grow (redrawn W dq) osq).setCell ⟨w.heap.size + 1, 0, none⟩ (.bool true)) (D := D) (o := .deferred none) (by omega)).trans (((HI.out.one.kn (kn_regrown _ dq osq)).set1 1 rfl (.bool true)).blk 1 rfl).1)
    refine ⟨.bool true, by simp [results, Try.results15, go_sem, r1], rfl, below_putO ((HI.out.one.kn (kn_regrown _ dq osq)).old.below.setCell (by simp) _) (by omega)⟩
  case stop =>
    rintro D c pre W hD hpre hI hK
    exact absurd hpre hI
theorem young_a {b : Nat} {σ : Eps} {w : World} {F : Nat → Prop} (h : (EpA b σ).on w F) (hf : σ.Fit) (hg : σ.Gap) (hlen : σ.limbo.length ≤ 9000000) : Calls Try.prog 15 #[.pointer (some ⟨b, 0, none⟩)] w fun e w' => e = .returned (.bool true) ∧ KN w w' :=
  (callsIn_wide.1 (young_in (nw := σ.now) (fun W k => limbo_a ((EpA b σ).kn h k) hf hlen) (fun W k => now_a ((EpA b σ).kn h k) hf) (fun W k => waiting_a ((EpA b σ).kn h k) hf hlen) (fun x hx => limbo_young hf hg hx) (by omega) (by have := hf.top; omega) hlen)).mono fun e W' ⟨he, hb⟩ => ⟨he, Below.kn' hb⟩
end Go.Proofs.Ytghmgmchfcbodaa

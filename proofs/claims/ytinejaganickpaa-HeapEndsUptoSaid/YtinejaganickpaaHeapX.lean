/- Heaps: Prune, where it cuts nothing off. -/
import Derived.Test.YtinejaganickpaaHeapU
namespace Go.Proofs.Ytinejaganickpaa
set_option linter.unusedVariables false
set_option linter.unusedSimpArgs false
open Go Go.RowKit Go.Sort

theorem run_eql_hd (s g s' g' : Int) (w : World) : (binOp .eql 36 (.agg #[.int .i64 s, .int .i64 g]) (.agg #[.int .i64 s', .int .i64 g'])).run Try.prog w = .ok (.bool (s == s' && g == g')) w := by
  cases h2 : s == s' with
  | false => go_simp
  | true =>
  cases h3 : g == g' with
  | false => go_simp
  | true => go_simp
theorem hd_ne {x : Hd} (h : x ≠ zH) : (x.slot == 0 && x.gen == 0) = false := by
  cases hq : (x.slot == 0 && x.gen == 0) with
  | false => rfl
  | true =>
    exfalso
    apply h
    obtain ⟨p1, p2⟩ := x
    simp at hq
    rw [hq.1, hq.2]
section
variable {b c d e : Nat} {σ : Hps} {w w' : World} {F : Nat → Prop}
set_option maxRecDepth 100000 in
set_option maxHeartbeats 2000000 in
theorem prune_bad_h {s g mark : Int} (h : Pw F w w' (HpL b c d e σ)) (hb : goodAt σ.L s g = none) (hst : 0 ≤ σ.sl ∧ σ.sl ≤ 4611686018427387904) :
    Calls Try.prog 14 #[.pointer (some ⟨b, 0, none⟩), .agg #[.int .i64 s, .int .i64 g], .int .i64 mark] w' fun e' w'' => e' = .returned (.tuple #[.int .i64 0, .bool false, .int .i64 7]) ∧ Pw F w w'' (HpL b c d e ⟨σ.L, σ.sl + 1, σ.V, σ.sv, σ.rs⟩) := by
  have hq := h.alloc (.cells #[.int .i64 s, .int .i64 g] 36)
  have HG := Lib.hid (Pw.call (pre := [_]) hq (fun F1 h1 => get_bad_h h1 hb hst))
  obtain ⟨x0, x1, _, _⟩ := cells2 (hq.blk 0 rfl)
  clear h hb hst hq
  go_enter Try.func14, Try.ntmps14
  go_wp2_with (go_at_call 42; refine HG.out.mono ?_; rintro e3 w3 ⟨rfl, hp3⟩)
  go_ret3
  exact ⟨rfl, (Pw.drop hp3).kn (kn_alloc _ _)⟩
set_option maxRecDepth 100000 in
set_option maxHeartbeats 2000000 in
theorem prune_idle_h {i : Nat} {s : Slot Cl} (mark : Int) (h : Pw F w w' (HpL b c d e σ)) (hs : σ.L[i]? = some s) (hg : s.given = true) (hc : s.has.closed = true ∨ s.has.newest = zH) :
    Calls Try.prog 14 #[.pointer (some ⟨b, 0, none⟩), .agg #[.int .i64 i, .int .i64 s.gen], .int .i64 mark] w' fun e' w'' => e' = .returned (.tuple #[.int .i64 0, .bool s.has.closed, .int .i64 0]) ∧ KN w' w'' := by
  have hk := kn_alloc w' (.cells #[.int .i64 i, .int .i64 s.gen] 36)
  have HG := Lib.hid (get_good_h (h.kn hk) hs hg)
  obtain ⟨x0, x1, _, _⟩ := cells2 (heap_alloc_same w' (.cells #[.int .i64 i, .int .i64 s.gen] 36))
  have HK := Lib.hid hk
  clear h hs hg hk
  obtain ⟨⟨key, nw, closed, retired⟩, gen, given⟩ := s
  simp only at HG x0 x1 hc ⊢
  cases closed with
  | true =>
    clear hc
    go_enter Try.func14, Try.ntmps14
    go_wp2_with (go_at_call 42; refine HG.out.mono ?_; rintro e3 w3 ⟨rfl, k3⟩)
    go_quiet (fail)
    go_wp2_with fail
    go_ret3
    exact ⟨rfl, ((HK.out.trans k3 (fun _ h => h.elim)).alloc _).drewN _⟩
  | false =>
    obtain rfl : nw = zH := by
      rcases hc with h | h
      · cases h
      · exact h
    clear hc
    have hq := run_eql_hd 0 0 0 0
    go_enter Try.func14, Try.ntmps14
    go_wp2_with (go_at_call 42; refine HG.out.mono ?_; rintro e3 w3 ⟨rfl, k3⟩)
    go_quiet (fail)
    go_wp2_with fail
    go_ret3
    exact ⟨rfl, ((HK.out.trans k3 (fun _ h => h.elim)).alloc _).drewN _⟩
set_option maxRecDepth 100000 in
set_option maxHeartbeats 2000000 in
theorem prune_none_h {i : Nat} {s : Slot Cl} {xs : List (Hd × No)} (mark : Int) (h : Pw F w w' (HpL b c d e σ)) (hs : σ.L[i]? = some s) (hg : s.given = true) (hc : Ch σ.V s.has.newest xs) (hl : xs.length ≤ 1048576) (hcl : s.has.closed = false) (hnz : s.has.newest ≠ zH) (HP0 : (pruneS mark (xs.map (·.2.has))).1 ≠ [] ∧ (pruneS mark (xs.map (·.2.has))).2.1 = []) :
    Calls Try.prog 14 #[.pointer (some ⟨b, 0, none⟩), .agg #[.int .i64 i, .int .i64 s.gen], .int .i64 mark] w' fun e' w'' => e' = .returned (.tuple #[.int .i64 0, .bool false, .int .i64 0]) ∧ KN w' w'' := by
  have HLi := Lib.hid (fun (W : World) (k : KN w' W) => list_h (h.kn k) hc (by omega))
  have hq := h.alloc (.cells #[.int .i64 i, .int .i64 s.gen] 36)
  have hk := kn_alloc w' (.cells #[.int .i64 i, .int .i64 s.gen] 36)
  have HG := Lib.hid (get_good_h (h.kn hk) hs hg)
  obtain ⟨x0, x1, _, _⟩ := cells2 (heap_alloc_same w' (.cells #[.int .i64 i, .int .i64 s.gen] 36))
  have HK := Lib.hid hk
  have HQ := Lib.hid hq
  have HSG := Lib.hid (And.intro hs hg)
  have HCl := Lib.hid (And.intro hcl (And.intro hnz HP0))
  have HLen := Lib.hid (show (xs.map (·.2.has)).length ≤ 1048576 by rw [List.length_map]; exact hl)
  have hne := run_eql_hd s.has.newest.slot s.has.newest.gen 0 0
  rw [hd_ne hnz] at hne
  clear h hs hg hc hk hl hcl hnz HP0 hq
  generalize hE : xs.map (·.2.has) = ys at *
  have HE := Lib.hid hE
  clear hE
  go_enter Try.func14, Try.ntmps14
  go_upto_region 4 with (go_at_call 42; refine HG.out.mono ?_; rintro e3 w3 ⟨rfl, k3⟩; have HK3 := Lib.hid (HK.out.trans k3 (fun _ h => h.elim)); have HQ3 := Lib.hid (HQ.out.kn k3))
  have HK4 := Lib.hid (HK3.out.alloc (.cells #[.string s.has.key, .int .i64 s.has.newest.slot, .int .i64 s.has.newest.gen, .bool s.has.closed, .bool s.has.retired] 94))
  have HQ4 := Lib.hid (HQ3.out.alloc (.cells #[.string s.has.key, .int .i64 s.has.newest.slot, .int .i64 s.has.newest.gen, .bool s.has.closed, .bool s.has.retired] 94))
  clear HK3 HK HG x0 x1 k3 HQ HQ3
  generalize w3.alloc (.cells #[.string s.has.key, .int .i64 s.has.newest.slot, .int .i64 s.has.newest.gen, .bool s.has.closed, .bool s.has.retired] 94) = W at *
  generalize w3.heap.size = gx at *
  obtain ⟨y0, y1, y2, y3, y4, yf⟩ := cells5 (HQ4.out.blk 0 rfl)
  rw [HCl.out.1] at y3
  go_upto_region 7 with (first
    | (go_at_call 39; refine (HLi.out _ HK4.out).mono ?_; rintro e5 w5 ⟨a5, c5, rfl, ho5⟩; have HK5 := Lib.hid (HK4.out.trans ho5.old (fun _ h => h.elim)); have HQ5 := Lib.hid (HQ4.out.kn ho5.old); have HR5 := Lib.hid (show Rl Ve.enc 3 w5 (.slice a5 ys.length c5) ys from by
        obtain ⟨F1, hr, _⟩ := ho5.get 0 rfl
        exact Rl.of_row encV3 rfl hr); clear ho5)
    | (go_at_call 43; refine (prune_v mark HR5.out (by have := HLen.out; omega)).mono ?_; rintro e6 w6 ⟨a1, c1, a2, c2, rfl, ho6⟩; have HO6 := Lib.hid ho6; have HK6 := Lib.hid (HK5.out.trans ho6.old (fun _ h => h.elim)); have HQ6 := Lib.hid (HQ5.out.kn ho6.old); clear ho6))
  have HK7 := Lib.hid (HK6.out.alloc (.cells #[.slice a1 (pruneS mark ys).1.length c1] 46))
  have HQ7 := Lib.hid (HQ6.out.alloc (.cells #[.slice a1 (pruneS mark ys).1.length c1] 46))
  clear HK4 HK5 HK6 HQ4 HQ5 HQ6 HR5 HLi y0 y1 y2 y3 y4 yf
  generalize w6.alloc (.cells #[.slice a1 (pruneS mark ys).1.length c1] 46) = w7 at *
  generalize w6.heap.size = g7 at *
  obtain ⟨z0, _⟩ := cells1 (HQ7.out.blk 0 rfl)
  have hk1 : (((pruneS mark ys).1.length : Int) == 0) = false := by
    have := HCl.out.2.2.1
    have h2 : (pruneS mark ys).1.length ≠ 0 := fun h => this (List.eq_nil_of_length_eq_zero h)
    simpa using h2
  have hk2 : (pruneS mark ys).2.1.length = 0 := by rw [HCl.out.2.2.2]; rfl
  generalize (pruneS mark ys).1.length = n1 at *
  generalize (pruneS mark ys).2.1.length = n2 at *
  subst hk2
  go_wp2_with fail
  go_ret3
  exact ⟨rfl, HK7.out⟩
set_option maxRecDepth 100000 in
set_option maxHeartbeats 2000000 in
theorem prune_close_h {i : Nat} {s : Slot Cl} {xs : List (Hd × No)} (mark : Int) (h : Pw F w w' (HpL b c d e σ)) (hs : σ.L[i]? = some s) (hg : s.given = true) (hc : Ch σ.V s.has.newest xs) (hl : xs.length ≤ 1048576) (hcl : s.has.closed = false) (hnz : s.has.newest ≠ zH) (HP0 : (pruneS mark (xs.map (·.2.has))).1 = []) :
    Calls Try.prog 14 #[.pointer (some ⟨b, 0, none⟩), .agg #[.int .i64 i, .int .i64 s.gen], .int .i64 mark] w' fun e' w'' => e' = .returned (.tuple #[.int .i64 0, .bool true, .int .i64 0]) ∧ Pw F w w'' (HpL b c d e ⟨σ.L.set i ⟨⟨s.has.key, s.has.newest, true, s.has.retired⟩, s.gen, s.given⟩, σ.sl, σ.V, σ.sv, σ.rs⟩) := by
  have HLi := Lib.hid (fun (W : World) (k : KN w' W) => list_h (h.kn k) hc (by omega))
  have hq := h.alloc (.cells #[.int .i64 i, .int .i64 s.gen] 36)
  have hk := kn_alloc w' (.cells #[.int .i64 i, .int .i64 s.gen] 36)
  have HG := Lib.hid (get_good_h (h.kn hk) hs hg)
  obtain ⟨x0, x1, _, _⟩ := cells2 (heap_alloc_same w' (.cells #[.int .i64 i, .int .i64 s.gen] 36))
  have HK := Lib.hid hk
  have HQ := Lib.hid hq
  have HSG := Lib.hid (And.intro hs hg)
  have HCl := Lib.hid (And.intro hcl (And.intro hnz HP0))
  have HLen := Lib.hid (show (xs.map (·.2.has)).length ≤ 1048576 by rw [List.length_map]; exact hl)
  have hne := run_eql_hd s.has.newest.slot s.has.newest.gen 0 0
  rw [hd_ne hnz] at hne
  clear h hs hg hc hk hl hcl hnz HP0 hq
  generalize hE : xs.map (·.2.has) = ys at *
  have HE := Lib.hid hE
  clear hE
  go_enter Try.func14, Try.ntmps14
  go_upto_region 4 with (go_at_call 42; refine HG.out.mono ?_; rintro e3 w3 ⟨rfl, k3⟩; have HK3 := Lib.hid (HK.out.trans k3 (fun _ h => h.elim)); have HQ3 := Lib.hid (HQ.out.kn k3))
  have HK4 := Lib.hid (HK3.out.alloc (.cells #[.string s.has.key, .int .i64 s.has.newest.slot, .int .i64 s.has.newest.gen, .bool s.has.closed, .bool s.has.retired] 94))
  have HQ4 := Lib.hid (HQ3.out.alloc (.cells #[.string s.has.key, .int .i64 s.has.newest.slot, .int .i64 s.has.newest.gen, .bool s.has.closed, .bool s.has.retired] 94))
  clear HK3 HK HG x0 x1 k3 HQ HQ3
  generalize w3.alloc (.cells #[.string s.has.key, .int .i64 s.has.newest.slot, .int .i64 s.has.newest.gen, .bool s.has.closed, .bool s.has.retired] 94) = W at *
  generalize w3.heap.size = gx at *
  obtain ⟨y0, y1, y2, y3, y4, yf⟩ := cells5 (HQ4.out.blk 0 rfl)
  rw [HCl.out.1] at y3
  go_upto_region 7 with (first
    | (go_at_call 39; refine (HLi.out _ HK4.out).mono ?_; rintro e5 w5 ⟨a5, c5, rfl, ho5⟩; have HK5 := Lib.hid (HK4.out.trans ho5.old (fun _ h => h.elim)); have HQ5 := Lib.hid (HQ4.out.kn ho5.old); have HR5 := Lib.hid (show Rl Ve.enc 3 w5 (.slice a5 ys.length c5) ys from by
        obtain ⟨F1, hr, _⟩ := ho5.get 0 rfl
        exact Rl.of_row encV3 rfl hr); clear ho5)
    | (go_at_call 43; refine (prune_v mark HR5.out (by have := HLen.out; omega)).mono ?_; rintro e6 w6 ⟨a1, c1, a2, c2, rfl, ho6⟩; have HO6 := Lib.hid ho6; have HK6 := Lib.hid (HK5.out.trans ho6.old (fun _ h => h.elim)); have HQ6 := Lib.hid (HQ5.out.kn ho6.old); clear ho6))
  have HK7 := Lib.hid (HK6.out.alloc (.cells #[.slice a1 (pruneS mark ys).1.length c1] 46))
  have HQ7 := Lib.hid (HQ6.out.alloc (.cells #[.slice a1 (pruneS mark ys).1.length c1] 46))
  clear HK4 HK5 HK6 HQ4 HQ5 HQ6 HR5 HLi y0 y1 y2 y3 y4 yf
  generalize w6.alloc (.cells #[.slice a1 (pruneS mark ys).1.length c1] 46) = w7 at *
  generalize w6.heap.size = g7 at *
  obtain ⟨z0, _⟩ := cells1 (HQ7.out.blk 0 rfl)
  have hk1 : (pruneS mark ys).1.length = 0 := by rw [HCl.out.2.2]; rfl
  generalize (pruneS mark ys).1.length = n1 at *
  subst hk1
  obtain ⟨y0, y1, y2, y3, y4, yf⟩ := cells5 (HQ7.out.blk 1 rfl)
  go_upto_region 9 with fail
  have h8 := HQ7.out.setC 1 rfl (j := 3) (.bool true)
  have H8 : Hid (Pw F w (w7.setCell ⟨gx, 3, none⟩ (.bool true)) (Blk g7 (.cells #[.slice a1 0 c1] 46) :: Blk gx (.cells #[.string s.has.key, .int .i64 s.has.newest.slot, .int .i64 s.has.newest.gen, .bool true, .bool s.has.retired] 94) :: Blk w'.heap.size (.cells #[.int .i64 i, .int .i64 s.gen] 36) :: HpL b c d e σ)) := Lib.hid h8
  clear h8 y0 y1 y2 y3 y4 yf z0 HQ7 HK7
  generalize w7.setCell ⟨gx, 3, none⟩ (.bool true) = w8 at *
  have HSt := Lib.hid (fun (W' : World) (k' : KN w8 W') => show Calls Try.prog 41 #[.pointer (some ⟨c, 0, none⟩), .agg #[.int .i64 (i : Int), .int .i64 s.gen], clV ⟨s.has.key, s.has.newest, true, s.has.retired⟩] W' (fun e' w'' => e' = .returned (.int .i64 0) ∧ Pw F w w'' (Blk g7 (.cells #[.slice a1 0 c1] 46) :: Blk gx (.cells #[.string s.has.key, .int .i64 s.has.newest.slot, .int .i64 s.has.newest.gen, .bool true, .bool s.has.retired] 94) :: Blk w'.heap.size (.cells #[.int .i64 i, .int .i64 s.gen] 36) :: HpL b c d e ⟨σ.L.set i ⟨⟨s.has.key, s.has.newest, true, s.has.retired⟩, s.gen, s.given⟩, σ.sl, σ.V, σ.sv, σ.rs⟩)) from by
    obtain ⟨F1, h1, _, hup⟩ := (H8.out.kn k').get 4 rfl
    exact (set_good_C h1 HSG.out.1 HSG.out.2 ⟨s.has.key, s.has.newest, true, s.has.retired⟩).mono fun e' w'' ⟨he, hp'⟩ => ⟨he, hup hp'⟩)
  have HS8 := Lib.hid (fun (W' : World) (L : List (Slot Cl)) (h' : Pw F w W' (Blk g7 (.cells #[.slice a1 0 c1] 46) :: Blk gx (.cells #[.string s.has.key, .int .i64 s.has.newest.slot, .int .i64 s.has.newest.gen, .bool true, .bool s.has.retired] 94) :: Blk w'.heap.size (.cells #[.int .i64 i, .int .i64 s.gen] 36) :: HpL b c d e ⟨L, σ.sl, σ.V, σ.sv, σ.rs⟩)) => show W'.cell? ⟨b, 0, none⟩ = some (.pointer (some ⟨c, 0, none⟩)) ∧ W'.cell? ⟨w'.heap.size, 0, none⟩ = some (.int .i64 (i : Int)) ∧ W'.cell? ⟨w'.heap.size, 1, none⟩ = some (.int .i64 s.gen) ∧ W'.cell? ⟨gx, 0, none⟩ = some (.string s.has.key) ∧ W'.cell? ⟨gx, 1, none⟩ = some (.int .i64 s.has.newest.slot) ∧ W'.cell? ⟨gx, 2, none⟩ = some (.int .i64 s.has.newest.gen) ∧ W'.cell? ⟨gx, 3, none⟩ = some (.bool true) ∧ W'.cell? ⟨gx, 4, none⟩ = some (.bool s.has.retired) from ⟨(hp_ptrs h'.drop.drop.drop).1, (cells2 (h'.blk 2 rfl)).1, (cells2 (h'.blk 2 rfl)).2.1, cell_blk (h'.blk 1 rfl) rfl, cell_blk (h'.blk 1 rfl) rfl, cell_blk (h'.blk 1 rfl) rfl, cell_blk (h'.blk 1 rfl) rfl, cell_blk (h'.blk 1 rfl) rfl⟩)
  have s0 := HS8.out _ _ (H8.out.kn (kn_drew w8))
  go_region_held3 (fun W' => W'.cell? ⟨b, 0, none⟩ = some (.pointer (some ⟨c, 0, none⟩)) ∧ W'.cell? ⟨w'.heap.size, 0, none⟩ = some (.int .i64 (i : Int)) ∧ W'.cell? ⟨w'.heap.size, 1, none⟩ = some (.int .i64 s.gen) ∧ W'.cell? ⟨gx, 0, none⟩ = some (.string s.has.key) ∧ W'.cell? ⟨gx, 1, none⟩ = some (.int .i64 s.has.newest.slot) ∧ W'.cell? ⟨gx, 2, none⟩ = some (.int .i64 s.has.newest.gen) ∧ W'.cell? ⟨gx, 3, none⟩ = some (.bool true) ∧ W'.cell? ⟨gx, 4, none⟩ = some (.bool s.has.retired)) (first | with_reducible exact s0 | with_reducible exact s1)
    ((go_at_call 41; refine (HSt.out _ (kn_drew w8)).mono ?_; rintro e12 w12 ⟨rfl, hp12⟩; have HP12 := Lib.hid hp12; have s1 := HS8.out _ _ hp12; clear hp12))
  go_wp2_with fail
  go_ret3
  exact ⟨rfl, HP12.out.drop.drop.drop⟩
end
end Go.Proofs.Ytinejaganickpaa

/- EpochDoes: told. -/
import Derived.Test.YtghmgmchfcbodaaEpochY
import Derived.Test.YtghmgmchfcbodaaRefEp3
import Derived.Test.YtghmgmchfcbodaaQuietR
namespace Go.Proofs.Ytghmgmchfcbodaa
set_option linter.unusedVariables false
set_option linter.unusedSimpArgs false
open Go Go.RowKit Go.Shelf
attribute [local go_sem] Oper.semAt_some

theorem One.alloc4 {w0 w : World} {l : List Asr} (h : One w0 w l) (o1 o2 o3 o4 : Obj) : One w0 ((((w.alloc o1).alloc o2).alloc o3).alloc o4) (Blk (w.heap.size + 1 + 1 + 1) o4 :: Blk (w.heap.size + 1 + 1) o3 :: Blk (w.heap.size + 1) o2 :: Blk w.heap.size o1 :: l) := by
  have := (((h.alloc o1).alloc o2).alloc o3).alloc o4
  simpa using this
theorem below_drewN (B : Nat) (W : World) (n : Nat) : Below B W (W.drewN n) := ⟨rfl, rfl, rfl, Nat.le_refl _, fun _ _ => rfl⟩
theorem not_preW {xs pre : List PW} {x y : PW} (hy : xs[pre.length]? = some y) (h : x ≠ y) : ¬ (pre ++ [x] <+: xs) := by
  rintro ⟨t, rfl⟩
  simp at hy
  exact h hy
theorem Rd.below {α : Type} {enc : α → List Value} {sz : Nat} {w w' : World} {a : Option Addr} {l : List α} (h : Rd enc sz w a l) (k : Below w.heap.size w w') : Rd enc sz w' a l := h.kn (Below.kn' k)
set_option maxRecDepth 100000 in
set_option maxHeartbeats 8000000 in
theorem told_in (b1 b2 : Nat) (xs : List PW) (hlen : xs.length ≤ 9000000) (stop : Int) (w : World) (G : Nat → Prop) (hA : (LimA b1 b2 xs).on w G) (u : Nat) (a2 : Option Addr) (c2 : Nat) (hu : w.cell? ⟨u, 35, none⟩ = some (.slice a2 xs.length c2)) (hr2 : Rd encW 4 w a2 xs) :
    CallsIn Fence.wide 3 Try.prog 34 #[.func (.func 29) #[] #[.pointer (some ⟨b1, 0, none⟩), .pointer (some ⟨b2, 0, none⟩)], .pointer (some ⟨u, 0, none⟩), .int .i64 stop] w fun e W' => e = .returned (.bool true) ∧ Below w.heap.size w W' := by
  have HSEQ := Lib.hid (limbo_stops Fence.wide 2 trivial rfl (by omega) b1 b2 G xs hlen w hA)
  have HR2 := Lib.hid hr2
  have HU := Lib.hid hu
  have HGl := Lib.hid hA.2
  clear hA hr2 hu
  have HO := Lib.hid ((One.nil w).alloc4 (.cells #[.pointer (some ⟨u, 0, none⟩)] 52) (.cells #[.int .i64 stop] 3) (.cells #[.bool false] 4) (.cells #[.int .i64 0] 3))
  refine callsIn_of_wp_marks Try.func34 rfl trivial ?_ rfl
  simp only [Try.ntmps34, List.size_toArray, List.length_cons, List.length_nil, Nat.reduceAdd, Nat.reduceSub, Array.replicate_succ, Array.replicate_zero, List.push_toArray, List.append_toArray, List.nil_append, List.cons_append]
  gi_wp2_with fail
  have HF0 := Lib.hid HO.out.loopF
  have hBel := HO.out.old.below
  have HG4 := Lib.hid (fun i (hi : w.heap.size ≤ i) (hh : G i) => show False from absurd (HGl.out i hh) (by omega))
  obtain ⟨W0, hW0⟩ : ∃ W0, (((w.alloc (.cells #[.pointer (some ⟨u, 0, none⟩)] 52)).alloc (.cells #[.int .i64 stop] 3)).alloc (.cells #[.bool false] 4)).alloc (.cells #[.int .i64 0] 3) = W0 := ⟨_, rfl⟩
  rw [hW0] at HF0 hBel ⊢
  have hsz : W0.heap.size = w.heap.size + 4 := by rw [← hW0]; simp
  clear hW0 HO
  refine wpIn_rangeFunc_ownH rfl (show 1 ≤ 3 by omega) (gf := 29) (lb := #[.pointer (some ⟨b1, 0, none⟩), .pointer (some ⟨b2, 0, none⟩)]) rfl trivial (enters_of Try.func29 (by kernel_rfl) rfl)
    HSEQ.out KpG.trans (KpG.put (G := G) (fun i hi => by have := HGl.out i hi; omega)) hBel (fun _ => rfl)
    (fun pre W => OneF W0.heap.size w W [Blk (w.heap.size + 1 + 1 + 1) (.cells #[.int .i64 (pre.length : Nat)] 3), Blk (w.heap.size + 1 + 1) (.cells #[.bool false] 4), Blk (w.heap.size + 1) (.cells #[.int .i64 stop] 3), Blk w.heap.size (.cells #[.pointer (some ⟨u, 0, none⟩)] 52)])
    (fun c pre W => c = Code.ret ∧ ∃ (nv : Int) (bv : Bool), (pre <+: xs → bv = true) ∧ OneF W0.heap.size w W [Blk (w.heap.size + 1 + 1 + 1) (.cells #[.int .i64 nv] 3), Blk (w.heap.size + 1 + 1) (.cells #[.bool bv] 4), Blk (w.heap.size + 1) (.cells #[.int .i64 stop] 3), Blk w.heap.size (.cells #[.pointer (some ⟨u, 0, none⟩)] 52)])
    (oneF_own (by omega) _)
    (fun c s W W' row hs hg hr => ⟨hs.1, let ⟨nv, bv, hb, h⟩ := hs.2; ⟨nv, bv, hb, oneF_own (β := Unit) (by omega) (fun _ => [Blk (w.heap.size + 1 + 1 + 1) (.cells #[.int .i64 nv] 3), Blk (w.heap.size + 1 + 1) (.cells #[.bool bv] 4), Blk (w.heap.size + 1) (.cells #[.int .i64 stop] 3), Blk w.heap.size (.cells #[.pointer (some ⟨u, 0, none⟩)] 52)]) () W W' row h hg hr⟩⟩)
    HF0.out
    (fun x a' W => ∃ Bx, w.heap.size ≤ Bx ∧ W.heap[Bx]? = some (.cells #[.int .i64 x.2.kind, .int .i64 x.2.handle.slot, .int .i64 x.2.handle.gen] 31) ∧ a' = { tmps := #[.func (.func 29) #[] #[.pointer (some ⟨b1, 0, none⟩), .pointer (some ⟨b2, 0, none⟩)], .pointer (some ⟨u, 0, none⟩), .int .i64 stop, undef, .pointer (some ⟨w.heap.size, 0, none⟩), .pointer (some ⟨w.heap.size + 1, 0, none⟩), .pointer (some ⟨w.heap.size + 1 + 1, 0, none⟩), .pointer (some ⟨w.heap.size + 1 + 1 + 1, 0, none⟩), .int .i64 x.1, .pointer (some ⟨Bx, 0, none⟩), .func (.func 29) #[] #[.pointer (some ⟨b1, 0, none⟩), .pointer (some ⟨b2, 0, none⟩)], .int .i64 x.1, ren x.2, undef, undef, undef, undef, undef, undef, undef, undef, undef, undef, undef, undef, undef, undef, undef, undef, undef, undef, undef, undef, undef, undef, undef, undef, undef, undef, undef, undef, undef, undef, undef, undef, undef, undef, undef, undef, undef, undef, undef, undef, undef, undef, undef], defers := [] })
    (fun x a' _ X Y row hs hg hr => by
      obtain ⟨Bx, h1, h2, h3⟩ := hs
      refine ⟨Bx, h1, (hg.block Bx (lt_blk h2) (fun e => ?_)).trans h2, h3⟩
      obtain ⟨_, o, ho, hc⟩ := hr Bx e.symm
      rw [h2] at ho; cases ho; cases hc)
    ?assign ?body ?done ?stop
  case assign =>
    intro l pre x W K hI hK
    have hB := hI.one.old.below
    gi_wp2
    exact hK _ _ (keepsFrom_kn (kn_alloc _ _)) (kpg_alloc _ _) (hI.kn (kn_alloc _ _)) ⟨W.heap.size, hB.size, heap_alloc_same _ _, rfl⟩
  case body =>
    rintro l pre x a' W hl ⟨r, hr⟩ hI ⟨Bx, hBx, bX, rfl⟩ hlt
    obtain ⟨y, hy⟩ : ∃ y, xs[pre.length]? = some y := ⟨_, List.getElem?_eq_getElem hlt⟩
    have hB := hI.one.old.below
    obtain ⟨b, off, rfl, hbw, y0, y1, y2, y3⟩ := rdw (HR2.out.below hB) hy
    have hu := cell_kn HU.out (Below.kn' hB)
    obtain ⟨n0, f0⟩ := cells1 (hI.one.blk 0 rfl).1
    obtain ⟨n1, f1⟩ := cells1 (hI.one.blk 1 rfl).1
    obtain ⟨n2, f2⟩ := cells1 (hI.one.blk 2 rfl).1
    obtain ⟨n3, f3⟩ := cells1 (hI.one.blk 3 rfl).1
    obtain ⟨c0, c1, c2', c3⟩ := cells3 bX
    have HI := Lib.hid hI
    have HY := Lib.hid hy
    clear hI hB hy hr
    have hd0 : decide (xs.length ≤ pre.length) = false := by simp; omega
    have hi1 : (pre.length : Int) < (xs.length : Int) := by omega
    have hi2 : (0 : Int) ≤ (pre.length : Int) := by omega
    obtain ⟨xt, ⟨xk, ⟨xl, xg⟩⟩⟩ := x
    obtain ⟨yt, ⟨yk, ⟨yl, yg⟩⟩⟩ := y
    simp only at y0 y1 y2 y3 c0 c1 c2'
    have HNE : Hid (((xt, ⟨xk, ⟨xl, xg⟩⟩) : PW) ≠ (yt, ⟨yk, ⟨yl, yg⟩⟩)) ∨ ((xt, ⟨xk, ⟨xl, xg⟩⟩) : PW) = (yt, ⟨yk, ⟨yl, yg⟩⟩) := (Classical.em _).symm.imp Lib.hid id
    rcases HNE with HNE | HE
    · have hor : xt ≠ yt ∨ (xt = yt ∧ xk ≠ yk) ∨ (xt = yt ∧ xk = yk ∧ xl ≠ yl) ∨ (xt = yt ∧ xk = yk ∧ xl = yl ∧ xg ≠ yg) := by
        by_cases e1 : xt = yt
        · by_cases e2 : xk = yk
          · by_cases e3 : xl = yl
            · by_cases e4 : xg = yg
              · exact absurd (by rw [e1, e2, e3, e4]) HNE.out
              · exact .inr (.inr (.inr ⟨e1, e2, e3, e4⟩))
            · exact .inr (.inr (.inl ⟨e1, e2, e3⟩))
          · exact .inr (.inl ⟨e1, e2⟩)
        · exact .inl e1
      have hbad := Lib.hid (not_preW HY.out HNE.out)
      clear HNE
      rcases hor with e0 | ⟨rfl, e⟩ | ⟨rfl, rfl, e⟩ | ⟨rfl, rfl, rfl, e⟩
      case inl => 
        have e : (xt != yt) = true := by simpa using e0
        clear e0
        gi_wp2
        refine wpIn_region_quietR (by kernel_rfl) (by kernel_rfl) (by kernel_rfl) ?_
        repeat (gi_big_quiet_step (fail))
        refine wpQuietIn_nil ?_
        intro _ hw'
        obtain ⟨nq, hw''⟩ := hw'
        subst hw''
        gi_wp2
        exact ⟨keepsFrom_setC (keepsFrom_kn ((Kp.refl _ _).drewN _)) _ (by omega), rfl, _, false, fun h => absurd h hbad.out, (HI.out.kn ((Kp.refl _ _).drewN _)).setC 1 rfl _⟩
      all_goals
        gi_wp2
        refine wpIn_region_quietR (by kernel_rfl) (by kernel_rfl) (by kernel_rfl) ?_
        repeat (gi_big_quiet_step (fail))
        refine wpQuietIn_nil ?_
        intro _ hw'
        obtain ⟨nq, hw''⟩ := hw'
        subst hw''
        gi_wp2
        exact ⟨keepsFrom_setC (keepsFrom_kn ((Kp.refl _ _).drewN _)) _ (by omega), rfl, _, false, fun h => absurd h hbad.out, (HI.out.kn ((Kp.refl _ _).drewN _)).setC 1 rfl _⟩
    · cases HE
      gi_wp2
      refine wpIn_region_quietR (by kernel_rfl) (by kernel_rfl) (by kernel_rfl) ?_
      repeat (gi_big_quiet_step (fail))
      refine wpQuietIn_nil ?_
      intro _ hw'
      obtain ⟨nq, hw''⟩ := hw'
      subst hw''
      gi_wp2
      · refine ⟨keepsFrom_setC (keepsFrom_setC (keepsFrom_kn ((Kp.refl _ _).drewN _)) _ (by omega)) _ (by omega), rfl, _, true, fun _ => rfl, ((HI.out.kn ((Kp.refl _ _).drewN _)).setC 0 rfl _).setC 1 rfl _⟩
      · refine ⟨keepsFrom_setC (keepsFrom_kn ((Kp.refl _ _).drewN _)) _ (by omega), kpg_setC (((Kp.refl (fun _ => False) _).drewN _).toG (fun _ _ h => h)) _ (fun hh => HG4.out _ (by omega) hh), ?_⟩
        have hle : (((pre ++ [((xt, ⟨xk, ⟨xl, xg⟩⟩) : PW)]).length : Nat) : Int) = pre.length + 1 := by simp
        simp only [hle]
        exact (HI.out.kn ((Kp.refl _ _).drewN _)).setC 0 rfl _
  case done =>
    rintro D ys W hD rfl hI hK
    obtain ⟨n0, f0⟩ := cells1 (hI.one.blk 0 rfl).1
    obtain ⟨n1, f1⟩ := cells1 (hI.one.blk 1 rfl).1
    obtain ⟨n3, f3⟩ := cells1 (hI.one.blk 3 rfl).1
    have hu := cell_kn HU.out (Below.kn' hI.one.old.below)
    have HI := Lib.hid hI
    have HK := Lib.hid hK
    clear hI hK
    gi_wp2_with fail
    refine wpIn_wide.2 ?_
    go_still_tail 7, (by kernel_rfl)
    go_wp2_with fail
    gi_wp2
    refine ⟨by simp, .inl ⟨_, _, rfl, run_takeDeferred (show (W.setCell ⟨w.heap.size + 1 + 1, 0, none⟩ (.bool true)).drew.heap[D]? = _ from (setCell_other (by simp; omega)).trans HK.out), ?_⟩⟩
    obtain ⟨r1, _⟩ := cells1 ((putObj_other (w := (W.setCell ⟨w.heap.size + 1 + 1, 0, none⟩ (.bool true)).drew) (D := D) (o := .deferred none) (by omega)).trans ((HI.out.setC 1 rfl (.bool true)).one.blk 1 rfl).1)
    refine ⟨.bool true, by simp [results, Try.results34, go_sem, r1], rfl, below_putO (((HI.out.one.old.below.setCell (by simp; omega) _)).drew) (by omega)⟩
  case stop =>
    rintro D c pre W hD hpre ⟨rfl, nv, bv, hb, hI⟩ hK
    obtain rfl := hb hpre
    obtain ⟨n1, f1⟩ := cells1 (hI.one.blk 1 rfl).1
    have HI := Lib.hid hI
    have HK := Lib.hid hK
    clear hI hK
    gi_wp2
    refine ⟨by simp, .inl ⟨_, _, rfl, run_takeDeferred HK.out, ?_⟩⟩
    obtain ⟨r1, _⟩ := cells1 ((putObj_other (w := W) (D := D) (o := .deferred none) (by omega)).trans (HI.out.one.blk 1 rfl).1)
    refine ⟨.bool true, by simp [results, Try.results34, go_sem, r1], rfl, below_putO HI.out.one.old.below (by omega)⟩
end Go.Proofs.Ytghmgmchfcbodaa

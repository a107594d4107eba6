/- The law's tells. -/
import Derived.Test.YtopmeecgjobofaaValuesP
import Derived.Test.YtopmeecgjobofaaFindP
namespace Go.Proofs.Ytopmeecgjobofaa
set_option linter.unusedVariables false
set_option linter.unusedSimpArgs false
open Go Go.RowKit Go.Shelf
attribute [local go_sem] Oper.semAt_some

theorem keepsFrom_setC {B : Nat} {W X : World} (h : KeepsFrom B W X) {g i : Nat} (v : Value) (hg : g < B) : KeepsFrom B W (X.setCell ⟨g, i, none⟩ v) :=
  ⟨by simp only [World.setCell, World.putObj] at *; have := h.size; simp [World.setCell]; exact this, fun k o hk ho hc => (Below.heap_setCell _ _ _ _ (by simp; omega)).trans (h.same k o hk ho hc)⟩
theorem below_drewN (B : Nat) (W : World) (n : Nat) : Below B W (W.drewN n) := ⟨rfl, rfl, rfl, Nat.le_refl _, fun _ _ => rfl⟩
theorem bytes_inj {x y : ByteArray} (h : x.toList = y.toList) : x = y := by
  by_cases e : x = y
  · exact e
  · have := beq_str_false e
    rw [h] at this
    simp at this
theorem setCell_other {w : World} {p : Addr} {v : Value} {b : Nat} (h : b ≠ p.block) : (w.setCell p v).heap[b]? = w.heap[b]? := Below.heap_setCell w p v b h
theorem putObj_other {w : World} {D b : Nat} {o : Obj} (h : b ≠ D) : (w.putObj D o).heap[b]? = w.heap[b]? := by
  simp only [World.putObj]
  exact Array.getElem?_setIfInBounds_ne (Ne.symm h)
theorem below_putO {B D : Nat} {a w : World} {o : Obj} (h : Below B a w) (hD : B ≤ D) : Below B a (w.putObj D o) :=
  h.trans ⟨rfl, rfl, rfl, by simp [World.putObj], fun k hk => putObj_other (by omega)⟩
theorem not_pre {xs pre : List En} {x y : En} (hy : xs[pre.length]? = some y) (h : x ≠ y) : ¬ (pre ++ [x] <+: xs) := by
  rintro ⟨t, rfl⟩
  simp at hy
  exact h hy
set_option maxRecDepth 100000 in
set_option maxHeartbeats 4000000 in
theorem tells_in (F : Fence) (n : Nat) (hf : F.fn 31) (h1 : F.fn 54) (hro : F.round = none) (hn : 3 ≤ n) (b1 : Nat) (xs : List En) (hlen : xs.length ≤ 1048576) (stop : Int) (w : World) (a : Option Addr) (c : Nat) (hc : w.cell? ⟨b1, 0, none⟩ = some (.slice a xs.length c)) (hr : Rd En.enc 4 w a xs) (a2 : Option Addr) (c2 : Nat) (hr2 : Rd En.enc 4 w a2 xs) :
    CallsIn F n Try.prog 31 #[.func (.func 54) #[] #[.pointer (some ⟨b1, 0, none⟩)], .slice a2 xs.length c2, .int .i64 stop] w fun e W' => e = .returned (.bool true) ∧ Below w.heap.size w W' := by
  have hn1 : 1 ≤ n := by omega
  have HSEQ := Lib.hid (values_stops F (n - 1) h1 hro (by omega) b1 xs hlen w a c hc hr)
  have HR2 := Lib.hid hr2
  clear hc hr hr2
  have HO := Lib.hid ((One.nil w).alloc4 (.cells #[.slice a2 xs.length c2] 22) (.cells #[.int .i64 stop] 3) (.cells #[.bool false] 4) (.cells #[.int .i64 0] 3))
  refine callsIn_of_wp_marks Try.func31 rfl hf ?_ hro
  simp only [Try.ntmps31, List.size_toArray, List.length_cons, List.length_nil, Nat.reduceAdd, Nat.reduceSub, Array.replicate_succ, Array.replicate_zero, List.push_toArray, List.append_toArray, List.nil_append, List.cons_append]
  gi_wp2
  have HF0 := Lib.hid HO.out.loopF
  have hBel := HO.out.old.below
  obtain ⟨W0, hW0⟩ : ∃ W0, (((w.alloc (.cells #[.slice a2 xs.length c2] 22)).alloc (.cells #[.int .i64 stop] 3)).alloc (.cells #[.bool false] 4)).alloc (.cells #[.int .i64 0] 3) = W0 := ⟨_, rfl⟩
  rw [hW0] at HF0 hBel ⊢
  have hsz : W0.heap.size = w.heap.size + 4 := by rw [← hW0]; simp
  clear hW0 HO
  refine wpIn_rangeFunc_ownH hro hn1 (gf := 54) (lb := #[.pointer (some ⟨b1, 0, none⟩)]) rfl h1 (enters_of Try.func54 (by kernel_rfl) rfl)
    HSEQ.out belowK_t (belowK_b (by omega)) hBel (fun _ => rfl)
    (fun pre W => OneF W0.heap.size w W [Blk (w.heap.size + 1 + 1 + 1) (.cells #[.int .i64 (pre.length : Nat)] 3), Blk (w.heap.size + 1 + 1) (.cells #[.bool false] 4), Blk (w.heap.size + 1) (.cells #[.int .i64 stop] 3), Blk w.heap.size (.cells #[.slice a2 xs.length c2] 22)])
    (fun c pre W => c = Code.ret ∧ ∃ (nv : Int) (bv : Bool), (pre <+: xs → bv = true) ∧ OneF W0.heap.size w W [Blk (w.heap.size + 1 + 1 + 1) (.cells #[.int .i64 nv] 3), Blk (w.heap.size + 1 + 1) (.cells #[.bool bv] 4), Blk (w.heap.size + 1) (.cells #[.int .i64 stop] 3), Blk w.heap.size (.cells #[.slice a2 xs.length c2] 22)])
    (oneF_own (by omega) _)
    (fun c s W W' row hs hg hr => ⟨hs.1, let ⟨nv, bv, hb, h⟩ := hs.2; ⟨nv, bv, hb, oneF_own (β := Unit) (by omega) (fun _ => [Blk (w.heap.size + 1 + 1 + 1) (.cells #[.int .i64 nv] 3), Blk (w.heap.size + 1 + 1) (.cells #[.bool bv] 4), Blk (w.heap.size + 1) (.cells #[.int .i64 stop] 3), Blk w.heap.size (.cells #[.slice a2 xs.length c2] 22)]) () W W' row h hg hr⟩⟩)
    HF0.out
    (fun x a' W => ∃ Bx, w.heap.size ≤ Bx ∧ W.heap[Bx]? = some (.cells #[.string x.key, .int .i64 x.ref.slot, .int .i64 x.ref.gen, .int .i64 x.child] 34) ∧ a' = { tmps := #[.func (.func 54) #[] #[.pointer (some ⟨b1, 0, none⟩)], .slice a2 xs.length c2, .int .i64 stop, undef, .pointer (some ⟨w.heap.size, 0, none⟩), .pointer (some ⟨w.heap.size + 1, 0, none⟩), .pointer (some ⟨w.heap.size + 1 + 1, 0, none⟩), .pointer (some ⟨w.heap.size + 1 + 1 + 1, 0, none⟩), .pointer (some ⟨Bx, 0, none⟩), .func (.func 54) #[] #[.pointer (some ⟨b1, 0, none⟩)], env x, undef, undef, undef, undef, undef, undef, undef, undef, undef, undef, undef, undef, undef, undef, undef, undef, undef, undef, undef, undef, undef], defers := [] })
    (fun x a' _ X Y row hs hg hr => by
      obtain ⟨Bx, h1, h2, h3⟩ := hs
      refine ⟨Bx, h1, (hg.block Bx (lt_blk h2) (fun e => ?_)).trans h2, h3⟩
      obtain ⟨_, o, ho, hc⟩ := hr Bx e.symm
      rw [h2] at ho; cases ho; cases hc)
    ?assign ?body ?done ?stop
  case assign =>
    intro l pre x W K hI hK
    have hB := hI.one.old.below
    gi_wp2
    exact hK _ _ (keepsFrom_kn (kn_alloc _ _)) ((Below.refl _ W).alloc hB.size _) (hI.kn (kn_alloc _ _)) ⟨W.heap.size, hB.size, heap_alloc_same _ _, rfl⟩
  case body =>
    rintro l pre x a' W hl ⟨r, hr⟩ hI ⟨Bx, hBx, bX, rfl⟩ hlt
    obtain ⟨y, hy⟩ : ∃ y, xs[pre.length]? = some y := ⟨_, List.getElem?_eq_getElem hlt⟩
    have hB := hI.one.old.below
    obtain ⟨b, off, rfl, hbw, y0, y1, y2, y3⟩ := rd4 (HR2.out.below hB) hy
    obtain ⟨n0, f0⟩ := cells1 (hI.one.blk 0 rfl).1
    obtain ⟨n1, f1⟩ := cells1 (hI.one.blk 1 rfl).1
    obtain ⟨n2, f2⟩ := cells1 (hI.one.blk 2 rfl).1
    obtain ⟨n3, f3⟩ := cells1 (hI.one.blk 3 rfl).1
    obtain ⟨c0, c1, c2', c3, c4⟩ := cells4 bX
    have HI := Lib.hid hI
    have HY := Lib.hid hy
    clear hI hB hy hr
    have hd0 : decide (xs.length ≤ pre.length) = false := by simp; omega
    have hi1 : (pre.length : Int) < (xs.length : Int) := by omega
    have hi2 : (0 : Int) ≤ (pre.length : Int) := by omega
    obtain ⟨xk, ⟨xl, xg⟩, xc⟩ := x
    obtain ⟨yk, ⟨yl, yg⟩, yc⟩ := y
    simp only at y0 y1 y2 y3 c0 c1 c2' c3
    have HNE : Hid ((⟨xk, ⟨xl, xg⟩, xc⟩ : En) ≠ ⟨yk, ⟨yl, yg⟩, yc⟩) ∨ (⟨xk, ⟨xl, xg⟩, xc⟩ : En) = ⟨yk, ⟨yl, yg⟩, yc⟩ := (Classical.em _).symm.imp Lib.hid id
    rcases HNE with HNE | HE
    · have hor : ¬ xk.toList = yk.toList ∨ (xk = yk ∧ xl ≠ yl) ∨ (xk = yk ∧ xl = yl ∧ xg ≠ yg) ∨ (xk = yk ∧ xl = yl ∧ xg = yg ∧ xc ≠ yc) := by
        by_cases e1 : xk = yk
        · by_cases e2 : xl = yl
          · by_cases e3 : xg = yg
            · by_cases e4 : xc = yc
              · exact absurd (by rw [e1, e2, e3, e4]) HNE.out
              · exact .inr (.inr (.inr ⟨e1, e2, e3, e4⟩))
            · exact .inr (.inr (.inl ⟨e1, e2, e3⟩))
          · exact .inr (.inl ⟨e1, e2⟩)
        · exact .inl fun h => e1 (bytes_inj h)
      have hbad := Lib.hid (not_pre HY.out HNE.out)
      clear HNE
      rcases hor with e | ⟨rfl, e⟩ | ⟨rfl, rfl, e⟩ | ⟨rfl, rfl, rfl, e⟩
      all_goals
        gi_wp2
        refine wpIn_region_quietR (by kernel_rfl) (by kernel_rfl) (by kernel_rfl) ?_
        repeat (gi_big_quiet_step (fail))
        refine wpQuietIn_nil ?_
        intro _ hw'
        obtain ⟨nq, hw''⟩ := hw'
        subst hw''
        gi_wp2
        exact ⟨keepsFrom_setC (keepsFrom_kn ((Kp.refl _ _).drewN _)) _ (by omega), rfl, _, false, fun h => absurd h hbad.out, (HI.out.kn ((Kp.refl _ _).drewN _)).setC 1 rfl _⟩
    · cases HE
      gi_wp2
      refine wpIn_region_quietR (by kernel_rfl) (by kernel_rfl) (by kernel_rfl) ?_
      repeat (gi_big_quiet_step (fail))
      refine wpQuietIn_nil ?_
      intro _ hw'
      obtain ⟨nq, hw''⟩ := hw'
      subst hw''
      gi_wp2
      · refine ⟨keepsFrom_setC (keepsFrom_setC (keepsFrom_kn ((Kp.refl _ _).drewN _)) _ (by omega)) _ (by omega), rfl, _, true, fun _ => rfl, ((HI.out.kn ((Kp.refl _ _).drewN _)).setC 0 rfl _).setC 1 rfl _⟩
      · refine ⟨keepsFrom_setC (keepsFrom_kn ((Kp.refl _ _).drewN _)) _ (by omega), ((below_drewN _ _ _).setCell (by simp; omega) _), ?_⟩
        have hle : (((pre ++ [(⟨xk, ⟨xl, xg⟩, xc⟩ : En)]).length : Nat) : Int) = pre.length + 1 := by simp
        simp only [hle]
        exact (HI.out.kn ((Kp.refl _ _).drewN _)).setC 0 rfl _
  case done =>
    rintro D ys W hD rfl hI hK
    obtain ⟨n0, f0⟩ := cells1 (hI.one.blk 0 rfl).1
    obtain ⟨n1, f1⟩ := cells1 (hI.one.blk 1 rfl).1
    obtain ⟨n3, f3⟩ := cells1 (hI.one.blk 3 rfl).1
    have HI := Lib.hid hI
    have HK := Lib.hid hK
    clear hI hK
    gi_wp2
    refine ⟨by simp, .inl ⟨_, _, rfl, run_takeDeferred ((setCell_other (by simp; omega)).trans HK.out), ?_⟩⟩
    obtain ⟨r1, _⟩ := cells1 ((putObj_other (w := W.setCell ⟨w.heap.size + 1 + 1, 0, none⟩ (.bool true)) (D := D) (o := .deferred none) (by omega)).trans ((HI.out.setC 1 rfl (.bool true)).one.blk 1 rfl).1)
    refine ⟨.bool true, by simp [results, Try.results31, go_sem, r1], rfl, below_putO (HI.out.one.old.below.setCell (by simp; omega) _) (by omega)⟩
  case stop =>
    rintro D c pre W hD hpre ⟨rfl, nv, bv, hb, hI⟩ hK
    obtain rfl := hb hpre
    obtain ⟨n1, f1⟩ := cells1 (hI.one.blk 1 rfl).1
    have HI := Lib.hid hI
    have HK := Lib.hid hK
    clear hI hK
    gi_wp2
    refine ⟨by simp, .inl ⟨_, _, rfl, run_takeDeferred HK.out, ?_⟩⟩
    obtain ⟨r1, _⟩ := cells1 ((putObj_other (w := W) (D := D) (o := .deferred none) (by omega)).trans (HI.out.one.blk 1 rfl).1)
    refine ⟨.bool true, by simp [results, Try.results31, go_sem, r1], rfl, below_putO HI.out.one.old.below (by omega)⟩
end Go.Proofs.Ytopmeecgjobofaa

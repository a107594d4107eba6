/- Epochs: Waiting. -/
import Derived.Test.YtghmgmchfcbodaaEpochL
namespace Go.Proofs.Ytghmgmchfcbodaa
set_option linter.unusedVariables false
set_option linter.unusedSimpArgs false
open Go Go.RowKit Go.Shelf
attribute [local go_sem] Oper.semAt_some

theorem Below.kn' {w w' : World} (h : Below w.heap.size w w') : KN w w' := ⟨h.os, h.tape, h.output, h.size, fun k hk _ => h.block k hk⟩
theorem setCell_other {w : World} {p : Addr} {v : Value} {b : Nat} (h : b ≠ p.block) : (w.setCell p v).heap[b]? = w.heap[b]? := Below.heap_setCell w p v b h
theorem putObj_other {w : World} {D b : Nat} {o : Obj} (h : b ≠ D) : (w.putObj D o).heap[b]? = w.heap[b]? := by
  simp only [World.putObj]
  exact Array.getElem?_setIfInBounds_ne (Ne.symm h)
theorem below_putO {B D : Nat} {a w : World} {o : Obj} (h : Below B a w) (hD : B ≤ D) : Below B a (w.putObj D o) :=
  h.trans ⟨rfl, rfl, rfl, by simp [World.putObj], fun k hk => putObj_other (by omega)⟩
theorem keepsFrom_setC {B : Nat} {W X : World} (h : KeepsFrom B W X) {g i : Nat} (v : Value) (hg : g < B) : KeepsFrom B W (X.setCell ⟨g, i, none⟩ v) :=
  ⟨by simp only [World.setCell, World.putObj] at *; have := h.size; simp [World.setCell]; exact this, fun k o hk ho hc => (Below.heap_setCell _ _ _ _ (by simp; omega)).trans (h.same k o hk ho hc)⟩
theorem kpg_setC {G : Nat → Prop} {W X : World} (h : KpG G W X) {g i : Nat} (v : Value) (hg : ¬ G g) : KpG G W (X.setCell ⟨g, i, none⟩ v) :=
  ⟨by have := h.size; simpa [World.setCell] using this, fun k hk hG => (setCell_other (fun e => hg (by have e' : k = g := e; rw [← e']; exact hG))).trans (h.same k hk hG)⟩
theorem OneF.setC {B : Nat} {w0 w : World} {l : List Asr} (h : OneF B w0 w l) (i : Nat) {g j : Nat} {cs : Array Value} {T : TypeId} {fr : Nat × Nat} (hi : l[i]? = some (Blk g (.cells cs T fr))) (v : Value) : OneF B w0 (w.setCell ⟨g, j, none⟩ v) (l.set i (Blk g (.cells (cs.setIfInBounds j v) T fr))) := by
  obtain ⟨F, a, b, c, d⟩ := h
  obtain ⟨F1, h1, h2, h3⟩ := a.get hi
  obtain ⟨e1, rfl⟩ := h1
  have hp : Post (Blk g (.cells (cs.setIfInBounds j v) T fr)) (· = g) w (w.setCell ⟨g, j, none⟩ v) := by
    rw [setCell_setB v e1]
    exact post_setB _ ⟨e1, rfl⟩
  obtain ⟨F', a', k, s⟩ := h3 _ _ hp
  have hg := h2 g rfl
  refine ⟨F', a', fun x hx => (s x hx).elim (b x) (Nat.le_trans c.size), c.then k b, fun x hx => ?_⟩
  by_cases hxg : x = g
  · subst hxg
    refine .inr ⟨.cells (cs.setIfInBounds j v) T fr, ?_, rfl⟩
    rw [setCell_setB v e1]; exact setB_same _ (lt_blk e1)
  · rcases s x hx with hx' | hx'
    · rcases d x hx' with hd | ⟨o, ho, hc⟩
      · exact .inl hd
      · refine .inr ⟨o, ?_, hc⟩
        rw [setCell_setB v e1, setB_other _ _ (Ne.symm hxg)]; exact ho
    · have := a'.lt x hx
      simp [World.setCell] at this
      omega
theorem One.alloc3 {w0 w : World} {l : List Asr} (h : One w0 w l) (o o' o'' : Obj) : One w0 (((w.alloc o).alloc o').alloc o'') (Blk (w.heap.size + 1 + 1) o'' :: Blk (w.heap.size + 1) o' :: Blk w.heap.size o :: l) := by
  have := ((h.alloc o).alloc o').alloc o''
  simpa using this
set_option maxRecDepth 100000 in
set_option maxHeartbeats 4000000 in
theorem waiting_in {p : Option Addr} {xs : List PW} {w : World} (h : ∀ W, KN w W → Calls Try.prog 17 #[.pointer p] W (LimGave xs W)) (hlen : xs.length ≤ 9000000) : CallsIn Fence.wide 3 Try.prog 14 #[.pointer p] w fun e W' => e = .returned (.int .i64 xs.length) ∧ Below w.heap.size w W' := by
  have HO := Lib.hid ((One.nil w).alloc (.cells #[.int .i64 0] 3))
  have HN := Lib.hid (h _ HO.out.old)
  have HL := Lib.hid hlen
  clear h hlen
  refine callsIn_of_wp_marks Try.func14 rfl trivial ?_ rfl
  simp only [Try.ntmps14, List.size_toArray, List.length_cons, List.length_nil, Nat.reduceAdd, Nat.reduceSub, Array.replicate_succ, Array.replicate_zero, List.push_toArray, List.append_toArray, List.nil_append, List.cons_append]
  gi_wp2_with fail
  refine ⟨trivial, ?_⟩
  refine ((callsIn_wide (n := 2)).2 HN.out).mono ?_
  rintro e w1 ⟨b1, b2, rfl, G, hA, k1, hG⟩
  have HO1 := Lib.hid (HO.out.kn k1)
  have HSEQ := Lib.hid (limbo_stops Fence.wide 2 trivial rfl (by omega) b1 b2 G xs HL.out w1 hA)
  have hw1 : w.heap.size < w1.heap.size := lt_blk (HO1.out.blk 0 rfl).1
  have hGl := hA.2
  have hGn : ¬ G w.heap.size := fun hh => by
    rcases hG _ hh with h | h
    · exact h
    · simp at h; omega
  have HF0 := Lib.hid HO1.out.loopF
  have hBel := HO1.out.old.below
  clear HO HN HO1 hA hG k1
  gi_wp2_with fail
  refine wpIn_rangeFunc_ownH rfl (show 1 ≤ 3 by omega) (gf := 29) (lb := #[.pointer (some ⟨b1, 0, none⟩), .pointer (some ⟨b2, 0, none⟩)]) rfl trivial (enters_of Try.func29 (by kernel_rfl) rfl)
    HSEQ.out KpG.trans (KpG.put (G := G) hGl) (Below.refl _ _) (fun _ => rfl)
    (fun pre W => OneF w1.heap.size w W [Blk w.heap.size (.cells #[.int .i64 (pre.length : Nat)] 3)])
    (fun c pre W => False)
    (oneF_own (by omega) _)
    (fun c s W W' row hs hg hr => hs.elim)
    HF0.out
    (fun x a' W => a' = { tmps := #[.pointer p, undef, .int .i64 0, .pointer (some ⟨w.heap.size, 0, none⟩), .pointer p, .func (.func 29) #[] #[.pointer (some ⟨b1, 0, none⟩), .pointer (some ⟨b2, 0, none⟩)], .int .i64 x.1, ren x.2, undef, undef, undef], defers := [] })
    (fun x a' _ X Y row hs hg hr => hs)
    ?assign ?body ?done ?stop
  case assign =>
    intro l pre x W K hI hK
    gi_wp2
    exact hK _ _ (keepsFrom_kn (Kp.refl _ _)) (KpG.refl _ _) hI (by simp [Array.zip])
  case body =>
    rintro l pre x a' W hl ⟨r, hr⟩ hI rfl hlt
    obtain ⟨n0, f0⟩ := cells1 (hI.one.blk 0 rfl).1
    have HI := Lib.hid hI
    have hz : (pre.length : Int) < 9000000 := by have := HL.out; omega
    clear hI
    gi_wp2
    refine ⟨keepsFrom_setC (keepsFrom_kn (Kp.refl _ _)) _ (by omega), kpg_setC (KpG.refl _ _) _ hGn, ?_⟩
    have hle : (((pre ++ [x]).length : Nat) : Int) = pre.length + 1 := by simp
    simp only [hle]
    exact HI.out.setC 0 rfl _
  case done =>
    rintro D xs W hD rfl hI hK
    obtain ⟨n0, f0⟩ := cells1 (hI.one.blk 0 rfl).1
    have HI := Lib.hid hI
    have HK := Lib.hid hK
    clear hI hK
    gi_wp2
    refine ⟨by simp, .inl ⟨_, _, rfl, run_takeDeferred HK.out, ?_⟩⟩
    refine ⟨.int .i64 xs.length, by simp [results, Try.results14, go_sem], rfl, below_putO HI.out.one.old.below (by omega)⟩
  case stop =>
    rintro D c pre W hD hpre hI hK
    exact hI.elim
theorem waiting_a {b : Nat} {σ : Eps} {w : World} {F : Nat → Prop} (h : (EpA b σ).on w F) (hf : σ.Fit) (hlen : σ.limbo.length ≤ 9000000) : Calls Try.prog 14 #[.pointer (some ⟨b, 0, none⟩)] w fun e w' => e = .returned (.int .i64 σ.limbo.length) ∧ KN w w' :=
  (callsIn_wide.1 (waiting_in (fun W k => limbo_a ((EpA b σ).kn h k) hf hlen) hlen)).mono fun e W' ⟨he, hb⟩ => ⟨he, Below.kn' hb⟩
end Go.Proofs.Ytghmgmchfcbodaa

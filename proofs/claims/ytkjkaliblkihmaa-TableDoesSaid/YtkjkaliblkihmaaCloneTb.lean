/- The table's clone. -/
import Derived.Test.YtkjkaliblkihmaaSameTab
import Derived.Test.YtkjkaliblkihmaaRangeX
import Derived.Test.YtkjkaliblkihmaaRoundW
import Derived.Test.YtkjkaliblkihmaaQuietT
import Derived.Test.YtkjkaliblkihmaaSel
namespace Go.Proofs.Ytkjkaliblkihmaa
set_option linter.unusedVariables false
set_option linter.unusedSimpArgs false
open Go Go.RowKit Go.Shelf Go.Sort
attribute [local go_sem] Oper.semAt_some

/-- The states of the first k pages, zeros behind. -/
def stTo (A : List AP) (k : Nat) : List Pg := (A.take k).map (fun a => ⟨a.1, none⟩) ++ List.replicate (A.length - k) ⟨0, none⟩
theorem stTo_len (A : List AP) {k : Nat} (hk : k ≤ A.length) : (stTo A k).length = A.length := by
  simp [stTo]; omega
theorem stTo_at (A : List AP) {k : Nat} (hk : k < A.length) : (stTo A k)[k]? = some ⟨0, none⟩ := by
  unfold stTo
  rw [List.getElem?_append_right (by simp; omega), List.length_map, List.length_take, Nat.min_eq_left (by omega), Nat.sub_self, List.getElem?_replicate, if_pos (by omega)]
theorem stTo_step {A : List AP} {k : Nat} {a : AP} (ha : A[k]? = some a) : (stTo A k).set k ⟨a.1, none⟩ = stTo A (k + 1) := by
  have hk := (List.getElem?_eq_some_iff.1 ha).1
  unfold stTo
  rw [List.set_append_right _ _ (by simp; omega), List.length_map, List.length_take, Nat.min_eq_left (by omega), Nat.sub_self]
  obtain ⟨m, hm⟩ : ∃ m, A.length - k = m + 1 := ⟨A.length - k - 1, by omega⟩
  rw [hm, List.replicate_succ, List.set_cons_zero, List.take_add_one, ha, List.map_append, show A.length - (k + 1) = m by omega]
  simp
theorem stTo_all (A : List AP) : stTo A A.length = A.map (fun a => ⟨a.1, none⟩) := by simp [stTo]
/-- The heads of those that were told. -/
def hdL (hs : List (Nat × PH)) : List Asr := hs.map fun e => Blk e.1 (cellH e.2.2 0)
/-- What the clone's pages are, when those of pre were told. -/
structure Ci (A : List AP) (pgs : List Pg) (hs : List (Nat × PH)) (pre : List PH) : Prop where
  len : pgs.length = A.length
  st : ∀ (i : Nat) (q : Pg) (a : AP), pgs[i]? = some q → A[i]? = some a → q.st = a.1
  of : ∀ (i : Nat) (q : Pg) (b : Nat), pgs[i]? = some q → q.hd = some b → ∃ y, (b, y) ∈ hs ∧ y.1 = (i : Int)
  tld : ∀ y ∈ pre, ∃ (i : Nat) (q : Pg) (b : Nat), y.1 = (i : Int) ∧ pgs[i]? = some q ∧ q.hd = some b
  inj : ∀ e ∈ hs, ∀ e' ∈ hs, e.1 = e'.1 → e.2 = e'.2
  mem : ∀ e ∈ hs, e.2 ∈ livesOf A
theorem ci_zero (A : List AP) : Ci A (stTo A A.length) [] [] := by
  rw [stTo_all]
  refine ⟨by simp, fun i q a hq ha => ?_, fun i q b hq hb => ?_, by simp, by simp, by simp⟩
  · rw [List.getElem?_map, ha] at hq
    cases hq; rfl
  · rw [List.getElem?_map] at hq
    cases ha : A[i]? with
    | none => rw [ha] at hq; cases hq
    | some a => rw [ha] at hq; cases hq; cases hb
theorem ci_step {A : List AP} {pgs : List Pg} {hs : List (Nat × PH)} {pre : List PH} (h : Ci A pgs hs pre) {i : Nat} {q : Pg} {y : PH} {nb : Nat} (hq : pgs[i]? = some q) (hy : y.1 = (i : Int)) (hm : y ∈ livesOf A) (hn : ∀ e ∈ hs, e.1 ≠ nb) :
    Ci A (pgs.set i ⟨q.st, some nb⟩) ((nb, y) :: hs) (pre ++ [y]) := by
  have hi := (List.getElem?_eq_some_iff.1 hq).1
  refine ⟨by rw [List.length_set]; exact h.len, fun j r a hr ha => ?_, fun j r b hr hb => ?_, fun z hz => ?_, fun e he e' he' hee => ?_, fun e he => ?_⟩
  · by_cases e : i = j
    · subst e
      rw [List.getElem?_set_self hi] at hr
      cases hr
      exact h.st i q a hq ha
    · rw [List.getElem?_set_ne e] at hr
      exact h.st j r a hr ha
  · by_cases e : i = j
    · subst e
      rw [List.getElem?_set_self hi] at hr
      cases hr
      cases hb
      exact ⟨y, List.mem_cons_self, hy⟩
    · rw [List.getElem?_set_ne e] at hr
      obtain ⟨z, h1, h2⟩ := h.of j r b hr hb
      exact ⟨z, List.mem_cons_of_mem _ h1, h2⟩
  · rcases List.mem_append.1 hz with hz | hz
    · obtain ⟨j, r, b, h1, h2, h3⟩ := h.tld z hz
      by_cases e : i = j
      · subst e
        exact ⟨i, ⟨q.st, some nb⟩, nb, h1, List.getElem?_set_self hi, rfl⟩
      · exact ⟨j, r, b, h1, by rw [List.getElem?_set_ne e]; exact h2, h3⟩
    · have : z = y := by simpa using hz
      subst this
      exact ⟨i, ⟨q.st, some nb⟩, nb, hy, List.getElem?_set_self hi, rfl⟩
  · rcases List.mem_cons.1 he with rfl | he
    · rcases List.mem_cons.1 he' with rfl | he'
      · rfl
      · exact absurd hee.symm (hn e' he')
    · rcases List.mem_cons.1 he' with rfl | he'
      · exact absurd hee (hn e he)
      · exact h.inj e he e' he' hee
  · rcases List.mem_cons.1 he with rfl | he
    · exact hm
    · exact h.mem e he
theorem OneF.addB {B : Nat} {w0 w w' : World} {l : List Asr} {nb : Nat} {o : Obj} (h : OneF B w0 w l) (k : KN w w') (hn : w.heap.size ≤ nb) (hb : w'.heap[nb]? = some o) (ho : o.isCells = true) : OneF B w0 w' (Blk nb o :: l) := by
  obtain ⟨F, a, b, c, d⟩ := h
  refine ⟨fun x => x = nb ∨ F x, ⟨(· = nb), F, ⟨hb, rfl⟩, a.keep k (fun _ _ h => h), fun x hx hF => ?_, fun x => Iff.rfl⟩, fun x hx => ?_, c.trans k (fun _ h => h.elim), fun x hx => ?_⟩
  · have := a.lt x hF; omega
  · rcases hx with hx | hx
    · subst hx; exact Nat.le_trans c.size hn
    · exact b x hx
  · rcases hx with hx | hx
    · subst hx; exact .inr ⟨o, hb, ho⟩
    · rcases d x hx with h | ⟨o', h1, h2⟩
      · exact .inl h
      · exact .inr ⟨o', k.blk h1 id, h2⟩
/-- A block of the list is owned. -/
theorem Stars.blkm {l : List Asr} {w : World} {F : Nat → Prop} (h : Stars l w F) {g : Nat} {o : Obj} (hm : Blk g o ∈ l) : F g ∧ w.heap[g]? = some o := by
  obtain ⟨i, hi, e⟩ := List.mem_iff_getElem.1 hm
  obtain ⟨F1, ⟨h1, h2⟩, h3, _⟩ := Stars.get (i := i) h (by rw [List.getElem?_eq_getElem hi, e])
  exact ⟨h3 g (by rw [h2]), h1⟩
theorem hd_mem {hs : List (Nat × PH)} {e : Nat × PH} (h : e ∈ hs) : Blk e.1 (cellH e.2.2 0) ∈ hdL hs := List.mem_map_of_mem h
/-- The clone is a table. -/
theorem tab_of {A : List AP} {pgs : List Pg} {hs : List (Nat × PH)} {w w' : World} {t p m : Nat} {arr : Array Value} {x : Int} (h : One w w' (Blk t (.cells #[.slice (some ⟨p, 0, none⟩) A.length A.length, .pointer (some ⟨m, 0, none⟩)] 57) :: Blk m (atom x) :: Blk p (.cells arr 70) :: hdL hs))
    (ha : Arr Pg.enc 2 arr pgs) (hc : Ci A pgs hs (livesOf A)) (hm : A.length ≤ 65536) : Post (Tab t A x) (fun _ => False) w w' := by
  obtain ⟨F, hs1, hge, hk⟩ := h
  obtain ⟨f1, b1⟩ := Stars.blkm hs1 (g := t) (o := .cells #[.slice (some ⟨p, 0, none⟩) A.length A.length, .pointer (some ⟨m, 0, none⟩)] 57) (by simp)
  obtain ⟨f2, b2⟩ := Stars.blkm hs1 (g := m) (o := atom x) (by simp)
  obtain ⟨f3, b3⟩ := Stars.blkm hs1 (g := p) (o := .cells arr 70) (by simp)
  refine ⟨F, ⟨p, m, pgs, ⟨by rw [hc.len]; exact b1, ⟨arr, b3, ha⟩, b2, hc.len, by rw [hc.len]; exact hm, fun i q a hq hai => ⟨hc.st i q a hq hai, fun h1 => ?_⟩, fun i j q r b hq hr h1 h2 hb hb' => ?_, f1, f3, f2, hs1.lt⟩⟩, hk, fun b hb => .inr (hge b hb)⟩
  · obtain ⟨j, q', b, h2, h3, h4⟩ := hc.tld _ (mem_lives hai h1)
    have hij : i = j := by simp only at h2; omega
    subst hij
    rw [hq] at h3; cases h3
    obtain ⟨y, hy, hy1⟩ := hc.of i q b hq h4
    obtain ⟨f4, b4⟩ := Stars.blkm hs1 (g := b) (o := cellH y.2 0) (by
      have := hd_mem hy
      simp only [List.mem_cons]
      exact .inr (.inr (.inr this)))
    obtain ⟨k, a', e1, e2, e3⟩ := lives_mem (hc.mem _ hy)
    simp only at e3
    have hik : k = i := by rw [e3] at hy1; simp only at hy1; omega
    subst hik
    rw [hai] at e1; cases e1
    rw [e3] at b4
    exact ⟨b, 0, h4, f4, b4⟩
  · obtain ⟨y, hy, hy1⟩ := hc.of i q b hq hb
    obtain ⟨z, hz, hz1⟩ := hc.of j r b hr hb'
    have := hc.inj _ hy _ hz rfl
    simp only at this
    rw [this] at hy1
    omega
theorem One.al4 {w0 w : World} {l : List Asr} (h : One w0 w l) (o1 o2 o3 o4 : Obj) : One w0 ((((w.alloc o1).alloc o2).alloc o3).alloc o4) (Blk (w.heap.size + 1 + 1 + 1) o4 :: Blk (w.heap.size + 1 + 1) o3 :: Blk (w.heap.size + 1) o2 :: Blk w.heap.size o1 :: l) := by
  have := (((h.alloc o1).alloc o2).alloc o3).alloc o4
  simpa using this
theorem One.setCA {w0 w : World} {l : List Asr} (h : One w0 w l) (i : Nat) {g j : Nat} {cs : Array Value} {T : TypeId} {fr : Nat × Nat} (hi : l[i]? = some (Blk g (.cells cs T fr))) (v : Value) : One w0 (w.setCell ⟨g, j, none⟩ v) (l.set i (Blk g (.cells (cs.setIfInBounds j v) T fr))) := by
  rw [setCell_setB v (h.blk i hi).1]
  exact h.setB i hi _
theorem tab_most {t : Nat} {A : List AP} {x : Int} {w : World} {F : Nat → Prop} (h : (Tab t A x).on w F) : A.length ≤ 65536 := by
  obtain ⟨p, m, pgs, h⟩ := h
  rw [← h.len]; exact h.most
def GaveCl (A : List AP) (x : Int) (w : World) (e : Ending) (w' : World) : Prop := ∃ t', e = .returned (.pointer (some ⟨t', 0, none⟩)) ∧ Post (Tab t' A x) (fun _ => False) w w'
set_option maxRecDepth 100000 in
set_option maxHeartbeats 8000000 in
theorem clone_in {t : Nat} {A : List AP} {x : Int} {w : World} {F : Nat → Prop} (h : (Tab t A x).on w F) : CallsIn Fence.wide 3 Try.prog 23 #[.pointer (some ⟨t, 0, none⟩)] w (GaveCl A x w) := by
  have hm := tab_most h
  have HT := Lib.hid (fun (W : World) (k : KN w W) => (Tab t A x).kn h k)
  have HC := Lib.hid (tab_none h)
  obtain ⟨p, m, pgs, hi⟩ := h
  have HI := Lib.hid (fun (W : World) (k : KN w W) => hi.kn k)
  have hlen := hi.len
  clear hi
  refine callsIn_of_wp_marks Try.func23 rfl trivial ?_ rfl
  simp only [Try.ntmps23, List.size_toArray, List.length_cons, List.length_nil, Nat.reduceAdd, Nat.reduceSub, Array.replicate_succ, Array.replicate_zero, List.push_toArray, List.append_toArray, List.nil_append, List.cons_append]
  refine wpIn_wide.2 ?_
  go_wp2_with fail
  refine HC.out.mono ?_
  rintro e w' ⟨rfl, rfl⟩
  obtain ⟨c0, c1, _, _⟩ := cells2 (HI.out _ (Kp.refl _ _)).tb
  rw [hlen] at c0
  have hmk := run_mk (w := w) elt_pg A.length (by omega) (by omega)
  go_upto_region 4 with fail
  have HO := Lib.hid (One.al4 (One.nil w) (.cells (madeCells #[.int .i64 0, .pointer none] (A.length * 2)) 70) (atom 0) (.cells #[.slice (some ⟨w.heap.size, 0, none⟩) A.length A.length, .pointer (some ⟨w.heap.size + 1, 0, none⟩)] 57) (.cells #[.pointer (some ⟨w.heap.size + 1 + 1, 0, none⟩)] 25))
  have HA0 := Lib.hid (show Arr Pg.enc 2 (madeCells #[.int .i64 0, .pointer none] (A.length * 2)) (stTo A 0) from by
    have := Arr.made (enc := Pg.enc) (n := 2) (z := #[.int .i64 0, .pointer none]) (x := ⟨0, none⟩) rfl (by omega) rfl A.length
    simpa [stTo] using this)
  clear hmk c0 c1 HC
  generalize madeCells #[.int .i64 0, .pointer none] (A.length * 2) = arr0 at *
  generalize (((w.alloc (.cells arr0 70)).alloc (.cells #[.int .i64 0] 67)).alloc (.cells #[.slice (some ⟨w.heap.size, 0, none⟩) A.length A.length, .pointer (some ⟨w.heap.size + 1, 0, none⟩)] 57)).alloc (.cells #[.pointer (some ⟨w.heap.size + 1 + 1, 0, none⟩)] 25) = w1 at *
  generalize w.heap.size = g at *
  obtain ⟨c0, c1, _, _⟩ := cells2 (HI.out _ HO.out.old).tb
  rw [hlen] at c0
  go_wp2_with fail
  go_loopw [25] (fun i wr => ∃ (k : Nat) (arr : Array Value), k ≤ A.length ∧ i = .int .i64 k ∧ Hid (Arr Pg.enc 2 arr (stTo A k)) ∧ Hid (One w wr [Blk (g + 1 + 1 + 1) (.cells #[.pointer (some ⟨g + 1 + 1, 0, none⟩)] 25), Blk (g + 1 + 1) (.cells #[.slice (some ⟨g, 0, none⟩) A.length A.length, .pointer (some ⟨g + 1, 0, none⟩)] 57), Blk (g + 1) (atom 0), Blk g (.cells arr 70)])) (fun i _ => A.length - (intOf i).toNat)
  case atStart => exact ⟨0, arr0, Nat.zero_le _, rfl, HA0, HO⟩
  case round =>
    clear HA0 HO c0 c1
    obtain ⟨k, arr, hk, rfl, HA, HO⟩ := hrel
    by_cases hlt : k < A.length
    · obtain ⟨a, hak⟩ : ∃ a, A[k]? = some a := ⟨_, List.getElem?_eq_getElem hlt⟩
      obtain ⟨q, hq⟩ : ∃ q, pgs[k]? = some q := ⟨_, List.getElem?_eq_getElem (by omega)⟩
      obtain ⟨s0, s1⟩ := (HI.out _ HO.out.old).page hq
      have hqa := ((HI.out w (Kp.refl _ _)).rd k q a hq hak).1
      have HSt := Lib.hid (stTo_step hak)
      have hz1 : (k : Int) < (A.length : Int) := by omega
      have hz0 : (0 : Int) ≤ (k : Int) := by omega
      clear hak hq
      obtain ⟨qs, qh⟩ := q
      simp only at s0 s1 hqa
      subst hqa
      go_upto_region 7 with fail
      have HO1 := Lib.hid (HO.out.alloc (.cells #[.int .i64 a.1, .pointer (qh.map fun b => ⟨b, 0, none⟩)] 70))
      clear HO s0 s1
      generalize wr.alloc (.cells #[.int .i64 a.1, .pointer (qh.map fun b => ⟨b, 0, none⟩)] 70) = w2 at *
      generalize wr.heap.size = g2 at *
      obtain ⟨x0, x1, _, _⟩ := cells2 (HO1.out.blk 0 rfl).1
      obtain ⟨y0, _⟩ := cells1 (HO1.out.blk 1 rfl).1
      obtain ⟨z0, z1, _, _⟩ := cells2 (HO1.out.blk 2 rfl).1
      have u0 : w2.cell? ⟨g, k * 2, none⟩ = some (.int .i64 0) := cell_blk (HO1.out.blk 4 rfl).1 (HA.out.cell (stTo_at A hlt) (j := 0) (by omega))
      have uf : w2.frozen? ⟨g, k * 2, none⟩ = false := free_blk (HO1.out.blk 4 rfl).1
      go_still_tail 9, (by kernel_rfl)
      go_wp2_with fail
      have HA2 := Lib.hid (HA.out.set (stTo_at A hlt) (j := 0) (x' := ⟨a.1, none⟩) (v := .int .i64 a.1) (by omega) (Pg.len _) rfl)
      rw [HSt.out] at HA2
      have HO2 := Lib.hid (((HO1.out.kn ((Kp.refl (fun _ => False) w2).drew)).setCA 4 rfl (j := k * 2) (.int .i64 a.1)).drop)
      go_roundw
      case rel => exact ⟨k + 1, _, by omega, by go_num, HA2, HO2⟩
      case measure => simp [intOf]; omega
    · obtain rfl : k = A.length := by omega
      go_wp2_with fail
      refine (tab_all hm (HT.out _ HO.out.old)).mono ?_
      rintro e w4 ⟨b1, b2, rfl, G, hA, k1, hG⟩
      have hgg : ¬ G g := fun h => by
        have := lt_blk (HO.out.blk 3 rfl).1
        rcases hG g h with h | h
        · exact h
        · omega
      have HO4 := Lib.hid (HO.out.kn k1)
      have HSEQ := Lib.hid (all_stopsM Fence.wide 2 trivial rfl (by omega) b1 b2 G (livesOf A) (by have := lives_le A A.length; unfold livesOf; omega) w4 hA)
      have hgb4 : g + 1 + 1 + 1 < w4.heap.size := lt_blk (HO4.out.blk 0 rfl).1
      have hw4 : w.heap.size ≤ w4.heap.size := HO4.out.old.size
      have HF0 := Lib.hid HO4.out.loopF
      have hGl := hA.2
      clear HO hA hG k1
      go_wp2_with fail
      refine (wpIn_wide (n := 3)).1 ?_
      refine wpIn_rangeFunc_ownH rfl (show 1 ≤ 3 by omega) (gf := 48) (lb := #[.pointer (some ⟨b1, 0, none⟩), .pointer (some ⟨b2, 0, none⟩)]) rfl trivial (enters_of Try.func48 (by kernel_rfl) rfl)
        HSEQ.out KpG.trans (KpG.put (G := G) hGl) (Below.refl _ _) (fun _ => rfl)
        (fun pre W => ∃ (pgs' : List Pg) (hs : List (Nat × PH)) (arr' : Array Value), (Arr Pg.enc 2 arr' pgs' ∧ Ci A pgs' hs (pre.map (·.1))) ∧ OneF w4.heap.size w W (Blk (g + 1 + 1 + 1) (.cells #[.pointer (some ⟨g + 1 + 1, 0, none⟩)] 25) :: Blk (g + 1 + 1) (.cells #[.slice (some ⟨g, 0, none⟩) A.length A.length, .pointer (some ⟨g + 1, 0, none⟩)] 57) :: Blk (g + 1) (atom 0) :: Blk g (.cells arr' 70) :: hdL hs))
        (fun c pre W => False)
        (fun s W W' row hs hg hr => let ⟨a1, a2, a3, h1, h2⟩ := hs; ⟨a1, a2, a3, h1, oneF_own (β := Unit) hw4 (fun _ => Blk (g + 1 + 1 + 1) (.cells #[.pointer (some ⟨g + 1 + 1, 0, none⟩)] 25) :: Blk (g + 1 + 1) (.cells #[.slice (some ⟨g, 0, none⟩) A.length A.length, .pointer (some ⟨g + 1, 0, none⟩)] 57) :: Blk (g + 1) (atom 0) :: Blk g (.cells a3 70) :: hdL a2) () W W' row h2 hg hr⟩)
        (fun c s W W' row hs hg hr => hs.elim)
        ⟨stTo A A.length, [], arr, ⟨HA.out, ci_zero A⟩, HF0.out⟩
        (fun x a' W => ∃ Bx, W.heap[Bx]? = some (.cells #[.int .i64 x.1.2.1, .int .i64 x.1.2.2] 23) ∧ a' = { tmps := #[.pointer (some ⟨t, 0, none⟩), undef, .pointer none, .pointer (some ⟨g + 1 + 1 + 1, 0, none⟩), u4, u5, .int .i64 x.1.1, .pointer (some ⟨Bx, 0, none⟩), .pointer (some ⟨t, 0, none⟩), .bool false, .pointer (some ⟨t, 0, none⟩), .pointer (some ⟨t, 0, none⟩), .pointer (some ⟨t, 0, none⟩), .slice (some ⟨p, 0, none⟩) A.length A.length, .int .i64 A.length, .slice (some ⟨g, 0, none⟩) A.length A.length, .agg #[.int .i64 0], .pointer (some ⟨g + 1, 0, none⟩), .agg #[.slice (some ⟨g, 0, none⟩) A.length A.length, .pointer (some ⟨g + 1, 0, none⟩)], .pointer (some ⟨g + 1 + 1, 0, none⟩), .pointer (some ⟨t, 0, none⟩), .pointer (some ⟨t, 0, none⟩), .pointer (some ⟨t, 0, none⟩), .slice (some ⟨p, 0, none⟩) A.length A.length, .int .i64 A.length, .int .i64 A.length, .bool false, u27, u28, u29, u30, u31, u32, u33, u34, u35, u36, u37, u38, u39, .pointer (some ⟨t, 0, none⟩), .func (.func 48) #[] #[.pointer (some ⟨b1, 0, none⟩), .pointer (some ⟨b2, 0, none⟩)], .int .i64 x.1.1, .agg #[.int .i64 x.1.2.1, .int .i64 x.1.2.2], undef, undef, undef, undef, undef, undef, undef, undef, undef, undef, undef, undef, undef, undef, undef, undef, undef, undef, undef, undef], defers := [] })
        (fun x a' _ X Y row hs hg hr => by
          obtain ⟨Bx, h2, h3⟩ := hs
          refine ⟨Bx, (hg.block Bx (lt_blk h2) (fun e => ?_)).trans h2, h3⟩
          obtain ⟨_, o, ho, hc⟩ := hr Bx e.symm
          rw [h2] at ho; cases ho; cases hc)
        ?assign ?body ?done ?stop
      case assign =>
        rintro lo pre x W K ⟨a1, a2, a3, h1, hI⟩ hK
        gi_wp2
        exact hK _ _ (keepsFrom_kn (kn_alloc _ _)) (kpg_alloc _ _) ⟨a1, a2, a3, h1, hI.kn (kn_alloc _ _)⟩ ⟨W.heap.size, heap_alloc_same _ _, rfl⟩
      case body =>
        rintro lo pre x a' W hl ⟨r, hr⟩ ⟨pgs2, hs, arr2, ⟨hA2, hC2⟩, hI⟩ ⟨Bx, bX, rfl⟩ hlt
        obtain ⟨i, a, hai, ha1, hx⟩ := lives_mem x.2
        have hil := (List.getElem?_eq_some_iff.1 hai).1
        obtain ⟨x, hxm⟩ := x
        simp only at hx bX
        subst hx
        simp only at bX
        obtain ⟨q, hq⟩ : ∃ q, pgs2[i]? = some q := ⟨_, List.getElem?_eq_getElem (by rw [hC2.len]; exact hil)⟩
        obtain ⟨z0, z1, _, _⟩ := cells2 bX
        obtain ⟨n0, _⟩ := cells1 (hI.one.blk 0 rfl).1
        obtain ⟨m0, m1, _, _⟩ := cells2 (hI.one.blk 1 rfl).1
        have HI2 := Lib.hid hI
        have HA2 := Lib.hid hA2
        have HC2 := Lib.hid hC2
        have HQ := Lib.hid hq
        have HX := Lib.hid hxm
        have hi0 : (0 : Int) ≤ (i : Int) := by omega
        have hi1 : (i : Int) < (A.length : Int) := by omega
        clear hI hr hA2 hC2 hq hai
        obtain ⟨ast, ahd⟩ := a
        simp only at z0 z1 ha1
        gi_wp2_with fail
        have hS0 : W.drew.cell? ⟨g + 1 + 1 + 1, 0, none⟩ = some (.pointer (some ⟨g + 1 + 1, 0, none⟩)) ∧ W.drew.cell? ⟨g + 1 + 1, 0, none⟩ = some (.slice (some ⟨g, 0, none⟩) A.length A.length) ∧ W.drew.cell? ⟨Bx, 0, none⟩ = some (.int .i64 ahd.1) ∧ W.drew.cell? ⟨Bx, 1, none⟩ = some (.int .i64 ahd.2) := ⟨cell_kp (Kp.refl (fun _ => False) W).drew id n0, cell_kp (Kp.refl (fun _ => False) W).drew id m0, cell_kp (Kp.refl (fun _ => False) W).drew id z0, cell_kp (Kp.refl (fun _ => False) W).drew id z1⟩
        refine wpIn_region_heldR (S := fun w' => w'.cell? ⟨g + 1 + 1 + 1, 0, none⟩ = some (.pointer (some ⟨g + 1 + 1, 0, none⟩)) ∧ w'.cell? ⟨g + 1 + 1, 0, none⟩ = some (.slice (some ⟨g, 0, none⟩) A.length A.length) ∧ w'.cell? ⟨Bx, 0, none⟩ = some (.int .i64 ahd.1) ∧ w'.cell? ⟨Bx, 1, none⟩ = some (.int .i64 ahd.2)) (by kernel_rfl) (by kernel_rfl) (fun ⟨_, _, h⟩ => h) hS0 (fun hHeld => ?_)
        clear hS0 n0 m0 m1 z0 z1
        (refine wpAnyH_take (i := 0) (v := ?_) rfl (by kernel_rfl) (by kernel_rfl) (by kernel_rfl) (fun _ _ _ h => h) (Or.inl ⟨by rfl, ?_⟩) (by assumption) ?_; rotate_left; (· ((intro w' hSw); (obtain ⟨s1, s2, s3, s4⟩ := hSw); (try simp only [List.getElem_toArray, List.getElem_cons_zero, List.getElem_cons_succ]); go_simp; (try with_reducible rfl))); (try simp only [Act.put, List.getElem_toArray, List.getElem_cons_zero, List.getElem_cons_succ, List.setIfInBounds_toArray, List.set_cons_zero, List.set_cons_succ]))
        (refine wpAnyH_take (i := 1) (v := ?_) rfl (by kernel_rfl) (by kernel_rfl) (by kernel_rfl) (fun _ _ _ h => h) (Or.inl ⟨by rfl, ?_⟩) (by assumption) ?_; rotate_left; (· ((intro w' hSw); (obtain ⟨s1, s2, s3, s4⟩ := hSw); (try simp only [List.getElem_toArray, List.getElem_cons_zero, List.getElem_cons_succ]); go_simp; (try with_reducible rfl))); (try simp only [Act.put, List.getElem_toArray, List.getElem_cons_zero, List.getElem_cons_succ, List.setIfInBounds_toArray, List.set_cons_zero, List.set_cons_succ]))
        (refine wpAnyH_take (i := 2) (v := ?_) rfl (by kernel_rfl) (by kernel_rfl) (by kernel_rfl) (fun _ _ _ h => h) (Or.inl ⟨by rfl, ?_⟩) (by assumption) ?_; rotate_left; (· ((intro w' hSw); (obtain ⟨s1, s2, s3, s4⟩ := hSw); (try simp only [List.getElem_toArray, List.getElem_cons_zero, List.getElem_cons_succ]); go_simp; (try with_reducible rfl))); (try simp only [Act.put, List.getElem_toArray, List.getElem_cons_zero, List.getElem_cons_succ, List.setIfInBounds_toArray, List.set_cons_zero, List.set_cons_succ]))
        (refine wpAnyH_take (i := 3) (v := ?_) rfl (by kernel_rfl) (by kernel_rfl) (by kernel_rfl) (fun _ _ _ h => h) (Or.inl ⟨by rfl, ?_⟩) (by assumption) ?_; rotate_left; (· ((intro w' hSw); (obtain ⟨s1, s2, s3, s4⟩ := hSw); (try simp only [List.getElem_toArray, List.getElem_cons_zero, List.getElem_cons_succ]); go_simp; (try with_reducible rfl))); (try simp only [Act.put, List.getElem_toArray, List.getElem_cons_zero, List.getElem_cons_succ, List.setIfInBounds_toArray, List.set_cons_zero, List.set_cons_succ]))
        (refine wpAnyH_take (i := 4) (v := ?_) rfl (by kernel_rfl) (by kernel_rfl) (by kernel_rfl) (fun _ _ _ h => h) (Or.inl ⟨by rfl, ?_⟩) (by assumption) ?_; rotate_left; (· ((intro w' hSw); (obtain ⟨s1, s2, s3, s4⟩ := hSw); (try simp only [List.getElem_toArray, List.getElem_cons_zero, List.getElem_cons_succ]); go_simp; (try with_reducible rfl))); (try simp only [Act.put, List.getElem_toArray, List.getElem_cons_zero, List.getElem_cons_succ, List.setIfInBounds_toArray, List.set_cons_zero, List.set_cons_succ]))
        (refine wpAnyH_take (i := 5) (v := ?_) rfl (by kernel_rfl) (by kernel_rfl) (by kernel_rfl) (fun _ _ _ h => h) (Or.inl ⟨by rfl, ?_⟩) (by assumption) ?_; rotate_left; (· ((intro w' hSw); (obtain ⟨s1, s2, s3, s4⟩ := hSw); (try simp only [List.getElem_toArray, List.getElem_cons_zero, List.getElem_cons_succ]); go_simp; (try with_reducible rfl))); (try simp only [Act.put, List.getElem_toArray, List.getElem_cons_zero, List.getElem_cons_succ, List.setIfInBounds_toArray, List.set_cons_zero, List.set_cons_succ]))
        refine wpAnyH_ready (rs := [6]) (by kernel_rfl) (by simp) ?_
        refine AllReadyH.cons rfl (fun K hK => ?_) AllReadyH.nil
        simp only [List.getElem_toArray, List.getElem_cons_zero, List.getElem_cons_succ]
        go_simp
        refine (newH ahd _).mono ?_
        rintro e w5 ⟨nb, rfl, hnb, hnbb, hk5⟩
        have hk6 : KN W w5 := ((Kp.refl (fun _ => False) W).drew).trans hk5 (fun _ h => h.elim)
        have HI5 := Lib.hid (HI2.out.addB hk6 hnb hnbb rfl)
        refine hK.out _ _ ⟨cell_kp hk5 id hHeld.1, cell_kp hk5 id hHeld.2.1, cell_kp hk5 id hHeld.2.2.1, cell_kp hk5 id hHeld.2.2.2⟩ (fun hHeld => ?_)
        have hnew : ∀ e ∈ hs, e.1 ≠ nb := fun e he e2 => by
          obtain ⟨F', hs', _⟩ := HI2.out
          have := (Stars.blkm hs' (g := e.1) (o := cellH e.2.2 0) (by
            have := hd_mem he
            simp only [List.mem_cons]
            exact .inr (.inr (.inr (.inr this))))).2
          have := lt_blk this
          have h0 : W.heap.size ≤ nb := hnb
          omega
        have HC5 := Lib.hid (ci_step HC2.out HQ.out rfl HX.out hnew)
        have HA5 := Lib.hid (HA2.out.set HQ.out (j := 1) (x' := ⟨q.st, some nb⟩) (v := .pointer (some ⟨nb, 0, none⟩)) (by omega) (Pg.len _) rfl)
        have u1 := cell_blk (HI5.out.one.blk 4 rfl).1 (HA2.out.cell HQ.out (j := 1) (by omega))
        have u1' : ∃ v, w5.cell? ⟨g, i * 2 + 1, none⟩ = some v := ⟨_, u1⟩
        obtain ⟨v1, u1'⟩ := u1'
        have uf : w5.frozen? ⟨g, i * 2 + 1, none⟩ = false := free_blk (HI5.out.one.blk 4 rfl).1
        have HE := Lib.hid (And.intro (keepsFrom_setC (B := w4.heap.size) (i := i * 2 + 1) (keepsFrom_kn hk6) (.pointer (some ⟨nb, 0, none⟩)) (show g < w4.heap.size by omega)) (kpg_setC (i := i * 2 + 1) (Kp.toG hk6 (G := G) (fun _ _ h => h)) (.pointer (some ⟨nb, 0, none⟩)) hgg))
        clear hK K hk5 hk6 hnb hnbb u1 hnew
        try simp only [Act.put, List.getElem_toArray, List.getElem_cons_zero, List.getElem_cons_succ, List.setIfInBounds_toArray, List.set_cons_zero, List.set_cons_succ]
        (refine wpAnyH_take (i := 7) (v := ?_) rfl (by kernel_rfl) (by kernel_rfl) (by kernel_rfl) (fun _ _ _ h => h) (Or.inl ⟨by rfl, ?_⟩) (by assumption) ?_; rotate_left; (· ((intro w' hSw); (obtain ⟨s1, s2, s3, s4⟩ := hSw); (try simp only [List.getElem_toArray, List.getElem_cons_zero, List.getElem_cons_succ]); go_simp; (try with_reducible rfl))); (try simp only [Act.put, List.getElem_toArray, List.getElem_cons_zero, List.getElem_cons_succ, List.setIfInBounds_toArray, List.set_cons_zero, List.set_cons_succ]))
        (refine wpAnyH_take (i := 8) (v := ?_) rfl (by kernel_rfl) (by kernel_rfl) (by kernel_rfl) (fun _ _ _ h => h) (Or.inl ⟨by rfl, ?_⟩) (by assumption) ?_; rotate_left; (· ((intro w' hSw); (obtain ⟨s1, s2, s3, s4⟩ := hSw); (try simp only [List.getElem_toArray, List.getElem_cons_zero, List.getElem_cons_succ]); go_simp; (try with_reducible rfl))); (try simp only [Act.put, List.getElem_toArray, List.getElem_cons_zero, List.getElem_cons_succ, List.setIfInBounds_toArray, List.set_cons_zero, List.set_cons_succ]))
        refine wpAnyH_ready (rs := [9]) (by kernel_rfl) (by simp) ?_
        refine AllReadyH.cons rfl (fun K hK => ?_) AllReadyH.nil
        simp only [List.getElem_toArray, List.getElem_cons_zero, List.getElem_cons_succ]
        go_simp
        obtain ⟨s1, s2, s3, s4⟩ := hHeld
        have hn1 : ¬ g = g + 1 + 1 + 1 := by omega
        have hn2 : ¬ g = g + 1 + 1 := by omega
        have hn3 : ¬ g = Bx := fun e => by
          have h1 := (HI2.out.one.blk 3 rfl).1
          rw [e, bX] at h1
          have := Option.some.inj h1
          injection this with _ e2
          cases e2
        refine hK.out _ _ ⟨(World.cell?_setCell_far _ _ _ _ hn1).trans s1, (World.cell?_setCell_far _ _ _ _ hn2).trans s2, (World.cell?_setCell_far _ _ _ _ hn3).trans s3, (World.cell?_setCell_far _ _ _ _ hn3).trans s4⟩ (fun _ => ?_)
        clear hK K s1 s2 s3 s4
        refine wpAnyH_done (by kernel_rfl) ?_ _
        have HI6 := Lib.hid ((HI5.out.setC 4 rfl (j := i * 2 + 1) (.pointer (some ⟨nb, 0, none⟩))).perm (List.perm_middle (a := Blk nb (cellH ((i : Int), ahd).2 0)) (l₁ := [_, _, _, _])).symm)
        gi_wp2
        refine ⟨HE.out.1, HE.out.2, _, (nb, ((i : Int), ahd)) :: hs, _, ⟨HA5.out, ?_⟩, HI6.out⟩
        rw [List.map_append]
        exact HC5.out
      case done =>
        rintro D ys W hD hys ⟨pgs2, hs, arr2, ⟨hA2, hC2⟩, hI⟩ hK
        rw [hys] at hC2
        obtain ⟨n0, _⟩ := cells1 (hI.one.blk 0 rfl).1
        obtain ⟨m0, m1, _, _⟩ := cells2 (hI.one.blk 1 rfl).1
        have hti := HI.out _ hI.one.old
        obtain ⟨c0, c1, _, _⟩ := cells2 hti.tb
        have HL := Lib.hid (fun d os => aload ((kn_regrown W d os).blk hti.ms id))
        have HO5 := Lib.hid (hI.addD hK rfl hD hw4)
        have HC2 := Lib.hid hC2
        have HA2 := Lib.hid hA2
        have e0 := fun d os => cell_regrown (d := d) (os := os) n0
        have e1 := fun d os => cell_regrown (d := d) (os := os) m1
        have e2 := fun d os => cell_regrown (d := d) (os := os) c1
        clear hI hK hys hA2 hC2 hti n0 m0 m1 c0 c1
        go_wp2_with fail
        refine wp_region_below_tail 9 (by kernel_rfl) (by kernel_rfl) ?_
        simp only [List.take_succ_cons, List.take_zero, List.drop_succ_cons, List.drop_zero]
        repeat (go_big_quiet_step (first | (go_at_call 30; exact quiet_same (HL.out _ _))))
        refine wpQuiet_nil ?_
        intro _ hw'
        obtain ⟨⟨dq, osq⟩, hw''⟩ := hw'
        subst hw''
        have HO6 := Lib.hid (HO5.out.kn (kn_regrown W dq osq))
        clear e0 e1 e2 HO5
        generalize grow (redrawn W dq) osq = W7 at *
        go_wp2_with fail
        refine (astore x (HO6.out.blk 3 rfl).1).mono ?_
        rintro e w5 ⟨rfl, rfl⟩
        have HO7 := Lib.hid (HO6.out.setB 3 rfl (atom x))
        obtain ⟨n0, _⟩ := cells1 (HO7.out.blk 1 rfl).1
        have hD7 := (HO7.out.blk 0 rfl).1
        have HO8 := Lib.hid ((HO7.out.setB 0 rfl (.deferred none)).drop.drop)
        clear HO6
        generalize setB W7 (g + 1) (atom x) = W8 at *
        go_wp2_with fail
        refine ⟨by simp, .inl ⟨_, _, rfl, run_takeDeferred hD7, ?_⟩⟩
        refine ⟨.pointer (some ⟨g + 1 + 1, 0, none⟩), by simp [results, Try.results23, go_sem], g + 1 + 1, rfl, ?_⟩
        exact tab_of HO8.out HA2.out HC2.out hm
      case stop =>
        rintro D c pre W hD hpre hI hK
        exact hI.elim
end Go.Proofs.Ytkjkaliblkihmaa

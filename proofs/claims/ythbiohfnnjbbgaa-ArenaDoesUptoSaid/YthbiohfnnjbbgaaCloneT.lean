/- Arenas of texts: Clone. -/
import Derived.Test.YthbiohfnnjbbgaaCloneS
import Derived.Test.YthbiohfnnjbbgaaArenaIm
import Derived.Test.YthbiohfnnjbbgaaRangeX
import Derived.Test.YthbiohfnnjbbgaaRefAr3
import Derived.Test.YthbiohfnnjbbgaaQuietT
import Derived.Test.YthbiohfnnjbbgaaHandL
import Derived.Test.YthbiohfnnjbbgaaSel
namespace Go.Proofs.Ythbiohfnnjbbgaa
set_option linter.unusedVariables false
set_option linter.unusedSimpArgs false
open Go Go.RowKit Go.Shelf Go.Sort
attribute [local go_sem] Oper.semAt_some

/-- Of n flags those that were told. -/
def marks (n : Nat) (pre : List HS) : Array Value := ((List.range n).map fun i : Nat => Value.bool (pre.any fun x => x.1.1 == (i : Int))).toArray
theorem marks_size (n : Nat) (pre : List HS) : (marks n pre).size = n := by simp [marks]
theorem marks_at {n i : Nat} (pre : List HS) (hi : i < n) : (marks n pre)[i]? = some (.bool (pre.any fun x => x.1.1 == (i : Int))) := by
  simp [marks, hi]
theorem marks_nil (n : Nat) : madeCells #[.bool false] (n * 1) = marks n [] := by
  rw [Nat.mul_one, made_one]
  unfold marks
  congr 1
  apply List.ext_getElem?
  intro i
  rw [List.getElem?_replicate, List.getElem?_map]
  by_cases h : i < n
  · rw [if_pos h, List.getElem?_range h]; rfl
  · rw [if_neg h, List.getElem?_eq_none (by simp; omega)]; rfl
theorem marks_snoc {n i : Nat} {pre : List HS} {x : HS} (hx : x.1.1 = (i : Int)) : (marks n pre).setIfInBounds i (.bool true) = marks n (pre ++ [x]) := by
  apply Array.ext_getElem?
  intro j
  by_cases h : j < n
  · rw [marks_at _ h]
    by_cases e : i = j
    · subst e
      rw [Array.getElem?_setIfInBounds_self_of_lt (by rw [marks_size]; exact h)]
      simp [hx]
    · rw [Array.getElem?_setIfInBounds_ne e, marks_at _ h]
      have : (x.1.1 == (j : Int)) = false := by rw [hx, beq_eq_false_iff_ne]; omega
      simp [this]
  · rw [Array.getElem?_eq_none (by simp [marks_size]; omega), Array.getElem?_eq_none (by rw [marks_size]; omega)]
theorem all_mem {l : List (Slot ByteArray)} {x : HS} (h : x ∈ allOf l) : ∃ (i : Nat) (s : Slot ByteArray), l[i]? = some s ∧ s.given = true ∧ x = (((i : Int), s.gen), s.has) := by
  unfold allOf allTo at h
  obtain ⟨i, hi, h2⟩ := List.mem_filterMap.1 h
  cases hs : l[i]? with
  | none => rw [hs] at h2; cases h2
  | some s =>
    rw [hs] at h2
    simp only [Option.bind_some] at h2
    by_cases hg : s.given = true
    · rw [if_pos hg] at h2
      cases h2
      exact ⟨i, s, hs, hg, rfl⟩
    · rw [if_neg hg] at h2; cases h2
theorem mem_all {l : List (Slot ByteArray)} {i : Nat} {s : Slot ByteArray} (h : l[i]? = some s) (hg : s.given = true) : (((i : Int), s.gen), s.has) ∈ allOf l := by
  unfold allOf allTo
  refine List.mem_filterMap.2 ⟨i, List.mem_range.2 (List.getElem?_eq_some_iff.1 h).1, ?_⟩
  rw [h]
  simp [hg]
theorem all_any {l : List (Slot ByteArray)} {i : Nat} (hi : i < l.length) : ((allOf l).any fun x => x.1.1 == (i : Int)) = givenAt l i := by
  obtain ⟨s, hs⟩ : ∃ s, l[i]? = some s := ⟨_, List.getElem?_eq_getElem hi⟩
  rw [given_of hs, Bool.eq_iff_iff, List.any_eq_true]
  constructor
  · rintro ⟨x, hx, e⟩
    obtain ⟨j, s', h1, h2, rfl⟩ := all_mem hx
    have : j = i := by have := beq_iff_eq.1 e; simp only at this; omega
    subst this
    rw [hs] at h1; cases h1
    exact h2
  · intro hg
    exact ⟨_, mem_all hs hg, by simp⟩
/-- The free slots below k. -/
def freeTo (l : List (Slot ByteArray)) (k : Nat) : List Int := ((List.range k).filter fun i => !givenAt l i).map fun i : Nat => (i : Int)
theorem freeTo_all (l : List (Slot ByteArray)) : freeTo l l.length = freeOf l := rfl
theorem freeTo_succ (l : List (Slot ByteArray)) (k : Nat) : freeTo l (k + 1) = if givenAt l k then freeTo l k else freeTo l k ++ [(k : Int)] := by
  unfold freeTo
  rw [List.range_succ, List.filter_append, List.map_append]
  cases h : givenAt l k <;> simp [h]
theorem freeTo_len (l : List (Slot ByteArray)) (k : Nat) : (freeTo l k).length ≤ k := by
  unfold freeTo
  rw [List.length_map]
  exact Nat.le_trans (List.length_filter_le _ _) (by simp)
theorem rl_arr {w : World} {sb cx : Nat} {arr : Array Value} {l : List (Slot ByteArray)} (hb : w.heap[sb]? = some (.cells arr 84)) (ha : Arr enS 3 arr l) : Rl enS 3 w (.slice (some ⟨sb, 0, none⟩) l.length (l.length + cx)) l := by
  refine ⟨_, _, rfl, by omega, .inr ⟨sb, 0, rfl, lt_blk hb, fun i x hx j hj => ?_⟩⟩
  rw [← ha.cell hx hj]
  simp [World.cell?, hb]
def encI (x : Int) : List Value := [.int .i64 x]
theorem encI1 (x : Int) : (encI x).length = 1 := rfl
theorem encI_one (x : Int) : ∀ u ∈ encI x, u.oneCell' = true := by
  intro u hu
  simp only [encI, List.mem_cons, List.not_mem_nil, or_false] at hu
  subst hu; rfl
theorem rl_i {w : World} {g : Nat} {a : Int} {fr : Nat × Nat} {T : TypeId} {cap : Nat} (h : w.heap[g]? = some (.cells #[.int .i64 a] T fr)) (hc : 1 ≤ cap := by decide) : Rl encI 1 w (.slice (some ⟨g, 0, none⟩) 1 cap) [a] := by
  refine ⟨_, cap, rfl, hc, .inr ⟨g, 0, rfl, lt_blk h, fun i x hx j hj => ?_⟩⟩
  match i, hx with
  | 0, hx =>
    simp at hx; subst hx
    match j, hj with
    | 0, _ => exact cell_blk h rfl
theorem encI_at (l : List Int) (j : Nat) : (l.flatMap encI)[j]? = (l[j]?).map (Value.int .i64) := by
  have : l.flatMap encI = l.map (Value.int .i64) := by
    induction l with
    | nil => rfl
    | cons x l ih => rw [List.flatMap_cons, ih]; rfl
  rw [this, List.getElem?_map]
/-- A row of numbers is a window. -/
theorem row_win {E : TypeId} {v : Value} {l : List Int} {w : World} {F : Nat → Prop} (h : (RowA E 1 v l.length (l.flatMap encI)).on w F) : (WinA E v l).on w F := by
  obtain ⟨⟨_, h⟩, rfl⟩ := h
  rcases h with ⟨rfl, h1⟩ | ⟨g, cap, cur, rfl, _, hb, hc, hm, hs, ht⟩
  · have : l = [] := List.length_eq_zero_iff.1 h1
    exact .inl ⟨rfl, this, by funext b; simp [Value.ownBlock]⟩
  · refine .inr ⟨g, 0, cap, cur, rfl, hc, by unfold maxLen at hm; omega, by omega, hb, fun j x hj => ?_, by funext b; simp [Value.ownBlock]; exact eq_comm⟩
    have h2 := encI_at l j
    rw [hj] at h2
    rw [← ht, List.getElem?_take] at h2
    split at h2
    · simpa using h2
    · cases h2
def GaveCl (l : List (Slot ByteArray)) (st : Int) (w : World) (e : Ending) (w' : World) : Prop := ∃ t', e = .returned (.pointer (some ⟨t', 0, none⟩)) ∧ Post (ArS t' l st) (fun _ => False) w w'
set_option maxRecDepth 100000 in
set_option maxHeartbeats 8000000 in
theorem clone_in {t : Nat} {l : List (Slot ByteArray)} {st : Int} {w : World} {F : Nat → Prop} (h : (ArS t l st).on w F) (h0 : 0 < l.length) (hm : l.length ≤ 65536) : CallsIn Fence.wide 3 Try.prog 26 #[.pointer (some ⟨t, 0, none⟩)] w (GaveCl l st w) := by
  obtain ⟨sb, m, cx, v, arr, ha, hp⟩ := ar_here_S h
  have HC := Lib.hid (fun (W : World) (k : KN w W) => none_S (hp.kn k))
  have HAt := Lib.hid (fun (W : World) (k : KN w W) => And.intro (hp.kn k).atS.1.1 (And.intro (hp.kn k).atS.1.2.2 (hp.kn k).atS.2.2.2))
  have HRl := Lib.hid (fun (W : World) (k : KN w W) => rl_arr (cx := cx) ((hp.kn k).blk 1 rfl) ha)
  have HAll := Lib.hid (fun (W : World) (k : KN w W) => all_a ((ArS t l st).kn h k) hm)
  clear h ha hp
  refine callsIn_of_wp_marks Try.func26 rfl trivial ?_ rfl
  simp only [Try.ntmps26, List.size_toArray, List.length_cons, List.length_nil, Nat.reduceAdd, Nat.reduceSub, Array.replicate_succ, Array.replicate_zero, List.push_toArray, List.append_toArray, List.nil_append, List.cons_append]
  refine wpIn_wide.2 ?_
  go_wp2_with fail
  refine (HC.out _ (Kp.refl _ _)).mono ?_
  rintro e w' ⟨rfl, rfl⟩
  obtain ⟨c0, c2, hb⟩ := HAt.out _ (Kp.refl _ _)
  clear hb
  go_wp2_with fail
  refine (sclone_S (HRl.out _ (Kp.refl _ _)) h0 hm).mono ?_
  rintro e w1 ⟨g, c1, cur, rfl, hcur, hp1⟩
  have HO1 := Lib.hid ((One.nil w).add hp1)
  have HCur := Lib.hid hcur
  clear hp1 hcur c0 c2
  have HO2 := Lib.hid (HO1.out.alloc2 (atom 0) (.cells #[.slice (some ⟨g, 0, none⟩) l.length (l.length + c1), .slice none 0 0, .pointer (some ⟨w1.heap.size, 0, none⟩)] 61))
  clear HO1
  go_upto_region 4 with fail
  generalize (w1.alloc (.cells #[.int .i64 0] 71)).alloc (.cells #[.slice (some ⟨g, 0, none⟩) l.length (l.length + c1), .slice none 0 0, .pointer (some ⟨w1.heap.size, 0, none⟩)] 61) = w2 at *
  generalize w1.heap.size = g0 at *
  obtain ⟨c0, _⟩ := HAt.out _ HO2.out.old
  have hmk : (Instr.makeSlice 87 (.int .i64 (l.length : Int)) (.int .i64 (l.length : Int))).run Try.prog w2 = .ok (.slice (some ⟨w2.heap.size, 0, none⟩) l.length l.length) (w2.alloc (.cells (marks l.length []) 4)) := by
    rw [← marks_nil]
    exact run_mk elt_Bo l.length (by omega) (by omega)
  go_upto_region 5 with fail
  have HO3 := Lib.hid (HO2.out.alloc2 (.cells (marks l.length []) 4) (.cells #[.slice (some ⟨w2.heap.size, 0, none⟩) l.length l.length] 87))
  clear HO2 c0 hmk
  generalize (w2.alloc (.cells (marks l.length []) 4)).alloc (.cells #[.slice (some ⟨w2.heap.size, 0, none⟩) l.length l.length] 87) = w3 at *
  generalize w2.heap.size = gb at *
  go_wp2_with fail
  refine (HAll.out _ HO3.out.old).mono ?_
  rintro e w4 ⟨b1, b2, rfl, G, hA, k1, hG⟩
  have hgb : ¬ G gb := fun h => by
    have := lt_blk (HO3.out.blk 1 rfl).1
    rcases hG gb h with h | h
    · exact h
    · omega
  have HO4 := Lib.hid (HO3.out.kn k1)
  have HSEQ := Lib.hid (all_stopsM Fence.wide 2 trivial rfl (by omega) b1 b2 G (allOf l) (by have := all_le l l.length; unfold allOf; omega) w4 hA)
  have hgb4 : gb + 1 < w4.heap.size := lt_blk (HO4.out.blk 0 rfl).1
  have hw4 : w.heap.size ≤ w4.heap.size := HO4.out.old.size
  have HF0 := Lib.hid HO4.out.loopF
  have hGl := hA.2
  clear HO3 hA hG k1 HC HAll HRl
  go_wp2_with fail
  refine (wpIn_wide (n := 3)).1 ?_
  refine wpIn_rangeFunc_ownH rfl (show 1 ≤ 3 by omega) (gf := 52) (lb := #[.pointer (some ⟨b1, 0, none⟩), .pointer (some ⟨b2, 0, none⟩)]) rfl trivial (enters_of Try.func52 (by kernel_rfl) rfl)
    HSEQ.out KpG.trans (KpG.put (G := G) hGl) (Below.refl _ _) (fun _ => rfl)
    (fun pre W => OneF w4.heap.size w W [Blk (gb + 1) (.cells #[.slice (some ⟨gb, 0, none⟩) l.length l.length] 87), Blk gb (.cells (marks l.length (pre.map (·.1))) 4), Blk (g0 + 1) (.cells #[.slice (some ⟨g, 0, none⟩) l.length (l.length + c1), .slice none 0 0, .pointer (some ⟨g0, 0, none⟩)] 61), Blk g0 (atom 0), Blk g (.cells cur 84)])
    (fun c pre W => False)
    (oneF_own hw4 _)
    (fun c s W W' row hs hg hr => hs.elim)
    HF0.out
    (fun x a' W => ∃ Bx, W.heap[Bx]? = some (.cells #[.int .i64 x.1.1.1, .int .i64 x.1.1.2] 30) ∧ a' = { tmps := #[.pointer (some ⟨t, 0, none⟩), undef, .pointer none, .pointer (some ⟨g0 + 1, 0, none⟩), .pointer (some ⟨gb + 1, 0, none⟩), .pointer (some ⟨Bx, 0, none⟩), undef, undef, .pointer (some ⟨t, 0, none⟩), .bool false, .pointer (some ⟨t, 0, none⟩), .pointer (some ⟨t, 0, none⟩), .pointer (some ⟨t, 0, none⟩), .slice (some ⟨sb, 0, none⟩) l.length (l.length + cx), .slice (some ⟨g, 0, none⟩) l.length (l.length + c1), .agg #[.int .i64 0], .pointer (some ⟨g0, 0, none⟩), .agg #[.slice (some ⟨g, 0, none⟩) l.length (l.length + c1), .slice none 0 0, .pointer (some ⟨g0, 0, none⟩)], .pointer (some ⟨g0 + 1, 0, none⟩), .pointer (some ⟨t, 0, none⟩), .pointer (some ⟨t, 0, none⟩), .pointer (some ⟨t, 0, none⟩), .slice (some ⟨sb, 0, none⟩) l.length (l.length + cx), .int .i64 l.length, .slice (some ⟨gb, 0, none⟩) l.length l.length, .pointer (some ⟨t, 0, none⟩), .func (.func 52) #[] #[.pointer (some ⟨b1, 0, none⟩), .pointer (some ⟨b2, 0, none⟩)], hv x.1.1, .string x.1.2, undef, undef, undef, undef, undef, undef, undef, undef, undef, undef, undef, undef, undef, undef, undef, undef, undef, undef, undef, undef, undef, undef, undef, undef, undef, undef, undef, undef, undef, undef, undef, undef, undef, undef, undef], defers := [] })
    (fun x a' _ X Y row hs hg hr => by
      obtain ⟨Bx, h2, h3⟩ := hs
      refine ⟨Bx, (hg.block Bx (lt_blk h2) (fun e => ?_)).trans h2, h3⟩
      obtain ⟨_, o, ho, hc⟩ := hr Bx e.symm
      rw [h2] at ho; cases ho; cases hc)
    ?assign ?body ?done ?stop
  case assign =>
    intro lo pre x W K hI hK
    gi_wp2
    exact hK _ _ (keepsFrom_kn (kn_alloc _ _)) (kpg_alloc _ _) (hI.kn (kn_alloc _ _)) ⟨W.heap.size, heap_alloc_same _ _, rfl⟩
  case body =>
    rintro lo pre x a' W hl ⟨r, hr⟩ hI ⟨Bx, bX, rfl⟩ hlt
    obtain ⟨i, s, hs1, hs2, hx⟩ := all_mem x.2
    have hil := (List.getElem?_eq_some_iff.1 hs1).1
    obtain ⟨x, hxm⟩ := x
    simp only at hx bX
    subst hx
    simp only at bX
    obtain ⟨z0, z1, _, _⟩ := cells2 bX
    obtain ⟨n0, f0⟩ := cells1 (hI.one.blk 0 rfl).1
    obtain ⟨m0, mf⟩ : (∃ u, W.cell? ⟨gb, i, none⟩ = some u) ∧ W.frozen? ⟨gb, i, none⟩ = false := ⟨⟨_, cell_blk (hI.one.blk 1 rfl).1 (marks_at _ hil)⟩, free_blk (hI.one.blk 1 rfl).1⟩
    obtain ⟨u, m0⟩ := m0
    have HI := Lib.hid hI
    have hi0 : (0 : Int) ≤ (i : Int) := by omega
    have hi1 : (i : Int) < (l.length : Int) := by omega
    clear hI hr
    gi_wp2
    refine ⟨keepsFrom_setC (keepsFrom_kn (Kp.refl _ _)) _ (by omega), kpg_setC (KpG.refl _ _) _ hgb, ?_⟩
    have hq := HI.out.setC 1 rfl (j := i) (.bool true)
    rw [marks_snoc (x := (((i : Int), s.gen), s.has)) rfl] at hq
    simpa using hq
  case done =>
    rintro D ys W hD hys hI hK
    rw [hys] at hI
    have HI := Lib.hid (hI.addD hK rfl hD hw4)
    clear hI hK
    obtain ⟨n0, f0⟩ := cells1 (HI.out.blk 1 rfl).1
    go_wp2_with fail
    have HS := Lib.hid (((HI.out.perm (List.Perm.swap _ _ _)).drop).nilRow 3 1)
    clear HI n0 f0 hys
    go_loopw [35] (fun i wr => ∃ (n : Nat) (a3 : Option Addr) (c3 : Nat), n ≤ l.length ∧ i = .int .i64 n ∧ Hid (One w wr [RowA 3 1 (.slice a3 (freeTo l n).length c3) (freeTo l n).length ((freeTo l n).flatMap encI), Blk D (.deferred (some [])), Blk gb (.cells (marks l.length (allOf l)) 4), Blk (g0 + 1) (.cells #[.slice (some ⟨g, 0, none⟩) l.length (l.length + c1), .slice a3 (freeTo l n).length c3, .pointer (some ⟨g0, 0, none⟩)] 61), Blk g0 (atom 0), Blk g (.cells cur 84)])) (fun i _ => l.length - (intOf i).toNat)
    case atStart => exact ⟨0, none, 0, Nat.zero_le _, rfl, HS⟩
    case round =>
      clear HS
      obtain ⟨n, a3, c3, hn, rfl, HO⟩ := hrel
      by_cases hlt : n < l.length
      · have m0 : wr.cell? ⟨gb, n, none⟩ = some (.bool (givenAt l n)) := by
          rw [← all_any hlt]
          exact cell_blk (HO.out.blk 2 rfl).1 (marks_at _ hlt)
        have HF := Lib.hid (freeTo_succ l n)
        have hfl := freeTo_len l n
        have hn0 : (0 : Int) ≤ (n : Int) := by omega
        have hn1 : (n : Int) < (l.length : Int) := by omega
        cases hg : givenAt l n with
        | true =>
          rw [hg] at HF m0
          clear hg
          simp only [if_true] at HF
          go_wp2_with fail
          go_roundw
          case rel => exact ⟨n + 1, a3, c3, by omega, by go_num, by rw [HF.out]; exact HO⟩
          case measure => simp [intOf]; omega
        | false =>
          rw [hg] at HF m0
          clear hg
          simp only [Bool.false_eq_true, if_false] at HF
          generalize freeTo l n = xs at *
          obtain ⟨q0, q1, q2, _, qf, _⟩ := cells3 (HO.out.blk 3 rfl).1
          have HA := Lib.hid ((HO.out.alloc (.cells #[.int .i64 n] 3)).appP (P := Try.prog) (m := [(n : Int)]) elt_iS 22 1 rfl encI1 (rl_i (heap_alloc_same _ _) (cap := 1)) encI_one (by unfold maxLen; simp only [List.length_singleton]; omega) (by simp only [List.length_singleton]; omega))
          simp only [List.length_singleton, List.set_cons_zero, List.set_cons_succ] at HA
          go_wp2_with (at_builtin; refine wpList_appX 49 rfl rfl rfl rfl (v := .slice a3 xs.length c3) (s := .slice (some ⟨wr.heap.size, 0, none⟩) 1 1) rfl rfl HA.out ?_; rintro r w5 ⟨a4, c4, rfl, ho⟩; have HO4 := Lib.hid ho.drop; obtain ⟨p0, p1, p2, _, pf, _⟩ := cells3 (HO4.out.blk 3 rfl).1; clear ho)
          have HO5 := Lib.hid (HO4.out.setCA 3 rfl (j := 1) (.slice a4 (xs.length + 1) c4))
          go_roundw
          case rel =>
            refine ⟨n + 1, a4, c4, by omega, by go_num, ?_⟩
            rw [HF.out, List.length_append, List.flatMap_append]
            exact HO5
          case measure => simp [intOf]; omega
      · obtain rfl : n = l.length := by omega
        obtain ⟨c0, c2, hb⟩ := HAt.out _ HO.out.old
        have HL := Lib.hid (fun d os => aload ((kn_regrown wr d os).blk hb id))
        obtain ⟨q0, q1, q2, _, qf, _⟩ := cells3 (HO.out.blk 3 rfl).1
        have c2r := fun d os => cell_regrown (d := d) (os := os) c2
        have q2r := fun d os => cell_regrown (d := d) (os := os) q2
        clear hb
        go_wp2_with fail
        refine wp_region_below_tail 9 (by kernel_rfl) (by kernel_rfl) ?_
        simp only [List.take_succ_cons, List.take_zero, List.drop_succ_cons, List.drop_zero]
        repeat (go_big_quiet_step (first | (go_at_call 34; exact quiet_same (HL.out _ _))))
        refine wpQuiet_nil ?_
        intro _ hw'
        obtain ⟨⟨dq, osq⟩, hw''⟩ := hw'
        subst hw''
        go_wp2_with fail
        have HO6 := Lib.hid (HO.out.kn (kn_regrown wr dq osq))
        refine (astore st (HO6.out.blk 4 rfl).1).mono ?_
        rintro e w5 ⟨rfl, rfl⟩
        have HO7 := Lib.hid ((HO6.out.setB 4 rfl (atom st)).setB 1 rfl (.deferred none))
        have hD := (HO6.out.setB 4 rfl (atom st)).blk 1 rfl
        go_wp2_with fail
        refine ⟨by simp, .inl ⟨_, _, rfl, run_takeDeferred hD.1, ?_⟩⟩
        refine ⟨.pointer (some ⟨g0 + 1, 0, none⟩), by simp [results, Try.results26, go_sem], g0 + 1, rfl, ?_⟩
        have H8 := One.imp HO7.out (fun F h => row_win h)
        have H9 := (H8.sel [3, 4, 0, 2] rfl).postAll
        exact H9.imp fun F' h' => ⟨g, g0, c1, _, cur, HCur.out, h'⟩
  case stop =>
    rintro D c pre W hD hpre hI hK
    exact hI.elim
end Go.Proofs.Ythbiohfnnjbbgaa

/- The pair: told. -/
import Derived.Test.YthbiohfnnjbbgaaCloneT
import Derived.Test.YthbiohfnnjbbgaaNextA
import Derived.Test.YthbiohfnnjbbgaaRoundW
import Derived.Test.YthbiohfnnjbbgaaStaleX
namespace Go.Proofs.Ythbiohfnnjbbgaa
set_option linter.unusedVariables false
set_option linter.unusedSimpArgs false
open Go Go.RowKit Go.Shelf Go.Sort
attribute [local go_sem] Oper.semAt_some

theorem One.alloc5 {w0 w : World} {l : List Asr} (h : One w0 w l) (o1 o2 o3 o4 o5 : Obj) : One w0 (((((w.alloc o1).alloc o2).alloc o3).alloc o4).alloc o5) (Blk (w.heap.size + 1 + 1 + 1 + 1) o5 :: Blk (w.heap.size + 1 + 1 + 1) o4 :: Blk (w.heap.size + 1 + 1) o3 :: Blk (w.heap.size + 1) o2 :: Blk w.heap.size o1 :: l) := by
  have := ((((h.alloc o1).alloc o2).alloc o3).alloc o4).alloc o5
  simpa using this
theorem allTo_pre (l : List (Slot ByteArray)) (m : Nat) : ∀ n, m ≤ n → n ≤ l.length → allTo l m <+: allTo l n := by
  intro n
  induction n with
  | zero => intro h _; obtain rfl : m = 0 := by omega
            exact List.prefix_refl _
  | succ n ih =>
    intro h hl
    by_cases e : m = n + 1
    · subst e; exact List.prefix_refl _
    · have h1 := ih (by omega) (by omega)
      obtain ⟨s, hs⟩ : ∃ s, l[n]? = some s := ⟨_, List.getElem?_eq_getElem (by omega)⟩
      rw [all_step hs]
      split
      · exact h1.trans (List.prefix_append _ _)
      · exact h1
/-- The next one that is told. -/
theorem next_ex (l : List (Slot ByteArray)) (k : Nat) (hk : k < (allOf l).length) : ∀ (d j : Nat), l.length - j = d → j ≤ l.length → (allTo l j).length = k →
    ∃ (i : Nat) (s : Slot ByteArray), j ≤ i ∧ l[i]? = some s ∧ s.given = true ∧ (∀ (m : Nat) (y : Slot ByteArray), j ≤ m → m < i → l[m]? = some y → y.given = false) ∧ (allOf l)[k]? = some (((i : Int), s.gen), s.has) ∧ (allTo l (i + 1)).length = k + 1 := by
  intro d
  induction d with
  | zero =>
    intro j hd hj hl
    obtain rfl : j = l.length := by omega
    unfold allOf at hk
    omega
  | succ d ih =>
    intro j hd hj hl
    obtain ⟨s, hs⟩ : ∃ s, l[j]? = some s := ⟨_, List.getElem?_eq_getElem (by omega)⟩
    have hst := all_step hs
    cases hg : s.given with
    | true =>
      rw [hg, if_pos rfl] at hst
      refine ⟨j, s, Nat.le_refl _, hs, hg, fun m y h1 h2 => by omega, ?_, by rw [hst]; simp [hl]⟩
      have hp := allTo_pre l (j + 1) l.length (by omega) (Nat.le_refl _)
      rw [hst] at hp
      obtain ⟨t, ht⟩ := hp
      unfold allOf
      rw [← ht, List.append_assoc, List.getElem?_append_right (by omega), hl]
      simp
    | false =>
      rw [hg] at hst
      simp only [Bool.false_eq_true, if_false] at hst
      obtain ⟨i, s', h1, h2, h3, h4, h5, h6⟩ := ih (j + 1) (by omega) (by omega) (by rw [hst]; exact hl)
      refine ⟨i, s', by omega, h2, h3, fun m y hm1 hm2 hy => ?_, h5, h6⟩
      by_cases e : m = j
      · subst e; rw [hs] at hy; cases hy; exact hg
      · exact h4 m y (by omega) hm2 hy
theorem all_cnt (l : List (Slot ByteArray)) : ∀ j, j ≤ l.length → (allTo l j).length = cntTo l j := by
  intro j
  induction j with
  | zero => intro _; rfl
  | succ j ih =>
    intro h
    obtain ⟨s, hs⟩ : ∃ s, l[j]? = some s := ⟨_, List.getElem?_eq_getElem (by omega)⟩
    rw [all_step hs, cntTo_succ l hs, ← ih (by omega)]
    split <;> simp
theorem all_live {L R : Rs} (h : Same4 L R) : ((allOf L).length : Int) = (R.length : Int) - ((freeOf R).length : Int) := by
  have h1 := all_cnt L L.length (Nat.le_refl _)
  have h2 := cntTo_all L
  rw [← h.free, ← h.len]
  unfold allOf
  omega
theorem not_preH {xs pre : List HS} {x y : HS} (hy : xs[pre.length]? = some y) (h : x ≠ y) : ¬ (pre ++ [x] <+: xs) := by
  rintro ⟨t, rfl⟩
  simp at hy
  exact h hy
theorem keepsFrom_on {B : Nat} {W X Y : World} (h : KeepsFrom B W X) (k : KN X Y) : KeepsFrom B W Y :=
  ⟨Nat.le_trans h.size k.size, fun i o hB hi ho => (k.block i (lt_blk (h.same i o hB hi ho |>.trans (by first | rfl | exact hi))) id).trans (h.same i o hB hi ho)⟩
set_option maxRecDepth 100000 in
set_option maxHeartbeats 8000000 in
theorem told_in (b1 b2 p t r : Nat) (v : Value) (L R : Rs) (st stop : Int) (hS : Same4 L R) (hm : L.length ≤ 65536) (w : World) (G F : Nat → Prop) (hA : (AllA b1 b2 (allOf L)).on w G) (hp : w.heap[p]? = some (prO t r v)) (hr : (RfA r R st).on w F) :
    CallsIn Fence.wide 3 Try.prog 41 #[.pointer (some ⟨p, 0, none⟩), .func (.func 52) #[] #[.pointer (some ⟨b1, 0, none⟩), .pointer (some ⟨b2, 0, none⟩)], .int .i64 stop] w fun e W' => e = .returned (.bool true) ∧ Below w.heap.size w W' := by
  have hxl : (allOf L).length ≤ 65536 := by have := all_le L L.length; unfold allOf; omega
  have HSEQ := Lib.hid (all_stops Fence.wide 2 trivial rfl (by omega) b1 b2 G (allOf L) (by omega) w hA)
  have HPr := Lib.hid (fun (W : World) (k : KN w W) => k.blk hp id)
  have HRf := Lib.hid (fun (W : World) (k : KN w W) => (RfA r R st).keep hr k (fun _ _ h => h))
  have HSm := Lib.hid hS
  have hlen := hS.len
  have HGl := Lib.hid hA.2
  clear hA hp hr
  have HO := Lib.hid ((One.nil w).alloc5 (.cells #[.pointer (some ⟨p, 0, none⟩)] 52) (.cells #[.int .i64 stop] 3) (.cells #[.bool false] 4) (.cells #[.int .i64 0] 3) (.cells #[.int .i64 0] 3))
  refine callsIn_of_wp_marks Try.func41 rfl trivial ?_ rfl
  simp only [Try.ntmps41, List.size_toArray, List.length_cons, List.length_nil, Nat.reduceAdd, Nat.reduceSub, Array.replicate_succ, Array.replicate_zero, List.push_toArray, List.append_toArray, List.nil_append, List.cons_append]
  gi_wp2_with fail
  have HF0 := Lib.hid HO.out.loopF
  have hBel := HO.out.old.below
  have HG4 := Lib.hid (fun i (hi : w.heap.size ≤ i) (hh : G i) => show False from absurd (HGl.out i hh) (by omega))
  obtain ⟨W0, hW0⟩ : ∃ W0, ((((w.alloc (.cells #[.pointer (some ⟨p, 0, none⟩)] 52)).alloc (.cells #[.int .i64 stop] 3)).alloc (.cells #[.bool false] 4)).alloc (.cells #[.int .i64 0] 3)).alloc (.cells #[.int .i64 0] 3) = W0 := ⟨_, rfl⟩
  rw [hW0] at HF0 hBel ⊢
  have hsz : W0.heap.size = w.heap.size + 5 := by rw [← hW0]; simp
  clear hW0 HO
  refine wpIn_rangeFunc_ownH rfl (show 1 ≤ 3 by omega) (gf := 52) (lb := #[.pointer (some ⟨b1, 0, none⟩), .pointer (some ⟨b2, 0, none⟩)]) rfl trivial (enters_of Try.func52 (by kernel_rfl) rfl)
    HSEQ.out KpG.trans (KpG.put (G := G) (fun i hi => by have := HGl.out i hi; omega)) hBel (fun _ => rfl)
    (fun pre W => ∃ j : Nat, (j ≤ L.length ∧ (allTo L j).length = pre.length) ∧ OneF W0.heap.size w W [Blk (w.heap.size + 1 + 1 + 1 + 1) (.cells #[.int .i64 (j : Nat)] 3), Blk (w.heap.size + 1 + 1 + 1) (.cells #[.int .i64 (pre.length : Nat)] 3), Blk (w.heap.size + 1 + 1) (.cells #[.bool false] 4), Blk (w.heap.size + 1) (.cells #[.int .i64 stop] 3), Blk w.heap.size (.cells #[.pointer (some ⟨p, 0, none⟩)] 52)])
    (fun c pre W => c = Code.ret ∧ ∃ (av nv : Int) (bv : Bool), (pre <+: allOf L → bv = true) ∧ OneF W0.heap.size w W [Blk (w.heap.size + 1 + 1 + 1 + 1) (.cells #[.int .i64 av] 3), Blk (w.heap.size + 1 + 1 + 1) (.cells #[.int .i64 nv] 3), Blk (w.heap.size + 1 + 1) (.cells #[.bool bv] 4), Blk (w.heap.size + 1) (.cells #[.int .i64 stop] 3), Blk w.heap.size (.cells #[.pointer (some ⟨p, 0, none⟩)] 52)])
    (fun s W W' row hs hg hr => let ⟨j, h1, h2⟩ := hs; ⟨j, h1, oneF_own (β := Unit) (by omega) (fun _ => [Blk (w.heap.size + 1 + 1 + 1 + 1) (.cells #[.int .i64 (j : Nat)] 3), Blk (w.heap.size + 1 + 1 + 1) (.cells #[.int .i64 (s.length : Nat)] 3), Blk (w.heap.size + 1 + 1) (.cells #[.bool false] 4), Blk (w.heap.size + 1) (.cells #[.int .i64 stop] 3), Blk w.heap.size (.cells #[.pointer (some ⟨p, 0, none⟩)] 52)]) () W W' row h2 hg hr⟩)
    (fun c s W W' row hs hg hr => ⟨hs.1, let ⟨av, nv, bv, hb, h⟩ := hs.2; ⟨av, nv, bv, hb, oneF_own (β := Unit) (by omega) (fun _ => [Blk (w.heap.size + 1 + 1 + 1 + 1) (.cells #[.int .i64 av] 3), Blk (w.heap.size + 1 + 1 + 1) (.cells #[.int .i64 nv] 3), Blk (w.heap.size + 1 + 1) (.cells #[.bool bv] 4), Blk (w.heap.size + 1) (.cells #[.int .i64 stop] 3), Blk w.heap.size (.cells #[.pointer (some ⟨p, 0, none⟩)] 52)]) () W W' row h hg hr⟩⟩)
    ⟨0, ⟨Nat.zero_le _, rfl⟩, HF0.out⟩
    (fun x a' W => ∃ Bx, w.heap.size ≤ Bx ∧ W.heap[Bx]? = some (.cells #[.int .i64 x.1.1, .int .i64 x.1.2] 30) ∧ a' = { tmps := #[.pointer (some ⟨p, 0, none⟩), .func (.func 52) #[] #[.pointer (some ⟨b1, 0, none⟩), .pointer (some ⟨b2, 0, none⟩)], .int .i64 stop, .pointer (some ⟨w.heap.size, 0, none⟩), undef, .pointer (some ⟨w.heap.size + 1, 0, none⟩), .pointer (some ⟨w.heap.size + 1 + 1, 0, none⟩), .pointer (some ⟨w.heap.size + 1 + 1 + 1, 0, none⟩), .pointer (some ⟨w.heap.size + 1 + 1 + 1 + 1, 0, none⟩), .pointer (some ⟨Bx, 0, none⟩), .string x.2, undef, undef, undef, .func (.func 52) #[] #[.pointer (some ⟨b1, 0, none⟩), .pointer (some ⟨b2, 0, none⟩)], hv x.1, .string x.2, undef, undef, undef, undef, undef, undef, undef, undef, undef, undef, undef, undef, undef, undef, undef, undef, undef, undef, undef, undef, undef, undef, undef, undef, undef, undef, undef, undef, undef, undef, undef, undef, undef, undef, undef, undef, undef, undef, undef, undef, undef, undef], defers := [] })
    (fun x a' _ X Y row hs hg hr => by
      obtain ⟨Bx, h1, h2, h3⟩ := hs
      refine ⟨Bx, h1, (hg.block Bx (lt_blk h2) (fun e => ?_)).trans h2, h3⟩
      obtain ⟨_, o, ho, hc⟩ := hr Bx e.symm
      rw [h2] at ho; cases ho; cases hc)
    ?assign ?body ?done ?stop
  case assign =>
    rintro lo pre x W K ⟨j, hj, hI⟩ hK
    have hB := hI.one.old.below
    gi_wp2
    exact hK _ _ (keepsFrom_kn (kn_alloc _ _)) (kpg_alloc _ _) ⟨j, hj, hI.kn (kn_alloc _ _)⟩ ⟨W.heap.size, hB.size, heap_alloc_same _ _, rfl⟩
  case body =>
    rintro lo pre x a' W hl ⟨rc, hr⟩ ⟨j, ⟨hj1, hj2⟩, hI⟩ ⟨Bx, hBx, bX, rfl⟩ hlt
    obtain ⟨i, s, hji, hs1, hs2, hno, hxk, hnx⟩ := next_ex L pre.length hlt _ j rfl hj1 hj2
    obtain ⟨y, hy1, hy2, hy3, hy4⟩ := HSm.out.to hs1
    have hil := (List.getElem?_eq_some_iff.1 hs1).1
    have hyh := hy4 hs2
    have HN := Lib.hid (fun (W' : World) (k : KN w W') => next_p (n := i) (j := j) (HPr.out W' k) (HRf.out W' k) hy1 (by rw [← hy2]; exact hs2) hji (fun m z h1 h2 hz => by
      obtain ⟨u, hu⟩ : ∃ u, L[m]? = some u := ⟨_, List.getElem?_eq_getElem (by omega)⟩
      obtain ⟨z2, hz2, e, _⟩ := HSm.out.to hu
      rw [hz] at hz2; cases hz2
      rw [← e]; exact hno m u h1 h2 hu) (by omega))
    have HAt := Lib.hid (fun (W' : World) (k : KN w W') => at_r (HRf.out W' k) hy1)
    rw [← hy3, ← hyh, ← hy2, hs2] at HAt
    have HSl := Lib.hid (fun (W' : World) (k : KN w W') => slots_r (HRf.out W' k))
    have hpb := HPr.out _ hI.one.old
    obtain ⟨q0, q1, q2, _⟩ := cells3 hpb
    obtain ⟨n0, f0⟩ := cells1 (hI.one.blk 0 rfl).1
    obtain ⟨n1, f1⟩ := cells1 (hI.one.blk 1 rfl).1
    obtain ⟨n2, f2⟩ := cells1 (hI.one.blk 2 rfl).1
    obtain ⟨n3, f3⟩ := cells1 (hI.one.blk 3 rfl).1
    obtain ⟨n4, f4⟩ := cells1 (hI.one.blk 4 rfl).1
    obtain ⟨c0, c1, _, _⟩ := cells2 bX
    have HI := Lib.hid hI
    have HY := Lib.hid (And.intro hxk hnx)
    have hi0 : ¬ ((R.length : Int) ≤ (i : Int)) := by omega
    have hi1 : decide ((R.length : Int) ≤ (i : Int)) = false := by simp; omega
    clear hI hr hs1 hs2 hno hxk hnx hy1 hy2 hy3 hy4 hyh hpb hj2
    gi_wp2_with fail
    refine ⟨trivial, ?_⟩
    refine (((callsIn_wide (n := 0)).2 (HN.out _ HI.out.one.old)).inRound lo).mono ?_
    rintro e w1 ⟨rfl, hk1⟩
    have HI1 := Lib.hid (HI.out.kn hk1)
    have HKf := Lib.hid (keepsFrom_kn (B := W0.heap.size) hk1)
    have HKg := Lib.hid (Kp.toG hk1 (G := G) (fun _ _ h => h))
    have HB1 := Lib.hid (hk1.blk bX id)
    clear n0 f0 n1 f1 n2 f2 n3 f3 n4 f4 c0 c1 q0 q1 q2 HI bX
    obtain ⟨n0, f0⟩ := cells1 (HI1.out.one.blk 0 rfl).1
    gi_wp2_with fail
    have HI2 := Lib.hid (HI1.out.setC 0 rfl (j := 0) (.int .i64 i))
    simp only [List.set_cons_zero] at HI2
    have HKf2 := Lib.hid (keepsFrom_setC (i := 0) HKf.out (.int .i64 i) (show w.heap.size + 1 + 1 + 1 + 1 < W0.heap.size by omega))
    have HKg2 := Lib.hid (kpg_setC (i := 0) HKg.out (.int .i64 i) (fun hh => HG4.out (w.heap.size + 1 + 1 + 1 + 1) (by omega) hh))
    have HB2 := Lib.hid ((setCell_other (w := w1) (p := ⟨w.heap.size + 1 + 1 + 1 + 1, 0, none⟩) (v := .int .i64 i) (b := Bx) (fun e => by
      have h1 := (HI1.out.one.blk 0 rfl).1
      rw [← show Bx = w.heap.size + 1 + 1 + 1 + 1 from e, HB1.out] at h1
      simp at h1)).trans HB1.out)
    clear HI1 HKf HKg HB1 n0 f0 hk1
    generalize w1.setCell ⟨w.heap.size + 1 + 1 + 1 + 1, 0, none⟩ (.int .i64 i) = w2 at *
    obtain ⟨q0, q1, q2, _⟩ := cells3 (HPr.out _ HI2.out.one.old)
    obtain ⟨n0, f0⟩ := cells1 (HI2.out.one.blk 0 rfl).1
    obtain ⟨n1, f1⟩ := cells1 (HI2.out.one.blk 1 rfl).1
    obtain ⟨n4, f4⟩ := cells1 (HI2.out.one.blk 4 rfl).1
    have hsq := fun nq => (callsIn_wide (n := 0)).2 (quiet_l (n := nq) (HSl.out _ (HI2.out.one.old.trans ((Kp.refl (fun _ => False) w2).drewN nq) (fun _ h => h.elim))))
    refine wpIn_region_quietR (by kernel_rfl) (by kernel_rfl) (by kernel_rfl) ?_
    have hfw : ∀ f, Fence.wide.fn f = True := fun _ => rfl
    repeat (gi_big_quiet_step ((gi_at_call 42; exact (hsq _).inRound lo)))
    refine wpQuietIn_nil ?_
    intro _ hw'
    obtain ⟨nq, hw''⟩ := hw'
    subst hw''
    gi_wp2_with fail
    have HKn3 := Lib.hid (((Kp.refl (fun _ => False) w2).drewN nq).drew)
    have HI3 := Lib.hid (HI2.out.kn HKn3.out)
    have HKf3 := Lib.hid (keepsFrom_on HKf2.out HKn3.out)
    have HKg3 := Lib.hid (HKg2.out.trans (Kp.toG HKn3.out (G := G) (fun _ _ h => h)))
    have HB3 := Lib.hid (HKn3.out.blk HB2.out id)
    have hHeld0 : (w2.drewN nq).drew.cell? ⟨w.heap.size, 0, none⟩ = some (.pointer (some ⟨p, 0, none⟩)) ∧ (w2.drewN nq).drew.cell? ⟨w.heap.size + 1 + 1 + 1 + 1, 0, none⟩ = some (.int .i64 i) ∧ (w2.drewN nq).drew.cell? ⟨p, 1, none⟩ = some (.pointer (some ⟨r, 0, none⟩)) := ⟨cell_kp HKn3.out id n4, cell_kp HKn3.out id n0, cell_kp HKn3.out id q1⟩
    refine wpIn_region_heldR (S := fun w' => w'.cell? ⟨w.heap.size, 0, none⟩ = some (.pointer (some ⟨p, 0, none⟩)) ∧ w'.cell? ⟨w.heap.size + 1 + 1 + 1 + 1, 0, none⟩ = some (.int .i64 i) ∧ w'.cell? ⟨p, 1, none⟩ = some (.pointer (some ⟨r, 0, none⟩))) (by kernel_rfl) (by kernel_rfl) (fun ⟨_, _, h⟩ => h) hHeld0 (fun hHeld => ?_)
    clear hHeld0 HI2 HKf2 HKg2 HB2 HKn3 n0 f0 n1 f1 n4 f4 q0 q1 q2 hsq
    generalize (w2.drewN nq).drew = w3 at *
    (refine wpAnyH_take (i := 0) (v := ?_) rfl (by kernel_rfl) (by kernel_rfl) (by kernel_rfl) (fun _ _ _ h => h) (Or.inl ⟨by rfl, ?_⟩) (by assumption) ?_; rotate_left; (· ((intro w' hSw); (obtain ⟨s1, s2, s3⟩ := hSw); (try simp only [List.getElem_toArray, List.getElem_cons_zero, List.getElem_cons_succ]); go_simp; (try with_reducible rfl))); (try simp only [Act.put, List.getElem_toArray, List.getElem_cons_zero, List.getElem_cons_succ, List.setIfInBounds_toArray, List.set_cons_zero, List.set_cons_succ]))
    (refine wpAnyH_take (i := 1) (v := ?_) rfl (by kernel_rfl) (by kernel_rfl) (by kernel_rfl) (fun _ _ _ h => h) (Or.inl ⟨by rfl, ?_⟩) (by assumption) ?_; rotate_left; (· ((intro w' hSw); (obtain ⟨s1, s2, s3⟩ := hSw); (try simp only [List.getElem_toArray, List.getElem_cons_zero, List.getElem_cons_succ]); go_simp; (try with_reducible rfl))); (try simp only [Act.put, List.getElem_toArray, List.getElem_cons_zero, List.getElem_cons_succ, List.setIfInBounds_toArray, List.set_cons_zero, List.set_cons_succ]))
    (refine wpAnyH_take (i := 2) (v := ?_) rfl (by kernel_rfl) (by kernel_rfl) (by kernel_rfl) (fun _ _ _ h => h) (Or.inl ⟨by rfl, ?_⟩) (by assumption) ?_; rotate_left; (· ((intro w' hSw); (obtain ⟨s1, s2, s3⟩ := hSw); (try simp only [List.getElem_toArray, List.getElem_cons_zero, List.getElem_cons_succ]); go_simp; (try with_reducible rfl))); (try simp only [Act.put, List.getElem_toArray, List.getElem_cons_zero, List.getElem_cons_succ, List.setIfInBounds_toArray, List.set_cons_zero, List.set_cons_succ]))
    (refine wpAnyH_take (i := 3) (v := ?_) rfl (by kernel_rfl) (by kernel_rfl) (by kernel_rfl) (fun _ _ _ h => h) (Or.inl ⟨by rfl, ?_⟩) (by assumption) ?_; rotate_left; (· ((intro w' hSw); (obtain ⟨s1, s2, s3⟩ := hSw); (try simp only [List.getElem_toArray, List.getElem_cons_zero, List.getElem_cons_succ]); go_simp; (try with_reducible rfl))); (try simp only [Act.put, List.getElem_toArray, List.getElem_cons_zero, List.getElem_cons_succ, List.setIfInBounds_toArray, List.set_cons_zero, List.set_cons_succ]))
    (refine wpAnyH_take (i := 4) (v := ?_) rfl (by kernel_rfl) (by kernel_rfl) (by kernel_rfl) (fun _ _ _ h => h) (Or.inl ⟨by rfl, ?_⟩) (by assumption) ?_; rotate_left; (· ((intro w' hSw); (obtain ⟨s1, s2, s3⟩ := hSw); (try simp only [List.getElem_toArray, List.getElem_cons_zero, List.getElem_cons_succ]); go_simp; (try with_reducible rfl))); (try simp only [Act.put, List.getElem_toArray, List.getElem_cons_zero, List.getElem_cons_succ, List.setIfInBounds_toArray, List.set_cons_zero, List.set_cons_succ]))
    refine wpAnyH_ready (rs := [5, 10]) (by kernel_rfl) (by simp) ?_
    refine AllReadyH.cons rfl (fun K hK => ?_) (AllReadyH.cons rfl (fun K hK => ?_) AllReadyH.nil)
    · simp only [List.getElem_toArray, List.getElem_cons_zero, List.getElem_cons_succ]
      go_simp
      refine (HAt.out _ HI3.out.one.old).mono ?_
      rintro e w5 ⟨rfl, hk5⟩
      have HK5 := Lib.hid hk5
      refine hK.out _ _ ⟨cell_kp hk5 id hHeld.1, cell_kp hk5 id hHeld.2.1, cell_kp hk5 id hHeld.2.2⟩ (fun hHeld => ?_)
      clear hK K hk5
      try simp only [Act.put, List.getElem_toArray, List.getElem_cons_zero, List.getElem_cons_succ, List.setIfInBounds_toArray, List.set_cons_zero, List.set_cons_succ]
      (refine wpAnyH_take (i := 6) (v := ?_) rfl (by kernel_rfl) (by kernel_rfl) (by kernel_rfl) (fun _ _ _ h => h) (Or.inl ⟨by rfl, ?_⟩) (by assumption) ?_; rotate_left; (· ((intro w' hSw); (obtain ⟨s1, s2, s3⟩ := hSw); (try simp only [List.getElem_toArray, List.getElem_cons_zero, List.getElem_cons_succ]); go_simp; (try with_reducible rfl))); (try simp only [Act.put, List.getElem_toArray, List.getElem_cons_zero, List.getElem_cons_succ, List.setIfInBounds_toArray, List.set_cons_zero, List.set_cons_succ]))
      (refine wpAnyH_take (i := 7) (v := ?_) rfl (by kernel_rfl) (by kernel_rfl) (by kernel_rfl) (fun _ _ _ h => h) (Or.inl ⟨by rfl, ?_⟩) (by assumption) ?_; rotate_left; (· ((intro w' hSw); (obtain ⟨s1, s2, s3⟩ := hSw); (try simp only [List.getElem_toArray, List.getElem_cons_zero, List.getElem_cons_succ]); go_simp; (try with_reducible rfl))); (try simp only [Act.put, List.getElem_toArray, List.getElem_cons_zero, List.getElem_cons_succ, List.setIfInBounds_toArray, List.set_cons_zero, List.set_cons_succ]))
      (refine wpAnyH_take (i := 8) (v := ?_) rfl (by kernel_rfl) (by kernel_rfl) (by kernel_rfl) (fun _ _ _ h => h) (Or.inl ⟨by rfl, ?_⟩) (by assumption) ?_; rotate_left; (· ((intro w' hSw); (obtain ⟨s1, s2, s3⟩ := hSw); (try simp only [List.getElem_toArray, List.getElem_cons_zero, List.getElem_cons_succ]); go_simp; (try with_reducible rfl))); (try simp only [Act.put, List.getElem_toArray, List.getElem_cons_zero, List.getElem_cons_succ, List.setIfInBounds_toArray, List.set_cons_zero, List.set_cons_succ]))
      (refine wpAnyH_take (i := 9) (v := ?_) rfl (by kernel_rfl) (by kernel_rfl) (by kernel_rfl) (fun _ _ _ h => h) (Or.inl ⟨by rfl, ?_⟩) (by assumption) ?_; rotate_left; (· ((intro w' hSw); (obtain ⟨s1, s2, s3⟩ := hSw); (try simp only [List.getElem_toArray, List.getElem_cons_zero, List.getElem_cons_succ]); go_simp; (try with_reducible rfl))); (try simp only [Act.put, List.getElem_toArray, List.getElem_cons_zero, List.getElem_cons_succ, List.setIfInBounds_toArray, List.set_cons_zero, List.set_cons_succ]))
      refine wpAnyH_ready (rs := [10]) (by kernel_rfl) (by simp) ?_
      refine AllReadyH.cons rfl (fun K hK => ?_) AllReadyH.nil
      simp only [List.getElem_toArray, List.getElem_cons_zero, List.getElem_cons_succ]
      go_simp
      have HO5 := Lib.hid (((One.nil w3).kn HK5.out).alloc (.cells #[.int .i64 0, .int .i64 0] 30))
      have HO6 := Lib.hid (show ∃ g, One w3 (w5.alloc (.cells #[.int .i64 i, .int .i64 s.gen] 30)) [Blk g (.cells #[.int .i64 i, .int .i64 s.gen] 30)] ∧ g = w5.heap.size from ⟨_, ((One.nil w3).kn HK5.out).alloc _, rfl⟩)
      obtain ⟨s1, s2, s3⟩ := hHeld
      refine hK.out _ _ ⟨cellU s1 _, cellU s2 _, cellU s3 _⟩ (fun _ => ?_)
      clear hK K
      have hHeld5 := And.intro s1 (And.intro s2 s3)
      have hHeld : _ ∧ _ ∧ _ := ⟨cellU s1 (.cells #[.int .i64 0, .int .i64 0] 30), cellU s2 (.cells #[.int .i64 0, .int .i64 0] 30), cellU s3 (.cells #[.int .i64 0, .int .i64 0] 30)⟩
      clear s1 s2 s3
      try simp only [Act.put, List.getElem_toArray, List.getElem_cons_zero, List.getElem_cons_succ, List.setIfInBounds_toArray, List.set_cons_zero, List.set_cons_succ]
      refine wpAnyH_ready (rs := [11]) (by kernel_rfl) (by simp) ?_
      refine AllReadyH.cons rfl (fun K hK => ?_) AllReadyH.nil
      simp only [List.getElem_toArray, List.getElem_cons_zero, List.getElem_cons_succ]
      obtain ⟨z0, z1, z2, z3⟩ := cells2 (HO5.out.blk 0 rfl).1
      go_simp
      refine hK.out _ _ ⟨cellU hHeld5.1 _, cellU hHeld5.2.1 _, cellU hHeld5.2.2 _⟩ (fun hHeld => ?_)
      clear hK K hHeld5 z0 z1 z2 z3 HO5 HK5
      try simp only [Act.put, List.getElem_toArray, List.getElem_cons_zero, List.getElem_cons_succ, List.setIfInBounds_toArray, List.set_cons_zero, List.set_cons_succ]
      (refine wpAnyH_take (i := 12) (v := ?_) rfl (by kernel_rfl) (by kernel_rfl) (by kernel_rfl) (fun _ _ _ h => h) (Or.inl ⟨by rfl, ?_⟩) (by assumption) ?_; rotate_left; (· ((intro w' hSw); (obtain ⟨s1, s2, s3⟩ := hSw); (try simp only [List.getElem_toArray, List.getElem_cons_zero, List.getElem_cons_succ]); go_simp; (try with_reducible rfl))); (try simp only [Act.put, List.getElem_toArray, List.getElem_cons_zero, List.getElem_cons_succ, List.setIfInBounds_toArray, List.set_cons_zero, List.set_cons_succ]))
      (refine wpAnyH_take (i := 13) (v := ?_) rfl (by kernel_rfl) (by kernel_rfl) (by kernel_rfl) (fun _ _ _ h => h) (Or.inl ⟨by rfl, ?_⟩) (by assumption) ?_; rotate_left; (· ((intro w' hSw); (obtain ⟨s1, s2, s3⟩ := hSw); (try simp only [List.getElem_toArray, List.getElem_cons_zero, List.getElem_cons_succ]); go_simp; (try with_reducible rfl))); (try simp only [Act.put, List.getElem_toArray, List.getElem_cons_zero, List.getElem_cons_succ, List.setIfInBounds_toArray, List.set_cons_zero, List.set_cons_succ]))
      refine wpAnyH_done (by kernel_rfl) ?_ _
      obtain ⟨g, HO6, hg⟩ := HO6.out
      have HO6 := Lib.hid HO6
      rw [← hg]
      clear hg hHeld
      generalize w5.alloc (.cells #[.int .i64 i, .int .i64 s.gen] 30) = w6 at *
      have HK6 := Lib.hid HO6.out.old
      have HI6 := Lib.hid (HI3.out.kn HK6.out)
      have HKf6 := Lib.hid (keepsFrom_on HKf3.out HK6.out)
      have HKg6 := Lib.hid (HKg3.out.trans (Kp.toG HK6.out (G := G) (fun _ _ h => h)))
      obtain ⟨z0, z1, _, _⟩ := cells2 (HO6.out.blk 0 rfl).1
      obtain ⟨c0, c1, _, _⟩ := cells2 (HK6.out.blk HB3.out id)
      obtain ⟨n0, f0⟩ := cells1 (HI6.out.one.blk 0 rfl).1
      obtain ⟨n1, f1⟩ := cells1 (HI6.out.one.blk 1 rfl).1
      obtain ⟨n2, f2⟩ := cells1 (HI6.out.one.blk 2 rfl).1
      obtain ⟨n3, f3⟩ := cells1 (HI6.out.one.blk 3 rfl).1
      clear HI3 HKf3 HKg3 HB3 HK6 HO6
      obtain ⟨⟨xl, xg⟩, xt⟩ := x
      simp only at c0 c1
      have hp1 : (pre.length : Int) ≤ 65536 := by omega
      have hp2 : (i : Int) ≤ 65536 := by omega
      by_cases e1 : ((xl, xg) : Int × Int) = ((i : Int), s.gen)
      · obtain ⟨rfl, rfl⟩ := Prod.mk.inj e1
        clear e1
        have hne : ∀ w, (binOp .neq 30 (.agg #[.int .i64 (i : Int), .int .i64 s.gen]) (.agg #[.int .i64 (i : Int), .int .i64 s.gen])).run Try.prog w = .ok (.bool false) w := fun w => by
          have := run_neq_hv ((i : Int), s.gen) ((i : Int), s.gen) w
          simpa using this
        by_cases e2 : xt = s.has
        · subst e2
          gi_wp2
          · refine ⟨keepsFrom_setC (keepsFrom_setC (keepsFrom_setC HKf6.out _ (by omega)) _ (by omega)) _ (by omega), rfl, _, _, true, fun _ => rfl, ((HI6.out.setC 1 rfl _).setC 0 rfl _).setC 2 rfl _⟩
          · refine ⟨keepsFrom_setC (keepsFrom_setC HKf6.out _ (by omega)) _ (by omega), kpg_setC (kpg_setC HKg6.out _ (fun hh => HG4.out _ (by omega) hh)) _ (fun hh => HG4.out _ (by omega) hh), i + 1, ⟨by omega, by rw [HY.out.2]; simp⟩, ?_⟩
            have hle : (((pre ++ [((((i : Int), s.gen), s.has) : HS)]).length : Nat) : Int) = pre.length + 1 := by simp
            have hle2 : ((i + 1 : Nat) : Int) = (i : Int) + 1 := by omega
            rw [hle, hle2]
            exact (HI6.out.setC 1 rfl _).setC 0 rfl _
        · have e3 := beq_str_false e2
          have hbad := Lib.hid (not_preH (x := ((((i : Int), s.gen), xt) : HS)) HY.out.1 (fun e => e2 (Prod.mk.inj e).2))
          clear e2
          gi_wp2
          exact ⟨keepsFrom_setC HKf6.out _ (by omega), rfl, _, _, false, fun h => absurd h hbad.out, HI6.out.setC 2 rfl _⟩
      · have hne : ∀ w, (binOp .neq 30 (.agg #[.int .i64 xl, .int .i64 xg]) (.agg #[.int .i64 (i : Int), .int .i64 s.gen])).run Try.prog w = .ok (.bool true) w := fun w => by
          have := run_neq_hv (xl, xg) ((i : Int), s.gen) w
          rw [decide_eq_false e1] at this
          exact this
        have hbad := Lib.hid (not_preH (x := (((xl, xg), xt) : HS)) HY.out.1 (fun e => e1 (Prod.mk.inj e).1))
        clear e1
        gi_wp2
        exact ⟨keepsFrom_setC HKf6.out _ (by omega), rfl, _, _, false, fun h => absurd h hbad.out, HI6.out.setC 2 rfl _⟩
    · simp only [List.getElem_toArray, List.getElem_cons_zero, List.getElem_cons_succ]
      go_simp
      have HO4 := Lib.hid ((One.nil w3).alloc (.cells #[.int .i64 0, .int .i64 0] 30))
      have hHeld0 := hHeld
      obtain ⟨s1, s2, s3⟩ := hHeld
      refine hK.out _ _ ⟨cellU s1 _, cellU s2 _, cellU s3 _⟩ (fun hHeld => ?_)
      clear hK K s1 s2 s3
      generalize w3.alloc (.cells #[.int .i64 0, .int .i64 0] 30) = w4 at *
      generalize w3.heap.size = g at *
      try simp only [Act.put, List.getElem_toArray, List.getElem_cons_zero, List.getElem_cons_succ, List.setIfInBounds_toArray, List.set_cons_zero, List.set_cons_succ]
      refine wpAnyH_ready (rs := [5]) (by kernel_rfl) (by simp) ?_
      refine AllReadyH.cons rfl (fun K hK => ?_) AllReadyH.nil
      simp only [List.getElem_toArray, List.getElem_cons_zero, List.getElem_cons_succ]
      go_simp
      refine (HAt.out _ (HI3.out.one.old.trans HO4.out.old (fun _ h => h.elim))).mono ?_
      rintro e w5 ⟨rfl, hk5⟩
      have HO5 := Lib.hid (HO4.out.kn hk5)
      refine hK.out _ _ ⟨cell_kp hk5 id hHeld.1, cell_kp hk5 id hHeld.2.1, cell_kp hk5 id hHeld.2.2⟩ (fun hHeld => ?_)
      clear hK K hk5 HO4
      try simp only [Act.put, List.getElem_toArray, List.getElem_cons_zero, List.getElem_cons_succ, List.setIfInBounds_toArray, List.set_cons_zero, List.set_cons_succ]
      (refine wpAnyH_take (i := 6) (v := ?_) rfl (by kernel_rfl) (by kernel_rfl) (by kernel_rfl) (fun _ _ _ h => h) (Or.inl ⟨by rfl, ?_⟩) (by assumption) ?_; rotate_left; (· ((intro w' hSw); (obtain ⟨s1, s2, s3⟩ := hSw); (try simp only [List.getElem_toArray, List.getElem_cons_zero, List.getElem_cons_succ]); go_simp; (try with_reducible rfl))); (try simp only [Act.put, List.getElem_toArray, List.getElem_cons_zero, List.getElem_cons_succ, List.setIfInBounds_toArray, List.set_cons_zero, List.set_cons_succ]))
      (refine wpAnyH_take (i := 7) (v := ?_) rfl (by kernel_rfl) (by kernel_rfl) (by kernel_rfl) (fun _ _ _ h => h) (Or.inl ⟨by rfl, ?_⟩) (by assumption) ?_; rotate_left; (· ((intro w' hSw); (obtain ⟨s1, s2, s3⟩ := hSw); (try simp only [List.getElem_toArray, List.getElem_cons_zero, List.getElem_cons_succ]); go_simp; (try with_reducible rfl))); (try simp only [Act.put, List.getElem_toArray, List.getElem_cons_zero, List.getElem_cons_succ, List.setIfInBounds_toArray, List.set_cons_zero, List.set_cons_succ]))
      (refine wpAnyH_take (i := 8) (v := ?_) rfl (by kernel_rfl) (by kernel_rfl) (by kernel_rfl) (fun _ _ _ h => h) (Or.inl ⟨by rfl, ?_⟩) (by assumption) ?_; rotate_left; (· ((intro w' hSw); (obtain ⟨s1, s2, s3⟩ := hSw); (try simp only [List.getElem_toArray, List.getElem_cons_zero, List.getElem_cons_succ]); go_simp; (try with_reducible rfl))); (try simp only [Act.put, List.getElem_toArray, List.getElem_cons_zero, List.getElem_cons_succ, List.setIfInBounds_toArray, List.set_cons_zero, List.set_cons_succ]))
      (refine wpAnyH_take (i := 9) (v := ?_) rfl (by kernel_rfl) (by kernel_rfl) (by kernel_rfl) (fun _ _ _ h => h) (Or.inl ⟨by rfl, ?_⟩) (by assumption) ?_; rotate_left; (· ((intro w' hSw); (obtain ⟨s1, s2, s3⟩ := hSw); (try simp only [List.getElem_toArray, List.getElem_cons_zero, List.getElem_cons_succ]); go_simp; (try with_reducible rfl))); (try simp only [Act.put, List.getElem_toArray, List.getElem_cons_zero, List.getElem_cons_succ, List.setIfInBounds_toArray, List.set_cons_zero, List.set_cons_succ]))
      refine wpAnyH_ready (rs := [11]) (by kernel_rfl) (by simp) ?_
      refine AllReadyH.cons rfl (fun K hK => ?_) AllReadyH.nil
      simp only [List.getElem_toArray, List.getElem_cons_zero, List.getElem_cons_succ]
      obtain ⟨z0, z1, z2, z3⟩ := cells2 (HO5.out.blk 0 rfl).1
      have HO6 := Lib.hid ((HO5.out.setCA 0 rfl (j := 0) (.int .i64 i)).setCA 0 rfl (j := 1) (.int .i64 s.gen))
      simp only [List.set_cons_zero] at HO6
      go_simp
      refine hK.out _ _ ⟨cell_kp HO6.out.old id hHeld0.1, cell_kp HO6.out.old id hHeld0.2.1, cell_kp HO6.out.old id hHeld0.2.2⟩ (fun hHeld => ?_)
      clear hK K hHeld0 z0 z1 z2 z3 HO5
      try simp only [Act.put, List.getElem_toArray, List.getElem_cons_zero, List.getElem_cons_succ, List.setIfInBounds_toArray, List.set_cons_zero, List.set_cons_succ]
      (refine wpAnyH_take (i := 12) (v := ?_) rfl (by kernel_rfl) (by kernel_rfl) (by kernel_rfl) (fun _ _ _ h => h) (Or.inl ⟨by rfl, ?_⟩) (by assumption) ?_; rotate_left; (· ((intro w' hSw); (obtain ⟨s1, s2, s3⟩ := hSw); (try simp only [List.getElem_toArray, List.getElem_cons_zero, List.getElem_cons_succ]); go_simp; (try with_reducible rfl))); (try simp only [Act.put, List.getElem_toArray, List.getElem_cons_zero, List.getElem_cons_succ, List.setIfInBounds_toArray, List.set_cons_zero, List.set_cons_succ]))
      (refine wpAnyH_take (i := 13) (v := ?_) rfl (by kernel_rfl) (by kernel_rfl) (by kernel_rfl) (fun _ _ _ h => h) (Or.inl ⟨by rfl, ?_⟩) (by assumption) ?_; rotate_left; (· ((intro w' hSw); (obtain ⟨s1, s2, s3⟩ := hSw); (try simp only [List.getElem_toArray, List.getElem_cons_zero, List.getElem_cons_succ]); go_simp; (try with_reducible rfl))); (try simp only [Act.put, List.getElem_toArray, List.getElem_cons_zero, List.getElem_cons_succ, List.setIfInBounds_toArray, List.set_cons_zero, List.set_cons_succ]))
      refine wpAnyH_done (by kernel_rfl) ?_ _
      clear hHeld
      generalize (w5.setCell ⟨g, 0, none⟩ (.int .i64 i)).setCell ⟨g, 1, none⟩ (.int .i64 s.gen) = w6 at *
      have HK6 := Lib.hid HO6.out.old
      have HI6 := Lib.hid (HI3.out.kn HK6.out)
      have HKf6 := Lib.hid (keepsFrom_on HKf3.out HK6.out)
      have HKg6 := Lib.hid (HKg3.out.trans (Kp.toG HK6.out (G := G) (fun _ _ h => h)))
      obtain ⟨z0, z1, _, _⟩ := cells2 (HO6.out.blk 0 rfl).1
      obtain ⟨c0, c1, _, _⟩ := cells2 (HK6.out.blk HB3.out id)
      obtain ⟨n0, f0⟩ := cells1 (HI6.out.one.blk 0 rfl).1
      obtain ⟨n1, f1⟩ := cells1 (HI6.out.one.blk 1 rfl).1
      obtain ⟨n2, f2⟩ := cells1 (HI6.out.one.blk 2 rfl).1
      obtain ⟨n3, f3⟩ := cells1 (HI6.out.one.blk 3 rfl).1
      clear HI3 HKf3 HKg3 HB3 HK6 HO6
      obtain ⟨⟨xl, xg⟩, xt⟩ := x
      simp only at c0 c1
      have hp1 : (pre.length : Int) ≤ 65536 := by omega
      have hp2 : (i : Int) ≤ 65536 := by omega
      by_cases e1 : ((xl, xg) : Int × Int) = ((i : Int), s.gen)
      · obtain ⟨rfl, rfl⟩ := Prod.mk.inj e1
        clear e1
        have hne : ∀ w, (binOp .neq 30 (.agg #[.int .i64 (i : Int), .int .i64 s.gen]) (.agg #[.int .i64 (i : Int), .int .i64 s.gen])).run Try.prog w = .ok (.bool false) w := fun w => by
          have := run_neq_hv ((i : Int), s.gen) ((i : Int), s.gen) w
          simpa using this
        by_cases e2 : xt = s.has
        · subst e2
          gi_wp2
          · refine ⟨keepsFrom_setC (keepsFrom_setC (keepsFrom_setC HKf6.out _ (by omega)) _ (by omega)) _ (by omega), rfl, _, _, true, fun _ => rfl, ((HI6.out.setC 1 rfl _).setC 0 rfl _).setC 2 rfl _⟩
          · refine ⟨keepsFrom_setC (keepsFrom_setC HKf6.out _ (by omega)) _ (by omega), kpg_setC (kpg_setC HKg6.out _ (fun hh => HG4.out _ (by omega) hh)) _ (fun hh => HG4.out _ (by omega) hh), i + 1, ⟨by omega, by rw [HY.out.2]; simp⟩, ?_⟩
            have hle : (((pre ++ [((((i : Int), s.gen), s.has) : HS)]).length : Nat) : Int) = pre.length + 1 := by simp
            have hle2 : ((i + 1 : Nat) : Int) = (i : Int) + 1 := by omega
            rw [hle, hle2]
            exact (HI6.out.setC 1 rfl _).setC 0 rfl _
        · have e3 := beq_str_false e2
          have hbad := Lib.hid (not_preH (x := ((((i : Int), s.gen), xt) : HS)) HY.out.1 (fun e => e2 (Prod.mk.inj e).2))
          clear e2
          gi_wp2
          exact ⟨keepsFrom_setC HKf6.out _ (by omega), rfl, _, _, false, fun h => absurd h hbad.out, HI6.out.setC 2 rfl _⟩
      · have hne : ∀ w, (binOp .neq 30 (.agg #[.int .i64 xl, .int .i64 xg]) (.agg #[.int .i64 (i : Int), .int .i64 s.gen])).run Try.prog w = .ok (.bool true) w := fun w => by
          have := run_neq_hv (xl, xg) ((i : Int), s.gen) w
          rw [decide_eq_false e1] at this
          exact this
        have hbad := Lib.hid (not_preH (x := (((xl, xg), xt) : HS)) HY.out.1 (fun e => e1 (Prod.mk.inj e).1))
        clear e1
        gi_wp2
        exact ⟨keepsFrom_setC HKf6.out _ (by omega), rfl, _, _, false, fun h => absurd h hbad.out, HI6.out.setC 2 rfl _⟩
  case done =>
    rintro D ys W hD rfl ⟨j, hj, hI⟩ hK
    obtain ⟨n1, f1⟩ := cells1 (hI.one.blk 1 rfl).1
    obtain ⟨n2, f2⟩ := cells1 (hI.one.blk 2 rfl).1
    obtain ⟨n4, f4⟩ := cells1 (hI.one.blk 4 rfl).1
    obtain ⟨q0, q1, q2, _⟩ := cells3 (HPr.out _ hI.one.old)
    have HLv := Lib.hid (fun d os => quiet_same (d := d) (os := os) (live_r (HRf.out _ (hI.one.old.trans (kn_regrown W d os) (fun _ h => h.elim))) (by omega)))
    rw [← all_live HSm.out] at HLv
    have HI := Lib.hid hI
    have HK := Lib.hid hK
    clear hI hK
    have m1 := fun d os => cell_regrown (d := d) (os := os) n1
    have m4 := fun d os => cell_regrown (d := d) (os := os) n4
    have mq := fun d os => cell_regrown (d := d) (os := os) q1
    gi_wp2_with fail
    refine wpIn_wide.2 ?_
    refine wp_region_below_tail 7 (by kernel_rfl) (by kernel_rfl) ?_
    simp only [List.take_succ_cons, List.take_zero, List.drop_succ_cons, List.drop_zero]
    repeat (go_big_quiet_step ((go_at_call 22; exact HLv.out _ _)))
    refine wpQuiet_nil ?_
    intro _ hw'
    obtain ⟨⟨dq, osq⟩, hw''⟩ := hw'
    subst hw''
    have HI7 := Lib.hid (HI.out.one.kn (kn_regrown W dq osq))
    obtain ⟨r2, rf2⟩ := cells1 (HI7.out.blk 2 rfl).1
    have HK7 := Lib.hid ((kn_regrown W dq osq).blk HK.out id)
    generalize grow (redrawn W dq) osq = w7 at *
    go_wp2_with fail
    gi_wp2
    refine ⟨by simp, .inl ⟨_, _, rfl, run_takeDeferred ((setCell_other (by simp; omega)).trans HK7.out), ?_⟩⟩
    obtain ⟨r1, _⟩ := cells1 ((putObj_other (w := w7.setCell ⟨w.heap.size + 1 + 1, 0, none⟩ (.bool true)) (D := D) (o := .deferred none) (by omega)).trans ((HI7.out.setCA 2 rfl (j := 0) (.bool true)).blk 2 rfl).1)
    refine ⟨.bool true, by simp [results, Try.results41, go_sem, r1], rfl, below_putO (HI7.out.old.below.setCell (by simp; omega) _) (by omega)⟩
  case stop =>
    rintro D c pre W hD hpre ⟨rfl, av, nv, bv, hb, hI⟩ hK
    obtain rfl := hb hpre
    obtain ⟨n1, f1⟩ := cells1 (hI.one.blk 2 rfl).1
    have HI := Lib.hid hI
    have HK := Lib.hid hK
    clear hI hK
    gi_wp2
    refine ⟨by simp, .inl ⟨_, _, rfl, run_takeDeferred HK.out, ?_⟩⟩
    obtain ⟨r1, _⟩ := cells1 ((putObj_other (w := W) (D := D) (o := .deferred none) (by omega)).trans (HI.out.one.blk 2 rfl).1)
    refine ⟨.bool true, by simp [results, Try.results41, go_sem, r1], rfl, below_putO HI.out.one.old.below (by omega)⟩
end Go.Proofs.Ythbiohfnnjbbgaa

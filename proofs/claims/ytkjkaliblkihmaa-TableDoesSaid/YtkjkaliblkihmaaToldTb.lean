/- TableDoes: told. Printed by wip/gen10t.py. -/
import Derived.Test.YtkjkaliblkihmaaCloneTb
namespace Go.Proofs.Ytkjkaliblkihmaa
set_option linter.unusedVariables false
set_option linter.unusedSimpArgs false
open Go Go.RowKit Go.Shelf Go.Sort
attribute [local go_sem] Oper.semAt_some

theorem One.alloc5 {w0 w : World} {l : List Asr} (h : One w0 w l) (o1 o2 o3 o4 o5 : Obj) : One w0 (((((w.alloc o1).alloc o2).alloc o3).alloc o4).alloc o5) (Blk (w.heap.size + 1 + 1 + 1 + 1) o5 :: Blk (w.heap.size + 1 + 1 + 1) o4 :: Blk (w.heap.size + 1 + 1) o3 :: Blk (w.heap.size + 1) o2 :: Blk w.heap.size o1 :: l) := by
  have := ((((h.alloc o1).alloc o2).alloc o3).alloc o4).alloc o5
  simpa using this
theorem cellU {w : World} {a : Addr} {v : Value} (h : w.cell? a = some v) (o : Obj) : (w.alloc o).cell? a = some v := cell_kp ((Kp.refl (fun _ => False) w).alloc o) id h
theorem keepsFrom_on {B : Nat} {W X Y : World} (h : KeepsFrom B W X) (k : KN X Y) : KeepsFrom B W Y :=
  ⟨Nat.le_trans h.size k.size, fun i o hB hi ho => (k.block i (lt_blk (h.same i o hB hi ho)) id).trans (h.same i o hB hi ho)⟩
theorem not_preT {xs pre : List PH} {x y : PH} (hy : xs[pre.length]? = some y) (h : x ≠ y) : ¬ (pre ++ [x] <+: xs) := by
  rintro ⟨t, rfl⟩
  simp at hy
  exact h hy
/-- A cell of one number, as a number. -/
def numAt (w : World) (b : Nat) : Int := match w.cell? ⟨b, 0, none⟩ with | some (.int _ z) => z | _ => 0
theorem numAt_of {w : World} {b : Nat} {z : Int} (h : w.cell? ⟨b, 0, none⟩ = some (.int .i64 z)) : numAt w b = z := by unfold numAt; rw [h]
set_option maxRecDepth 100000 in
set_option maxHeartbeats 8000000 in
theorem told_in (b1 b2 u : Nat) (A R : List AP) (x0 stop : Int) (hS : Sm A R) (hm : A.length ≤ 65536) (w : World) (G F : Nat → Prop) (hA : (AllA b1 b2 (livesOf A)).on w G) (hr : (RfT u R x0).on w F) :
    CallsIn Fence.wide 3 Try.prog 39 #[.func (.func 48) #[] #[.pointer (some ⟨b1, 0, none⟩), .pointer (some ⟨b2, 0, none⟩)], .pointer (some ⟨u, 0, none⟩), .int .i64 stop] w fun e W' => e = .returned (.bool true) ∧ Below w.heap.size w W' := by
  have hxl : (livesOf A).length ≤ 65536 := by have := lives_le A A.length; unfold livesOf; omega
  have HSEQ := Lib.hid (all_stops Fence.wide 2 trivial rfl (by omega) b1 b2 G (livesOf A) (by omega) w hA)
  have hmR : R.length ≤ 65536 := by rw [← hS.len]; exact hm
  have HRf := Lib.hid (fun (W : World) (k : KN w W) => (RfT u R x0).kn hr k)
  have HSm := Lib.hid hS
  have hlen := hS.len
  have HGl := Lib.hid hA.2
  clear hA hr
  have HO := Lib.hid ((One.nil w).alloc5 (.cells #[.pointer (some ⟨u, 0, none⟩)] 47) (.cells #[.int .i64 stop] 3) (.cells #[.bool false] 4) (.cells #[.int .i64 0] 3) (.cells #[.int .i64 (-1)] 3))
  refine callsIn_of_wp_marks Try.func39 rfl trivial ?_ rfl
  simp only [Try.ntmps39, List.size_toArray, List.length_cons, List.length_nil, Nat.reduceAdd, Nat.reduceSub, Array.replicate_succ, Array.replicate_zero, List.push_toArray, List.append_toArray, List.nil_append, List.cons_append]
  gi_wp2_with fail
  have HF0 := Lib.hid HO.out.loopF
  have hBel := HO.out.old.below
  have HG4 := Lib.hid (fun i (hi : w.heap.size ≤ i) (hh : G i) => show False from absurd (HGl.out i hh) (by omega))
  obtain ⟨W0, hW0⟩ : ∃ W0, ((((w.alloc (.cells #[.pointer (some ⟨u, 0, none⟩)] 47)).alloc (.cells #[.int .i64 stop] 3)).alloc (.cells #[.bool false] 4)).alloc (.cells #[.int .i64 0] 3)).alloc (.cells #[.int .i64 (-1)] 3) = W0 := ⟨_, rfl⟩
  rw [hW0] at HF0 hBel ⊢
  have hsz : W0.heap.size = w.heap.size + 5 := by rw [← hW0]; simp
  clear hW0 HO
  refine wpIn_rangeFunc_ownH rfl (show 1 ≤ 3 by omega) (gf := 48) (lb := #[.pointer (some ⟨b1, 0, none⟩), .pointer (some ⟨b2, 0, none⟩)]) rfl trivial (enters_of Try.func48 (by kernel_rfl) rfl)
    HSEQ.out KpG.trans (KpG.put (G := G) (fun i hi => by have := HGl.out i hi; omega)) hBel (fun _ => rfl)
    (fun pre W => ∃ (j : Nat) (av : Int), (j ≤ A.length ∧ (livesTo A j).length = pre.length ∧ av = (j : Int) - 1) ∧ OneF W0.heap.size w W [Blk (w.heap.size + 1 + 1 + 1 + 1) (.cells #[.int .i64 av] 3), Blk (w.heap.size + 1 + 1 + 1) (.cells #[.int .i64 (pre.length : Nat)] 3), Blk (w.heap.size + 1 + 1) (.cells #[.bool false] 4), Blk (w.heap.size + 1) (.cells #[.int .i64 stop] 3), Blk w.heap.size (.cells #[.pointer (some ⟨u, 0, none⟩)] 47)])
    (fun c pre W => c = Code.ret ∧ ∃ (av nv : Int) (bv : Bool), (pre <+: livesOf A → bv = true) ∧ OneF W0.heap.size w W [Blk (w.heap.size + 1 + 1 + 1 + 1) (.cells #[.int .i64 av] 3), Blk (w.heap.size + 1 + 1 + 1) (.cells #[.int .i64 nv] 3), Blk (w.heap.size + 1 + 1) (.cells #[.bool bv] 4), Blk (w.heap.size + 1) (.cells #[.int .i64 stop] 3), Blk w.heap.size (.cells #[.pointer (some ⟨u, 0, none⟩)] 47)])
    (fun s W W' row hs hg hr => let ⟨j, av, h1, h2⟩ := hs; ⟨j, av, h1, oneF_own (β := Unit) (by omega) (fun _ => [Blk (w.heap.size + 1 + 1 + 1 + 1) (.cells #[.int .i64 av] 3), Blk (w.heap.size + 1 + 1 + 1) (.cells #[.int .i64 (s.length : Nat)] 3), Blk (w.heap.size + 1 + 1) (.cells #[.bool false] 4), Blk (w.heap.size + 1) (.cells #[.int .i64 stop] 3), Blk w.heap.size (.cells #[.pointer (some ⟨u, 0, none⟩)] 47)]) () W W' row h2 hg hr⟩)
    (fun c s W W' row hs hg hr => ⟨hs.1, let ⟨av, nv, bv, hb, h⟩ := hs.2; ⟨av, nv, bv, hb, oneF_own (β := Unit) (by omega) (fun _ => [Blk (w.heap.size + 1 + 1 + 1 + 1) (.cells #[.int .i64 av] 3), Blk (w.heap.size + 1 + 1 + 1) (.cells #[.int .i64 nv] 3), Blk (w.heap.size + 1 + 1) (.cells #[.bool bv] 4), Blk (w.heap.size + 1) (.cells #[.int .i64 stop] 3), Blk w.heap.size (.cells #[.pointer (some ⟨u, 0, none⟩)] 47)]) () W W' row h hg hr⟩⟩)
    ⟨0, -1, ⟨Nat.zero_le _, rfl, rfl⟩, HF0.out⟩
    (fun x a' W => ∃ Bx, w.heap.size ≤ Bx ∧ W.heap[Bx]? = some (.cells #[.int .i64 x.2.1, .int .i64 x.2.2] 23) ∧ a' = { tmps := #[.func (.func 48) #[] #[.pointer (some ⟨b1, 0, none⟩), .pointer (some ⟨b2, 0, none⟩)], .pointer (some ⟨u, 0, none⟩), .int .i64 stop, undef, .pointer (some ⟨w.heap.size, 0, none⟩), .pointer (some ⟨w.heap.size + 1, 0, none⟩), .pointer (some ⟨w.heap.size + 1 + 1, 0, none⟩), .pointer (some ⟨w.heap.size + 1 + 1 + 1, 0, none⟩), .pointer (some ⟨w.heap.size + 1 + 1 + 1 + 1, 0, none⟩), .int .i64 x.1, .pointer (some ⟨Bx, 0, none⟩), undef, undef, .func (.func 48) #[] #[.pointer (some ⟨b1, 0, none⟩), .pointer (some ⟨b2, 0, none⟩)], .int .i64 x.1, .agg #[.int .i64 x.2.1, .int .i64 x.2.2], undef, undef, undef, undef, undef, undef, undef, undef, undef, undef, undef, undef, undef, undef, undef, undef, undef, undef, undef, undef, undef, undef, undef, undef, undef, undef, undef, undef, undef, undef, undef, undef, undef, undef, undef, undef, undef, undef, undef, undef, undef], defers := [] })
    (fun x a' _ X Y row hs hg hr => by
      obtain ⟨Bx, h1, h2, h3⟩ := hs
      refine ⟨Bx, h1, (hg.block Bx (lt_blk h2) (fun e => ?_)).trans h2, h3⟩
      obtain ⟨_, o, ho, hc⟩ := hr Bx e.symm
      rw [h2] at ho; cases ho; cases hc)
    ?assign ?body ?done ?stop
  case assign =>
    rintro lo pre x W K ⟨j, av, hj, hI⟩ hK
    have hB := hI.one.old.below
    gi_wp2
    exact hK _ _ (keepsFrom_kn (kn_alloc _ _)) (kpg_alloc _ _) ⟨j, av, hj, hI.kn (kn_alloc _ _)⟩ ⟨W.heap.size, hB.size, heap_alloc_same _ _, rfl⟩
  case body =>
    rintro lo pre x a' W hl ⟨rc, hr⟩ ⟨j, av, ⟨hj1, hj2, hav⟩, hI⟩ ⟨Bx, hBx, bX, rfl⟩ hlt
    obtain ⟨i, hji, hil, hst, hno, hxk, hnx⟩ := live_next A pre.length hlt _ j rfl hj1 hj2
    have HLd := Lib.hid (fun (W' : World) (k : KN w W') => load_r (i : Int) (HRf.out W' k) hmR)
    rw [← HSm.out.load, load_live hst] at HLd
    have HNo := Lib.hid (fun (m : Nat) (h1 : j ≤ m) (h2 : m < i) => show stOf R m ≠ 1 by rw [← HSm.out.st]; exact hno m h1 h2)
    have HIs := Lib.hid (show stOf R i = 1 by rw [← HSm.out.st]; exact hst)
    have HSt := Lib.hid (fun (m : Int) (W' : World) (k : KN w W') => state_r m (HRf.out W' k) hmR)
    have HPg := Lib.hid (fun (W' : World) (k : KN w W') => pages_r (HRf.out W' k))
    generalize headOf A i = hd at *
    have HY := Lib.hid (And.intro hxk hnx)
    have HAv := Lib.hid (show av + 1 = (j : Int) by omega)
    have hav1 : -1 ≤ av := by omega
    have hav2 : av ≤ 65536 := by omega
    obtain ⟨n0, f0⟩ := cells1 (hI.one.blk 0 rfl).1
    have HI := Lib.hid hI
    have hbx : Bx ≠ w.heap.size + 1 + 1 + 1 + 1 := fun e => by
      have h1 := (hI.one.blk 0 rfl).1
      rw [← e, bX] at h1
      simp at h1
    have HB := Lib.hid bX
    clear hI hr hst hno hxk hnx hj2 hav bX
    gi_wp2_with fail
    have HI2 := Lib.hid (HI.out.setC 0 rfl (j := 0) (.int .i64 (av + 1)))
    simp only [List.set_cons_zero] at HI2
    rw [HAv.out] at HI2
    have HKf2 := Lib.hid (keepsFrom_setC (i := 0) (KeepsFrom.refl W0.heap.size W) (.int .i64 (av + 1)) (show w.heap.size + 1 + 1 + 1 + 1 < W0.heap.size by omega))
    have HKg2 := Lib.hid (kpg_setC (i := 0) (KpG.refl G W) (.int .i64 (av + 1)) (fun hh => HG4.out (w.heap.size + 1 + 1 + 1 + 1) (by omega) hh))
    have HB2 := Lib.hid ((setCell_other (w := W) (p := ⟨w.heap.size + 1 + 1 + 1 + 1, 0, none⟩) (v := .int .i64 (av + 1)) (b := Bx) hbx).trans HB.out)
    rw [HAv.out] at HKf2 HKg2 HB2
    try rw [HAv.out]
    clear HI HB n0 f0
    generalize W.setCell ⟨w.heap.size + 1 + 1 + 1 + 1, 0, none⟩ (.int .i64 (j : Int)) = w1 at *
    gi_loopw [27] (fun sl wr => ∃ m : Nat, j ≤ m ∧ m ≤ i ∧ Hid (OneF W0.heap.size w wr [Blk (w.heap.size + 1 + 1 + 1 + 1) (.cells #[.int .i64 (m : Nat)] 3), Blk (w.heap.size + 1 + 1 + 1) (.cells #[.int .i64 (pre.length : Nat)] 3), Blk (w.heap.size + 1 + 1) (.cells #[.bool false] 4), Blk (w.heap.size + 1) (.cells #[.int .i64 stop] 3), Blk w.heap.size (.cells #[.pointer (some ⟨u, 0, none⟩)] 47)]) ∧ Hid (KeepsFrom W0.heap.size W wr) ∧ Hid (KpG G W wr) ∧ Hid (wr.heap[Bx]? = some (.cells #[.int .i64 x.2.1, .int .i64 x.2.2] 23))) (fun _ wr => i - (numAt wr (w.heap.size + 1 + 1 + 1 + 1)).toNat)
    case atStart => exact ⟨j, Nat.le_refl _, hji, HI2, HKf2, HKg2, HB2⟩
    case round =>
      clear HI2 HKf2 HKg2 HB2
      obtain ⟨m, hm1, hm2, HI2, HKf2, HKg2, HB2⟩ := hrel
      obtain ⟨n0, f0⟩ := cells1 (HI2.out.one.blk 0 rfl).1
      obtain ⟨n4, f4⟩ := cells1 (HI2.out.one.blk 4 rfl).1
      have hd1 : decide ((m : Int) < (R.length : Int)) = true := by simp; omega
      have hd2 : (m : Int) < (R.length : Int) := by omega
      have hmm : (m : Int) ≤ 65536 := by omega
      have hsq := fun nq => (callsIn_wide (n := 0)).2 (quiet_l (n := nq) (HPg.out _ (HI2.out.one.old.trans ((Kp.refl (fun _ => False) wr).drewN nq) (fun _ h => h.elim))))
      have hsq2 := fun nq => (callsIn_wide (n := 0)).2 (quiet_l (n := nq) (HSt.out m _ (HI2.out.one.old.trans ((Kp.refl (fun _ => False) wr).drewN nq) (fun _ h => h.elim))))
      have hfw : ∀ f, Fence.wide.fn f = True := fun _ => rfl
      have hNA := Lib.hid (numAt_of n0)
      by_cases hmi : m < i
      · have hne : (stOf R m != 1) = true := by simpa using HNo.out m hm1 hmi
        generalize stOf R m = sv at *
        gi_wp2_with fail
        refine wpIn_region_quietR (by kernel_rfl) (by kernel_rfl) (by kernel_rfl) ?_
        repeat (gi_big_quiet_step (first | (gi_at_call 40; exact (hsq _).inRound lo) | (gi_at_call 41; exact (hsq2 _).inRound lo)))
        refine wpQuietIn_nil ?_
        intro _ hw'
        obtain ⟨nq, hw''⟩ := hw'
        subst hw''
        gi_wp2_with fail
        have HK := Lib.hid ((Kp.refl (fun _ => False) wr).drewN nq)
        have HI3 := Lib.hid ((HI2.out.kn HK.out).setC 0 rfl (j := 0) (.int .i64 ((m : Int) + 1)))
        obtain ⟨r0, _⟩ := cells1 (HI3.out.one.blk 0 rfl).1
        refine ⟨⟨m + 1, by omega, by omega, Lib.hid HI3.out, Lib.hid (keepsFrom_setC (keepsFrom_on HKf2.out HK.out) _ (by omega)), Lib.hid (kpg_setC (HKg2.out.trans (Kp.toG HK.out (G := G) (fun _ _ h => h))) _ (fun hh => HG4.out _ (by omega) hh)), Lib.hid ((setCell_other hbx).trans (HK.out.blk HB2.out id))⟩, ?_⟩
        rw [numAt_of r0, hNA.out]
        omega
      · obtain rfl : m = i := by omega
        rw [HIs.out] at hsq2
        gi_wp2_with fail
        refine wpIn_region_quietR (by kernel_rfl) (by kernel_rfl) (by kernel_rfl) ?_
        repeat (gi_big_quiet_step (first | (gi_at_call 40; exact (hsq _).inRound lo) | (gi_at_call 41; exact (hsq2 _).inRound lo)))
        refine wpQuietIn_nil ?_
        intro _ hw'
        obtain ⟨nq, hw''⟩ := hw'
        subst hw''
        gi_wp2_with fail
        refine (((callsIn_wide (n := 0)).2 (HLd.out _ (HI2.out.one.old.trans ((Kp.refl (fun _ => False) wr).drewN nq) (fun _ h => h.elim)))).inRound lo).mono ?_
        rintro e w5 ⟨rfl, hk5⟩
        have HK5 := Lib.hid (show KN wr (w5.alloc (.cells #[.int .i64 hd.1, .int .i64 hd.2] 23)) from (((Kp.refl (fun _ => False) wr).drewN nq).trans hk5 (fun _ h => h.elim)).alloc _)
        have hk5' : KN wr w5 := ((Kp.refl (fun _ => False) wr).drewN nq).trans hk5 (fun _ h => h.elim)
        have HI5 := Lib.hid (HI2.out.kn hk5')
        obtain ⟨xp, ⟨xa, xb⟩⟩ := x
        obtain ⟨hda, hdb⟩ := hd
        simp only at HK5 HB2
        have q0 := fun o => cellU (cells1 (HI5.out.one.blk 0 rfl).1).1 o
        have q1 := fun o => cellU (cells1 (HI5.out.one.blk 1 rfl).1).1 o
        have q3 := fun o => cellU (cells1 (HI5.out.one.blk 3 rfl).1).1 o
        have q2 := fun o => cellU (cells1 (HI5.out.one.blk 2 rfl).1).1 o
        have hBx := HK5.out.blk HB2.out id
        have hfr : ∀ (i : Nat) (g : Nat) (cs : Array Value) (T : TypeId), w5.heap[g]? = some (.cells cs T) → ∀ o, (w5.alloc o).frozen? ⟨g, 0, none⟩ = false := fun _ g cs T h o => free_blk (blk_alloc o h)
        have f1 := hfr 0 _ _ _ (HI5.out.one.blk 1 rfl).1
        have f2 := hfr 0 _ _ _ (HI5.out.one.blk 2 rfl).1
        obtain ⟨c0, c1, _, _⟩ := cells2 hBx
        have hp1 : (pre.length : Int) ≤ 65536 := by omega
        clear hfr n0 f0 n4 f4 hk5 hk5' hBx hsq hsq2 hNA
        have HE := Lib.hid (And.intro (keepsFrom_on HKf2.out HK5.out) (And.intro (HKg2.out.trans (Kp.toG HK5.out (G := G) (fun _ _ h => h))) (HI2.out.kn HK5.out)))
        clear HI2 HKf2 HKg2 HB2 HK5 HI5
        by_cases e1 : xp = (m : Int)
        · subst e1
          have hpp : ((m : Int) != (m : Int)) = false := by simp
          by_cases e2 : ((xa, xb) : Int × Int) = (hda, hdb)
          · obtain ⟨rfl, rfl⟩ := Prod.mk.inj e2
            clear e2
            have hne : ∀ w, (binOp .neq 23 (.agg #[.int .i64 xa, .int .i64 xb]) (.agg #[.int .i64 xa, .int .i64 xb])).run Try.prog w = .ok (.bool false) w := fun w => by
              have := run_neq_hv (xa, xb) (xa, xb) w
              simpa using this
            gi_wp2
            · exact ⟨keepsFrom_setC (keepsFrom_setC HE.out.1 _ (by omega)) _ (by omega), rfl, _, _, true, fun _ => rfl, ((HE.out.2.2).setC 1 rfl _).setC 2 rfl _⟩
            · refine ⟨keepsFrom_setC HE.out.1 _ (by omega), kpg_setC HE.out.2.1 _ (fun hh => HG4.out _ (by omega) hh), m + 1, (m : Int), ⟨by omega, by rw [HY.out.2]; simp, by omega⟩, ?_⟩
              have hle : (((pre ++ [(((m : Int), (xa, xb)) : PH)]).length : Nat) : Int) = pre.length + 1 := by simp
              rw [hle]
              exact (HE.out.2.2).setC 1 rfl _
          · have hne : ∀ w, (binOp .neq 23 (.agg #[.int .i64 xa, .int .i64 xb]) (.agg #[.int .i64 hda, .int .i64 hdb])).run Try.prog w = .ok (.bool true) w := fun w => by
              have := run_neq_hv (xa, xb) (hda, hdb) w
              rw [decide_eq_false e2] at this
              exact this
            have hbad := Lib.hid (not_preT (x := (((m : Int), (xa, xb)) : PH)) HY.out.1 (fun e => e2 (Prod.mk.inj e).2))
            clear e2
            gi_wp2
            exact ⟨keepsFrom_setC HE.out.1 _ (by omega), rfl, _, _, false, fun h => absurd h hbad.out, (HE.out.2.2).setC 2 rfl _⟩
        · have hpp : (xp != (m : Int)) = true := by simpa using e1
          have hbad := Lib.hid (not_preT (x := ((xp, (xa, xb)) : PH)) HY.out.1 (fun e => e1 (Prod.mk.inj e).1))
          clear e1
          gi_wp2
          exact ⟨keepsFrom_setC HE.out.1 _ (by omega), rfl, _, _, false, fun h => absurd h hbad.out, (HE.out.2.2).setC 2 rfl _⟩
  case done =>
    rintro D ys W hD rfl ⟨j, av, hj, hI⟩ hK
    obtain ⟨n1, f1⟩ := cells1 (hI.one.blk 1 rfl).1
    obtain ⟨n2, f2⟩ := cells1 (hI.one.blk 2 rfl).1
    obtain ⟨n4, f4⟩ := cells1 (hI.one.blk 4 rfl).1
    have HLv := Lib.hid (fun d os => quiet_same (d := d) (os := os) (many_r 1 (HRf.out _ (hI.one.old.trans (kn_regrown W d os) (fun _ h => h.elim))) hmR))
    rw [← HSm.out.many, ← lives_many] at HLv
    have HI := Lib.hid hI
    have HK := Lib.hid hK
    clear hI hK
    have m1 := fun d os => cell_regrown (d := d) (os := os) n1
    have m4 := fun d os => cell_regrown (d := d) (os := os) n4
    gi_wp2_with fail
    refine wpIn_wide.2 ?_
    refine wp_region_below_tail 4 (by kernel_rfl) (by kernel_rfl) ?_
    simp only [List.take_succ_cons, List.take_zero, List.drop_succ_cons, List.drop_zero]
    repeat (go_big_quiet_step ((go_at_call 42; exact HLv.out _ _)))
    refine wpQuiet_nil ?_
    intro _ hw'
    obtain ⟨⟨dq, osq⟩, hw''⟩ := hw'
    subst hw''
    have HI7 := Lib.hid (HI.out.one.kn (kn_regrown W dq osq))
    obtain ⟨r2, rf2⟩ := cells1 (HI7.out.blk 2 rfl).1
    have HK7 := Lib.hid ((kn_regrown W dq osq).blk HK.out id)
    generalize grow (redrawn W dq) osq = w7 at *
    go_wp2_with fail
    gi_wp2
    refine ⟨by simp, .inl ⟨_, _, rfl, run_takeDeferred ((setCell_other (by simp; omega)).trans HK7.out), ?_⟩⟩
    obtain ⟨r1, _⟩ := cells1 ((putObj_other (w := w7.setCell ⟨w.heap.size + 1 + 1, 0, none⟩ (.bool true)) (D := D) (o := .deferred none) (by omega)).trans ((HI7.out.setCA 2 rfl (j := 0) (.bool true)).blk 2 rfl).1)
    refine ⟨.bool true, by simp [results, Try.results39, go_sem, r1], rfl, below_putO (HI7.out.old.below.setCell (by simp; omega) _) (by omega)⟩
  case stop =>
    rintro D c pre W hD hpre ⟨rfl, av, nv, bv, hb, hI⟩ hK
    obtain rfl := hb hpre
    obtain ⟨n1, f1⟩ := cells1 (hI.one.blk 2 rfl).1
    have HI := Lib.hid hI
    have HK := Lib.hid hK
    clear hI hK
    gi_wp2
    refine ⟨by simp, .inl ⟨_, _, rfl, run_takeDeferred HK.out, ?_⟩⟩
    obtain ⟨r1, _⟩ := cells1 ((putObj_other (w := W) (D := D) (o := .deferred none) (by omega)).trans (HI.out.one.blk 2 rfl).1)
    refine ⟨.bool true, by simp [results, Try.results39, go_sem, r1], rfl, below_putO HI.out.one.old.below (by omega)⟩
end Go.Proofs.Ytkjkaliblkihmaa

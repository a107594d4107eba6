/- The walk of the reference's Check. -/
import Derived.Test.YtkdlodjpambelaaCheckP
namespace Go.Proofs.Ytkdlodjpambelaa
set_option linter.unusedVariables false
set_option linter.unusedSimpArgs false
open Go Go.RowKit Go.Sort

def r8 (p : Pg) (x : En) : Bool := if p.leaf then x.child != 0 else !(x.ref.slot == 0 && x.ref.gen == 0) || decide (x.child < 1)
def rE (p : Pg) (i : Nat) (x : En) : Bool := b5 p i x || r8 p x
def rTo (p : Pg) (k : Nat) : Bool := (List.range k).any fun i => rE p i ((p.list[i]?).getD zeroEn)
theorem rTo_succ (p : Pg) (k : Nat) : rTo p (k + 1) = (rTo p k || rE p k ((p.list[k]?).getD zeroEn)) := by
  unfold rTo
  rw [List.range_succ, List.any_append]
  simp
def c0 (p : Pg) : Bool := !p.leaf && !eqS ((p.list[0]?).getD zeroEn).key p.low
theorem badE_r (p : Pg) (i : Nat) (x : En) : badE p i x = (rE p i x || (i == 0 && (!p.leaf && !eqS x.key p.low))) := by
  rw [badE_eq]; unfold rE b8 r8
  cases p.leaf <;> simp [Bool.or_assoc]
theorem badTo_r (p : Pg) : ∀ k, badTo p k = (rTo p k || (decide (0 < k) && c0 p))
  | 0 => by simp [badTo, rTo]
  | k + 1 => by
    rw [badTo_succ, rTo_succ, badTo_r p k, badE_r]
    by_cases h : k = 0
    · subst h; simp [c0, Bool.or_assoc]
    · have h1 : (k == 0) = false := by simpa using h
      have h2 : decide (0 < k) = true := by simp; omega
      rw [h1, h2]
      simp
      cases rTo p k <;> cases c0 p <;> simp
theorem badP_r (p : Pg) : badP p = (emptyR p.low p.high || decide (p.right < 0) || rTo p p.list.length || (!p.leaf && (p.list.isEmpty || !eqS ((p.list[0]?).getD zeroEn).key p.low))) := by
  rw [badP_eq, badTo_r]; unfold b0 c0
  cases h : p.list with
  | nil => simp [rTo]
  | cons x l =>
    have : decide (0 < (x :: l).length) = true := by simp
    rw [this]
    simp
    cases emptyR p.low p.high <;> cases decide (p.right < 0) <;> cases rTo p (l.length + 1) <;> simp
theorem check_bad (p : Pg) (h : badP p = true) : checkP p = 70 := by unfold checkP; rw [if_pos h]
theorem check_ok (p : Pg) (h : badP p = false) : checkP p = 0 := by unfold checkP; rw [if_neg (by rw [h]; simp)]
set_option maxHeartbeats 2000000 in
set_option maxRecDepth 100000 in
theorem check_ref (p : Pg) (w : World) {v : Value} (hr : Rl En.enc 4 w v p.list) (hl : p.list.length ≤ maxLen) : Calls Try.prog 10 #[pgv p v] w fun e w' => e = .returned (.int .i64 (checkP p)) ∧ KN w w' := by
  obtain ⟨a0, cp, rfl, hc0, hrd⟩ := hr
  unfold maxLen at hl
  have HR := Lib.hid hrd
  obtain ⟨P0, hP0⟩ : ∃ q, q = p := ⟨_, rfl⟩
  have HP := Lib.hid hP0
  obtain ⟨lf, lo, hi, r, l⟩ := p
  simp only at hl hc0 hrd HR
  have HO := Lib.hid ((One.nil w).alloc (.cells #[.bool lf, .string lo, .string hi, .int .i64 r, .slice a0 l.length cp] 24))
  rw [show checkP ⟨lf, lo, hi, r, l⟩ = checkP P0 by rw [hP0]]
  clear hrd hP0
  go_enter Try.func10, Try.ntmps10
  go_upto_region 1 with fail
  generalize w.alloc (.cells #[.bool lf, .string lo, .string hi, .int .i64 r, .slice a0 l.length cp] 24) = w1 at *
  obtain ⟨x0, x1, x2, x3, x4, xf⟩ := cells5 (HO.out.blk 0 rfl).1
  go_wp2_with fail
  refine (rng_r _ _ _ _ _ _).mono ?_
  rintro e w2 ⟨rfl, k2⟩
  have HO2 := Lib.hid (HO.out.kn k2)
  clear HO x0 x1 x2 x3 x4 xf k2
  go_wp2_with fail
  refine (empty_r _ _ _).mono ?_
  rintro e w3 ⟨rfl, k3⟩
  have HO3 := Lib.hid (HO2.out.kn k3)
  clear HO2 k3
  obtain ⟨x0, x1, x2, x3, x4, xf⟩ := cells5 (HO3.out.blk 0 rfl).1
  have HB := Lib.hid (show badP P0 = (emptyR lo hi || decide (r < 0) || rTo P0 l.length || (!lf && (l.isEmpty || !eqS ((l[0]?).getD zeroEn).key lo))) by rw [badP_r, HP.out])
  cases he : emptyR lo hi with
  | true =>
    rw [he] at HB
    go_wp2_with fail
    go_ret
    exact ⟨by rw [check_bad P0 (by rw [HB.out]; simp)]; rfl, HO3.out.old⟩
  | false =>
  rw [he] at HB
  by_cases h0 : r < 0
  · rw [decide_eq_true h0] at HB
    go_wp2_with fail
    go_ret
    exact ⟨by rw [check_bad P0 (by rw [HB.out]; simp)]; rfl, HO3.out.old⟩
  rw [decide_eq_false h0] at HB
  clear he
  go_wp2_with fail
  go_loopw [3, 4] (fun i _ wr => ∃ (k : Nat), k ≤ l.length ∧ i = .int .i64 k ∧ Hid (rTo P0 k = false) ∧ Hid (One w wr [Blk w.heap.size (.cells #[.bool lf, .string lo, .string hi, .int .i64 r, .slice a0 l.length cp] 24)])) (fun i _ _ => l.length - (intOf i).toNat)
  case atStart => exact ⟨0, Nat.zero_le _, rfl, Lib.hid (by simp [rTo]), HO3⟩
  case round =>
    clear x0 x1 x2 x3 x4 xf HO3
    obtain ⟨k, hk, rfl, HN, HR1⟩ := hrel
    by_cases hlt : k < l.length
    · obtain ⟨x, hx⟩ : ∃ x, l[k]? = some x := ⟨_, List.getElem?_eq_getElem hlt⟩
      have HST : Hid (rTo P0 (k + 1) = (b5 P0 k x || r8 P0 x)) := Lib.hid (by rw [rTo_succ, HN.out, Bool.false_or]; show rE P0 k _ = rE P0 k x; congr 1; rw [HP.out]; simp [hx])
      have HBAD : ∀ j, rTo P0 j = true → j ≤ l.length → rTo P0 l.length = true := by
        intro j hj hle
        unfold rTo at hj ⊢
        rw [List.any_eq_true] at hj ⊢
        obtain ⟨i, hi, h⟩ := hj
        exact ⟨i, by simp at hi ⊢; omega, h⟩
      have HB2 : Hid (rTo P0 (k + 1) = true → checkP P0 = 70) := Lib.hid (fun h => check_bad P0 (by rw [HB.out, HBAD (k + 1) h (by omega)]; simp))
      clear HBAD
      obtain ⟨b, off, rfl, hbw, e0, e1, e2, e3⟩ := rd4 (HR.out.kn HR1.out.old) hx
      obtain ⟨y0, y1, y2, y3, y4, yf⟩ := cells5 (HR1.out.blk 0 rfl).1
      have hz0 : (0 : Int) ≤ (k : Int) := by omega
      have hz1 : (k : Int) < (l.length : Int) := by omega
      go_upto_region 7 with fail
      have HR2 := Lib.hid (HR1.out.alloc (.cells #[.string x.key, .int .i64 x.ref.slot, .int .i64 x.ref.gen, .int .i64 x.child] 28))
      clear e0 e1 e2 e3 y0 y1 y2 y3 y4 yf HR1
      generalize wr.alloc (.cells #[.string x.key, .int .i64 x.ref.slot, .int .i64 x.ref.gen, .int .i64 x.child] 28) = w2 at *
      generalize wr.heap.size = g at *
      obtain ⟨y0, y1, y2, y3, y4, yf⟩ := cells5 (HR2.out.blk 1 rfl).1
      have z0 := cell_blk (i := 0) (HR2.out.blk 0 rfl).1 rfl
      go_cut [45] (fun s wx => s = .bool (b5 P0 k x) ∧ Hid (One w wx [Blk g (.cells #[.string x.key, .int .i64 x.ref.slot, .int .i64 x.ref.gen, .int .i64 x.child] 28), Blk w.heap.size (.cells #[.bool lf, .string lo, .string hi, .int .i64 r, .slice (some ⟨b, off, none⟩) l.length cp] 24)]))
      case first =>
        have q0 := cell_regrown y0
        have q1 := cell_regrown y1
        have q2 := cell_regrown y2
        have q3 := cell_regrown y3
        have q4 := cell_regrown y4
        have q5 := cell_regrown z0
        cases hq0 : inR lo hi x.key with
        | false =>
          have cH : ∀ d os lf r v, Calls Try.prog 19 #[.agg #[.bool lf, .string lo, .string hi, .int .i64 r, v], .string x.key] (grow (redrawn w2 d) os) fun e w'' => e = .returned (.bool false) ∧ ∃ p : Regrown, w'' = grow (redrawn w2 p.d) p.os := fun d os lf r v => quiet_kn (hq0 ▸ has_r lf lo hi r v x.key _)
          have HB5 : Hid (b5 P0 k x = true) := Lib.hid (by rw [HP.out]; unfold b5; simp only; rw [hq0]; simp)
          clear y0 y1 y2 y3 y4 yf z0 hq0
          refine wp_region_quiet_below (by kernel_rfl) (by kernel_rfl) ?_
          repeat (go_big_quiet_step (first | (go_at_call 19; exact cH _ _ _ _ _)))
          refine wpQuiet_nil ?_
          intro _ hw'
          obtain ⟨⟨dq, osq⟩, hw''⟩ := hw'
          subst hw''
          go_wp2_with fail
          go_meet
          exact ⟨by rw [HB5.out], Lib.hid (HR2.out.kn (kn_regrown _ dq osq))⟩
        | true =>
          have cH : ∀ d os lf r v, Calls Try.prog 19 #[.agg #[.bool lf, .string lo, .string hi, .int .i64 r, v], .string x.key] (grow (redrawn w2 d) os) fun e w'' => e = .returned (.bool true) ∧ ∃ p : Regrown, w'' = grow (redrawn w2 p.d) p.os := fun d os lf r v => quiet_kn (hq0 ▸ has_r lf lo hi r v x.key _)
          clear y0 y1 y2 y3 y4 yf z0
          by_cases hk0 : k = 0
          · subst hk0
            have HB5 : Hid (b5 P0 0 x = false) := Lib.hid (by rw [HP.out]; unfold b5; simp only; rw [hq0]; simp)
            rw [show ((0 : Nat) : Int) = 0 from rfl]
            have hd : decide ((0 : Nat) < 0) = false := rfl
            clear hq0
            refine wp_region_quiet_below (by kernel_rfl) (by kernel_rfl) ?_
            repeat (go_big_quiet_step (first | (go_at_call 19; exact cH _ _ _ _ _)))
            refine wpQuiet_nil ?_
            intro _ hw'
            obtain ⟨⟨dq, osq⟩, hw''⟩ := hw'
            subst hw''
            go_wp2_with fail
            go_meet
            exact ⟨by rw [HB5.out], Lib.hid (HR2.out.kn (kn_regrown _ dq osq))⟩
          · obtain ⟨y, hy⟩ : ∃ y, l[k - 1]? = some y := ⟨_, List.getElem?_eq_getElem (by omega)⟩
            obtain ⟨b', off', hab, _, f0, _, _, _⟩ := rd4 (HR.out.kn HR2.out.old) hy
            cases hab
            have q6 := cell_regrown f0
            have HB5 : Hid (b5 P0 k x = (!ltS y.key x.key)) := Lib.hid (by have hd : decide (0 < k) = true := decide_eq_true (by omega); rw [HP.out]; unfold b5; simp only; rw [hd, hq0]; simp [hy])
            clear hy hq0
            have hk1 : (0 : Int) < (k : Int) := by omega
            have hk1n : 0 < k := by omega
            have hw : IntKind.i64.wrap ((k : Int) - 1) = ((k - 1 : Nat) : Int) := by rw [Go.IntWalk.i64_in _ (by omega)]; omega
            have hw2 : wrap64 ((k : Int) - 1) = ((k - 1 : Nat) : Int) := by unfold wrap64; omega
            have hz4 : (0 : Int) ≤ ((k - 1 : Nat) : Int) := by omega
            have hz5 : ((k - 1 : Nat) : Int) < (l.length : Int) := by omega
            clear hk0
            cases hq : ltS y.key x.key with
            | true =>
              have hs1 : Op.bytesLess x.key.toList y.key.toList = false := ltS_asymm hq
              have hs2 : (x.key.toList == y.key.toList) = false := beq_str_false (fun e => by rw [e, ltS_irrefl] at hq; cases hq)
              rw [hq] at HB5
              clear hq
              refine wp_region_quiet_below (by kernel_rfl) (by kernel_rfl) ?_
              repeat (go_big_quiet_step (first | (go_at_call 19; exact cH _ _ _ _ _)))
              refine wpQuiet_nil ?_
              intro _ hw'
              obtain ⟨⟨dq, osq⟩, hw''⟩ := hw'
              subst hw''
              clear hw hw2
              go_wp2_with fail
              go_meet
              exact ⟨by rw [HB5.out]; simp, Lib.hid (HR2.out.kn (kn_regrown _ dq osq))⟩
            | false =>
              have hs0 : (Op.bytesLess x.key.toList y.key.toList || x.key.toList == y.key.toList) = true := by rw [bytesLe]; show (!ltS y.key x.key) = true; rw [hq]; rfl
              rw [hq] at HB5
              clear hq
              cases hs1 : Op.bytesLess x.key.toList y.key.toList with
              | true =>
                clear hs0
                refine wp_region_quiet_below (by kernel_rfl) (by kernel_rfl) ?_
                repeat (go_big_quiet_step (first | (go_at_call 19; exact cH _ _ _ _ _)))
                refine wpQuiet_nil ?_
                intro _ hw'
                obtain ⟨⟨dq, osq⟩, hw''⟩ := hw'
                subst hw''
                clear hw hw2
                go_wp2_with fail
                go_meet
                exact ⟨by rw [HB5.out]; simp, Lib.hid (HR2.out.kn (kn_regrown _ dq osq))⟩
              | false =>
                rw [hs1, Bool.false_or] at hs0
                refine wp_region_quiet_below (by kernel_rfl) (by kernel_rfl) ?_
                repeat (go_big_quiet_step (first | (go_at_call 19; exact cH _ _ _ _ _)))
                refine wpQuiet_nil ?_
                intro _ hw'
                obtain ⟨⟨dq, osq⟩, hw''⟩ := hw'
                subst hw''
                clear hw hw2
                go_wp2_with fail
                go_meet
                exact ⟨by rw [HB5.out]; simp, Lib.hid (HR2.out.kn (kn_regrown _ dq osq))⟩
      case rest =>
        clear y0 y1 y2 y3 y4 yf z0 HR2
        obtain ⟨rfl, HR3⟩ := hcut
        cases hb5 : b5 P0 k x with
        | true =>
          rw [hb5] at HST
          clear hb5
          go_wp2
          go_ret
          exact ⟨by rw [HB2.out (by rw [HST.out]; rfl)]; rfl, HR3.out.old⟩
        | false =>
        rw [hb5, Bool.false_or] at HST
        clear hb5
        obtain ⟨y0, y1, y2, y3, y4, yf⟩ := cells5 (HR3.out.blk 1 rfl).1
        have z0 := cell_blk (i := 0) (HR3.out.blk 0 rfl).1 rfl
        have z1 := cell_blk (i := 1) (HR3.out.blk 0 rfl).1 rfl
        have z2 := cell_blk (i := 2) (HR3.out.blk 0 rfl).1 rfl
        have z3 := cell_blk (i := 3) (HR3.out.blk 0 rfl).1 rfl
        have HR4 := Lib.hid (HR3.out.drop)
        cases lf with
        | true =>
          have H8 : Hid (r8 P0 x = (x.child != 0)) := Lib.hid (by rw [HP.out]; rfl)
          cases hq : (x.child != 0) with
          | true =>
            rw [hq] at H8
            go_wp2
            go_ret
            exact ⟨by rw [HB2.out (by rw [HST.out, H8.out])]; rfl, HR3.out.old⟩
          | false =>
            rw [hq] at H8
            go_wp2
            go_roundw
            case rel => exact ⟨k + 1, by omega, by go_num, Lib.hid (by rw [HST.out, H8.out]), HR4⟩
            case measure => simp [intOf]; omega
        | false =>
          have H8 : Hid (r8 P0 x = (!(x.ref.slot == 0 && x.ref.gen == 0) || decide (x.child < 1))) := Lib.hid (by rw [HP.out]; rfl)
          cases hq : (!(x.ref.slot == 0 && x.ref.gen == 0)) with
          | true =>
            have hn : ∀ w, (binOp .neq 26 (.agg #[.int .i64 x.ref.slot, .int .i64 x.ref.gen]) (.agg #[.int .i64 0, .int .i64 0])).run Try.prog w = .ok (.bool true) w := fun w => by rw [run_neq_hd, hq]
            rw [hq] at H8
            clear hq
            go_wp2
            go_ret
            exact ⟨by rw [HB2.out (by rw [HST.out, H8.out]; rfl)]; rfl, HR3.out.old⟩
          | false =>
          have hn : ∀ w, (binOp .neq 26 (.agg #[.int .i64 x.ref.slot, .int .i64 x.ref.gen]) (.agg #[.int .i64 0, .int .i64 0])).run Try.prog w = .ok (.bool false) w := fun w => by rw [run_neq_hd, hq]
          rw [hq] at H8
          clear hq
          by_cases hch : x.child < 1
          · rw [decide_eq_true hch] at H8
            go_wp2
            go_ret
            exact ⟨by rw [HB2.out (by rw [HST.out, H8.out]; rfl)]; rfl, HR3.out.old⟩
          · rw [decide_eq_false hch] at H8
            go_wp2
            go_roundw
            case rel => exact ⟨k + 1, by omega, by go_num, Lib.hid (by rw [HST.out, H8.out]; rfl), HR4⟩
            case measure => simp [intOf]; omega
    · obtain rfl : k = l.length := by omega
      rw [HN.out] at HB
      obtain ⟨y0, y1, y2, y3, y4, yf⟩ := cells5 (HR1.out.blk 0 rfl).1
      go_upto_region 11 with fail
      cases lf with
      | true =>
        go_quiet (fail)
        go_wp2
        go_ret
        exact ⟨by rw [check_ok P0 (by rw [HB.out]; rfl)]; rfl, HR1.out.old.drewN _⟩
      | false =>
        cases l with
        | nil =>
          have hn2 : (((([] : List En).length : Nat) : Int) == 0) = true := rfl
          go_quiet (fail)
          go_wp2
          go_ret
          exact ⟨by rw [check_bad P0 (by rw [HB.out]; rfl)]; rfl, HR1.out.old.drewN _⟩
        | cons x l =>
          have hn2 : ((((x :: l).length : Nat) : Int) == 0) = false := beq_eq_false_iff_ne.2 (by rw [List.length_cons]; omega)
          have hn3 : (0 : Int) < (((x :: l).length : Nat) : Int) := by rw [List.length_cons]; omega
          obtain ⟨b, off, rfl, hbw, e0, e1, e2, e3⟩ := rd4 (HR.out.kn HR1.out.old) (i := 0) (x := x) rfl
          simp only [Nat.zero_mul, Nat.add_zero] at e0
          have HB' := Lib.hid (show badP P0 = !eqS x.key lo by rw [HB.out]; simp)
          clear HB
          generalize (x :: l).length = n at *
          cases hq : (x.key.toList == lo.toList) with
          | true =>
            have hq2 : (x.key.toList != lo.toList) = false := by unfold bne; rw [hq]; rfl
            have hq3 : eqS x.key lo = true := hq
            rw [hq3] at HB'
            clear hq3
            go_quiet (fail)
            go_wp2
            go_ret
            exact ⟨by rw [check_ok P0 HB'.out]; rfl, HR1.out.old.drewN _⟩
          | false =>
            have hq2 : (x.key.toList != lo.toList) = true := by unfold bne; rw [hq]; rfl
            have hq3 : eqS x.key lo = false := hq
            rw [hq3] at HB'
            clear hq3
            go_quiet (fail)
            go_wp2
            go_ret
            exact ⟨by rw [check_bad P0 HB'.out]; rfl, HR1.out.old.drewN _⟩
end Go.Proofs.Ytkdlodjpambelaa

/- The walk of page.Check. -/
import Derived.Test.YtkdlodjpambelaaMakeP
import Derived.Test.YtkdlodjpambelaaWith
import Derived.Test.YtkdlodjpambelaaQuietB
namespace Go.Proofs.Ytkdlodjpambelaa
set_option linter.unusedVariables false
set_option linter.unusedSimpArgs false
open Go Go.RowKit Go.Sort

def b0 (p : Pg) : Bool := emptyR p.low p.high || decide (p.right < 0) || (!p.leaf && p.list.isEmpty)
def b5 (p : Pg) (k : Nat) (x : En) : Bool := (decide (0 < k) && !ltS ((p.list[k - 1]?).getD zeroEn).key x.key) || !inR p.low p.high x.key
def b8 (p : Pg) (k : Nat) (x : En) : Bool := if p.leaf then x.child != 0 else !(x.ref.slot == 0 && x.ref.gen == 0) || decide (x.child < 1) || (k == 0 && !eqS x.key p.low)
theorem badE_eq (p : Pg) (k : Nat) (x : En) : badE p k x = (b5 p k x || b8 p k x) := by unfold badE b5 b8; rfl
theorem badP_eq (p : Pg) : badP p = (b0 p || badTo p p.list.length) := rfl
theorem run_neq_hd (s g s' g' : Int) (w : World) : (binOp .neq 26 (.agg #[.int .i64 s, .int .i64 g]) (.agg #[.int .i64 s', .int .i64 g'])).run Try.prog w = .ok (.bool (!(s == s' && g == g'))) w := by
  cases h2 : s == s' with
  | false => go_simp
  | true =>
  cases h3 : g == g' with
  | false => go_simp
  | true => go_simp

set_option maxHeartbeats 2000000 in
set_option maxRecDepth 100000 in
theorem check_page (p : Pg) (w : World) {v : Value} (hr : Rl En.enc 4 w v p.list) (hl : p.list.length ≤ maxLen) : Calls Try.prog 46 #[pgv p v] w fun e w' => e = .returned (.int .i64 (checkP p)) ∧ KN w w' := by
  obtain ⟨a0, c0, rfl, hc0, hrd⟩ := hr
  unfold maxLen at hl
  have HR := Lib.hid hrd
  obtain ⟨P0, hP0⟩ : ∃ q, q = p := ⟨_, rfl⟩
  have HP := Lib.hid hP0
  obtain ⟨lf, lo, hi, r, l⟩ := p
  simp only at hl hc0 hrd HR
  have HO := Lib.hid ((One.nil w).alloc (.cells #[.bool lf, .string lo, .string hi, .int .i64 r, .slice a0 l.length c0] 24))
  rw [show checkP ⟨lf, lo, hi, r, l⟩ = checkP P0 by rw [hP0]]
  clear hrd hP0
  go_enter Try.func46, Try.ntmps46
  go_upto_region 1 with fail
  generalize w.alloc (.cells #[.bool lf, .string lo, .string hi, .int .i64 r, .slice a0 l.length c0] 24) = w1 at *
  obtain ⟨x0, x1, x2, x3, x4, xf⟩ := cells5 (HO.out.blk 0 rfl).1
  go_cut [3] (fun s wx => s = .bool (b0 P0) ∧ Hid (One w wx [Blk w.heap.size (.cells #[.bool lf, .string lo, .string hi, .int .i64 r, .slice a0 l.length c0] 24)]))
  case first =>
    go_wp2_with fail
    refine (rng_k _ _ _ _ _ _).mono ?_
    rintro e w2 ⟨rfl, k2⟩
    have HO2 := Lib.hid (HO.out.kn k2)
    clear HO x0 x1 x2 x3 x4 xf k2
    go_wp2_with fail
    refine (empty_k _ _ _).mono ?_
    rintro e w3 ⟨rfl, k3⟩
    have HO3 := Lib.hid (HO2.out.kn k3)
    clear HO2 k3
    obtain ⟨x0, x1, x2, x3, x4, xf⟩ := cells5 (HO3.out.blk 0 rfl).1
    have hb : b0 P0 = (emptyR lo hi || decide (r < 0) || (!lf && l.isEmpty)) := by rw [HP.out]; rfl
    have HB := Lib.hid hb
    clear hb
    cases he : emptyR lo hi with
    | true =>
      rw [he] at HB
      go_wp2_with fail
      go_meet
      exact ⟨by rw [HB.out]; simp, HO3⟩
    | false =>
    rw [he] at HB
    by_cases h0 : r < 0
    · have hd : decide (r < 0) = true := by simpa using h0
      rw [hd] at HB
      clear hd
      go_wp2_with fail
      go_meet
      exact ⟨by rw [HB.out]; simp, HO3⟩
    have hd : decide (r < 0) = false := by simpa using h0
    rw [hd] at HB
    cases hlf : lf with
    | true =>
      subst hlf
      go_wp2_with fail
      go_meet
      exact ⟨by rw [HB.out]; simp, HO3⟩
    | false =>
      subst hlf
      by_cases hn : l.length = 0
      · have hn2 : ((l.length : Int) == 0) = true := beq_iff_eq.2 (by omega)
        have hn3 : l.isEmpty = true := by simpa using hn
        rw [hn3] at HB
        clear hn hn3
        go_wp2_with fail
        go_meet
        exact ⟨by rw [HB.out]; simp, HO3⟩
      · have hn2 : ((l.length : Int) == 0) = false := beq_eq_false_iff_ne.2 (by omega)
        have hn3 : l.isEmpty = false := by simpa using hn
        rw [hn3] at HB
        clear hn hn3
        go_wp2_with fail
        go_meet
        exact ⟨by rw [HB.out]; simp, HO3⟩
  case rest =>
  clear HO x0 x1 x2 x3 x4 xf
  obtain ⟨rfl, HO⟩ := hcut
  generalize hB0 : b0 P0 = B0
  have HB0 := Lib.hid hB0
  clear hB0
  obtain ⟨x0, x1, x2, x3, x4, xf⟩ := cells5 (HO.out.blk 0 rfl).1
  go_wp2_with fail
  go_loopw [3, 4, 5, 28] (fun s _ _ i wr => ∃ (k : Nat) (B : Bool), k ≤ l.length ∧ i = .int .i64 k ∧ s = .bool B ∧ Hid (B = (B0 || badTo P0 k)) ∧ Hid (One w wr [Blk w.heap.size (.cells #[.bool lf, .string lo, .string hi, .int .i64 r, .slice a0 l.length c0] 24)])) (fun _ _ _ i _ => l.length - (intOf i).toNat)
  case atStart => exact ⟨0, B0, Nat.zero_le _, rfl, rfl, Lib.hid (by simp [badTo]), HO⟩
  case round =>
    clear x0 x1 x2 x3 x4 xf HO
    obtain ⟨k, B, hk, rfl, rfl, HB, HR1⟩ := hrel
    by_cases hlt : k < l.length
    · obtain ⟨x, hx⟩ : ∃ x, l[k]? = some x := ⟨_, List.getElem?_eq_getElem hlt⟩
      have HST : Hid (badTo P0 (k + 1) = (badTo P0 k || (b5 P0 k x || b8 P0 k x))) := Lib.hid (by rw [badTo_succ, ← badE_eq]; congr 2; rw [HP.out]; simp [hx])
      obtain ⟨b, off, rfl, hbw, e0, e1, e2, e3⟩ := rd4 (HR.out.kn HR1.out.old) hx
      obtain ⟨y0, y1, y2, y3, y4, yf⟩ := cells5 (HR1.out.blk 0 rfl).1
      have hz0 : (0 : Int) ≤ (k : Int) := by omega
      have hz1 : (k : Int) < (l.length : Int) := by omega
      go_upto_region 5 with fail
      have HR2 := Lib.hid (HR1.out.alloc (.cells #[.string x.key, .int .i64 x.ref.slot, .int .i64 x.ref.gen, .int .i64 x.child] 28))
      clear e0 e1 e2 e3 y0 y1 y2 y3 y4 yf HR1
      generalize wr.alloc (.cells #[.string x.key, .int .i64 x.ref.slot, .int .i64 x.ref.gen, .int .i64 x.child] 28) = w2 at *
      generalize wr.heap.size = g at *
      obtain ⟨y0, y1, y2, y3, y4, yf⟩ := cells5 (HR2.out.blk 1 rfl).1
      have z0 := cell_blk (i := 0) (HR2.out.blk 0 rfl).1 rfl
      go_cut [3] (fun s wx => s = .bool (B || b5 P0 k x) ∧ Hid (One w wx [Blk g (.cells #[.string x.key, .int .i64 x.ref.slot, .int .i64 x.ref.gen, .int .i64 x.child] 28), Blk w.heap.size (.cells #[.bool lf, .string lo, .string hi, .int .i64 r, .slice (some ⟨b, off, none⟩) l.length c0] 24)]))
      case first =>
        cases B with
        | true =>
          go_quiet (fail)
          go_wp2_with fail
          go_meet
          exact ⟨by simp, Lib.hid (HR2.out.kn ((Kp.refl _ _).drewN _))⟩
        | false =>
          have q0 := cell_regrown y0
          have q1 := cell_regrown y1
          have q2 := cell_regrown y2
          have q3 := cell_regrown y3
          have q4 := cell_regrown y4
          have q5 := cell_regrown z0
          have cR : ∀ d os lf lo hi r v, Calls Try.prog 56 #[.agg #[.bool lf, .string lo, .string hi, .int .i64 r, v]] (grow (redrawn w2 d) os) fun e w'' => e = .returned (.agg #[.string lo, .string hi]) ∧ ∃ p : Regrown, w'' = grow (redrawn w2 p.d) p.os := fun d os lf lo hi r v => quiet_kn (rng_k lf lo hi r v _)
          have cI : ∀ d os lo hi key, Calls Try.prog 55 #[.agg #[.string lo, .string hi], .string key] (grow (redrawn w2 d) os) fun e w'' => e = .returned (.bool (inR lo hi key)) ∧ ∃ p : Regrown, w'' = grow (redrawn w2 p.d) p.os := fun d os lo hi key => quiet_kn (in_k lo hi key _)
          clear y0 y1 y2 y3 y4 yf z0
          by_cases hk0 : k = 0
          · subst hk0
            have HB5 : Hid (b5 P0 0 x = !inR lo hi x.key) := Lib.hid (by rw [HP.out]; simp [b5])
            rw [show ((0 : Nat) : Int) = 0 from rfl]
            have hd : decide ((0 : Nat) < 0) = false := rfl
            refine wp_region_quiet_below (by kernel_rfl) (by kernel_rfl) ?_
            repeat (go_big_quiet_step (first | (go_at_call 56; exact cR _ _ _ _ _ _ _) | (go_at_call 55; exact cI _ _ _ _ _)))
            refine wpQuiet_nil ?_
            intro _ hw'
            obtain ⟨⟨dq, osq⟩, hw''⟩ := hw'
            subst hw''
            go_wp2_with fail
            go_meet
            exact ⟨by rw [HB5.out]; simp, Lib.hid (HR2.out.kn (kn_regrown _ dq osq))⟩
          · obtain ⟨y, hy⟩ : ∃ y, l[k - 1]? = some y := ⟨_, List.getElem?_eq_getElem (by omega)⟩
            obtain ⟨b', off', hab, _, f0, _, _, _⟩ := rd4 (HR.out.kn HR2.out.old) hy
            cases hab
            have q6 := cell_regrown f0
            have HB5 : Hid (b5 P0 k x = (!ltS y.key x.key || !inR lo hi x.key)) := Lib.hid (by have hd : decide (0 < k) = true := decide_eq_true (by omega); rw [HP.out]; unfold b5; rw [hd]; simp [hy])
            clear hy
            have hk1 : (0 : Int) < (k : Int) := by omega
            have hk1n : 0 < k := by omega
            have hw : IntKind.i64.wrap ((k : Int) - 1) = ((k - 1 : Nat) : Int) := by rw [Go.IntWalk.i64_in _ (by omega)]; omega
            have hw2 : wrap64 ((k : Int) - 1) = ((k - 1 : Nat) : Int) := by unfold wrap64; omega
            have hz4 : (0 : Int) ≤ ((k - 1 : Nat) : Int) := by omega
            have hz5 : ((k - 1 : Nat) : Int) < (l.length : Int) := by omega
            clear hk0
            cases hq : ltS y.key x.key with
            | true =>
              have hs1 : Op.bytesLess x.key.toList y.key.toList = false := ltS_asymm hq
              have hs2 : (x.key.toList == y.key.toList) = false := beq_str_false (fun e => by rw [e, ltS_irrefl] at hq; cases hq)
              rw [hq] at HB5
              clear hq
              refine wp_region_quiet_below (by kernel_rfl) (by kernel_rfl) ?_
              repeat (go_big_quiet_step (first | (go_at_call 56; exact cR _ _ _ _ _ _ _) | (go_at_call 55; exact cI _ _ _ _ _)))
              refine wpQuiet_nil ?_
              intro _ hw'
              obtain ⟨⟨dq, osq⟩, hw''⟩ := hw'
              subst hw''
              clear hw hw2
              go_wp2_with fail
              go_meet
              exact ⟨by rw [HB5.out]; simp, Lib.hid (HR2.out.kn (kn_regrown _ dq osq))⟩
            | false =>
              have hs0 : (Op.bytesLess x.key.toList y.key.toList || x.key.toList == y.key.toList) = true := by rw [bytesLe]; show (!ltS y.key x.key) = true; rw [hq]; rfl
              rw [hq] at HB5
              clear hq
              cases hs1 : Op.bytesLess x.key.toList y.key.toList with
              | true =>
                clear hs0
                refine wp_region_quiet_below (by kernel_rfl) (by kernel_rfl) ?_
                repeat (go_big_quiet_step (first | (go_at_call 56; exact cR _ _ _ _ _ _ _) | (go_at_call 55; exact cI _ _ _ _ _)))
                refine wpQuiet_nil ?_
                intro _ hw'
                obtain ⟨⟨dq, osq⟩, hw''⟩ := hw'
                subst hw''
                clear hw hw2
                go_wp2_with fail
                go_meet
                exact ⟨by rw [HB5.out]; simp, Lib.hid (HR2.out.kn (kn_regrown _ dq osq))⟩
              | false =>
                rw [hs1, Bool.false_or] at hs0
                refine wp_region_quiet_below (by kernel_rfl) (by kernel_rfl) ?_
                repeat (go_big_quiet_step (first | (go_at_call 56; exact cR _ _ _ _ _ _ _) | (go_at_call 55; exact cI _ _ _ _ _)))
                refine wpQuiet_nil ?_
                intro _ hw'
                obtain ⟨⟨dq, osq⟩, hw''⟩ := hw'
                subst hw''
                clear hw hw2
                go_wp2_with fail
                go_meet
                exact ⟨by rw [HB5.out]; simp, Lib.hid (HR2.out.kn (kn_regrown _ dq osq))⟩
      case rest =>
        clear y0 y1 y2 y3 y4 yf z0 HR2
        obtain ⟨rfl, HR3⟩ := hcut
        have HC : Hid ((B || b5 P0 k x) = (B || b5 P0 k x)) := Lib.hid rfl
        generalize hCC : (B || b5 P0 k x) = C at *
        have HC := Lib.hid hCC
        clear hCC
        obtain ⟨y0, y1, y2, y3, y4, yf⟩ := cells5 (HR3.out.blk 1 rfl).1
        have z0 := cell_blk (i := 0) (HR3.out.blk 0 rfl).1 rfl
        have z1 := cell_blk (i := 1) (HR3.out.blk 0 rfl).1 rfl
        have z2 := cell_blk (i := 2) (HR3.out.blk 0 rfl).1 rfl
        have z3 := cell_blk (i := 3) (HR3.out.blk 0 rfl).1 rfl
        have HR4 := Lib.hid (HR3.out.drop)
        have hfin : ∀ D, D = (C || b8 P0 k x) → Hid (D = (B0 || badTo P0 (k + 1))) := fun D hD => Lib.hid (by rw [hD, ← HC.out, HST.out, HB.out]; simp [Bool.or_assoc])
        have HF := Lib.hid hfin
        clear hfin
        cases C with
        | true =>
          cases lf with
          | true =>
            go_wp2
            go_roundw
            case rel => exact ⟨k + 1, true, by omega, by go_num, rfl, HF.out true (by simp), HR4⟩
            case measure => simp [intOf]; omega
          | false =>
            go_wp2
            go_roundw
            case rel => exact ⟨k + 1, true, by omega, by go_num, rfl, HF.out true (by simp), HR4⟩
            case measure => simp [intOf]; omega
        | false =>
          cases lf with
          | true =>
            have H8 : Hid (b8 P0 k x = (x.child != 0)) := Lib.hid (by rw [HP.out]; rfl)
            cases hq : (x.child != 0) with
            | true =>
              rw [hq] at H8
              go_wp2
              go_roundw
              case rel => exact ⟨k + 1, true, by omega, by go_num, rfl, HF.out true (by rw [H8.out]; rfl), HR4⟩
              case measure => simp [intOf]; omega
            | false =>
              rw [hq] at H8
              go_wp2
              go_roundw
              case rel => exact ⟨k + 1, false, by omega, by go_num, rfl, HF.out false (by rw [H8.out]; rfl), HR4⟩
              case measure => simp [intOf]; omega
          | false =>
            have H8 : Hid (b8 P0 k x = (!(x.ref.slot == 0 && x.ref.gen == 0) || decide (x.child < 1) || (k == 0 && !eqS x.key lo))) := Lib.hid (by rw [HP.out]; rfl)
            cases hq : (!(x.ref.slot == 0 && x.ref.gen == 0)) with
            | true =>
              have hn : ∀ w, (binOp .neq 26 (.agg #[.int .i64 x.ref.slot, .int .i64 x.ref.gen]) (.agg #[.int .i64 0, .int .i64 0])).run Try.prog w = .ok (.bool true) w := fun w => by rw [run_neq_hd, hq]
              rw [hq] at H8
              clear hq
              go_wp2
              go_roundw
              case rel => exact ⟨k + 1, true, by omega, by go_num, rfl, HF.out true (by rw [H8.out]; rfl), HR4⟩
              case measure => simp [intOf]; omega
            | false =>
            have hn : ∀ w, (binOp .neq 26 (.agg #[.int .i64 x.ref.slot, .int .i64 x.ref.gen]) (.agg #[.int .i64 0, .int .i64 0])).run Try.prog w = .ok (.bool false) w := fun w => by rw [run_neq_hd, hq]
            rw [hq] at H8
            clear hq
            by_cases hch : x.child < 1
            · rw [decide_eq_true hch] at H8
              go_wp2
              go_roundw
              case rel => exact ⟨k + 1, true, by omega, by go_num, rfl, HF.out true (by rw [H8.out]; rfl), HR4⟩
              case measure => simp [intOf]; omega
            · rw [decide_eq_false hch] at H8
              by_cases hk0 : k = 0
              · have hk1 : ((k : Int) == 0) = true := beq_iff_eq.2 (by omega)
                have hk2 : (k == 0) = true := beq_iff_eq.2 hk0
                rw [hk2] at H8
                clear hk0
                cases hq : (x.key.toList == lo.toList) with
                | true =>
                  have hq2 : (x.key.toList != lo.toList) = false := by unfold bne; rw [hq]; rfl
                  have hq3 : eqS x.key lo = true := hq
                  rw [hq3] at H8
                  clear hq3
                  go_wp2
                  go_roundw
                  case rel => exact ⟨k + 1, false, by omega, by go_num, rfl, HF.out false (by rw [H8.out]; rfl), HR4⟩
                  case measure => simp [intOf]; omega
                | false =>
                  have hq2 : (x.key.toList != lo.toList) = true := by unfold bne; rw [hq]; rfl
                  have hq3 : eqS x.key lo = false := hq
                  rw [hq3] at H8
                  clear hq3
                  go_wp2
                  go_roundw
                  case rel => exact ⟨k + 1, true, by omega, by go_num, rfl, HF.out true (by rw [H8.out]; rfl), HR4⟩
                  case measure => simp [intOf]; omega
              · have hk1 : ((k : Int) == 0) = false := beq_eq_false_iff_ne.2 (by omega)
                have hk2 : (k == 0) = false := beq_eq_false_iff_ne.2 hk0
                rw [hk2] at H8
                clear hk0
                go_wp2
                go_roundw
                case rel => exact ⟨k + 1, false, by omega, by go_num, rfl, HF.out false (by rw [H8.out]; rfl), HR4⟩
                case measure => simp [intOf]; omega
    · obtain rfl : k = l.length := by omega
      have HBP : Hid (badP P0 = B) := Lib.hid (by rw [badP_eq, HB0.out, HB.out, HP.out])
      cases B with
      | true =>
        go_wp2
        go_ret
        refine ⟨?_, HR1.out.old⟩
        unfold checkP
        rw [HBP.out]
        rfl
      | false =>
        go_wp2
        go_ret
        refine ⟨?_, HR1.out.old⟩
        unfold checkP
        rw [HBP.out]
        rfl
end Go.Proofs.Ytkdlodjpambelaa

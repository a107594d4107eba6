/- The walks of slices.Equal on entries, SameList, Same. -/
import Derived.Test.YtkdlodjpambelaaIndex
import Derived.Outline
import Derived.Deep.QuietTactic
import Derived.BigQuiet
import Derived.Deep.DeepCutAuto
import Derived.Deep.RegionHeld3
import Derived.Deep.DrawnRows
namespace Go.Proofs.Ytkdlodjpambelaa
set_option linter.unusedVariables false
set_option linter.unusedSimpArgs false
open Go Go.RowKit

theorem run_neq_env (a b : En) (w : World) : (binOp .neq 28 (env a) (env b)).run Try.prog w = .ok (.bool (!eqE a b)) w := by
  obtain ⟨k, ⟨s, g⟩, c⟩ := a
  obtain ⟨k', ⟨s', g'⟩, c'⟩ := b
  unfold eqE eqS env
  simp only
  cases h1 : k.toList == k'.toList with
  | false => go_simp
  | true =>
  cases h2 : s == s' with
  | false => go_simp
  | true =>
  cases h3 : g == g' with
  | false => go_simp
  | true =>
  cases h4 : c == c' with
  | false => go_simp
  | true => go_simp
theorem run_eql_env (a b : En) (w : World) : (binOp .eql 28 (env a) (env b)).run Try.prog w = .ok (.bool (eqE a b)) w := by
  obtain ⟨k, ⟨s, g⟩, c⟩ := a
  obtain ⟨k', ⟨s', g'⟩, c'⟩ := b
  unfold eqE eqS env
  simp only
  cases h1 : k.toList == k'.toList with
  | false => go_simp
  | true =>
  cases h2 : s == s' with
  | false => go_simp
  | true =>
  cases h3 : g == g' with
  | false => go_simp
  | true =>
  cases h4 : c == c' with
  | false => go_simp
  | true => go_simp

set_option maxHeartbeats 1000000 in
theorem equal_En {v u : Value} {l m : List En} {w : World} (h1 : Rl En.enc 4 w v l) (h2 : Rl En.enc 4 w u m) (hl : l.length ≤ maxLen) :
    Calls Try.prog 58 #[v, u] w fun e w' => e = .returned (.bool (sameL l m)) ∧ KN w w' := by
  obtain ⟨a1, c1, rfl, hc1, r1⟩ := h1
  obtain ⟨a2, c2, rfl, hc2, r2⟩ := h2
  unfold maxLen at hl
  have R1 := Lib.hid r1
  have R2 := Lib.hid r2
  clear r1 r2 hc1 hc2
  by_cases hlen : l.length = m.length
  · have hb : ((l.length : Int) != (m.length : Int)) = false := by rw [hlen]; simp
    have HL := Lib.hid hlen
    clear hlen
    go_enter Try.func58, Try.ntmps58
    go_wp2
    go_loopw [5, 13] (fun _ i wr => ∃ k : Nat, k ≤ l.length ∧ i = .int .i64 k ∧ Hid (KN w wr) ∧ Hid (sameL (l.take k) (m.take k) = true)) (fun _ i _ => l.length - (intOf i).toNat)
    case atStart => exact ⟨0, Nat.zero_le _, rfl, Lib.hid (Kp.refl _ w), Lib.hid (by simp [sameL])⟩
    case round =>
      obtain ⟨k, hk, rfl, HK, HS⟩ := hrel
      by_cases hlt : k < l.length
      · have hlt2 : k < m.length := by have := HL.out; omega
        obtain ⟨x, hx⟩ : ∃ x, l[k]? = some x := ⟨_, List.getElem?_eq_getElem hlt⟩
        obtain ⟨y, hy⟩ : ∃ y, m[k]? = some y := ⟨_, List.getElem?_eq_getElem hlt2⟩
        obtain ⟨b, off, rfl, hb1, x0, x1, x2, x3⟩ := rd4 (R1.out.kn HK.out) hx
        obtain ⟨b', off', rfl, hb2, y0, y1, y2, y3⟩ := rd4 (R2.out.kn HK.out) hy
        have HX := Lib.hid hx
        have HY := Lib.hid hy
        clear hx hy
        have hz1 : (0 : Int) ≤ (k : Int) := by omega
        have hz2 : (k : Int) < (m.length : Int) := by omega
        have hz3 : (k : Int) < (l.length : Int) := by omega
        cases hq : eqE x y with
        | true =>
          have hn : ∀ w, (binOp .neq 28 (env x) (env y)).run Try.prog w = .ok (.bool false) w := fun w => by rw [run_neq_env, hq]; rfl
          have HQ := Lib.hid hq
          clear hq
          go_wp2
          go_quiet (fail)
          go_wp2
          go_roundw
          case rel =>
            refine ⟨k + 1, by omega, by go_num, Lib.hid (HK.out.drewN _), Lib.hid ?_⟩
            rw [List.take_add_one, List.take_add_one, HX.out, HY.out]
            have e1 := sameL_iff.1 HS.out
            rw [e1, eqE_iff.1 HQ.out]
            exact sameL_iff.2 rfl
          case measure => simp [intOf]; omega
        | false =>
          have hn : ∀ w, (binOp .neq 28 (env x) (env y)).run Try.prog w = .ok (.bool true) w := fun w => by rw [run_neq_env, hq]; rfl
          have HQ := Lib.hid hq
          clear hq
          go_wp2
          go_quiet (fail)
          go_wp2
          go_ret
          refine ⟨?_, HK.out.drewN _⟩
          rw [show sameL l m = false from Bool.eq_false_iff.2 (fun e => by
            have e2 := sameL_iff.1 e
            subst e2
            have e3 := HX.out
            rw [HY.out] at e3; cases e3
            have := eqE_iff.2 (rfl : x = x)
            rw [HQ.out] at this; cases this)]
          rfl
      · obtain rfl : k = l.length := by omega
        go_wp2
        go_ret
        have e := HS.out
        have e2 := HL.out
        rw [List.take_length, e2, List.take_length] at e
        rw [e]
        exact ⟨rfl, HK.out⟩
  · have hb : ((l.length : Int) != (m.length : Int)) = true := by simp; omega
    have HF : Hid (sameL l m = false) := Lib.hid (Bool.eq_false_iff.2 (fun e => hlen (by rw [sameL_iff.1 e])))
    clear hlen
    go_enter Try.func58, Try.ntmps58
    go_wp2
    go_ret
    rw [HF.out]
    exact ⟨rfl, Kp.refl _ _⟩

set_option maxHeartbeats 1000000 in
theorem same_list {v u : Value} {l m : List En} {w : World} (h1 : Rl En.enc 4 w v l) (h2 : Rl En.enc 4 w u m) (hl : l.length ≤ maxLen) :
    Calls Try.prog 36 #[v, u] w fun e w' => e = .returned (.bool (sameL l m)) ∧ KN w w' := by
  obtain ⟨a1, c1, rfl, hc1, r1⟩ := h1
  obtain ⟨a2, c2, rfl, hc2, r2⟩ := h2
  unfold maxLen at hl
  have R1 := Lib.hid r1
  have R2 := Lib.hid r2
  clear r1 r2 hc1 hc2
  by_cases hlen : l.length = m.length
  · have hb : ((l.length : Int) != (m.length : Int)) = false := by rw [hlen]; simp
    have HL := Lib.hid hlen
    clear hlen
    go_enter Try.func36, Try.ntmps36
    go_wp2
    go_loopw [5] (fun i wr => ∃ k : Nat, k ≤ l.length ∧ i = .int .i64 k ∧ Hid (KN w wr) ∧ Hid (sameL (l.take k) (m.take k) = true)) (fun i _ => l.length - (intOf i).toNat)
    case atStart => exact ⟨0, Nat.zero_le _, rfl, Lib.hid (Kp.refl _ w), Lib.hid (by simp [sameL])⟩
    case round =>
      obtain ⟨k, hk, rfl, HK, HS⟩ := hrel
      by_cases hlt : k < l.length
      · have hlt2 : k < m.length := by have := HL.out; omega
        obtain ⟨x, hx⟩ : ∃ x, l[k]? = some x := ⟨_, List.getElem?_eq_getElem hlt⟩
        obtain ⟨y, hy⟩ : ∃ y, m[k]? = some y := ⟨_, List.getElem?_eq_getElem hlt2⟩
        obtain ⟨b, off, rfl, hb1, x0, x1, x2, x3⟩ := rd4 (R1.out.kn HK.out) hx
        obtain ⟨b', off', rfl, hb2, y0, y1, y2, y3⟩ := rd4 (R2.out.kn HK.out) hy
        have HX := Lib.hid hx
        have HY := Lib.hid hy
        clear hx hy
        have hz1 : (0 : Int) ≤ (k : Int) := by omega
        have hz2 : (k : Int) < (m.length : Int) := by omega
        have hz3 : (k : Int) < (l.length : Int) := by omega
        cases hq : eqE x y with
        | true =>
          have hn : ∀ w, (binOp .neq 28 (env x) (env y)).run Try.prog w = .ok (.bool false) w := fun w => by rw [run_neq_env, hq]; rfl
          have HQ := Lib.hid hq
          clear hq
          go_wp2
          go_quiet (fail)
          go_wp2
          go_roundw
          case rel =>
            refine ⟨k + 1, by omega, by go_num, Lib.hid (HK.out.drewN _), Lib.hid ?_⟩
            rw [List.take_add_one, List.take_add_one, HX.out, HY.out]
            have e1 := sameL_iff.1 HS.out
            rw [e1, eqE_iff.1 HQ.out]
            exact sameL_iff.2 rfl
          case measure => simp [intOf]; omega
        | false =>
          have hn : ∀ w, (binOp .neq 28 (env x) (env y)).run Try.prog w = .ok (.bool true) w := fun w => by rw [run_neq_env, hq]; rfl
          have HQ := Lib.hid hq
          clear hq
          go_wp2
          go_quiet (fail)
          go_wp2
          go_ret
          refine ⟨?_, HK.out.drewN _⟩
          rw [show sameL l m = false from Bool.eq_false_iff.2 (fun e => by
            have e2 := sameL_iff.1 e
            subst e2
            have e3 := HX.out
            rw [HY.out] at e3; cases e3
            have := eqE_iff.2 (rfl : x = x)
            rw [HQ.out] at this; cases this)]
          rfl
      · obtain rfl : k = l.length := by omega
        go_wp2
        go_ret
        have e := HS.out
        have e2 := HL.out
        rw [List.take_length, e2, List.take_length] at e
        rw [e]
        exact ⟨rfl, HK.out⟩
  · have hb : ((l.length : Int) != (m.length : Int)) = true := by simp; omega
    have HF : Hid (sameL l m = false) := Lib.hid (Bool.eq_false_iff.2 (fun e => hlen (by rw [sameL_iff.1 e])))
    clear hlen
    go_enter Try.func36, Try.ntmps36
    go_wp2
    go_ret
    rw [HF.out]
    exact ⟨rfl, Kp.refl _ _⟩

theorem same_page (p q : Pg) (w : World) {v u : Value} (h1 : Rl En.enc 4 w v p.list) (h2 : Rl En.enc 4 w u q.list) (hl : p.list.length ≤ maxLen) : Calls Try.prog 42 #[pgv p v, pgv q u] w fun e w' => e = .returned (.bool (sameP p q)) ∧ KN w w' := by
  obtain ⟨lf, lo, hi, r, l⟩ := p
  obtain ⟨lf', lo', hi', r', l'⟩ := q
  simp only at h1 h2
  have HC := Lib.hid (fun W (k : KN w W) => equal_En (h1.kn k) (h2.kn k) hl)
  clear h1 h2 hl
  unfold sameP eqS pgv
  simp only
  cases ha : lf == lf' with
  | false =>
    have ha2 : ¬ lf = lf' := by simpa using ha
    go_enter Try.func42, Try.ntmps42
    go_wp2
    go_ret
    exact ⟨by simp, ((Kp.refl _ w).alloc _).alloc _⟩
  | true =>
  obtain rfl := eq_of_beq ha
  clear ha
  cases hb : lo.toList == lo'.toList with
  | false =>
    go_enter Try.func42, Try.ntmps42
    go_wp2
    go_ret
    exact ⟨by simp, ((Kp.refl _ w).alloc _).alloc _⟩
  | true =>
  cases hc : hi.toList == hi'.toList with
  | false =>
    go_enter Try.func42, Try.ntmps42
    go_wp2
    go_ret
    exact ⟨by simp, ((Kp.refl _ w).alloc _).alloc _⟩
  | true =>
  cases hd : r == r' with
  | false =>
    go_enter Try.func42, Try.ntmps42
    go_wp2
    go_ret
    exact ⟨by simp, ((Kp.refl _ w).alloc _).alloc _⟩
  | true =>
  go_enter Try.func42, Try.ntmps42
  go_wp2_with fail
  refine (HC.out _ (((Kp.refl _ w).alloc _).alloc _)).mono ?_
  rintro e w1 ⟨rfl, k1⟩
  go_wp2_with fail
  go_ret
  exact ⟨by simp, (((Kp.refl _ w).alloc _).alloc _).then k1 (fun _ h => h.elim)⟩

theorem same_ref (p q : Pg) (w : World) {v u : Value} (h1 : Rl En.enc 4 w v p.list) (h2 : Rl En.enc 4 w u q.list) (hl : p.list.length ≤ maxLen) : Calls Try.prog 13 #[pgv p v, pgv q u] w fun e w' => e = .returned (.bool (sameP p q)) ∧ KN w w' := by
  obtain ⟨lf, lo, hi, r, l⟩ := p
  obtain ⟨lf', lo', hi', r', l'⟩ := q
  simp only at h1 h2
  have HC := Lib.hid (fun W (k : KN w W) => same_list (h1.kn k) (h2.kn k) hl)
  clear h1 h2 hl
  unfold sameP eqS pgv
  simp only
  cases ha : lf == lf' with
  | false =>
    have ha2 : ¬ lf = lf' := by simpa using ha
    go_enter Try.func13, Try.ntmps13
    go_wp2
    go_ret
    exact ⟨by simp, ((Kp.refl _ w).alloc _).alloc _⟩
  | true =>
  obtain rfl := eq_of_beq ha
  clear ha
  cases hb : lo.toList == lo'.toList with
  | false =>
    go_enter Try.func13, Try.ntmps13
    go_wp2
    go_ret
    exact ⟨by simp, ((Kp.refl _ w).alloc _).alloc _⟩
  | true =>
  cases hc : hi.toList == hi'.toList with
  | false =>
    go_enter Try.func13, Try.ntmps13
    go_wp2
    go_ret
    exact ⟨by simp, ((Kp.refl _ w).alloc _).alloc _⟩
  | true =>
  cases hd : r == r' with
  | false =>
    go_enter Try.func13, Try.ntmps13
    go_wp2
    go_ret
    exact ⟨by simp, ((Kp.refl _ w).alloc _).alloc _⟩
  | true =>
  go_enter Try.func13, Try.ntmps13
  go_wp2_with fail
  refine (HC.out _ (((Kp.refl _ w).alloc _).alloc _)).mono ?_
  rintro e w1 ⟨rfl, k1⟩
  go_wp2_with fail
  go_ret
  exact ⟨by simp, (((Kp.refl _ w).alloc _).alloc _).then k1 (fun _ h => h.elim)⟩
end Go.Proofs.Ytkdlodjpambelaa

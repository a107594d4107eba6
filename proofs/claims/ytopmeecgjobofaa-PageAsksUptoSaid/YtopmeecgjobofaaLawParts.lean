/- PageParts: its walk. -/
import Derived.Test.YtopmeecgjobofaaLiveP
import Derived.Test.YtopmeecgjobofaaPageLaw
namespace Go.Proofs.Ytopmeecgjobofaa
set_option linter.unusedVariables false
set_option linter.unusedSimpArgs false
open Go Go.RowKit Go.Sort

theorem check_two (p : Pg) : checkP p = 0 ∨ checkP p = 70 := by unfold checkP; split <;> simp
theorem One.rlE {w0 w : World} {l : List Asr} (h : One w0 w l) (i : Nat) {a : Option Addr} {c : Nat} {xs : List En} (hi : l[i]? = some (RowE a c xs)) : Rl En.enc 4 w (.slice a xs.length c) xs :=
  let ⟨F, h1, _⟩ := h.get i hi; RowE.rl h1

set_option maxHeartbeats 2000000 in
theorem parts_no (p : Pg) (key : ByteArray) (w : World) {v : Value} (hr : Rl En.enc 4 w v p.list) (hf : Fits p) (hn : checkP p = 70 ∨ checkP p = 0 ∧ (splitP p 7).2.2 ≠ 0) : Calls Try.prog 3 #[pgv p v, .string key] w fun e w' => e = .returned (.bool true) ∧ KN w w' := by
  obtain ⟨a0, cp, rfl, hc0, hrd⟩ := hr
  have HR := Lib.hid (Rl.of_rd hrd hc0)
  have HS := Lib.hid (fun W (k : KN w W) => split_page p 7 W ((Rl.of_rd hrd hc0).kn k) hf)
  have HK := Lib.hid (fun W (k : KN w W) => check_ref p W ((Rl.of_rd hrd hc0).kn k) (by have := hf.1; unfold maxLen; omega))
  clear hrd hf
  obtain ⟨a, b, code, hs⟩ : ∃ a b code, splitP p 7 = (a, b, code) := ⟨_, _, _, rfl⟩
  rw [hs] at HS
  rw [hs] at hn
  rcases hn with hn | ⟨hn, hcode⟩
  · rw [hn] at HK
    clear hn hs
    obtain ⟨lf, lo, hi, r, l⟩ := p
    obtain ⟨af, al, ah, ar, la⟩ := a
    obtain ⟨bf, bl, bh, br, lb⟩ := b
    have HO := Lib.hid ((One.nil w).alloc (.cells #[.bool lf, .string lo, .string hi, .int .i64 r, .slice a0 l.length cp] 24))
    go_enter Try.func3, Try.ntmps3
    go_wp2_with fail
    refine (HS.out _ HO.out.old).mono ?_
    rintro e w1 ⟨a1, c1, a2, c2, rfl, ho⟩
    have HO1 := Lib.hid (HO.out.more ho)
    clear ho HO HS
    go_upto_region 2 with fail
    have HO2 := Lib.hid (HO1.out.alloc2 (.cells #[.bool af, .string al, .string ah, .int .i64 ar, .slice a1 la.length c1] 24) (.cells #[.bool bf, .string bl, .string bh, .int .i64 br, .slice a2 lb.length c2] 24))
    clear HO1
    generalize (w1.alloc (.cells #[.bool af, .string al, .string ah, .int .i64 ar, .slice a1 la.length c1] 24)).alloc (.cells #[.bool bf, .string bl, .string bh, .int .i64 br, .slice a2 lb.length c2] 24) = w2 at *
    generalize w1.heap.size = g at *
    obtain ⟨x0, x1, x2, x3, x4, xf⟩ := cells5 (HO2.out.blk 4 rfl).1
    go_wp2_with fail
    refine (HK.out _ HO2.out.old).mono ?_
    rintro e w3 ⟨rfl, k3⟩
    have HO3 := Lib.hid (HO2.out.kn k3)
    clear k3 HO2 HK x0 x1 x2 x3 x4 xf
    go_wp2_with fail
    refine (live_true _).mono ?_
    rintro e w4 ⟨rfl, k4⟩
    have HO4 := Lib.hid (HO3.out.kn k4)
    clear HO3 k4
    go_wp2_with fail
    go_ret
    exact ⟨rfl, HO4.out.old⟩
  · rw [hn] at HK
    have hcode' : (code != 0) = true := by rw [bne_iff_ne]; exact hcode
    clear hn hs hcode
    obtain ⟨lf, lo, hi, r, l⟩ := p
    obtain ⟨af, al, ah, ar, la⟩ := a
    obtain ⟨bf, bl, bh, br, lb⟩ := b
    have HO := Lib.hid ((One.nil w).alloc (.cells #[.bool lf, .string lo, .string hi, .int .i64 r, .slice a0 l.length cp] 24))
    go_enter Try.func3, Try.ntmps3
    go_wp2_with fail
    refine (HS.out _ HO.out.old).mono ?_
    rintro e w1 ⟨a1, c1, a2, c2, rfl, ho⟩
    have HO1 := Lib.hid (HO.out.more ho)
    clear ho HO HS
    go_upto_region 2 with fail
    have HO2 := Lib.hid (HO1.out.alloc2 (.cells #[.bool af, .string al, .string ah, .int .i64 ar, .slice a1 la.length c1] 24) (.cells #[.bool bf, .string bl, .string bh, .int .i64 br, .slice a2 lb.length c2] 24))
    clear HO1
    generalize (w1.alloc (.cells #[.bool af, .string al, .string ah, .int .i64 ar, .slice a1 la.length c1] 24)).alloc (.cells #[.bool bf, .string bl, .string bh, .int .i64 br, .slice a2 lb.length c2] 24) = w2 at *
    generalize w1.heap.size = g at *
    obtain ⟨x0, x1, x2, x3, x4, xf⟩ := cells5 (HO2.out.blk 4 rfl).1
    go_wp2_with fail
    refine (HK.out _ HO2.out.old).mono ?_
    rintro e w3 ⟨rfl, k3⟩
    have HO3 := Lib.hid (HO2.out.kn k3)
    clear k3 HO2 HK x0 x1 x2 x3 x4 xf
    go_wp2_with fail
    refine (live_true _).mono ?_
    rintro e w4 ⟨rfl, k4⟩
    have HO4 := Lib.hid (HO3.out.kn k4)
    clear HO3 k4
    go_wp2_with fail
    go_ret
    exact ⟨rfl, HO4.out.old⟩
set_option maxHeartbeats 2000000 in
set_option maxRecDepth 100000 in
theorem parts_yes (p : Pg) (key : ByteArray) (w : World) {v : Value} (hr : Rl En.enc 4 w v p.list) (hf : Fits p) (hk : checkP p = 0) (hcode : (splitP p 7).2.2 = 0) : Calls Try.prog 3 #[pgv p v, .string key] w fun e w' => e = .returned (.bool true) ∧ KN w w' := by
  have hf' := hf
  obtain ⟨a0, cp, rfl, hc0, hrd⟩ := hr
  have HR := Lib.hid (Rl.of_rd hrd hc0)
  have HS := Lib.hid (fun W (k : KN w W) => split_page p 7 W ((Rl.of_rd hrd hc0).kn k) hf)
  have HK := Lib.hid (fun W (k : KN w W) => check_ref p W ((Rl.of_rd hrd hc0).kn k) (by have := hf.1; unfold maxLen; omega))
  clear hrd hf
  obtain ⟨a, b, code, hs⟩ : ∃ a b code, splitP p 7 = (a, b, code) := ⟨_, _, _, rfl⟩
  rw [hs] at HS
  rw [hs] at hcode
  simp only at hcode
  subst hcode
  rw [hk] at HK
  have hok := ok_iff.1 hk
  obtain ⟨parts, k, x, y, hh, ha, hb, hkk, _, h2⟩ := split_halves hok hs
  have HL := Lib.hid (hh.left hok key)
  have HRt := Lib.hid (hh.rightH hok key)
  have HFL := Lib.hid (fun h => hh.findL hok key h 7)
  have HFR := Lib.hid (fun h => hh.findR hok key h p.right)
  have HM := Lib.hid (show p.list.length ≤ maxLen by have := hf'.1; unfold maxLen; omega)
  clear hok hh hf' hkk h2 hk hs
  obtain ⟨lf, lo, hi, r, l⟩ := p
  subst ha hb
  simp only at HL HRt HFL HFR HS HM hc0 HR HK
  have HM2 := Lib.hid (show (l.take k).length ≤ maxLen ∧ (l.drop k).length ≤ maxLen by have := HM.out; rw [List.length_take, List.length_drop]; omega)
  generalize l.take k = la at *
  generalize l.drop k = lb at *
  have HO := Lib.hid ((One.nil w).alloc (.cells #[.bool lf, .string lo, .string hi, .int .i64 r, .slice a0 l.length cp] 24))
  have HFp := Lib.hid (fun W (k : KN w W) => find_page ⟨lf, lo, hi, r, l⟩ key W (HR.out.kn k) HM.out)
  have HFa := Lib.hid (fun W v (h : Rl En.enc 4 W v la) => find_page ⟨lf, lo, parts, 7, la⟩ key W h HM2.out.1)
  have HFb := Lib.hid (fun W v (h : Rl En.enc 4 W v lb) => find_page ⟨lf, parts, hi, r, lb⟩ key W h HM2.out.2)
  go_enter Try.func3, Try.ntmps3
  go_wp2_with fail
  refine (HS.out _ HO.out.old).mono ?_
  rintro e w1 ⟨a1, c1, a2, c2, rfl, ho⟩
  have HO1 := Lib.hid (HO.out.more ho)
  clear ho HO HS
  go_upto_region 2 with fail
  have HO2 := Lib.hid (HO1.out.alloc2 (.cells #[.bool lf, .string lo, .string parts, .int .i64 7, .slice a1 la.length c1] 24) (.cells #[.bool lf, .string parts, .string hi, .int .i64 r, .slice a2 lb.length c2] 24))
  clear HO1
  generalize (w1.alloc (.cells #[.bool lf, .string lo, .string parts, .int .i64 7, .slice a1 la.length c1] 24)).alloc (.cells #[.bool lf, .string parts, .string hi, .int .i64 r, .slice a2 lb.length c2] 24) = w2 at *
  generalize w1.heap.size = g at *
  obtain ⟨x0, x1, x2, x3, x4, xf⟩ := cells5 (HO2.out.blk 4 rfl).1
  go_wp2_with fail
  refine (HK.out _ HO2.out.old).mono ?_
  rintro e w3 ⟨rfl, k3⟩
  have HO3 := Lib.hid (HO2.out.kn k3)
  clear k3 HO2 HK x0 x1 x2 x3 x4 xf
  go_wp2_with fail
  refine (live_true _).mono ?_
  rintro e w4 ⟨rfl, k4⟩
  have HO4 := Lib.hid (HO3.out.kn k4)
  clear HO3 k4
  obtain ⟨x0, x1, x2, x3, x4, xf⟩ := cells5 (HO4.out.blk 4 rfl).1
  go_wp2_with fail
  refine (has_k _ _ _ _ _ _ _).mono ?_
  rintro e w5 ⟨rfl, k5⟩
  have HO5 := Lib.hid (HO4.out.kn k5)
  clear k5 HO4 x0 x1 x2 x3 x4 xf
  obtain ⟨x0, x1, x2, x3, x4, xf⟩ := cells5 (HO5.out.blk 4 rfl).1
  obtain ⟨y0, y1, y2, y3, y4, yf⟩ := cells5 (HO5.out.blk 1 rfl).1
  obtain ⟨z0, z1, z2, z3, z4, zf⟩ := cells5 (HO5.out.blk 0 rfl).1
  cases hkey : ltS key parts with
  | true =>
    have hl := HL.out hkey
    have HFL' := Lib.hid (HFL.out hkey)
    clear HFR HFL HRt HL hkey
    obtain ⟨hl1, hl2⟩ := hl
    have hl1' := hl1
    cases hin : inR lo hi key with
    | false =>
      rw [hin] at hl1
      clear hl1'
      have HL1 := Lib.hid hl1
      have HL2 := Lib.hid hl2
      clear hl1 hl2
      go_wp2_with fail
      refine (HL1.out ▸ has_k _ _ _ _ _ _ _).mono ?_
      rintro e w6 ⟨rfl, k6⟩
      have HO6 := Lib.hid (HO5.out.kn k6)
      clear k6 HO5 x0 x1 x2 x3 x4 xf y0 y1 y2 y3 y4 yf z0 z1 z2 z3 z4 zf
      obtain ⟨z0, z1, z2, z3, z4, zf⟩ := cells5 (HO6.out.blk 0 rfl).1
      go_wp2_with fail
      refine (HL2.out ▸ has_k _ _ _ _ _ _ _).mono ?_
      rintro e w7 ⟨rfl, k7⟩
      go_wp2_with fail
      go_ret
      exact ⟨rfl, HO6.out.old.then k7 (fun _ h => h.elim)⟩
    | true =>
      rw [hin] at hl1
      clear hl1'
      have HL1 := Lib.hid hl1
      have HL2 := Lib.hid hl2
      clear hl1 hl2
      go_wp2_with fail
      have q0 := cell_regrown y0
      have q1 := cell_regrown y1
      have q2 := cell_regrown y2
      have q3 := cell_regrown y3
      have q4 := cell_regrown y4
      have p0 := cell_regrown z0
      have p1 := cell_regrown z1
      have p2 := cell_regrown z2
      have p3 := cell_regrown z3
      have p4 := cell_regrown z4
      have cA : ∀ d os lf r v, Calls Try.prog 13 #[.agg #[.bool lf, .string lo, .string parts, .int .i64 r, v], .string key] (grow (redrawn w5 d) os) fun e w'' => e = .returned (.bool true) ∧ ∃ p : Regrown, w'' = grow (redrawn w5 p.d) p.os := fun d os lf r v => quiet_kn (HL1.out ▸ has_k lf lo parts r v key _)
      have cB : ∀ d os lf r v, Calls Try.prog 13 #[.agg #[.bool lf, .string parts, .string hi, .int .i64 r, v], .string key] (grow (redrawn w5 d) os) fun e w'' => e = .returned (.bool false) ∧ ∃ p : Regrown, w'' = grow (redrawn w5 p.d) p.os := fun d os lf r v => quiet_kn (HL2.out ▸ has_k lf parts hi r v key _)
      clear x0 x1 x2 x3 x4 xf y0 y1 y2 y3 y4 yf z0 z1 z2 z3 z4 zf
      refine wp_region_quiet_below (by kernel_rfl) (by kernel_rfl) ?_
      repeat (go_big_quiet_step (first | (go_at_call 13; with_reducible exact cA _ _ _ _ _) | (go_at_call 13; with_reducible exact cB _ _ _ _ _)))
      refine wpQuiet_nil ?_
      intro _ hw'
      obtain ⟨⟨dq, osq⟩, hw''⟩ := hw'
      subst hw''
      have HO6 := Lib.hid (HO5.out.kn (kn_regrown _ dq osq))
      clear HO5 q0 q1 q2 q3 q4 p0 p1 p2 p3 p4 cA cB
      generalize grow (redrawn w5 dq) osq = w6 at *
      obtain ⟨y0, y1, y2, y3, y4, yf⟩ := cells5 (HO6.out.blk 1 rfl).1
      obtain ⟨z0, z1, z2, z3, z4, zf⟩ := cells5 (HO6.out.blk 0 rfl).1
      go_upto_region 9 with fail
      have HO7 := Lib.hid (HO6.out.alloc (.cells #[.bool lf, .string lo, .string parts, .int .i64 7, .slice a1 la.length c1] 24))
      clear y0 y1 y2 y3 y4 yf z0 z1 z2 z3 z4 zf HO6
      generalize w6.alloc (.cells #[.bool lf, .string lo, .string parts, .int .i64 7, .slice a1 la.length c1] 24) = w7 at *
      generalize w6.heap.size = g8 at *
      obtain ⟨z0, z1, z2, z3, z4, zf⟩ := cells5 (HO7.out.blk 1 rfl).1
      go_wp2_with fail
      refine (HL2.out ▸ has_k _ _ _ _ _ _ _).mono ?_
      rintro e w8 ⟨rfl, k8⟩
      have HO8 := Lib.hid (HO7.out.kn k8)
      clear k8 HO7 z0 z1 z2 z3 z4 zf
      obtain ⟨z0, z1, z2, z3, z4, zf⟩ := cells5 (HO8.out.blk 1 rfl).1
      obtain ⟨u0, u1, u2, u3, u4, uf⟩ := cells5 (HO8.out.blk 0 rfl).1
      go_upto_region 11 with fail
      have HO9 := HO8
      clear HO8 z0 z1 z2 z3 z4 zf u0 u1 u2 u3 u4 uf
      generalize w8 = w9 at *
      obtain ⟨x0, x1, x2, x3, x4, xf⟩ := cells5 (HO9.out.blk 5 rfl).1
      go_wp2_with fail
      refine (HFp.out _ HO9.out.old).mono ?_
      rw [HFL'.out]
      generalize findP ⟨lf, lo, parts, 7, la⟩ key = f at *
      obtain ⟨⟨fk, ⟨fs, fg⟩, fc⟩, fb⟩ := f
      rintro e w10 ⟨rfl, k10⟩
      have HO10 := Lib.hid (HO9.out.kn k10)
      clear k10 HO9 x0 x1 x2 x3 x4 xf HFp
      go_upto_region 12 with fail
      have HO11 := Lib.hid (HO10.out.alloc (.cells #[.string fk, .int .i64 fs, .int .i64 fg, .int .i64 fc] 34))
      clear HO10
      generalize w10.alloc (.cells #[.string fk, .int .i64 fs, .int .i64 fg, .int .i64 fc] 34) = w11 at *
      generalize w10.heap.size = g10 at *
      obtain ⟨u0, u1, u2, u3, u4, uf⟩ := cells5 (HO11.out.blk 1 rfl).1
      go_wp2_with fail
      refine (HFa.out _ _ (HO11.out.rlE 5 rfl)).mono ?_
      rintro e w12 ⟨rfl, k12⟩
      have HO12 := Lib.hid (HO11.out.kn k12)
      clear k12 HO11 u0 u1 u2 u3 u4 uf HFa HFb
      go_upto_region 13 with fail
      have HO13 := Lib.hid (HO12.out.alloc (.cells #[.string fk, .int .i64 fs, .int .i64 fg, .int .i64 fc] 34))
      clear HO12
      generalize w12.alloc (.cells #[.string fk, .int .i64 fs, .int .i64 fg, .int .i64 fc] 34) = w13 at *
      generalize w12.heap.size = g12 at *
      obtain ⟨u0, u1, u2, u3, uf⟩ := cells4 (HO13.out.blk 0 rfl).1
      obtain ⟨v0, v1, v2, v3, vf⟩ := cells4 (HO13.out.blk 1 rfl).1
      have hq : ∀ w, (binOp .eql 34 (env ⟨fk, ⟨fs, fg⟩, fc⟩) (env ⟨fk, ⟨fs, fg⟩, fc⟩)).run Try.prog w = .ok (.bool true) w := fun w => by rw [run_eql_env, eqE_iff.2 rfl]
      go_wp2
      go_ret
      exact ⟨by simp, HO13.out.old⟩
  | false =>
    have hl := HRt.out hkey
    have HFR' := Lib.hid (HFR.out hkey)
    clear HFR HFL HRt HL hkey
    obtain ⟨hl1, hl2⟩ := hl
    have hl1' := hl1
    cases hin : inR lo hi key with
    | false =>
      rw [hin] at hl1
      clear hl1'
      have HL1 := Lib.hid hl1
      have HL2 := Lib.hid hl2
      clear hl1 hl2
      go_wp2_with fail
      refine (HL2.out ▸ has_k _ _ _ _ _ _ _).mono ?_
      rintro e w6 ⟨rfl, k6⟩
      have HO6 := Lib.hid (HO5.out.kn k6)
      clear k6 HO5 x0 x1 x2 x3 x4 xf y0 y1 y2 y3 y4 yf z0 z1 z2 z3 z4 zf
      obtain ⟨z0, z1, z2, z3, z4, zf⟩ := cells5 (HO6.out.blk 0 rfl).1
      go_wp2_with fail
      refine (HL1.out ▸ has_k _ _ _ _ _ _ _).mono ?_
      rintro e w7 ⟨rfl, k7⟩
      go_wp2_with fail
      go_ret
      exact ⟨rfl, HO6.out.old.then k7 (fun _ h => h.elim)⟩
    | true =>
      rw [hin] at hl1
      clear hl1'
      have HL1 := Lib.hid hl1
      have HL2 := Lib.hid hl2
      clear hl1 hl2
      go_wp2_with fail
      have q0 := cell_regrown y0
      have q1 := cell_regrown y1
      have q2 := cell_regrown y2
      have q3 := cell_regrown y3
      have q4 := cell_regrown y4
      have p0 := cell_regrown z0
      have p1 := cell_regrown z1
      have p2 := cell_regrown z2
      have p3 := cell_regrown z3
      have p4 := cell_regrown z4
      have cA : ∀ d os lf r v, Calls Try.prog 13 #[.agg #[.bool lf, .string lo, .string parts, .int .i64 r, v], .string key] (grow (redrawn w5 d) os) fun e w'' => e = .returned (.bool false) ∧ ∃ p : Regrown, w'' = grow (redrawn w5 p.d) p.os := fun d os lf r v => quiet_kn (HL2.out ▸ has_k lf lo parts r v key _)
      have cB : ∀ d os lf r v, Calls Try.prog 13 #[.agg #[.bool lf, .string parts, .string hi, .int .i64 r, v], .string key] (grow (redrawn w5 d) os) fun e w'' => e = .returned (.bool true) ∧ ∃ p : Regrown, w'' = grow (redrawn w5 p.d) p.os := fun d os lf r v => quiet_kn (HL1.out ▸ has_k lf parts hi r v key _)
      clear x0 x1 x2 x3 x4 xf y0 y1 y2 y3 y4 yf z0 z1 z2 z3 z4 zf
      refine wp_region_quiet_below (by kernel_rfl) (by kernel_rfl) ?_
      repeat (go_big_quiet_step (first | (go_at_call 13; with_reducible exact cA _ _ _ _ _) | (go_at_call 13; with_reducible exact cB _ _ _ _ _)))
      refine wpQuiet_nil ?_
      intro _ hw'
      obtain ⟨⟨dq, osq⟩, hw''⟩ := hw'
      subst hw''
      have HO6 := Lib.hid (HO5.out.kn (kn_regrown _ dq osq))
      clear HO5 q0 q1 q2 q3 q4 p0 p1 p2 p3 p4 cA cB
      generalize grow (redrawn w5 dq) osq = w6 at *
      obtain ⟨y0, y1, y2, y3, y4, yf⟩ := cells5 (HO6.out.blk 1 rfl).1
      obtain ⟨z0, z1, z2, z3, z4, zf⟩ := cells5 (HO6.out.blk 0 rfl).1
      go_upto_region 9 with fail
      have HO7 := Lib.hid (HO6.out.alloc (.cells #[.bool lf, .string lo, .string parts, .int .i64 7, .slice a1 la.length c1] 24))
      clear y0 y1 y2 y3 y4 yf z0 z1 z2 z3 z4 zf HO6
      generalize w6.alloc (.cells #[.bool lf, .string lo, .string parts, .int .i64 7, .slice a1 la.length c1] 24) = w7 at *
      generalize w6.heap.size = g8 at *
      obtain ⟨z0, z1, z2, z3, z4, zf⟩ := cells5 (HO7.out.blk 1 rfl).1
      go_wp2_with fail
      refine (HL1.out ▸ has_k _ _ _ _ _ _ _).mono ?_
      rintro e w8 ⟨rfl, k8⟩
      have HO8 := Lib.hid (HO7.out.kn k8)
      clear k8 HO7 z0 z1 z2 z3 z4 zf
      obtain ⟨z0, z1, z2, z3, z4, zf⟩ := cells5 (HO8.out.blk 1 rfl).1
      obtain ⟨u0, u1, u2, u3, u4, uf⟩ := cells5 (HO8.out.blk 0 rfl).1
      go_upto_region 11 with fail
      have HO9 := Lib.hid (HO8.out.set5 0 rfl (.bool lf) (.string parts) (.string hi) (.int .i64 r) (.slice a2 lb.length c2))
      clear HO8 z0 z1 z2 z3 z4 zf u0 u1 u2 u3 u4 uf
      generalize ((((w8.setCell ⟨g8, 0, none⟩ (.bool lf)).setCell ⟨g8, 1, none⟩ (.string parts)).setCell ⟨g8, 2, none⟩ (.string hi)).setCell ⟨g8, 3, none⟩ (.int .i64 r)).setCell ⟨g8, 4, none⟩ (.slice a2 lb.length c2) = w9 at *
      obtain ⟨x0, x1, x2, x3, x4, xf⟩ := cells5 (HO9.out.blk 5 rfl).1
      go_wp2_with fail
      refine (HFp.out _ HO9.out.old).mono ?_
      rw [HFR'.out]
      generalize findP ⟨lf, parts, hi, r, lb⟩ key = f at *
      obtain ⟨⟨fk, ⟨fs, fg⟩, fc⟩, fb⟩ := f
      rintro e w10 ⟨rfl, k10⟩
      have HO10 := Lib.hid (HO9.out.kn k10)
      clear k10 HO9 x0 x1 x2 x3 x4 xf HFp
      go_upto_region 12 with fail
      have HO11 := Lib.hid (HO10.out.alloc (.cells #[.string fk, .int .i64 fs, .int .i64 fg, .int .i64 fc] 34))
      clear HO10
      generalize w10.alloc (.cells #[.string fk, .int .i64 fs, .int .i64 fg, .int .i64 fc] 34) = w11 at *
      generalize w10.heap.size = g10 at *
      obtain ⟨u0, u1, u2, u3, u4, uf⟩ := cells5 (HO11.out.blk 1 rfl).1
      go_wp2_with fail
      refine (HFb.out _ _ (HO11.out.rlE 4 rfl)).mono ?_
      rintro e w12 ⟨rfl, k12⟩
      have HO12 := Lib.hid (HO11.out.kn k12)
      clear k12 HO11 u0 u1 u2 u3 u4 uf HFa HFb
      go_upto_region 13 with fail
      have HO13 := Lib.hid (HO12.out.alloc (.cells #[.string fk, .int .i64 fs, .int .i64 fg, .int .i64 fc] 34))
      clear HO12
      generalize w12.alloc (.cells #[.string fk, .int .i64 fs, .int .i64 fg, .int .i64 fc] 34) = w13 at *
      generalize w12.heap.size = g12 at *
      obtain ⟨u0, u1, u2, u3, uf⟩ := cells4 (HO13.out.blk 0 rfl).1
      obtain ⟨v0, v1, v2, v3, vf⟩ := cells4 (HO13.out.blk 1 rfl).1
      have hq : ∀ w, (binOp .eql 34 (env ⟨fk, ⟨fs, fg⟩, fc⟩) (env ⟨fk, ⟨fs, fg⟩, fc⟩)).run Try.prog w = .ok (.bool true) w := fun w => by rw [run_eql_env, eqE_iff.2 rfl]
      go_wp2
      go_ret
      exact ⟨by simp, HO13.out.old⟩
theorem parts_walk (p : Pg) (key : ByteArray) (w : World) {v : Value} (hr : Rl En.enc 4 w v p.list) (hf : Fits p) : Calls Try.prog 3 #[pgv p v, .string key] w fun e w' => e = .returned (.bool true) ∧ KN w w' := by
  rcases check_two p with h | h
  · by_cases hc : (splitP p 7).2.2 = 0
    · exact parts_yes p key w hr hf h hc
    · exact parts_no p key w hr hf (.inr ⟨h, hc⟩)
  · exact parts_no p key w hr hf (.inl h)
end Go.Proofs.Ytopmeecgjobofaa

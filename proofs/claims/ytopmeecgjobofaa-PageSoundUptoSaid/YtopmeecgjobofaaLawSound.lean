/- PageSound: its walk. -/
import Derived.Test.YtopmeecgjobofaaLawParts
import Derived.Test.YtopmeecgjobofaaSoundLaw
import Derived.Test.YtopmeecgjobofaaPutP2
import Derived.Test.YtopmeecgjobofaaMergeP
namespace Go.Proofs.Ytopmeecgjobofaa
set_option linter.unusedVariables false
set_option linter.unusedSimpArgs false
open Go Go.RowKit Go.Sort
set_option maxHeartbeats 4000000 in
set_option maxRecDepth 100000 in
theorem sound_no (p : Pg) (e : En) (id : Int) (w : World) {v : Value} (hr : Rl En.enc 4 w v p.list) (hf : Fits p) (hb : p.list.length ≤ 1048576) (hn : checkP p = 70) : Calls Try.prog 8 #[pgv p v, env e, .int .i64 id] w fun e w' => e = .returned (.bool true) ∧ KN w w' := by
  obtain ⟨a0, cp, rfl, hc0, hrd⟩ := hr
  have HR := Lib.hid (Rl.of_rd hrd hc0)
  have HK := Lib.hid (fun W (k : KN w W) => check_ref p W ((Rl.of_rd hrd hc0).kn k) (by unfold maxLen; omega))
  have HK2 := Lib.hid (fun W (k : KN w W) => check_page p W ((Rl.of_rd hrd hc0).kn k) (by unfold maxLen; omega))
  clear hrd
  rw [hn] at HK HK2
  clear hn
  obtain ⟨lf, lo, hi, r, l⟩ := p
  obtain ⟨ek, ⟨es, eg⟩, ec⟩ := e
  have HO0 := Lib.hid ((One.nil w).alloc2 (.cells #[.bool lf, .string lo, .string hi, .int .i64 r, .slice a0 l.length cp] 24) (.cells #[.string ek, .int .i64 es, .int .i64 eg, .int .i64 ec] 34))
  go_enter Try.func8, Try.ntmps8
  obtain ⟨x0_0a, x0_0b, x0_0c, x0_0d, x0_0e⟩ := cells4 (HO0.out.blk 0 rfl).1
  obtain ⟨x0_1a, x0_1b, x0_1c, x0_1d, x0_1e, x0_1f⟩ := cells5 (HO0.out.blk 1 rfl).1
  go_wp2_with fail
  refine (HK.out _ HO0.out.old).mono ?_
  rintro e w1 ⟨rfl, k1⟩
  have HO1 := Lib.hid (HO0.out.kn k1)
  clear k1 HO0 x0_0a x0_0b x0_0c x0_0d x0_0e x0_1a x0_1b x0_1c x0_1d x0_1e x0_1f
  obtain ⟨x1_0a, x1_0b, x1_0c, x1_0d, x1_0e⟩ := cells4 (HO1.out.blk 0 rfl).1
  obtain ⟨x1_1a, x1_1b, x1_1c, x1_1d, x1_1e, x1_1f⟩ := cells5 (HO1.out.blk 1 rfl).1
  go_wp2_with fail
  refine (live_true _).mono ?_
  rintro e w2 ⟨rfl, k2⟩
  have HO2 := Lib.hid (HO1.out.kn k2)
  clear k2 HO1 x1_0a x1_0b x1_0c x1_0d x1_0e x1_1a x1_1b x1_1c x1_1d x1_1e x1_1f
  obtain ⟨x2_0a, x2_0b, x2_0c, x2_0d, x2_0e⟩ := cells4 (HO2.out.blk 0 rfl).1
  obtain ⟨x2_1a, x2_1b, x2_1c, x2_1d, x2_1e, x2_1f⟩ := cells5 (HO2.out.blk 1 rfl).1
  go_wp2_with fail
  refine (HK2.out _ HO2.out.old).mono ?_
  rintro e w3 ⟨rfl, k3⟩
  have HO3 := Lib.hid (HO2.out.kn k3)
  clear k3 HO2 x2_0a x2_0b x2_0c x2_0d x2_0e x2_1a x2_1b x2_1c x2_1d x2_1e x2_1f
  go_wp2_with fail
  go_ret
  exact ⟨rfl, HO3.out.old⟩
set_option maxHeartbeats 4000000 in
set_option maxRecDepth 100000 in
theorem sound_leaf (p : Pg) (e : En) (id : Int) (w : World) {v : Value} (hr : Rl En.enc 4 w v p.list) (hf : Fits p) (hb : p.list.length ≤ 1048576) (hn : checkP p = 0) (hlf : p.leaf = true) : Calls Try.prog 8 #[pgv p v, env e, .int .i64 id] w fun e w' => e = .returned (.bool true) ∧ KN w w' := by
  obtain ⟨a0, cp, rfl, hc0, hrd⟩ := hr
  have HR := Lib.hid (Rl.of_rd hrd hc0)
  have HK := Lib.hid (fun W (k : KN w W) => check_ref p W ((Rl.of_rd hrd hc0).kn k) (by unfold maxLen; omega))
  have HK2 := Lib.hid (fun W (k : KN w W) => check_page p W ((Rl.of_rd hrd hc0).kn k) (by unfold maxLen; omega))
  clear hrd
  have hok := ok_iff.1 hn
  have hok2 := ok2_iff.1 hok
  rw [hn] at HK
  clear HK2
  obtain ⟨q, f, hq⟩ : ∃ q f, putP p ⟨e.key, e.ref, 0⟩ = (q, f) := ⟨_, _, rfl⟩
  have hqf : (f = 0 ∧ checkP q = 0 ∧ q.list.length ≤ p.list.length + 1) ∨ (f = 73 ∧ q = ⟨false, ⟨#[]⟩, ⟨#[]⟩, 0, []⟩) := by
    cases hin : inR p.low p.high e.key with
    | true =>
      rw [put_form (e := ⟨e.key, e.ref, 0⟩) hin] at hq
      cases hq
      exact .inl ⟨rfl, ok_iff.2 (ok2_iff.2 (ok_put hok2 hin (by rw [hlf]; rfl))), putAt_len _ _⟩
    | false =>
      rw [put_miss (e := ⟨e.key, e.ref, 0⟩) hin] at hq
      cases hq
      exact .inr ⟨rfl, rfl⟩
  have HP := Lib.hid (hq ▸ fun W (k : KN w W) => put_page p ⟨e.key, e.ref, 0⟩ W (HR.out.kn k) (by omega))
  have hlq : q.list.length ≤ 1048577 := by rcases hqf with ⟨_, _, h⟩ | ⟨_, rfl⟩; omega; simp
  have HCq := Lib.hid (fun W v (h : Rl En.enc 4 W v q.list) => check_page q W h (by unfold maxLen; omega))
  have HQ := Lib.hid hqf
  clear hqf hq hlq
  obtain ⟨g, c, hg⟩ : ∃ g c, removeP p e.key = (g, c) := ⟨_, _, rfl⟩
  have hgl : g.list.length ≤ p.list.length := by have := removeP_len p e.key; rw [hg] at this; exact this
  have hgc : c = 0 ∨ c = 4 := by have := removeP_code p e.key; rw [hg] at this; exact this
  have hgo : c = 0 → p.leaf = true ∨ e.key ≠ p.low → checkP g = 0 := fun h0 h1 => by subst h0; exact ok_iff.2 (ok2_iff.2 (ok_remove hok2 hg h1))
  have HRm := Lib.hid (hg ▸ fun W (k : KN w W) => remove_page p e.key W (HR.out.kn k) (by omega))
  have HCg := Lib.hid (fun W v (h : Rl En.enc 4 W v g.list) => check_page g W h (by unfold maxLen; omega))
  have HG := Lib.hid (And.intro hgc hgo)
  clear hgc hgo hg hgl
  obtain ⟨a, b, code, hs⟩ : ∃ a b code, splitP p id = (a, b, code) := ⟨_, _, _, rfl⟩
  have hsc : code ≠ 0 → id < 1 ∨ p.list.length < 2 := fun h => split_code hok (by rw [hs]; exact h)
  have HS := Lib.hid (hs ▸ fun W (k : KN w W) => split_page p id W (HR.out.kn k) hf)
  have hsy : code = 0 → Ok a ∧ Ok b ∧ a.right = id ∧ mergeP a b = (p, 0) ∧ a.list.length ≤ p.list.length ∧ b.list.length ≤ p.list.length ∧ a.list.length + b.list.length = p.list.length := fun h => by subst h; exact ok_halves hok hs
  have HSY := Lib.hid hsy
  have HSC := Lib.hid hsc
  have HSame := Lib.hid (fun W v (h : Rl En.enc 4 W v p.list) (k : KN w W) => (sameP_iff (p := p) (q := p)).2 rfl ▸ same_page p p W h (HR.out.kn k) (by unfold maxLen; omega))
  clear hsc hsy hs hok hok2 hn hf
  obtain ⟨lf, lo, hi, r, l⟩ := p
  obtain ⟨ek, ⟨es, eg⟩, ec⟩ := e
  simp only at hlf HSY HSC HG HSame
  subst hlf
  obtain ⟨qf, ql, qh, qr, qs⟩ := q
  obtain ⟨gf, gl, gh, gr, gs⟩ := g
  obtain ⟨af, al, ah, ar, as'⟩ := a
  obtain ⟨bf, bl, bh, br, bs'⟩ := b
  have HO0 := Lib.hid ((One.nil w).alloc2 (.cells #[.bool true, .string lo, .string hi, .int .i64 r, .slice a0 l.length cp] 24) (.cells #[.string ek, .int .i64 es, .int .i64 eg, .int .i64 ec] 34))
  go_enter Try.func8, Try.ntmps8
  obtain ⟨x0_0a, x0_0b, x0_0c, x0_0d, x0_0e⟩ := cells4 (HO0.out.blk 0 rfl).1
  obtain ⟨x0_1a, x0_1b, x0_1c, x0_1d, x0_1e, x0_1f⟩ := cells5 (HO0.out.blk 1 rfl).1
  go_wp2_with fail
  refine (HK.out _ HO0.out.old).mono ?_
  rintro e w1 ⟨rfl, k1⟩
  have HO1 := Lib.hid (HO0.out.kn k1)
  clear k1 HO0 x0_0a x0_0b x0_0c x0_0d x0_0e x0_1a x0_1b x0_1c x0_1d x0_1e x0_1f
  obtain ⟨x1_0a, x1_0b, x1_0c, x1_0d, x1_0e⟩ := cells4 (HO1.out.blk 0 rfl).1
  obtain ⟨x1_1a, x1_1b, x1_1c, x1_1d, x1_1e, x1_1f⟩ := cells5 (HO1.out.blk 1 rfl).1
  go_wp2_with fail
  refine (live_true _).mono ?_
  rintro e w2 ⟨rfl, k2⟩
  have HO2 := Lib.hid (HO1.out.kn k2)
  clear k2 HO1 x1_0a x1_0b x1_0c x1_0d x1_0e x1_1a x1_1b x1_1c x1_1d x1_1e x1_1f
  obtain ⟨x2_0a, x2_0b, x2_0c, x2_0d, x2_0e⟩ := cells4 (HO2.out.blk 0 rfl).1
  obtain ⟨x2_1a, x2_1b, x2_1c, x2_1d, x2_1e, x2_1f⟩ := cells5 (HO2.out.blk 1 rfl).1
  go_upto_region 7 with fail
  have HO3 := Lib.hid (show One w (w2.setCell ⟨w.heap.size + 1, 3, none⟩ (.int .i64 0)) [Blk (w.heap.size + 1) (.cells #[.string ek, .int .i64 es, .int .i64 eg, .int .i64 0] 34), Blk (w.heap.size) (.cells #[.bool true, .string lo, .string hi, .int .i64 r, .slice a0 l.length cp] 24)] from (HO2.out.setC 0 rfl (j := 3) (.int .i64 0)))
  clear HO2 x2_0a x2_0b x2_0c x2_0d x2_0e x2_1a x2_1b x2_1c x2_1d x2_1e x2_1f
  generalize (w2.setCell ⟨w.heap.size + 1, 3, none⟩ (.int .i64 0)) = w3 at *
  obtain ⟨x3_0a, x3_0b, x3_0c, x3_0d, x3_0e⟩ := cells4 (HO3.out.blk 0 rfl).1
  obtain ⟨x3_1a, x3_1b, x3_1c, x3_1d, x3_1e, x3_1f⟩ := cells5 (HO3.out.blk 1 rfl).1
  go_wp2_with fail
  refine (HP.out _ HO3.out.old).mono ?_
  rintro e w4 ⟨a4, c4, rfl, k4⟩
  have HO4 := Lib.hid (HO3.out.add k4)
  clear k4 HO3 x3_0a x3_0b x3_0c x3_0d x3_0e x3_1a x3_1b x3_1c x3_1d x3_1e x3_1f
  go_upto_region 8 with fail
  have HO5 := Lib.hid (HO4.out.alloc (.cells #[.bool qf, .string ql, .string qh, .int .i64 qr, .slice a4 qs.length c4] 24))
  clear HO4 
  generalize (w4.alloc (.cells #[.bool qf, .string ql, .string qh, .int .i64 qr, .slice a4 qs.length c4] 24)) = w5 at *
  generalize w4.heap.size = g5 at *
  go_cut [49] (fun s wx => s = .bool false ∧ Hid (One w wx [Blk (g5) (.cells #[.bool qf, .string ql, .string qh, .int .i64 qr, .slice a4 qs.length c4] 24), RowE a4 c4 qs, Blk (w.heap.size + 1) (.cells #[.string ek, .int .i64 es, .int .i64 eg, .int .i64 0] 34), Blk (w.heap.size) (.cells #[.bool true, .string lo, .string hi, .int .i64 r, .slice a0 l.length cp] 24)]))
  case first =>
    rcases HQ.out with ⟨rfl, hq1, _⟩ | ⟨rfl, _⟩
    · rw [hq1] at HCq
      clear hq1
      obtain ⟨x5_0a, x5_0b, x5_0c, x5_0d, x5_0e, x5_0f⟩ := cells5 (HO5.out.blk 0 rfl).1
      obtain ⟨x5_2a, x5_2b, x5_2c, x5_2d, x5_2e⟩ := cells4 (HO5.out.blk 2 rfl).1
      obtain ⟨x5_3a, x5_3b, x5_3c, x5_3d, x5_3e, x5_3f⟩ := cells5 (HO5.out.blk 3 rfl).1
      go_wp2_with fail
      refine (HCq.out _ _ (HO5.out.rlE 1 rfl)).mono ?_
      rintro e w6 ⟨rfl, k6⟩
      have HO6 := Lib.hid (HO5.out.kn k6)
      clear k6 HO5 x5_0a x5_0b x5_0c x5_0d x5_0e x5_0f x5_2a x5_2b x5_2c x5_2d x5_2e x5_3a x5_3b x5_3c x5_3d x5_3e x5_3f
      go_wp2_with fail
      go_meet
      exact ⟨rfl, HO6⟩
    · skip
      go_wp2_with fail
      go_meet
      exact ⟨rfl, HO5⟩
  case rest =>
    clear HO5
    obtain ⟨rfl, HO6⟩ := hcut
    skip
    generalize wc = w6 at *
    clear HCq HP HQ
    obtain ⟨x6_0a, x6_0b, x6_0c, x6_0d, x6_0e, x6_0f⟩ := cells5 (HO6.out.blk 0 rfl).1
    obtain ⟨x6_2a, x6_2b, x6_2c, x6_2d, x6_2e⟩ := cells4 (HO6.out.blk 2 rfl).1
    obtain ⟨x6_3a, x6_3b, x6_3c, x6_3d, x6_3e, x6_3f⟩ := cells5 (HO6.out.blk 3 rfl).1
    go_wp2_with fail
    refine (HRm.out _ HO6.out.old).mono ?_
    rintro e w7 ⟨a7, c7, rfl, k7⟩
    have HO7 := Lib.hid (HO6.out.add k7)
    clear k7 HO6 x6_0a x6_0b x6_0c x6_0d x6_0e x6_0f x6_2a x6_2b x6_2c x6_2d x6_2e x6_3a x6_3b x6_3c x6_3d x6_3e x6_3f
    go_upto_region 11 with fail
    have HO8 := Lib.hid (HO7.out.alloc (.cells #[.bool gf, .string gl, .string gh, .int .i64 gr, .slice a7 gs.length c7] 24))
    clear HO7 
    generalize (w7.alloc (.cells #[.bool gf, .string gl, .string gh, .int .i64 gr, .slice a7 gs.length c7] 24)) = w8 at *
    generalize w7.heap.size = g8 at *
    go_cut [74] (fun s wx => s = .bool false ∧ Hid (One w wx [Blk (g8) (.cells #[.bool gf, .string gl, .string gh, .int .i64 gr, .slice a7 gs.length c7] 24), RowE a7 c7 gs, Blk (g5) (.cells #[.bool qf, .string ql, .string qh, .int .i64 qr, .slice a4 qs.length c4] 24), RowE a4 c4 qs, Blk (w.heap.size + 1) (.cells #[.string ek, .int .i64 es, .int .i64 eg, .int .i64 0] 34), Blk (w.heap.size) (.cells #[.bool true, .string lo, .string hi, .int .i64 r, .slice a0 l.length cp] 24)]))
    case first =>
      obtain ⟨hc, hgo⟩ := HG.out
      rcases hc with rfl | rfl
      · rw [hgo rfl (by simp)] at HCg
        clear hgo
        obtain ⟨x8_0a, x8_0b, x8_0c, x8_0d, x8_0e, x8_0f⟩ := cells5 (HO8.out.blk 0 rfl).1
        obtain ⟨x8_2a, x8_2b, x8_2c, x8_2d, x8_2e, x8_2f⟩ := cells5 (HO8.out.blk 2 rfl).1
        obtain ⟨x8_4a, x8_4b, x8_4c, x8_4d, x8_4e⟩ := cells4 (HO8.out.blk 4 rfl).1
        obtain ⟨x8_5a, x8_5b, x8_5c, x8_5d, x8_5e, x8_5f⟩ := cells5 (HO8.out.blk 5 rfl).1
        go_wp2_with fail
        refine (HCg.out _ _ (HO8.out.rlE 1 rfl)).mono ?_
        rintro e w9 ⟨rfl, k9⟩
        have HO9 := Lib.hid (HO8.out.kn k9)
        clear k9 HO8 x8_0a x8_0b x8_0c x8_0d x8_0e x8_0f x8_2a x8_2b x8_2c x8_2d x8_2e x8_2f x8_4a x8_4b x8_4c x8_4d x8_4e x8_5a x8_5b x8_5c x8_5d x8_5e x8_5f
        go_wp2_with fail
        go_meet
        exact ⟨rfl, HO9⟩
      · skip
        clear hgo
        go_wp2_with fail
        go_meet
        exact ⟨rfl, HO8⟩
    case rest =>
      clear HO8
      obtain ⟨rfl, HO9⟩ := hcut
      skip
      generalize wc = w9 at *
      clear HCg HRm HG
      obtain ⟨x9_0a, x9_0b, x9_0c, x9_0d, x9_0e, x9_0f⟩ := cells5 (HO9.out.blk 0 rfl).1
      obtain ⟨x9_2a, x9_2b, x9_2c, x9_2d, x9_2e, x9_2f⟩ := cells5 (HO9.out.blk 2 rfl).1
      obtain ⟨x9_4a, x9_4b, x9_4c, x9_4d, x9_4e⟩ := cells4 (HO9.out.blk 4 rfl).1
      obtain ⟨x9_5a, x9_5b, x9_5c, x9_5d, x9_5e, x9_5f⟩ := cells5 (HO9.out.blk 5 rfl).1
      go_wp2_with fail
      refine (HS.out _ HO9.out.old).mono ?_
      rintro e w10 ⟨a10, c10, b10, d10, rfl, k10⟩
      have HO10 := Lib.hid (HO9.out.more k10)
      clear k10 HO9 x9_0a x9_0b x9_0c x9_0d x9_0e x9_0f x9_2a x9_2b x9_2c x9_2d x9_2e x9_2f x9_4a x9_4b x9_4c x9_4d x9_4e x9_5a x9_5b x9_5c x9_5d x9_5e x9_5f
      go_upto_region 14 with fail
      have HO11 := Lib.hid (HO10.out.alloc2 (.cells #[.bool af, .string al, .string ah, .int .i64 ar, .slice a10 as'.length c10] 24) (.cells #[.bool bf, .string bl, .string bh, .int .i64 br, .slice b10 bs'.length d10] 24))
      clear HO10 
      generalize ((w10.alloc (.cells #[.bool af, .string al, .string ah, .int .i64 ar, .slice a10 as'.length c10] 24)).alloc (.cells #[.bool bf, .string bl, .string bh, .int .i64 br, .slice b10 bs'.length d10] 24)) = w11 at *
      generalize w10.heap.size = g11 at *
      by_cases hcode : code = 0
      · subst hcode
        obtain ⟨ha, hb', hid, hm, hla, hlb, hlab⟩ := HSY.out rfl
        subst hid
        have HCa := Lib.hid (ok_iff.2 ha ▸ fun W v (h : Rl En.enc 4 W v as') => check_page ⟨af, al, ah, ar, as'⟩ W h (by unfold maxLen; simp only; omega))
        have HCb := Lib.hid (ok_iff.2 hb' ▸ fun W v (h : Rl En.enc 4 W v bs') => check_page ⟨bf, bl, bh, br, bs'⟩ W h (by unfold maxLen; simp only; omega))
        have HMg := Lib.hid (hm ▸ fun W v u (h : Rl En.enc 4 W v as') (h' : Rl En.enc 4 W u bs') => merge_page ⟨af, al, ah, ar, as'⟩ ⟨bf, bl, bh, br, bs'⟩ W h h' (by simp only; omega))
        have hne : (ar != ar) = false := by simp
        clear ha hb' hm hla hlb hlab HSY HSC
        obtain ⟨x11_0a, x11_0b, x11_0c, x11_0d, x11_0e, x11_0f⟩ := cells5 (HO11.out.blk 0 rfl).1
        obtain ⟨x11_1a, x11_1b, x11_1c, x11_1d, x11_1e, x11_1f⟩ := cells5 (HO11.out.blk 1 rfl).1
        obtain ⟨x11_4a, x11_4b, x11_4c, x11_4d, x11_4e, x11_4f⟩ := cells5 (HO11.out.blk 4 rfl).1
        obtain ⟨x11_6a, x11_6b, x11_6c, x11_6d, x11_6e, x11_6f⟩ := cells5 (HO11.out.blk 6 rfl).1
        obtain ⟨x11_8a, x11_8b, x11_8c, x11_8d, x11_8e⟩ := cells4 (HO11.out.blk 8 rfl).1
        obtain ⟨x11_9a, x11_9b, x11_9c, x11_9d, x11_9e, x11_9f⟩ := cells5 (HO11.out.blk 9 rfl).1
        go_wp2_with fail
        refine (HCa.out _ _ (HO11.out.rlE 3 rfl)).mono ?_
        rintro e w12 ⟨rfl, k12⟩
        have HO12 := Lib.hid (HO11.out.kn k12)
        clear k12 HO11 x11_0a x11_0b x11_0c x11_0d x11_0e x11_0f x11_1a x11_1b x11_1c x11_1d x11_1e x11_1f x11_4a x11_4b x11_4c x11_4d x11_4e x11_4f x11_6a x11_6b x11_6c x11_6d x11_6e x11_6f x11_8a x11_8b x11_8c x11_8d x11_8e x11_9a x11_9b x11_9c x11_9d x11_9e x11_9f
        obtain ⟨x12_0a, x12_0b, x12_0c, x12_0d, x12_0e, x12_0f⟩ := cells5 (HO12.out.blk 0 rfl).1
        obtain ⟨x12_1a, x12_1b, x12_1c, x12_1d, x12_1e, x12_1f⟩ := cells5 (HO12.out.blk 1 rfl).1
        obtain ⟨x12_4a, x12_4b, x12_4c, x12_4d, x12_4e, x12_4f⟩ := cells5 (HO12.out.blk 4 rfl).1
        obtain ⟨x12_6a, x12_6b, x12_6c, x12_6d, x12_6e, x12_6f⟩ := cells5 (HO12.out.blk 6 rfl).1
        obtain ⟨x12_8a, x12_8b, x12_8c, x12_8d, x12_8e⟩ := cells4 (HO12.out.blk 8 rfl).1
        obtain ⟨x12_9a, x12_9b, x12_9c, x12_9d, x12_9e, x12_9f⟩ := cells5 (HO12.out.blk 9 rfl).1
        go_wp2_with fail
        refine (HCb.out _ _ (HO12.out.rlE 2 rfl)).mono ?_
        rintro e w13 ⟨rfl, k13⟩
        have HO13 := Lib.hid (HO12.out.kn k13)
        clear k13 HO12 x12_0a x12_0b x12_0c x12_0d x12_0e x12_0f x12_1a x12_1b x12_1c x12_1d x12_1e x12_1f x12_4a x12_4b x12_4c x12_4d x12_4e x12_4f x12_6a x12_6b x12_6c x12_6d x12_6e x12_6f x12_8a x12_8b x12_8c x12_8d x12_8e x12_9a x12_9b x12_9c x12_9d x12_9e x12_9f
        obtain ⟨x13_0a, x13_0b, x13_0c, x13_0d, x13_0e, x13_0f⟩ := cells5 (HO13.out.blk 0 rfl).1
        obtain ⟨x13_1a, x13_1b, x13_1c, x13_1d, x13_1e, x13_1f⟩ := cells5 (HO13.out.blk 1 rfl).1
        obtain ⟨x13_4a, x13_4b, x13_4c, x13_4d, x13_4e, x13_4f⟩ := cells5 (HO13.out.blk 4 rfl).1
        obtain ⟨x13_6a, x13_6b, x13_6c, x13_6d, x13_6e, x13_6f⟩ := cells5 (HO13.out.blk 6 rfl).1
        obtain ⟨x13_8a, x13_8b, x13_8c, x13_8d, x13_8e⟩ := cells4 (HO13.out.blk 8 rfl).1
        obtain ⟨x13_9a, x13_9b, x13_9c, x13_9d, x13_9e, x13_9f⟩ := cells5 (HO13.out.blk 9 rfl).1
        go_wp2_with fail
        refine (HMg.out _ _ _ (HO13.out.rlE 3 rfl) (HO13.out.rlE 2 rfl)).mono ?_
        rintro e w14 ⟨a14, c14, rfl, k14⟩
        have HO14 := Lib.hid (HO13.out.add k14)
        clear k14 HO13 x13_0a x13_0b x13_0c x13_0d x13_0e x13_0f x13_1a x13_1b x13_1c x13_1d x13_1e x13_1f x13_4a x13_4b x13_4c x13_4d x13_4e x13_4f x13_6a x13_6b x13_6c x13_6d x13_6e x13_6f x13_8a x13_8b x13_8c x13_8d x13_8e x13_9a x13_9b x13_9c x13_9d x13_9e x13_9f
        go_upto_region 19 with fail
        have HO15 := Lib.hid (HO14.out.alloc (.cells #[.bool true, .string lo, .string hi, .int .i64 r, .slice a14 l.length c14] 24))
        clear HO14 
        generalize (w14.alloc (.cells #[.bool true, .string lo, .string hi, .int .i64 r, .slice a14 l.length c14] 24)) = w15 at *
        generalize w14.heap.size = g15 at *
        obtain ⟨x15_0a, x15_0b, x15_0c, x15_0d, x15_0e, x15_0f⟩ := cells5 (HO15.out.blk 0 rfl).1
        obtain ⟨x15_2a, x15_2b, x15_2c, x15_2d, x15_2e, x15_2f⟩ := cells5 (HO15.out.blk 2 rfl).1
        obtain ⟨x15_3a, x15_3b, x15_3c, x15_3d, x15_3e, x15_3f⟩ := cells5 (HO15.out.blk 3 rfl).1
        obtain ⟨x15_6a, x15_6b, x15_6c, x15_6d, x15_6e, x15_6f⟩ := cells5 (HO15.out.blk 6 rfl).1
        obtain ⟨x15_8a, x15_8b, x15_8c, x15_8d, x15_8e, x15_8f⟩ := cells5 (HO15.out.blk 8 rfl).1
        obtain ⟨x15_10a, x15_10b, x15_10c, x15_10d, x15_10e⟩ := cells4 (HO15.out.blk 10 rfl).1
        obtain ⟨x15_11a, x15_11b, x15_11c, x15_11d, x15_11e, x15_11f⟩ := cells5 (HO15.out.blk 11 rfl).1
        go_wp2_with fail
        refine (HSame.out _ _ (HO15.out.rlE 1 rfl) HO15.out.old).mono ?_
        rintro e w16 ⟨rfl, k16⟩
        have HO16 := Lib.hid (HO15.out.kn k16)
        clear k16 HO15 x15_0a x15_0b x15_0c x15_0d x15_0e x15_0f x15_2a x15_2b x15_2c x15_2d x15_2e x15_2f x15_3a x15_3b x15_3c x15_3d x15_3e x15_3f x15_6a x15_6b x15_6c x15_6d x15_6e x15_6f x15_8a x15_8b x15_8c x15_8d x15_8e x15_8f x15_10a x15_10b x15_10c x15_10d x15_10e x15_11a x15_11b x15_11c x15_11d x15_11e x15_11f
        go_wp2_with fail
        go_ret
        exact ⟨rfl, HO16.out.old⟩
      · have hne : (code != 0) = true := by rw [bne_iff_ne]; exact hcode
        have h := HSC.out hcode
        clear hcode HSY HSC
        obtain ⟨x11_0a, x11_0b, x11_0c, x11_0d, x11_0e, x11_0f⟩ := cells5 (HO11.out.blk 0 rfl).1
        obtain ⟨x11_1a, x11_1b, x11_1c, x11_1d, x11_1e, x11_1f⟩ := cells5 (HO11.out.blk 1 rfl).1
        obtain ⟨x11_4a, x11_4b, x11_4c, x11_4d, x11_4e, x11_4f⟩ := cells5 (HO11.out.blk 4 rfl).1
        obtain ⟨x11_6a, x11_6b, x11_6c, x11_6d, x11_6e, x11_6f⟩ := cells5 (HO11.out.blk 6 rfl).1
        obtain ⟨x11_8a, x11_8b, x11_8c, x11_8d, x11_8e⟩ := cells4 (HO11.out.blk 8 rfl).1
        obtain ⟨x11_9a, x11_9b, x11_9c, x11_9d, x11_9e, x11_9f⟩ := cells5 (HO11.out.blk 9 rfl).1
        by_cases h1 : id < 1
        · go_wp2_with fail
          go_ret
          exact ⟨rfl, HO11.out.old⟩
        · have h2 : (l.length : Int) < 2 := by omega
          clear h
          go_wp2_with fail
          go_ret
          exact ⟨rfl, HO11.out.old⟩
set_option maxHeartbeats 4000000 in
set_option maxRecDepth 100000 in
theorem sound_inner (p : Pg) (e : En) (id : Int) (w : World) {v : Value} (hr : Rl En.enc 4 w v p.list) (hf : Fits p) (hb : p.list.length ≤ 1048576) (hn : checkP p = 0) (hlf : p.leaf = false) : Calls Try.prog 8 #[pgv p v, env e, .int .i64 id] w fun e w' => e = .returned (.bool true) ∧ KN w w' := by
  obtain ⟨a0, cp, rfl, hc0, hrd⟩ := hr
  have HR := Lib.hid (Rl.of_rd hrd hc0)
  have HK := Lib.hid (fun W (k : KN w W) => check_ref p W ((Rl.of_rd hrd hc0).kn k) (by unfold maxLen; omega))
  have HK2 := Lib.hid (fun W (k : KN w W) => check_page p W ((Rl.of_rd hrd hc0).kn k) (by unfold maxLen; omega))
  clear hrd
  have hok := ok_iff.1 hn
  have hok2 := ok2_iff.1 hok
  rw [hn] at HK
  clear HK2
  obtain ⟨q, f, hq⟩ : ∃ q f, putP p ⟨e.key, ⟨0, 0⟩, max e.child 1⟩ = (q, f) := ⟨_, _, rfl⟩
  have hqf : (f = 0 ∧ checkP q = 0 ∧ q.list.length ≤ p.list.length + 1) ∨ (f = 73 ∧ q = ⟨false, ⟨#[]⟩, ⟨#[]⟩, 0, []⟩) := by
    cases hin : inR p.low p.high e.key with
    | true =>
      rw [put_form (e := ⟨e.key, ⟨0, 0⟩, max e.child 1⟩) hin] at hq
      cases hq
      exact .inl ⟨rfl, ok_iff.2 (ok2_iff.2 (ok_put hok2 hin (by rw [hlf]; exact ⟨rfl, rfl, by simp only; omega⟩))), putAt_len _ _⟩
    | false =>
      rw [put_miss (e := ⟨e.key, ⟨0, 0⟩, max e.child 1⟩) hin] at hq
      cases hq
      exact .inr ⟨rfl, rfl⟩
  have HP := Lib.hid (hq ▸ fun W (k : KN w W) => put_page p ⟨e.key, ⟨0, 0⟩, max e.child 1⟩ W (HR.out.kn k) (by omega))
  have hlq : q.list.length ≤ 1048577 := by rcases hqf with ⟨_, _, h⟩ | ⟨_, rfl⟩; omega; simp
  have HCq := Lib.hid (fun W v (h : Rl En.enc 4 W v q.list) => check_page q W h (by unfold maxLen; omega))
  have HQ := Lib.hid hqf
  clear hqf hq hlq
  obtain ⟨g, c, hg⟩ : ∃ g c, removeP p e.key = (g, c) := ⟨_, _, rfl⟩
  have hgl : g.list.length ≤ p.list.length := by have := removeP_len p e.key; rw [hg] at this; exact this
  have hgc : c = 0 ∨ c = 4 := by have := removeP_code p e.key; rw [hg] at this; exact this
  have hgo : c = 0 → p.leaf = true ∨ e.key ≠ p.low → checkP g = 0 := fun h0 h1 => by subst h0; exact ok_iff.2 (ok2_iff.2 (ok_remove hok2 hg h1))
  have HRm := Lib.hid (hg ▸ fun W (k : KN w W) => remove_page p e.key W (HR.out.kn k) (by omega))
  have HCg := Lib.hid (fun W v (h : Rl En.enc 4 W v g.list) => check_page g W h (by unfold maxLen; omega))
  have HG := Lib.hid (And.intro hgc hgo)
  clear hgc hgo hg hgl
  obtain ⟨a, b, code, hs⟩ : ∃ a b code, splitP p id = (a, b, code) := ⟨_, _, _, rfl⟩
  have hsc : code ≠ 0 → id < 1 ∨ p.list.length < 2 := fun h => split_code hok (by rw [hs]; exact h)
  have HS := Lib.hid (hs ▸ fun W (k : KN w W) => split_page p id W (HR.out.kn k) hf)
  have hsy : code = 0 → Ok a ∧ Ok b ∧ a.right = id ∧ mergeP a b = (p, 0) ∧ a.list.length ≤ p.list.length ∧ b.list.length ≤ p.list.length ∧ a.list.length + b.list.length = p.list.length := fun h => by subst h; exact ok_halves hok hs
  have HSY := Lib.hid hsy
  have HSC := Lib.hid hsc
  have HSame := Lib.hid (fun W v (h : Rl En.enc 4 W v p.list) (k : KN w W) => (sameP_iff (p := p) (q := p)).2 rfl ▸ same_page p p W h (HR.out.kn k) (by unfold maxLen; omega))
  clear hsc hsy hs hok hok2 hn hf
  obtain ⟨lf, lo, hi, r, l⟩ := p
  obtain ⟨ek, ⟨es, eg⟩, ec⟩ := e
  simp only at hlf HSY HSC HG HSame
  subst hlf
  obtain ⟨qf, ql, qh, qr, qs⟩ := q
  obtain ⟨gf, gl, gh, gr, gs⟩ := g
  obtain ⟨af, al, ah, ar, as'⟩ := a
  obtain ⟨bf, bl, bh, br, bs'⟩ := b
  have HO0 := Lib.hid ((One.nil w).alloc2 (.cells #[.bool false, .string lo, .string hi, .int .i64 r, .slice a0 l.length cp] 24) (.cells #[.string ek, .int .i64 es, .int .i64 eg, .int .i64 ec] 34))
  go_enter Try.func8, Try.ntmps8
  obtain ⟨x0_0a, x0_0b, x0_0c, x0_0d, x0_0e⟩ := cells4 (HO0.out.blk 0 rfl).1
  obtain ⟨x0_1a, x0_1b, x0_1c, x0_1d, x0_1e, x0_1f⟩ := cells5 (HO0.out.blk 1 rfl).1
  go_wp2_with fail
  refine (HK.out _ HO0.out.old).mono ?_
  rintro e w1 ⟨rfl, k1⟩
  have HO1 := Lib.hid (HO0.out.kn k1)
  clear k1 HO0 x0_0a x0_0b x0_0c x0_0d x0_0e x0_1a x0_1b x0_1c x0_1d x0_1e x0_1f
  obtain ⟨x1_0a, x1_0b, x1_0c, x1_0d, x1_0e⟩ := cells4 (HO1.out.blk 0 rfl).1
  obtain ⟨x1_1a, x1_1b, x1_1c, x1_1d, x1_1e, x1_1f⟩ := cells5 (HO1.out.blk 1 rfl).1
  go_wp2_with fail
  refine (live_true _).mono ?_
  rintro e w2 ⟨rfl, k2⟩
  have HO2 := Lib.hid (HO1.out.kn k2)
  clear k2 HO1 x1_0a x1_0b x1_0c x1_0d x1_0e x1_1a x1_1b x1_1c x1_1d x1_1e x1_1f
  obtain ⟨x2_0a, x2_0b, x2_0c, x2_0d, x2_0e⟩ := cells4 (HO2.out.blk 0 rfl).1
  obtain ⟨x2_1a, x2_1b, x2_1c, x2_1d, x2_1e, x2_1f⟩ := cells5 (HO2.out.blk 1 rfl).1
  have hmx : (if ec < 1 then (1 : Int) else ec) = max ec 1 := by omega
  go_upto_region 7 with fail
  trace_state
  have HO3 := Lib.hid (show One w (((w2.setCell ⟨w.heap.size + 1, 1, none⟩ (.int .i64 0)).setCell ⟨w.heap.size + 1, 2, none⟩ (.int .i64 0)).setCell ⟨w.heap.size + 1, 3, none⟩ (.int .i64 (max ec 1))) [Blk (w.heap.size + 1) (.cells #[.string ek, .int .i64 0, .int .i64 0, .int .i64 (max ec 1)] 34), Blk (w.heap.size) (.cells #[.bool false, .string lo, .string hi, .int .i64 r, .slice a0 l.length cp] 24)] from (((HO2.out.setC 0 rfl (j := 1) (.int .i64 0)).setC 0 rfl (j := 2) (.int .i64 0)).setC 0 rfl (j := 3) (.int .i64 (max ec 1))))
  clear HO2 x2_0a x2_0b x2_0c x2_0d x2_0e x2_1a x2_1b x2_1c x2_1d x2_1e x2_1f
  generalize (((w2.setCell ⟨w.heap.size + 1, 1, none⟩ (.int .i64 0)).setCell ⟨w.heap.size + 1, 2, none⟩ (.int .i64 0)).setCell ⟨w.heap.size + 1, 3, none⟩ (.int .i64 (max ec 1))) = w3 at *
  obtain ⟨x3_0a, x3_0b, x3_0c, x3_0d, x3_0e⟩ := cells4 (HO3.out.blk 0 rfl).1
  obtain ⟨x3_1a, x3_1b, x3_1c, x3_1d, x3_1e, x3_1f⟩ := cells5 (HO3.out.blk 1 rfl).1
  go_wp2_with fail
  refine (HP.out _ HO3.out.old).mono ?_
  rintro e w4 ⟨a4, c4, rfl, k4⟩
  have HO4 := Lib.hid (HO3.out.add k4)
  clear k4 HO3 x3_0a x3_0b x3_0c x3_0d x3_0e x3_1a x3_1b x3_1c x3_1d x3_1e x3_1f
  go_upto_region 8 with fail
  have HO5 := Lib.hid (HO4.out.alloc (.cells #[.bool qf, .string ql, .string qh, .int .i64 qr, .slice a4 qs.length c4] 24))
  clear HO4 
  generalize (w4.alloc (.cells #[.bool qf, .string ql, .string qh, .int .i64 qr, .slice a4 qs.length c4] 24)) = w5 at *
  generalize w4.heap.size = g5 at *
  go_cut [49] (fun s wx => s = .bool false ∧ Hid (One w wx [Blk (g5) (.cells #[.bool qf, .string ql, .string qh, .int .i64 qr, .slice a4 qs.length c4] 24), RowE a4 c4 qs, Blk (w.heap.size + 1) (.cells #[.string ek, .int .i64 0, .int .i64 0, .int .i64 (max ec 1)] 34), Blk (w.heap.size) (.cells #[.bool false, .string lo, .string hi, .int .i64 r, .slice a0 l.length cp] 24)]))
  case first =>
    rcases HQ.out with ⟨rfl, hq1, _⟩ | ⟨rfl, _⟩
    · rw [hq1] at HCq
      clear hq1
      obtain ⟨x5_0a, x5_0b, x5_0c, x5_0d, x5_0e, x5_0f⟩ := cells5 (HO5.out.blk 0 rfl).1
      obtain ⟨x5_2a, x5_2b, x5_2c, x5_2d, x5_2e⟩ := cells4 (HO5.out.blk 2 rfl).1
      obtain ⟨x5_3a, x5_3b, x5_3c, x5_3d, x5_3e, x5_3f⟩ := cells5 (HO5.out.blk 3 rfl).1
      go_wp2_with fail
      refine (HCq.out _ _ (HO5.out.rlE 1 rfl)).mono ?_
      rintro e w6 ⟨rfl, k6⟩
      have HO6 := Lib.hid (HO5.out.kn k6)
      clear k6 HO5 x5_0a x5_0b x5_0c x5_0d x5_0e x5_0f x5_2a x5_2b x5_2c x5_2d x5_2e x5_3a x5_3b x5_3c x5_3d x5_3e x5_3f
      go_wp2_with fail
      go_meet
      exact ⟨rfl, HO6⟩
    · skip
      go_wp2_with fail
      go_meet
      exact ⟨rfl, HO5⟩
  case rest =>
    clear HO5
    obtain ⟨rfl, HO6⟩ := hcut
    skip
    generalize wc = w6 at *
    clear HCq HP HQ
    obtain ⟨x6_0a, x6_0b, x6_0c, x6_0d, x6_0e, x6_0f⟩ := cells5 (HO6.out.blk 0 rfl).1
    obtain ⟨x6_2a, x6_2b, x6_2c, x6_2d, x6_2e⟩ := cells4 (HO6.out.blk 2 rfl).1
    obtain ⟨x6_3a, x6_3b, x6_3c, x6_3d, x6_3e, x6_3f⟩ := cells5 (HO6.out.blk 3 rfl).1
    go_wp2_with fail
    refine (HRm.out _ HO6.out.old).mono ?_
    rintro e w7 ⟨a7, c7, rfl, k7⟩
    have HO7 := Lib.hid (HO6.out.add k7)
    clear k7 HO6 x6_0a x6_0b x6_0c x6_0d x6_0e x6_0f x6_2a x6_2b x6_2c x6_2d x6_2e x6_3a x6_3b x6_3c x6_3d x6_3e x6_3f
    go_upto_region 11 with fail
    have HO8 := Lib.hid (HO7.out.alloc (.cells #[.bool gf, .string gl, .string gh, .int .i64 gr, .slice a7 gs.length c7] 24))
    clear HO7 
    generalize (w7.alloc (.cells #[.bool gf, .string gl, .string gh, .int .i64 gr, .slice a7 gs.length c7] 24)) = w8 at *
    generalize w7.heap.size = g8 at *
    go_cut [74] (fun s wx => s = .bool false ∧ Hid (One w wx [Blk (g8) (.cells #[.bool gf, .string gl, .string gh, .int .i64 gr, .slice a7 gs.length c7] 24), RowE a7 c7 gs, Blk (g5) (.cells #[.bool qf, .string ql, .string qh, .int .i64 qr, .slice a4 qs.length c4] 24), RowE a4 c4 qs, Blk (w.heap.size + 1) (.cells #[.string ek, .int .i64 0, .int .i64 0, .int .i64 (max ec 1)] 34), Blk (w.heap.size) (.cells #[.bool false, .string lo, .string hi, .int .i64 r, .slice a0 l.length cp] 24)]))
    case first =>
      obtain ⟨hc, hgo⟩ := HG.out
      rcases hc with rfl | rfl
      · by_cases hkl : ek = lo
        · rcases check_two ⟨gf, gl, gh, gr, gs⟩ with h | h
          · rw [h] at HCg
            clear hgo h hkl
            obtain ⟨x8_0a, x8_0b, x8_0c, x8_0d, x8_0e, x8_0f⟩ := cells5 (HO8.out.blk 0 rfl).1
            obtain ⟨x8_2a, x8_2b, x8_2c, x8_2d, x8_2e, x8_2f⟩ := cells5 (HO8.out.blk 2 rfl).1
            obtain ⟨x8_4a, x8_4b, x8_4c, x8_4d, x8_4e⟩ := cells4 (HO8.out.blk 4 rfl).1
            obtain ⟨x8_5a, x8_5b, x8_5c, x8_5d, x8_5e, x8_5f⟩ := cells5 (HO8.out.blk 5 rfl).1
            go_wp2_with fail
            refine (HCg.out _ _ (HO8.out.rlE 1 rfl)).mono ?_
            rintro e w9 ⟨rfl, k9⟩
            have HO9 := Lib.hid (HO8.out.kn k9)
            clear k9 HO8 x8_0a x8_0b x8_0c x8_0d x8_0e x8_0f x8_2a x8_2b x8_2c x8_2d x8_2e x8_2f x8_4a x8_4b x8_4c x8_4d x8_4e x8_5a x8_5b x8_5c x8_5d x8_5e x8_5f
            go_wp2_with fail
            go_meet
            exact ⟨rfl, HO9⟩
          · rw [h] at HCg
            have hs1 : (ek.toList != lo.toList) = false := by rw [hkl]; simp
            have hs2 : (ek.toList == lo.toList) = true := by rw [hkl]; simp
            clear hgo h hkl
            obtain ⟨x8_0a, x8_0b, x8_0c, x8_0d, x8_0e, x8_0f⟩ := cells5 (HO8.out.blk 0 rfl).1
            obtain ⟨x8_2a, x8_2b, x8_2c, x8_2d, x8_2e, x8_2f⟩ := cells5 (HO8.out.blk 2 rfl).1
            obtain ⟨x8_4a, x8_4b, x8_4c, x8_4d, x8_4e⟩ := cells4 (HO8.out.blk 4 rfl).1
            obtain ⟨x8_5a, x8_5b, x8_5c, x8_5d, x8_5e, x8_5f⟩ := cells5 (HO8.out.blk 5 rfl).1
            go_wp2_with fail
            refine (HCg.out _ _ (HO8.out.rlE 1 rfl)).mono ?_
            rintro e w9 ⟨rfl, k9⟩
            have HO9 := Lib.hid (HO8.out.kn k9)
            clear k9 HO8 x8_0a x8_0b x8_0c x8_0d x8_0e x8_0f x8_2a x8_2b x8_2c x8_2d x8_2e x8_2f x8_4a x8_4b x8_4c x8_4d x8_4e x8_5a x8_5b x8_5c x8_5d x8_5e x8_5f
            obtain ⟨x9_0a, x9_0b, x9_0c, x9_0d, x9_0e, x9_0f⟩ := cells5 (HO9.out.blk 0 rfl).1
            obtain ⟨x9_2a, x9_2b, x9_2c, x9_2d, x9_2e, x9_2f⟩ := cells5 (HO9.out.blk 2 rfl).1
            obtain ⟨x9_4a, x9_4b, x9_4c, x9_4d, x9_4e⟩ := cells4 (HO9.out.blk 4 rfl).1
            obtain ⟨x9_5a, x9_5b, x9_5c, x9_5d, x9_5e, x9_5f⟩ := cells5 (HO9.out.blk 5 rfl).1
            go_wp2_with fail
            go_meet
            exact ⟨rfl, HO9⟩
        · rw [hgo rfl (.inr hkl)] at HCg
          clear hgo hkl
          obtain ⟨x8_0a, x8_0b, x8_0c, x8_0d, x8_0e, x8_0f⟩ := cells5 (HO8.out.blk 0 rfl).1
          obtain ⟨x8_2a, x8_2b, x8_2c, x8_2d, x8_2e, x8_2f⟩ := cells5 (HO8.out.blk 2 rfl).1
          obtain ⟨x8_4a, x8_4b, x8_4c, x8_4d, x8_4e⟩ := cells4 (HO8.out.blk 4 rfl).1
          obtain ⟨x8_5a, x8_5b, x8_5c, x8_5d, x8_5e, x8_5f⟩ := cells5 (HO8.out.blk 5 rfl).1
          go_wp2_with fail
          refine (HCg.out _ _ (HO8.out.rlE 1 rfl)).mono ?_
          rintro e w9 ⟨rfl, k9⟩
          have HO9 := Lib.hid (HO8.out.kn k9)
          clear k9 HO8 x8_0a x8_0b x8_0c x8_0d x8_0e x8_0f x8_2a x8_2b x8_2c x8_2d x8_2e x8_2f x8_4a x8_4b x8_4c x8_4d x8_4e x8_5a x8_5b x8_5c x8_5d x8_5e x8_5f
          go_wp2_with fail
          go_meet
          exact ⟨rfl, HO9⟩
      · skip
        clear hgo
        go_wp2_with fail
        go_meet
        exact ⟨rfl, HO8⟩
    case rest =>
      clear HO8
      obtain ⟨rfl, HO9⟩ := hcut
      skip
      generalize wc = w9 at *
      clear HCg HRm HG
      obtain ⟨x9_0a, x9_0b, x9_0c, x9_0d, x9_0e, x9_0f⟩ := cells5 (HO9.out.blk 0 rfl).1
      obtain ⟨x9_2a, x9_2b, x9_2c, x9_2d, x9_2e, x9_2f⟩ := cells5 (HO9.out.blk 2 rfl).1
      obtain ⟨x9_4a, x9_4b, x9_4c, x9_4d, x9_4e⟩ := cells4 (HO9.out.blk 4 rfl).1
      obtain ⟨x9_5a, x9_5b, x9_5c, x9_5d, x9_5e, x9_5f⟩ := cells5 (HO9.out.blk 5 rfl).1
      go_wp2_with fail
      refine (HS.out _ HO9.out.old).mono ?_
      rintro e w10 ⟨a10, c10, b10, d10, rfl, k10⟩
      have HO10 := Lib.hid (HO9.out.more k10)
      clear k10 HO9 x9_0a x9_0b x9_0c x9_0d x9_0e x9_0f x9_2a x9_2b x9_2c x9_2d x9_2e x9_2f x9_4a x9_4b x9_4c x9_4d x9_4e x9_5a x9_5b x9_5c x9_5d x9_5e x9_5f
      go_upto_region 14 with fail
      have HO11 := Lib.hid (HO10.out.alloc2 (.cells #[.bool af, .string al, .string ah, .int .i64 ar, .slice a10 as'.length c10] 24) (.cells #[.bool bf, .string bl, .string bh, .int .i64 br, .slice b10 bs'.length d10] 24))
      clear HO10 
      generalize ((w10.alloc (.cells #[.bool af, .string al, .string ah, .int .i64 ar, .slice a10 as'.length c10] 24)).alloc (.cells #[.bool bf, .string bl, .string bh, .int .i64 br, .slice b10 bs'.length d10] 24)) = w11 at *
      generalize w10.heap.size = g11 at *
      by_cases hcode : code = 0
      · subst hcode
        obtain ⟨ha, hb', hid, hm, hla, hlb, hlab⟩ := HSY.out rfl
        subst hid
        have HCa := Lib.hid (ok_iff.2 ha ▸ fun W v (h : Rl En.enc 4 W v as') => check_page ⟨af, al, ah, ar, as'⟩ W h (by unfold maxLen; simp only; omega))
        have HCb := Lib.hid (ok_iff.2 hb' ▸ fun W v (h : Rl En.enc 4 W v bs') => check_page ⟨bf, bl, bh, br, bs'⟩ W h (by unfold maxLen; simp only; omega))
        have HMg := Lib.hid (hm ▸ fun W v u (h : Rl En.enc 4 W v as') (h' : Rl En.enc 4 W u bs') => merge_page ⟨af, al, ah, ar, as'⟩ ⟨bf, bl, bh, br, bs'⟩ W h h' (by simp only; omega))
        have hne : (ar != ar) = false := by simp
        clear ha hb' hm hla hlb hlab HSY HSC
        obtain ⟨x11_0a, x11_0b, x11_0c, x11_0d, x11_0e, x11_0f⟩ := cells5 (HO11.out.blk 0 rfl).1
        obtain ⟨x11_1a, x11_1b, x11_1c, x11_1d, x11_1e, x11_1f⟩ := cells5 (HO11.out.blk 1 rfl).1
        obtain ⟨x11_4a, x11_4b, x11_4c, x11_4d, x11_4e, x11_4f⟩ := cells5 (HO11.out.blk 4 rfl).1
        obtain ⟨x11_6a, x11_6b, x11_6c, x11_6d, x11_6e, x11_6f⟩ := cells5 (HO11.out.blk 6 rfl).1
        obtain ⟨x11_8a, x11_8b, x11_8c, x11_8d, x11_8e⟩ := cells4 (HO11.out.blk 8 rfl).1
        obtain ⟨x11_9a, x11_9b, x11_9c, x11_9d, x11_9e, x11_9f⟩ := cells5 (HO11.out.blk 9 rfl).1
        go_wp2_with fail
        refine (HCa.out _ _ (HO11.out.rlE 3 rfl)).mono ?_
        rintro e w12 ⟨rfl, k12⟩
        have HO12 := Lib.hid (HO11.out.kn k12)
        clear k12 HO11 x11_0a x11_0b x11_0c x11_0d x11_0e x11_0f x11_1a x11_1b x11_1c x11_1d x11_1e x11_1f x11_4a x11_4b x11_4c x11_4d x11_4e x11_4f x11_6a x11_6b x11_6c x11_6d x11_6e x11_6f x11_8a x11_8b x11_8c x11_8d x11_8e x11_9a x11_9b x11_9c x11_9d x11_9e x11_9f
        obtain ⟨x12_0a, x12_0b, x12_0c, x12_0d, x12_0e, x12_0f⟩ := cells5 (HO12.out.blk 0 rfl).1
        obtain ⟨x12_1a, x12_1b, x12_1c, x12_1d, x12_1e, x12_1f⟩ := cells5 (HO12.out.blk 1 rfl).1
        obtain ⟨x12_4a, x12_4b, x12_4c, x12_4d, x12_4e, x12_4f⟩ := cells5 (HO12.out.blk 4 rfl).1
        obtain ⟨x12_6a, x12_6b, x12_6c, x12_6d, x12_6e, x12_6f⟩ := cells5 (HO12.out.blk 6 rfl).1
        obtain ⟨x12_8a, x12_8b, x12_8c, x12_8d, x12_8e⟩ := cells4 (HO12.out.blk 8 rfl).1
        obtain ⟨x12_9a, x12_9b, x12_9c, x12_9d, x12_9e, x12_9f⟩ := cells5 (HO12.out.blk 9 rfl).1
        go_wp2_with fail
        refine (HCb.out _ _ (HO12.out.rlE 2 rfl)).mono ?_
        rintro e w13 ⟨rfl, k13⟩
        have HO13 := Lib.hid (HO12.out.kn k13)
        clear k13 HO12 x12_0a x12_0b x12_0c x12_0d x12_0e x12_0f x12_1a x12_1b x12_1c x12_1d x12_1e x12_1f x12_4a x12_4b x12_4c x12_4d x12_4e x12_4f x12_6a x12_6b x12_6c x12_6d x12_6e x12_6f x12_8a x12_8b x12_8c x12_8d x12_8e x12_9a x12_9b x12_9c x12_9d x12_9e x12_9f
        obtain ⟨x13_0a, x13_0b, x13_0c, x13_0d, x13_0e, x13_0f⟩ := cells5 (HO13.out.blk 0 rfl).1
        obtain ⟨x13_1a, x13_1b, x13_1c, x13_1d, x13_1e, x13_1f⟩ := cells5 (HO13.out.blk 1 rfl).1
        obtain ⟨x13_4a, x13_4b, x13_4c, x13_4d, x13_4e, x13_4f⟩ := cells5 (HO13.out.blk 4 rfl).1
        obtain ⟨x13_6a, x13_6b, x13_6c, x13_6d, x13_6e, x13_6f⟩ := cells5 (HO13.out.blk 6 rfl).1
        obtain ⟨x13_8a, x13_8b, x13_8c, x13_8d, x13_8e⟩ := cells4 (HO13.out.blk 8 rfl).1
        obtain ⟨x13_9a, x13_9b, x13_9c, x13_9d, x13_9e, x13_9f⟩ := cells5 (HO13.out.blk 9 rfl).1
        go_wp2_with fail
        refine (HMg.out _ _ _ (HO13.out.rlE 3 rfl) (HO13.out.rlE 2 rfl)).mono ?_
        rintro e w14 ⟨a14, c14, rfl, k14⟩
        have HO14 := Lib.hid (HO13.out.add k14)
        clear k14 HO13 x13_0a x13_0b x13_0c x13_0d x13_0e x13_0f x13_1a x13_1b x13_1c x13_1d x13_1e x13_1f x13_4a x13_4b x13_4c x13_4d x13_4e x13_4f x13_6a x13_6b x13_6c x13_6d x13_6e x13_6f x13_8a x13_8b x13_8c x13_8d x13_8e x13_9a x13_9b x13_9c x13_9d x13_9e x13_9f
        go_upto_region 19 with fail
        have HO15 := Lib.hid (HO14.out.alloc (.cells #[.bool false, .string lo, .string hi, .int .i64 r, .slice a14 l.length c14] 24))
        clear HO14 
        generalize (w14.alloc (.cells #[.bool false, .string lo, .string hi, .int .i64 r, .slice a14 l.length c14] 24)) = w15 at *
        generalize w14.heap.size = g15 at *
        obtain ⟨x15_0a, x15_0b, x15_0c, x15_0d, x15_0e, x15_0f⟩ := cells5 (HO15.out.blk 0 rfl).1
        obtain ⟨x15_2a, x15_2b, x15_2c, x15_2d, x15_2e, x15_2f⟩ := cells5 (HO15.out.blk 2 rfl).1
        obtain ⟨x15_3a, x15_3b, x15_3c, x15_3d, x15_3e, x15_3f⟩ := cells5 (HO15.out.blk 3 rfl).1
        obtain ⟨x15_6a, x15_6b, x15_6c, x15_6d, x15_6e, x15_6f⟩ := cells5 (HO15.out.blk 6 rfl).1
        obtain ⟨x15_8a, x15_8b, x15_8c, x15_8d, x15_8e, x15_8f⟩ := cells5 (HO15.out.blk 8 rfl).1
        obtain ⟨x15_10a, x15_10b, x15_10c, x15_10d, x15_10e⟩ := cells4 (HO15.out.blk 10 rfl).1
        obtain ⟨x15_11a, x15_11b, x15_11c, x15_11d, x15_11e, x15_11f⟩ := cells5 (HO15.out.blk 11 rfl).1
        go_wp2_with fail
        refine (HSame.out _ _ (HO15.out.rlE 1 rfl) HO15.out.old).mono ?_
        rintro e w16 ⟨rfl, k16⟩
        have HO16 := Lib.hid (HO15.out.kn k16)
        clear k16 HO15 x15_0a x15_0b x15_0c x15_0d x15_0e x15_0f x15_2a x15_2b x15_2c x15_2d x15_2e x15_2f x15_3a x15_3b x15_3c x15_3d x15_3e x15_3f x15_6a x15_6b x15_6c x15_6d x15_6e x15_6f x15_8a x15_8b x15_8c x15_8d x15_8e x15_8f x15_10a x15_10b x15_10c x15_10d x15_10e x15_11a x15_11b x15_11c x15_11d x15_11e x15_11f
        go_wp2_with fail
        go_ret
        exact ⟨rfl, HO16.out.old⟩
      · have hne : (code != 0) = true := by rw [bne_iff_ne]; exact hcode
        have h := HSC.out hcode
        clear hcode HSY HSC
        obtain ⟨x11_0a, x11_0b, x11_0c, x11_0d, x11_0e, x11_0f⟩ := cells5 (HO11.out.blk 0 rfl).1
        obtain ⟨x11_1a, x11_1b, x11_1c, x11_1d, x11_1e, x11_1f⟩ := cells5 (HO11.out.blk 1 rfl).1
        obtain ⟨x11_4a, x11_4b, x11_4c, x11_4d, x11_4e, x11_4f⟩ := cells5 (HO11.out.blk 4 rfl).1
        obtain ⟨x11_6a, x11_6b, x11_6c, x11_6d, x11_6e, x11_6f⟩ := cells5 (HO11.out.blk 6 rfl).1
        obtain ⟨x11_8a, x11_8b, x11_8c, x11_8d, x11_8e⟩ := cells4 (HO11.out.blk 8 rfl).1
        obtain ⟨x11_9a, x11_9b, x11_9c, x11_9d, x11_9e, x11_9f⟩ := cells5 (HO11.out.blk 9 rfl).1
        by_cases h1 : id < 1
        · go_wp2_with fail
          go_ret
          exact ⟨rfl, HO11.out.old⟩
        · have h2 : (l.length : Int) < 2 := by omega
          clear h
          go_wp2_with fail
          go_ret
          exact ⟨rfl, HO11.out.old⟩
theorem sound_walk (p : Pg) (e : En) (id : Int) (w : World) {v : Value} (hr : Rl En.enc 4 w v p.list) (hf : Fits p) (hb : p.list.length ≤ 1048576) : Calls Try.prog 8 #[pgv p v, env e, .int .i64 id] w fun e w' => e = .returned (.bool true) ∧ KN w w' := by
  rcases check_two p with h | h
  · cases hl : p.leaf with
    | false => exact sound_inner p e id w hr hf hb h hl
    | true => exact sound_leaf p e id w hr hf hb h hl
  · exact sound_no p e id w hr hf hb h
end Go.Proofs.Ytopmeecgjobofaa

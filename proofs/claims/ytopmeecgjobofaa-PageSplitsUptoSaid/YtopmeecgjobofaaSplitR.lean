/- The walk of the reference's Split. -/
import Derived.Test.YtopmeecgjobofaaMergeP
import Derived.Test.YtopmeecgjobofaaLawParts
namespace Go.Proofs.Ytopmeecgjobofaa
set_option linter.unusedVariables false
set_option linter.unusedSimpArgs false
open Go Go.RowKit

theorem One.pick4 {w0 w : World} {A B C D E X F G : Asr} {l : List Asr} (h : One w0 w (A :: B :: C :: D :: E :: X :: F :: G :: l)) : One w0 w [A, B, F, G] := by
  have hp : (A :: B :: C :: D :: E :: X :: F :: G :: l).Perm ([A, B, F, G] ++ (C :: D :: E :: X :: l)) := by
    refine .cons _ (.cons _ ?_)
    show (C :: D :: E :: X :: F :: G :: l).Perm (F :: G :: C :: D :: E :: X :: l)
    have : ([C, D, E, X] ++ ([F, G] ++ l)).Perm ([F, G] ++ ([C, D, E, X] ++ l)) := by
      rw [← List.append_assoc, ← List.append_assoc]
      exact List.perm_append_comm.append_right l
    simpa using this
  have h2 := One.all.1 (h.perm hp)
  obtain ⟨F', ⟨F1, F2, h1, _, _, hF⟩, b, c⟩ := h2
  exact ⟨F1, h1, fun x hx => b x ((hF x).2 (.inl hx)), c⟩
theorem rsplit_few (p : Pg) (id : Int) (w : World) {v : Value} (hr : Rl En.enc 4 w v p.list) (h : id < 1 ∨ p.list.length < 2) (h63 : p.list.length ≤ maxLen) : Calls Try.prog 15 #[pgv p v, .int .i64 id] w (GaveP2 (splitP p id) w) := by
  obtain ⟨a0, c0, rfl, hc0, hrd⟩ := hr
  unfold maxLen at h63
  have HO := Lib.hid ((((One.nil w).nilRow 34 4).nilRow 34 4).alloc3 (.cells #[.bool p.leaf, .string p.low, .string p.high, .int .i64 p.right, .slice a0 p.list.length c0] 24) (.cells #[.bool false, .string empS, .string empS, .int .i64 0, .slice none 0 0] 24) (.cells #[.bool false, .string empS, .string empS, .int .i64 0, .slice none 0 0] 24))
  clear hrd
  by_cases h1 : id < 1
  · have hP : splitP p id = (zeroPg, zeroPg, 1) := by unfold splitP; rw [if_pos h1]
    rw [hP]
    clear hP h
    obtain ⟨lf, lo, hi, r, l⟩ := p
    go_enter Try.func15, Try.ntmps15
    go_wp2_with fail
    exact bodyPost_ret (res_c2t rfl rfl (load_pg (HO.out.blk 1 rfl).1) rfl (load_pg (HO.out.blk 0 rfl).1) rfl) rfl ⟨none, 0, none, 0, rfl, HO.out.drop.drop.drop⟩
  · have h2 : p.list.length < 2 := by omega
    have hP : splitP p id = (zeroPg, zeroPg, 71) := by unfold splitP; rw [if_neg h1, if_pos h2]
    rw [hP]
    clear hP h
    obtain ⟨lf, lo, hi, r, l⟩ := p
    simp only at h2
    go_enter Try.func15, Try.ntmps15
    go_wp2_with fail
    exact bodyPost_ret (res_c2t rfl rfl (load_pg (HO.out.blk 1 rfl).1) rfl (load_pg (HO.out.blk 0 rfl).1) rfl) rfl ⟨none, 0, none, 0, rfl, HO.out.drop.drop.drop⟩

set_option maxHeartbeats 4000000 in
theorem rsplit_inner (lo hi : ByteArray) (r : Int) (l : List En) (id : Int) (w : World) {a0 : Option Addr} {c0 : Nat} (hrd : Rd En.enc 4 w a0 l) (hc0 : l.length ≤ c0) (h1 : 1 ≤ id) {k : Nat} (hk : k = l.length / 2) (h2 : 2 ≤ l.length) (hb : l.length * 40 ≤ 140737488355328) {x y : En} (hx : l[k]? = some x) (hy : l[k - 1]? = some y)
     :
    Calls Try.prog 15 #[.agg #[.bool false, .string lo, .string hi, .int .i64 r, .slice a0 l.length c0], .int .i64 id] w (GaveP2 (⟨false, lo, x.key, id, l.take k⟩, ⟨false, x.key, hi, r, l.drop k⟩, 0) w) := by
  obtain ⟨b, off, rfl, hbw, e0, e1, e2, e3⟩ := rd4 hrd hx
  obtain ⟨b', off', hab, _, f0, f1, f2, f3⟩ := rd4 hrd hy
  cases hab
  have hkl : k < l.length := by omega
  have hk1 : 1 ≤ k := by omega
  have hdiv : ((l.length : Int) / 2) = (k : Int) := by rw [hk]; rfl
  
  have HO := Lib.hid ((One.nil w).alloc3 (.cells #[.bool false, .string lo, .string hi, .int .i64 r, .slice (some ⟨b, off, none⟩) l.length c0] 24) (.cells #[.bool false, .string ⟨#[]⟩, .string ⟨#[]⟩, .int .i64 0, .slice none 0 0] 24) (.cells #[.bool false, .string ⟨#[]⟩, .string ⟨#[]⟩, .int .i64 0, .slice none 0 0] 24))
  have HCl := Lib.hid (fun W (kn : KN w W) => clone_ref ⟨false, lo, hi, r, l⟩ W ((Rl.of_rd hrd hc0).kn kn) (by unfold maxLen; simp only; omega) hb)
  have hid : ¬ id < 1 := by omega
  have hn2 : ¬ (l.length : Int) < 2 := by omega
  have hz0 : (0 : Int) ≤ (k : Int) := by omega
  have hz1 : (k : Int) < (l.length : Int) := by omega
  have hz2 : (k : Int) ≤ (l.length : Int) := by omega
  have HD := Lib.hid hdiv
  clear hrd hdiv hk hx hy
  go_enter Try.func15, Try.ntmps15
  go_upto_region 6 with fail
  generalize ((w.alloc (.cells #[.bool false, .string lo, .string hi, .int .i64 r, .slice (some ⟨b, off, none⟩) l.length c0] 24)).alloc (.cells #[.bool false, .string ⟨#[]⟩, .string ⟨#[]⟩, .int .i64 0, .slice none 0 0] 24)).alloc (.cells #[.bool false, .string ⟨#[]⟩, .string ⟨#[]⟩, .int .i64 0, .slice none 0 0] 24) = w1 at *
  rw [← HO.out.old.below.cell (p := ⟨b, off + k * 4, none⟩) hbw] at e0
  rw [← HO.out.old.below.cell (p := ⟨b, off + (k - 1) * 4, none⟩) hbw] at f0
  obtain ⟨x0, x1, x2, x3, x4, xf⟩ := cells5 (HO.out.blk 2 rfl).1
  have hq : IntKind.i64.wrap ((l.length : Int) / 2) = (k : Int) := by rw [HD.out]; exact Go.IntWalk.i64_in _ (by omega)
  have hq2 : wrap64 ((l.length : Int).tdiv 2) = (k : Int) := by rw [Int.tdiv_eq_ediv_of_nonneg (by omega), HD.out]; unfold wrap64; omega
  have hw : IntKind.i64.wrap ((k : Int) - 1) = ((k - 1 : Nat) : Int) := by rw [Go.IntWalk.i64_in _ (by omega)]; omega
  have hw2 : wrap64 ((k : Int) - 1) = ((k - 1 : Nat) : Int) := by unfold wrap64; omega
  have hz4 : (0 : Int) ≤ ((k - 1 : Nat) : Int) := by omega
  have hz5 : ((k - 1 : Nat) : Int) < (l.length : Int) := by omega
  go_wp2_with fail
  refine (HCl.out _ HO.out.old).mono ?_
  rintro e w2 ⟨a2, c2, rfl, hpo⟩
  have HO2 := Lib.hid (HO.out.add hpo)
  clear hpo HO HCl x0 x1 x2 x3 x4 xf e0 f0
  go_upto_region 13 with fail
  have HO3 := Lib.hid (HO2.out.alloc (.cells #[.bool false, .string lo, .string hi, .int .i64 r, .slice a2 l.length c2] 24))
  clear HO2
  generalize w2.alloc (.cells #[.bool false, .string lo, .string hi, .int .i64 r, .slice a2 l.length c2] 24) = w3 at *
  generalize w2.heap.size = g at *
  obtain ⟨a2', c2', hv, hc2, hrd3⟩ := HO3.out.rlE 1 rfl
  cases hv
  obtain ⟨a3, hs1, hr1⟩ := cut_pre2 hrd3 hc2 (i := k) (by omega)
  obtain ⟨a4, hs2, hr2⟩ := cut_post hrd3 hc2 (i := k) (by omega)
  have hl1 : (l.take k).length = k := by rw [List.length_take]; omega
  have hl2 : (l.drop k).length = l.length - k := by rw [List.length_drop]
  have HCa := Lib.hid (fun W (kn : KN w3 W) => clone_ref ⟨false, lo, x.key, id, l.take k⟩ W (hr1.kn kn) (by unfold maxLen; simp only; omega) (by simp only; omega))
  have HCb := Lib.hid (fun W (kn : KN w3 W) => clone_ref ⟨false, x.key, hi, r, l.drop k⟩ W (hr2.kn kn) (by unfold maxLen; simp only; omega) (by simp only; omega))
  have hz6 : (k : Int) ≤ (c2 : Int) := by omega
  clear hr1 hr2 hrd3 hl1 hl2 hw hw2
  generalize l.take k = xs1 at *
  generalize l.drop k = xs2 at *
  have K3 := Lib.hid (Kp.refl (fun _ => False) w3)
  obtain ⟨x0, x1, x2, x3, x4, xf⟩ := cells5 (HO3.out.blk 4 rfl).1
  obtain ⟨y0, y1, y2, y3, y4, yf⟩ := cells5 (HO3.out.blk 0 rfl).1
  go_cut [12] (fun s wx => ∃ g' : Nat, s = .pointer (some ⟨g', 0, none⟩) ∧ Hid (One w wx [Blk g' (.cells #[.bool false, .string lo, .string x.key, .int .i64 id, .slice a3 k c2] 24), Blk g (.cells #[.bool false, .string lo, .string hi, .int .i64 r, .slice a2 l.length c2] 24), RowE a2 c2 l, Blk (w.heap.size + 1 + 1) (.cells #[.bool false, .string ⟨#[]⟩, .string ⟨#[]⟩, .int .i64 0, .slice none 0 0] 24), Blk (w.heap.size + 1) (.cells #[.bool false, .string ⟨#[]⟩, .string ⟨#[]⟩, .int .i64 0, .slice none 0 0] 24), Blk w.heap.size (.cells #[.bool false, .string lo, .string hi, .int .i64 r, .slice (some ⟨b, off, none⟩) l.length c0] 24)]) ∧ Hid (KN w3 wx))
  case first =>
    have HN := Lib.hid (HO3.out.alloc (.cells #[.bool false, .string lo, .string x.key, .int .i64 id, .slice a3 k c2] 24))
    have KN1 := Lib.hid (And.intro (cells5' (HN.out.blk 5 rfl).1) (cell_blk (i := 4) (HN.out.blk 1 rfl).1 rfl))
    go_region_held3 (fun w' => (w'.cell? ⟨w.heap.size, 0, none⟩ = some (.bool false) ∧ w'.cell? ⟨w.heap.size, 1, none⟩ = some (.string lo) ∧ w'.cell? ⟨w.heap.size, 2, none⟩ = some (.string hi) ∧ w'.cell? ⟨w.heap.size, 3, none⟩ = some (.int .i64 r) ∧ w'.cell? ⟨w.heap.size, 4, none⟩ = some (.slice (some ⟨b, off, none⟩) l.length c0)) ∧ w'.cell? ⟨g, 4, none⟩ = some (.slice a2 l.length c2)) (first | (with_reducible exact KN1.out) | go_keep) (fail)
    all_goals
      go_wp2_with fail
      go_meet
      exact ⟨w3.heap.size, rfl, Lib.hid (HN.out.kn ((Kp.refl _ _).drew)), Lib.hid ((kn_alloc _ _).drew)⟩
  case rest =>
  obtain ⟨g1, rfl, HO4, HK4⟩ := hcut
  clear HO3 K3 x0 x1 x2 x3 x4 xf y0 y1 y2 y3 y4 yf
  generalize wc = w4 at *
  obtain ⟨x0, x1, x2, x3, x4, xf⟩ := cells5 (HO4.out.blk 5 rfl).1
  obtain ⟨y0, y1, y2, y3, y4, yf⟩ := cells5 (HO4.out.blk 1 rfl).1
  go_upto_region 14 with fail
  go_cut [13] (fun s wx => ∃ g' : Nat, s = .pointer (some ⟨g', 0, none⟩) ∧ Hid (One w wx [Blk g' (.cells #[.bool false, .string x.key, .string hi, .int .i64 r, .slice a4 (l.length - k) (c2 - k)] 24), Blk g1 (.cells #[.bool false, .string lo, .string x.key, .int .i64 id, .slice a3 k c2] 24), Blk g (.cells #[.bool false, .string lo, .string hi, .int .i64 r, .slice a2 l.length c2] 24), RowE a2 c2 l, Blk (w.heap.size + 1 + 1) (.cells #[.bool false, .string ⟨#[]⟩, .string ⟨#[]⟩, .int .i64 0, .slice none 0 0] 24), Blk (w.heap.size + 1) (.cells #[.bool false, .string ⟨#[]⟩, .string ⟨#[]⟩, .int .i64 0, .slice none 0 0] 24), Blk w.heap.size (.cells #[.bool false, .string lo, .string hi, .int .i64 r, .slice (some ⟨b, off, none⟩) l.length c0] 24)]) ∧ Hid (KN w3 wx))
  case first =>
    have HN := Lib.hid (HO4.out.alloc (.cells #[.bool false, .string x.key, .string hi, .int .i64 r, .slice a4 (l.length - k) (c2 - k)] 24))
    have KN1 := Lib.hid (And.intro (cells5' (HN.out.blk 6 rfl).1) (cell_blk (i := 4) (HN.out.blk 2 rfl).1 rfl))
    go_region_held3 (fun w' => (w'.cell? ⟨w.heap.size, 0, none⟩ = some (.bool false) ∧ w'.cell? ⟨w.heap.size, 1, none⟩ = some (.string lo) ∧ w'.cell? ⟨w.heap.size, 2, none⟩ = some (.string hi) ∧ w'.cell? ⟨w.heap.size, 3, none⟩ = some (.int .i64 r) ∧ w'.cell? ⟨w.heap.size, 4, none⟩ = some (.slice (some ⟨b, off, none⟩) l.length c0)) ∧ w'.cell? ⟨g, 4, none⟩ = some (.slice a2 l.length c2)) (first | (with_reducible exact KN1.out) | go_keep) (fail)
    all_goals
      go_wp2_with fail
      go_meet
      exact ⟨w4.heap.size, rfl, Lib.hid (HN.out.kn ((Kp.refl _ _).drew)), Lib.hid ((HK4.out.alloc _).drew)⟩
  case rest =>
  obtain ⟨g2, rfl, HO5, HK5⟩ := hcut
  clear HO4 HK4 x0 x1 x2 x3 x4 xf y0 y1 y2 y3 y4 yf
  generalize wc = w5 at *
  obtain ⟨x0, x1, x2, x3, x4, xf⟩ := cells5 (HO5.out.blk 0 rfl).1
  obtain ⟨y0, y1, y2, y3, y4, yf⟩ := cells5 (HO5.out.blk 1 rfl).1
  go_upto_region 15 with fail
  go_cut [6] (fun s wx => s = .int .i64 0 ∧ Hid (∃ a5 c5 a6 c6, One w wx [RowE a6 c6 xs2, RowE a5 c5 xs1, Blk (w.heap.size + 1 + 1) (.cells #[.bool false, .string x.key, .string hi, .int .i64 r, .slice a6 xs2.length c6] 24), Blk (w.heap.size + 1) (.cells #[.bool false, .string lo, .string x.key, .int .i64 id, .slice a5 xs1.length c5] 24)]))
  case first =>
    have HOd := Lib.hid (HO5.out.kn ((Kp.refl _ _).drew))
    have HKd := Lib.hid (HK5.out.drew)
    have K6 : Hid True := Lib.hid trivial
    have K7 : Hid True := Lib.hid trivial
    have K8 : Hid True := Lib.hid trivial
    have K9 : Hid True := Lib.hid trivial
    have HK6 : Hid True := Lib.hid trivial
    have HK6' : Hid True := Lib.hid trivial
    go_region_held3 (fun w' => (w'.cell? ⟨g1, 0, none⟩ = some (.bool false) ∧ w'.cell? ⟨g1, 1, none⟩ = some (.string lo) ∧ w'.cell? ⟨g1, 2, none⟩ = some (.string x.key) ∧ w'.cell? ⟨g1, 3, none⟩ = some (.int .i64 id) ∧ w'.cell? ⟨g1, 4, none⟩ = some (.slice a3 k c2)) ∧
        w'.cell? ⟨g2, 0, none⟩ = some (.bool false) ∧ w'.cell? ⟨g2, 1, none⟩ = some (.string x.key) ∧ w'.cell? ⟨g2, 2, none⟩ = some (.string hi) ∧ w'.cell? ⟨g2, 3, none⟩ = some (.int .i64 r) ∧ w'.cell? ⟨g2, 4, none⟩ = some (.slice a4 (l.length - k) (c2 - k)))
      (first | (with_reducible exact K6.out) | (with_reducible exact K7.out) | (with_reducible exact K8.out) | (with_reducible exact K9.out) | go_keep)
      (first
        | (go_at_call 24; (with_reducible refine (HCa.out _ HKd.out).mono ?_); rintro e w6 ⟨a5, c5, rfl, hpo⟩; have HO6 := Lib.hid (HOd.out.add hpo); have HK6 := Lib.hid (HKd.out.then hpo.knf (fun _ h => h.elim)); have K6 := Lib.hid (And.intro (cells5' (HO6.out.blk 2 rfl).1) (cells5' (HO6.out.blk 1 rfl).1)))
        | (go_at_call 24; (with_reducible refine (HCb.out _ HKd.out).mono ?_); rintro e w6 ⟨a6, c6, rfl, hpo⟩; have HO6' := Lib.hid (HOd.out.add hpo); have HK6' := Lib.hid (HKd.out.then hpo.knf (fun _ h => h.elim)); have K6 := Lib.hid (And.intro (cells5' (HO6'.out.blk 2 rfl).1) (cells5' (HO6'.out.blk 1 rfl).1)))
        | (go_at_call 24; (with_reducible refine (HCb.out _ HK6.out).mono ?_); rintro e w7 ⟨a6, c6, rfl, hpo2⟩; have HO7 := Lib.hid (HO6.out.add hpo2); have K7 := Lib.hid (And.intro (cells5' (HO7.out.blk 3 rfl).1) (cells5' (HO7.out.blk 2 rfl).1)); have HO8 := Lib.hid (HO7.out.set5 7 rfl (.bool false) (.string lo) (.string x.key) (.int .i64 id) (.slice a5 xs1.length c5)); have K8 := Lib.hid (And.intro (cells5' (HO8.out.blk 3 rfl).1) (cells5' (HO8.out.blk 2 rfl).1)); have HO9 := Lib.hid (HO8.out.set5 6 rfl (.bool false) (.string x.key) (.string hi) (.int .i64 r) (.slice a6 xs2.length c6)); have K9 := Lib.hid (And.intro (cells5' (HO9.out.blk 3 rfl).1) (cells5' (HO9.out.blk 2 rfl).1)); obtain ⟨p0, p1, p2, p3, p4, pf⟩ := cells5 (HO7.out.blk 7 rfl).1; obtain ⟨q0, q1, q2, q3, q4, qf⟩ := cells5 (HO8.out.blk 6 rfl).1; obtain ⟨r0, r1, r2, r3, r4, rf⟩ := cells5 (HO7.out.blk 6 rfl).1)
        | (go_at_call 24; (with_reducible refine (HCa.out _ HK6'.out).mono ?_); rintro e w7 ⟨a5, c5, rfl, hpo2⟩; have HO7 := Lib.hid ((HO6'.out.add hpo2).perm (List.Perm.swap _ _ _)); have K7 := Lib.hid (And.intro (cells5' (HO7.out.blk 3 rfl).1) (cells5' (HO7.out.blk 2 rfl).1)); have HO8 := Lib.hid (HO7.out.set5 7 rfl (.bool false) (.string lo) (.string x.key) (.int .i64 id) (.slice a5 xs1.length c5)); have K8 := Lib.hid (And.intro (cells5' (HO8.out.blk 3 rfl).1) (cells5' (HO8.out.blk 2 rfl).1)); have HO9 := Lib.hid (HO8.out.set5 6 rfl (.bool false) (.string x.key) (.string hi) (.int .i64 r) (.slice a6 xs2.length c6)); have K9 := Lib.hid (And.intro (cells5' (HO9.out.blk 3 rfl).1) (cells5' (HO9.out.blk 2 rfl).1)); obtain ⟨p0, p1, p2, p3, p4, pf⟩ := cells5 (HO7.out.blk 7 rfl).1; obtain ⟨q0, q1, q2, q3, q4, qf⟩ := cells5 (HO8.out.blk 6 rfl).1; obtain ⟨r0, r1, r2, r3, r4, rf⟩ := cells5 (HO7.out.blk 6 rfl).1))
    all_goals
      go_wp2_with fail
      go_meet
      exact ⟨rfl, Lib.hid ⟨a5, c5, a6, c6, One.pick4 HO9.out⟩⟩
  case rest =>
    obtain ⟨rfl, HE⟩ := hcut
    obtain ⟨a5, c5, a6, c6, HF⟩ := HE.out
    have HF := Lib.hid HF
    clear x0 x1 x2 x3 x4 xf y0 y1 y2 y3 y4 yf
    go_wp2_with fail
    exact bodyPost_ret (res_c2t rfl rfl (load_pg (HF.out.blk 3 rfl).1) rfl (load_pg (HF.out.blk 2 rfl).1) rfl) rfl ⟨a5, c5, a6, c6, rfl, HF.out.keep2⟩

set_option maxHeartbeats 4000000 in
theorem rsplit_leaf (lo hi : ByteArray) (r : Int) (l : List En) (id : Int) (w : World) {a0 : Option Addr} {c0 : Nat} (hrd : Rd En.enc 4 w a0 l) (hc0 : l.length ≤ c0) (h1 : 1 ≤ id) {k : Nat} (hk : k = l.length / 2) (h2 : 2 ≤ l.length) (hb : l.length * 40 ≤ 140737488355328) {x y : En} (hx : l[k]? = some x) (hy : l[k - 1]? = some y)
    {parts : ByteArray} (hp : sepS y.key x.key = (parts, true)) (hkey : x.key.size ≤ 281474976710656) :
    Calls Try.prog 15 #[.agg #[.bool true, .string lo, .string hi, .int .i64 r, .slice a0 l.length c0], .int .i64 id] w (GaveP2 (⟨true, lo, parts, id, l.take k⟩, ⟨true, parts, hi, r, l.drop k⟩, 0) w) := by
  obtain ⟨b, off, rfl, hbw, e0, e1, e2, e3⟩ := rd4 hrd hx
  obtain ⟨b', off', hab, _, f0, f1, f2, f3⟩ := rd4 hrd hy
  cases hab
  have hkl : k < l.length := by omega
  have hk1 : 1 ≤ k := by omega
  have hdiv : ((l.length : Int) / 2) = (k : Int) := by rw [hk]; rfl
  have HSep := Lib.hid (fun W => hp ▸ sep_r y.key x.key W hkey)
  have HO := Lib.hid ((One.nil w).alloc3 (.cells #[.bool true, .string lo, .string hi, .int .i64 r, .slice (some ⟨b, off, none⟩) l.length c0] 24) (.cells #[.bool false, .string ⟨#[]⟩, .string ⟨#[]⟩, .int .i64 0, .slice none 0 0] 24) (.cells #[.bool false, .string ⟨#[]⟩, .string ⟨#[]⟩, .int .i64 0, .slice none 0 0] 24))
  have HCl := Lib.hid (fun W (kn : KN w W) => clone_ref ⟨true, lo, hi, r, l⟩ W ((Rl.of_rd hrd hc0).kn kn) (by unfold maxLen; simp only; omega) hb)
  have hid : ¬ id < 1 := by omega
  have hn2 : ¬ (l.length : Int) < 2 := by omega
  have hz0 : (0 : Int) ≤ (k : Int) := by omega
  have hz1 : (k : Int) < (l.length : Int) := by omega
  have hz2 : (k : Int) ≤ (l.length : Int) := by omega
  have HD := Lib.hid hdiv
  clear hrd hdiv hk hx hy
  go_enter Try.func15, Try.ntmps15
  go_upto_region 6 with fail
  generalize ((w.alloc (.cells #[.bool true, .string lo, .string hi, .int .i64 r, .slice (some ⟨b, off, none⟩) l.length c0] 24)).alloc (.cells #[.bool false, .string ⟨#[]⟩, .string ⟨#[]⟩, .int .i64 0, .slice none 0 0] 24)).alloc (.cells #[.bool false, .string ⟨#[]⟩, .string ⟨#[]⟩, .int .i64 0, .slice none 0 0] 24) = w1 at *
  rw [← HO.out.old.below.cell (p := ⟨b, off + k * 4, none⟩) hbw] at e0
  rw [← HO.out.old.below.cell (p := ⟨b, off + (k - 1) * 4, none⟩) hbw] at f0
  obtain ⟨x0, x1, x2, x3, x4, xf⟩ := cells5 (HO.out.blk 2 rfl).1
  have hq : IntKind.i64.wrap ((l.length : Int) / 2) = (k : Int) := by rw [HD.out]; exact Go.IntWalk.i64_in _ (by omega)
  have hq2 : wrap64 ((l.length : Int).tdiv 2) = (k : Int) := by rw [Int.tdiv_eq_ediv_of_nonneg (by omega), HD.out]; unfold wrap64; omega
  have hw : IntKind.i64.wrap ((k : Int) - 1) = ((k - 1 : Nat) : Int) := by rw [Go.IntWalk.i64_in _ (by omega)]; omega
  have hw2 : wrap64 ((k : Int) - 1) = ((k - 1 : Nat) : Int) := by unfold wrap64; omega
  have hz4 : (0 : Int) ≤ ((k - 1 : Nat) : Int) := by omega
  have hz5 : ((k - 1 : Nat) : Int) < (l.length : Int) := by omega
  go_wp2_with fail
  refine (HSep.out _).mono ?_
  rintro e w' ⟨rfl, rfl⟩
  go_wp2_with fail
  refine (HCl.out _ HO.out.old).mono ?_
  rintro e w2 ⟨a2, c2, rfl, hpo⟩
  have HO2 := Lib.hid (HO.out.add hpo)
  clear hpo HO HCl x0 x1 x2 x3 x4 xf e0 f0
  go_upto_region 13 with fail
  have HO3 := Lib.hid (HO2.out.alloc (.cells #[.bool true, .string lo, .string hi, .int .i64 r, .slice a2 l.length c2] 24))
  clear HO2
  generalize w2.alloc (.cells #[.bool true, .string lo, .string hi, .int .i64 r, .slice a2 l.length c2] 24) = w3 at *
  generalize w2.heap.size = g at *
  obtain ⟨a2', c2', hv, hc2, hrd3⟩ := HO3.out.rlE 1 rfl
  cases hv
  obtain ⟨a3, hs1, hr1⟩ := cut_pre2 hrd3 hc2 (i := k) (by omega)
  obtain ⟨a4, hs2, hr2⟩ := cut_post hrd3 hc2 (i := k) (by omega)
  have hl1 : (l.take k).length = k := by rw [List.length_take]; omega
  have hl2 : (l.drop k).length = l.length - k := by rw [List.length_drop]
  have HCa := Lib.hid (fun W (kn : KN w3 W) => clone_ref ⟨true, lo, parts, id, l.take k⟩ W (hr1.kn kn) (by unfold maxLen; simp only; omega) (by simp only; omega))
  have HCb := Lib.hid (fun W (kn : KN w3 W) => clone_ref ⟨true, parts, hi, r, l.drop k⟩ W (hr2.kn kn) (by unfold maxLen; simp only; omega) (by simp only; omega))
  have hz6 : (k : Int) ≤ (c2 : Int) := by omega
  clear hr1 hr2 hrd3 hl1 hl2 hw hw2
  generalize l.take k = xs1 at *
  generalize l.drop k = xs2 at *
  have K3 := Lib.hid (Kp.refl (fun _ => False) w3)
  obtain ⟨x0, x1, x2, x3, x4, xf⟩ := cells5 (HO3.out.blk 4 rfl).1
  obtain ⟨y0, y1, y2, y3, y4, yf⟩ := cells5 (HO3.out.blk 0 rfl).1
  go_cut [12] (fun s wx => ∃ g' : Nat, s = .pointer (some ⟨g', 0, none⟩) ∧ Hid (One w wx [Blk g' (.cells #[.bool true, .string lo, .string parts, .int .i64 id, .slice a3 k c2] 24), Blk g (.cells #[.bool true, .string lo, .string hi, .int .i64 r, .slice a2 l.length c2] 24), RowE a2 c2 l, Blk (w.heap.size + 1 + 1) (.cells #[.bool false, .string ⟨#[]⟩, .string ⟨#[]⟩, .int .i64 0, .slice none 0 0] 24), Blk (w.heap.size + 1) (.cells #[.bool false, .string ⟨#[]⟩, .string ⟨#[]⟩, .int .i64 0, .slice none 0 0] 24), Blk w.heap.size (.cells #[.bool true, .string lo, .string hi, .int .i64 r, .slice (some ⟨b, off, none⟩) l.length c0] 24)]) ∧ Hid (KN w3 wx))
  case first =>
    have HN := Lib.hid (HO3.out.alloc (.cells #[.bool true, .string lo, .string parts, .int .i64 id, .slice a3 k c2] 24))
    have KN1 := Lib.hid (And.intro (cells5' (HN.out.blk 5 rfl).1) (cell_blk (i := 4) (HN.out.blk 1 rfl).1 rfl))
    go_region_held3 (fun w' => (w'.cell? ⟨w.heap.size, 0, none⟩ = some (.bool true) ∧ w'.cell? ⟨w.heap.size, 1, none⟩ = some (.string lo) ∧ w'.cell? ⟨w.heap.size, 2, none⟩ = some (.string hi) ∧ w'.cell? ⟨w.heap.size, 3, none⟩ = some (.int .i64 r) ∧ w'.cell? ⟨w.heap.size, 4, none⟩ = some (.slice (some ⟨b, off, none⟩) l.length c0)) ∧ w'.cell? ⟨g, 4, none⟩ = some (.slice a2 l.length c2)) (first | (with_reducible exact KN1.out) | go_keep) (fail)
    all_goals
      go_wp2_with fail
      go_meet
      exact ⟨w3.heap.size, rfl, Lib.hid (HN.out.kn ((Kp.refl _ _).drew)), Lib.hid ((kn_alloc _ _).drew)⟩
  case rest =>
  obtain ⟨g1, rfl, HO4, HK4⟩ := hcut
  clear HO3 K3 x0 x1 x2 x3 x4 xf y0 y1 y2 y3 y4 yf
  generalize wc = w4 at *
  obtain ⟨x0, x1, x2, x3, x4, xf⟩ := cells5 (HO4.out.blk 5 rfl).1
  obtain ⟨y0, y1, y2, y3, y4, yf⟩ := cells5 (HO4.out.blk 1 rfl).1
  go_upto_region 14 with fail
  go_cut [13] (fun s wx => ∃ g' : Nat, s = .pointer (some ⟨g', 0, none⟩) ∧ Hid (One w wx [Blk g' (.cells #[.bool true, .string parts, .string hi, .int .i64 r, .slice a4 (l.length - k) (c2 - k)] 24), Blk g1 (.cells #[.bool true, .string lo, .string parts, .int .i64 id, .slice a3 k c2] 24), Blk g (.cells #[.bool true, .string lo, .string hi, .int .i64 r, .slice a2 l.length c2] 24), RowE a2 c2 l, Blk (w.heap.size + 1 + 1) (.cells #[.bool false, .string ⟨#[]⟩, .string ⟨#[]⟩, .int .i64 0, .slice none 0 0] 24), Blk (w.heap.size + 1) (.cells #[.bool false, .string ⟨#[]⟩, .string ⟨#[]⟩, .int .i64 0, .slice none 0 0] 24), Blk w.heap.size (.cells #[.bool true, .string lo, .string hi, .int .i64 r, .slice (some ⟨b, off, none⟩) l.length c0] 24)]) ∧ Hid (KN w3 wx))
  case first =>
    have HN := Lib.hid (HO4.out.alloc (.cells #[.bool true, .string parts, .string hi, .int .i64 r, .slice a4 (l.length - k) (c2 - k)] 24))
    have KN1 := Lib.hid (And.intro (cells5' (HN.out.blk 6 rfl).1) (cell_blk (i := 4) (HN.out.blk 2 rfl).1 rfl))
    go_region_held3 (fun w' => (w'.cell? ⟨w.heap.size, 0, none⟩ = some (.bool true) ∧ w'.cell? ⟨w.heap.size, 1, none⟩ = some (.string lo) ∧ w'.cell? ⟨w.heap.size, 2, none⟩ = some (.string hi) ∧ w'.cell? ⟨w.heap.size, 3, none⟩ = some (.int .i64 r) ∧ w'.cell? ⟨w.heap.size, 4, none⟩ = some (.slice (some ⟨b, off, none⟩) l.length c0)) ∧ w'.cell? ⟨g, 4, none⟩ = some (.slice a2 l.length c2)) (first | (with_reducible exact KN1.out) | go_keep) (fail)
    all_goals
      go_wp2_with fail
      go_meet
      exact ⟨w4.heap.size, rfl, Lib.hid (HN.out.kn ((Kp.refl _ _).drew)), Lib.hid ((HK4.out.alloc _).drew)⟩
  case rest =>
  obtain ⟨g2, rfl, HO5, HK5⟩ := hcut
  clear HO4 HK4 x0 x1 x2 x3 x4 xf y0 y1 y2 y3 y4 yf
  generalize wc = w5 at *
  obtain ⟨x0, x1, x2, x3, x4, xf⟩ := cells5 (HO5.out.blk 0 rfl).1
  obtain ⟨y0, y1, y2, y3, y4, yf⟩ := cells5 (HO5.out.blk 1 rfl).1
  go_upto_region 15 with fail
  go_cut [6] (fun s wx => s = .int .i64 0 ∧ Hid (∃ a5 c5 a6 c6, One w wx [RowE a6 c6 xs2, RowE a5 c5 xs1, Blk (w.heap.size + 1 + 1) (.cells #[.bool true, .string parts, .string hi, .int .i64 r, .slice a6 xs2.length c6] 24), Blk (w.heap.size + 1) (.cells #[.bool true, .string lo, .string parts, .int .i64 id, .slice a5 xs1.length c5] 24)]))
  case first =>
    have HOd := Lib.hid (HO5.out.kn ((Kp.refl _ _).drew))
    have HKd := Lib.hid (HK5.out.drew)
    have K6 : Hid True := Lib.hid trivial
    have K7 : Hid True := Lib.hid trivial
    have K8 : Hid True := Lib.hid trivial
    have K9 : Hid True := Lib.hid trivial
    have HK6 : Hid True := Lib.hid trivial
    have HK6' : Hid True := Lib.hid trivial
    go_region_held3 (fun w' => (w'.cell? ⟨g1, 0, none⟩ = some (.bool true) ∧ w'.cell? ⟨g1, 1, none⟩ = some (.string lo) ∧ w'.cell? ⟨g1, 2, none⟩ = some (.string parts) ∧ w'.cell? ⟨g1, 3, none⟩ = some (.int .i64 id) ∧ w'.cell? ⟨g1, 4, none⟩ = some (.slice a3 k c2)) ∧
        w'.cell? ⟨g2, 0, none⟩ = some (.bool true) ∧ w'.cell? ⟨g2, 1, none⟩ = some (.string parts) ∧ w'.cell? ⟨g2, 2, none⟩ = some (.string hi) ∧ w'.cell? ⟨g2, 3, none⟩ = some (.int .i64 r) ∧ w'.cell? ⟨g2, 4, none⟩ = some (.slice a4 (l.length - k) (c2 - k)))
      (first | (with_reducible exact K6.out) | (with_reducible exact K7.out) | (with_reducible exact K8.out) | (with_reducible exact K9.out) | go_keep)
      (first
        | (go_at_call 24; (with_reducible refine (HCa.out _ HKd.out).mono ?_); rintro e w6 ⟨a5, c5, rfl, hpo⟩; have HO6 := Lib.hid (HOd.out.add hpo); have HK6 := Lib.hid (HKd.out.then hpo.knf (fun _ h => h.elim)); have K6 := Lib.hid (And.intro (cells5' (HO6.out.blk 2 rfl).1) (cells5' (HO6.out.blk 1 rfl).1)))
        | (go_at_call 24; (with_reducible refine (HCb.out _ HKd.out).mono ?_); rintro e w6 ⟨a6, c6, rfl, hpo⟩; have HO6' := Lib.hid (HOd.out.add hpo); have HK6' := Lib.hid (HKd.out.then hpo.knf (fun _ h => h.elim)); have K6 := Lib.hid (And.intro (cells5' (HO6'.out.blk 2 rfl).1) (cells5' (HO6'.out.blk 1 rfl).1)))
        | (go_at_call 24; (with_reducible refine (HCb.out _ HK6.out).mono ?_); rintro e w7 ⟨a6, c6, rfl, hpo2⟩; have HO7 := Lib.hid (HO6.out.add hpo2); have K7 := Lib.hid (And.intro (cells5' (HO7.out.blk 3 rfl).1) (cells5' (HO7.out.blk 2 rfl).1)); have HO8 := Lib.hid (HO7.out.set5 7 rfl (.bool true) (.string lo) (.string parts) (.int .i64 id) (.slice a5 xs1.length c5)); have K8 := Lib.hid (And.intro (cells5' (HO8.out.blk 3 rfl).1) (cells5' (HO8.out.blk 2 rfl).1)); have HO9 := Lib.hid (HO8.out.set5 6 rfl (.bool true) (.string parts) (.string hi) (.int .i64 r) (.slice a6 xs2.length c6)); have K9 := Lib.hid (And.intro (cells5' (HO9.out.blk 3 rfl).1) (cells5' (HO9.out.blk 2 rfl).1)); obtain ⟨p0, p1, p2, p3, p4, pf⟩ := cells5 (HO7.out.blk 7 rfl).1; obtain ⟨q0, q1, q2, q3, q4, qf⟩ := cells5 (HO8.out.blk 6 rfl).1; obtain ⟨r0, r1, r2, r3, r4, rf⟩ := cells5 (HO7.out.blk 6 rfl).1)
        | (go_at_call 24; (with_reducible refine (HCa.out _ HK6'.out).mono ?_); rintro e w7 ⟨a5, c5, rfl, hpo2⟩; have HO7 := Lib.hid ((HO6'.out.add hpo2).perm (List.Perm.swap _ _ _)); have K7 := Lib.hid (And.intro (cells5' (HO7.out.blk 3 rfl).1) (cells5' (HO7.out.blk 2 rfl).1)); have HO8 := Lib.hid (HO7.out.set5 7 rfl (.bool true) (.string lo) (.string parts) (.int .i64 id) (.slice a5 xs1.length c5)); have K8 := Lib.hid (And.intro (cells5' (HO8.out.blk 3 rfl).1) (cells5' (HO8.out.blk 2 rfl).1)); have HO9 := Lib.hid (HO8.out.set5 6 rfl (.bool true) (.string parts) (.string hi) (.int .i64 r) (.slice a6 xs2.length c6)); have K9 := Lib.hid (And.intro (cells5' (HO9.out.blk 3 rfl).1) (cells5' (HO9.out.blk 2 rfl).1)); obtain ⟨p0, p1, p2, p3, p4, pf⟩ := cells5 (HO7.out.blk 7 rfl).1; obtain ⟨q0, q1, q2, q3, q4, qf⟩ := cells5 (HO8.out.blk 6 rfl).1; obtain ⟨r0, r1, r2, r3, r4, rf⟩ := cells5 (HO7.out.blk 6 rfl).1))
    all_goals
      go_wp2_with fail
      go_meet
      exact ⟨rfl, Lib.hid ⟨a5, c5, a6, c6, One.pick4 HO9.out⟩⟩
  case rest =>
    obtain ⟨rfl, HE⟩ := hcut
    obtain ⟨a5, c5, a6, c6, HF⟩ := HE.out
    have HF := Lib.hid HF
    clear x0 x1 x2 x3 x4 xf y0 y1 y2 y3 y4 yf
    go_wp2_with fail
    exact bodyPost_ret (res_c2t rfl rfl (load_pg (HF.out.blk 3 rfl).1) rfl (load_pg (HF.out.blk 2 rfl).1) rfl) rfl ⟨a5, c5, a6, c6, rfl, HF.out.keep2⟩

set_option maxHeartbeats 4000000 in
theorem rsplit_fail (lo hi : ByteArray) (r : Int) (l : List En) (id : Int) (w : World) {a0 : Option Addr} {c0 : Nat} (hrd : Rd En.enc 4 w a0 l) (hc0 : l.length ≤ c0) (h1 : 1 ≤ id) {k : Nat} (hk : k = l.length / 2) (h2 : 2 ≤ l.length) (hb : l.length * 40 ≤ 140737488355328) {x y : En} (hx : l[k]? = some x) (hy : l[k - 1]? = some y)
    {parts : ByteArray} (hp : sepS y.key x.key = (parts, false)) (hkey : x.key.size ≤ 281474976710656) :
    Calls Try.prog 15 #[.agg #[.bool true, .string lo, .string hi, .int .i64 r, .slice a0 l.length c0], .int .i64 id] w (GaveP2 (zeroPg, zeroPg, 70) w) := by
  obtain ⟨b, off, rfl, hbw, e0, e1, e2, e3⟩ := rd4 hrd hx
  obtain ⟨b', off', hab, _, f0, f1, f2, f3⟩ := rd4 hrd hy
  cases hab
  have hkl : k < l.length := by omega
  have hk1 : 1 ≤ k := by omega
  have hdiv : ((l.length : Int) / 2) = (k : Int) := by rw [hk]; rfl
  have HSep := Lib.hid (fun W => hp ▸ sep_r y.key x.key W hkey)
  have HO := Lib.hid ((((One.nil w).nilRow 34 4).nilRow 34 4).alloc3 (.cells #[.bool true, .string lo, .string hi, .int .i64 r, .slice (some ⟨b, off, none⟩) l.length c0] 24) (.cells #[.bool false, .string ⟨#[]⟩, .string ⟨#[]⟩, .int .i64 0, .slice none 0 0] 24) (.cells #[.bool false, .string ⟨#[]⟩, .string ⟨#[]⟩, .int .i64 0, .slice none 0 0] 24))
  have HCl := Lib.hid (fun W (kn : KN w W) => clone_ref ⟨true, lo, hi, r, l⟩ W ((Rl.of_rd hrd hc0).kn kn) (by unfold maxLen; simp only; omega) hb)
  have hid : ¬ id < 1 := by omega
  have hn2 : ¬ (l.length : Int) < 2 := by omega
  have hz0 : (0 : Int) ≤ (k : Int) := by omega
  have hz1 : (k : Int) < (l.length : Int) := by omega
  have hz2 : (k : Int) ≤ (l.length : Int) := by omega
  have HD := Lib.hid hdiv
  clear hrd hdiv hk hx hy
  go_enter Try.func15, Try.ntmps15
  go_upto_region 6 with fail
  generalize ((w.alloc (.cells #[.bool true, .string lo, .string hi, .int .i64 r, .slice (some ⟨b, off, none⟩) l.length c0] 24)).alloc (.cells #[.bool false, .string ⟨#[]⟩, .string ⟨#[]⟩, .int .i64 0, .slice none 0 0] 24)).alloc (.cells #[.bool false, .string ⟨#[]⟩, .string ⟨#[]⟩, .int .i64 0, .slice none 0 0] 24) = w1 at *
  rw [← HO.out.old.below.cell (p := ⟨b, off + k * 4, none⟩) hbw] at e0
  rw [← HO.out.old.below.cell (p := ⟨b, off + (k - 1) * 4, none⟩) hbw] at f0
  obtain ⟨x0, x1, x2, x3, x4, xf⟩ := cells5 (HO.out.blk 2 rfl).1
  have hq : IntKind.i64.wrap ((l.length : Int) / 2) = (k : Int) := by rw [HD.out]; exact Go.IntWalk.i64_in _ (by omega)
  have hq2 : wrap64 ((l.length : Int).tdiv 2) = (k : Int) := by rw [Int.tdiv_eq_ediv_of_nonneg (by omega), HD.out]; unfold wrap64; omega
  have hw : IntKind.i64.wrap ((k : Int) - 1) = ((k - 1 : Nat) : Int) := by rw [Go.IntWalk.i64_in _ (by omega)]; omega
  have hw2 : wrap64 ((k : Int) - 1) = ((k - 1 : Nat) : Int) := by unfold wrap64; omega
  have hz4 : (0 : Int) ≤ ((k - 1 : Nat) : Int) := by omega
  have hz5 : ((k - 1 : Nat) : Int) < (l.length : Int) := by omega
  go_wp2_with fail
  refine (HSep.out _).mono ?_
  rintro e w' ⟨rfl, rfl⟩
  obtain ⟨y0, y1, y2, y3, y4, yf⟩ := cells5 (HO.out.blk 1 rfl).1
  obtain ⟨z0, z1, z2, z3, z4, zf⟩ := cells5 (HO.out.blk 0 rfl).1
  go_wp2_with fail
  have HO3 := Lib.hid ((HO.out.set5 1 rfl (.bool false) (.string ⟨#[]⟩) (.string ⟨#[]⟩) (.int .i64 0) (.slice none 0 0)).set5 0 rfl (.bool false) (.string ⟨#[]⟩) (.string ⟨#[]⟩) (.int .i64 0) (.slice none 0 0))
  exact bodyPost_ret (res_c2t rfl rfl (load_pg (HO3.out.blk 1 rfl).1) rfl (load_pg (HO3.out.blk 0 rfl).1) rfl) rfl ⟨none, 0, none, 0, rfl, HO3.out.drop.drop.drop⟩
theorem split_ref (p : Pg) (id : Int) (w : World) {v : Value} (hr : Rl En.enc 4 w v p.list) (hf : Fits p) : Calls Try.prog 15 #[pgv p v, .int .i64 id] w (GaveP2 (splitP p id) w) := by
  by_cases h : id < 1 ∨ p.list.length < 2
  · exact rsplit_few p id w hr h (by have := hf.1; unfold maxLen; omega)
  · obtain ⟨lf, lo, hi, r, l⟩ := p
    obtain ⟨a0, c0, rfl, hc0, hrd⟩ := hr
    simp only at h hc0 hrd
    obtain ⟨hb, hf⟩ := hf
    simp only at hb hf
    have hx : l[l.length / 2]? = some (l[l.length / 2]'(by omega)) := List.getElem?_eq_getElem (by omega)
    have hy : l[l.length / 2 - 1]? = some (l[l.length / 2 - 1]'(by omega)) := List.getElem?_eq_getElem (by omega)
    have hkey := hf _ (List.mem_of_getElem? hx)
    generalize l[l.length / 2]'_ = x at *
    generalize l[l.length / 2 - 1]'_ = y at *
    unfold splitP
    rw [if_neg (by omega), if_neg (by simp only; omega)]
    cases lf with
    | false =>
      have hp : partOf ⟨false, lo, hi, r, l⟩ = (x.key, true) := by unfold partOf; simp [hx]
      rw [hp, if_pos rfl]
      exact rsplit_inner lo hi r l id w hrd hc0 (by omega) rfl (by omega) hb hx hy
    | true =>
      have hp : partOf ⟨true, lo, hi, r, l⟩ = sepS y.key x.key := by unfold partOf; simp [hx, hy]
      rw [hp]
      obtain ⟨parts, ok, hs⟩ : ∃ a b, sepS y.key x.key = (a, b) := ⟨_, _, rfl⟩
      rw [hs]
      cases ok with
      | true =>
        rw [if_pos rfl]
        exact rsplit_leaf lo hi r l id w hrd hc0 (by omega) rfl (by omega) hb hx hy hs hkey
      | false =>
        rw [if_neg (by simp)]
        exact rsplit_fail lo hi r l id w hrd hc0 (by omega) rfl (by omega) hb hx hy hs hkey
end Go.Proofs.Ytopmeecgjobofaa

/- The walk of page.Split, the halves. -/
import Derived.Test.YtopmeecgjobofaaSplitP
namespace Go.Proofs.Ytopmeecgjobofaa
set_option linter.unusedVariables false
set_option linter.unusedSimpArgs false
open Go Go.RowKit

set_option maxHeartbeats 1000000 in
theorem split_inner (lo hi : ByteArray) (r : Int) (l : List En) (id : Int) (w : World) {a0 : Option Addr} {c0 : Nat} (hrd : Rd En.enc 4 w a0 l) (hc0 : l.length ≤ c0) (h1 : 1 ≤ id) {k : Nat} (hk : k = l.length / 2) (h2 : 2 ≤ l.length) (hb : l.length * 40 ≤ 140737488355328) {x y : En} (hx : l[k]? = some x) (hy : l[k - 1]? = some y)
     :
    Calls Try.prog 10 #[.agg #[.bool false, .string lo, .string hi, .int .i64 r, .slice a0 l.length c0], .int .i64 id] w (GaveP2 (⟨false, lo, x.key, id, l.take k⟩, ⟨false, x.key, hi, r, l.drop k⟩, 0) w) := by
  obtain ⟨b, off, rfl, hbw, e0, e1, e2, e3⟩ := rd4 hrd hx
  obtain ⟨b', off', hab, _, f0, f1, f2, f3⟩ := rd4 hrd hy
  cases hab
  have hkl : k < l.length := by omega
  have hk1 : 1 ≤ k := by omega
  have hdiv : ((l.length : Int) / 2) = (k : Int) := by rw [hk]; rfl
  obtain ⟨a1, hs1, hr1⟩ := cut_pre hrd hc0 (i := k) (by omega)
  obtain ⟨a2, hs2, hr2⟩ := cut_post hrd hc0 (i := k) (by omega)
  have HR1 := Lib.hid hr1
  have HR2 := Lib.hid hr2
  have hl1 : (l.take k).length = k := by rw [List.length_take]; omega
  have hl2 : (l.drop k).length = l.length - k := by rw [List.length_drop]
  have HC1 := Lib.hid (fun W (kn : KN w W) => clone_En (hr1.kn kn) (by unfold maxLen; omega) (by omega))
  have HC2 := Lib.hid (fun W (kn : KN w W) => clone_En (hr2.kn kn) (by unfold maxLen; omega) (by omega))
  
  have HO := Lib.hid ((One.nil w).alloc3 (.cells #[.bool false, .string lo, .string hi, .int .i64 r, .slice (some ⟨b, off, none⟩) l.length c0] 24) (.cells #[.bool false, .string ⟨#[]⟩, .string ⟨#[]⟩, .int .i64 0, .slice none 0 0] 24) (.cells #[.bool false, .string ⟨#[]⟩, .string ⟨#[]⟩, .int .i64 0, .slice none 0 0] 24))
  have hid : ¬ id < 1 := by omega
  have hn2 : ¬ (l.length : Int) < 2 := by omega
  have hz0 : (0 : Int) ≤ (k : Int) := by omega
  have hz1 : (k : Int) < (l.length : Int) := by omega
  have hz2 : (k : Int) ≤ (l.length : Int) := by omega
  have HD := Lib.hid hdiv
  have HL1 := Lib.hid hl1
  have HL2 := Lib.hid hl2
  have hmain : ∀ W, One w W [Blk (w.heap.size + 1 + 1) (.cells #[.bool false, .string ⟨#[]⟩, .string ⟨#[]⟩, .int .i64 0, .slice none 0 0] 24), Blk (w.heap.size + 1) (.cells #[.bool false, .string ⟨#[]⟩, .string ⟨#[]⟩, .int .i64 0, .slice none 0 0] 24), Blk w.heap.size (.cells #[.bool false, .string lo, .string hi, .int .i64 r, .slice (some ⟨b, off, none⟩) l.length c0] 24)] → True := fun _ _ => trivial
  clear hrd hr1 hr2 hl1 hl2 hdiv hk hx hy hmain
  generalize l.take k = xs1 at *
  generalize l.drop k = xs2 at *
  go_enter Try.func10, Try.ntmps10
  go_upto_region 6 with fail
  generalize ((w.alloc (.cells #[.bool false, .string lo, .string hi, .int .i64 r, .slice (some ⟨b, off, none⟩) l.length c0] 24)).alloc (.cells #[.bool false, .string ⟨#[]⟩, .string ⟨#[]⟩, .int .i64 0, .slice none 0 0] 24)).alloc (.cells #[.bool false, .string ⟨#[]⟩, .string ⟨#[]⟩, .int .i64 0, .slice none 0 0] 24) = w1 at *
  rw [← HO.out.old.below.cell (p := ⟨b, off + k * 4, none⟩) hbw] at e0
  rw [← HO.out.old.below.cell (p := ⟨b, off + (k - 1) * 4, none⟩) hbw] at f0
  obtain ⟨x0, x1, x2, x3, x4, xf⟩ := cells5 (HO.out.blk 2 rfl).1
  have hq : IntKind.i64.wrap ((l.length : Int) / 2) = (k : Int) := by rw [HD.out]; exact Go.IntWalk.i64_in _ (by omega)
  have hq2 : wrap64 ((l.length : Int).tdiv 2) = (k : Int) := by rw [Int.tdiv_eq_ediv_of_nonneg (by omega), HD.out]; unfold wrap64; omega
  go_upto_region 13 with fail
  have HOd := Lib.hid (HO.out.kn ((Kp.refl _ _).drew))
  have HOe := Lib.hid ((HO.out.alloc (.cells #[.bool false, .string ⟨#[]⟩, .string ⟨#[]⟩, .int .i64 0, .slice none 0 0] 24)).kn ((Kp.refl _ _).drew))
  have HC1a := Lib.hid (HC1.out w1.drew HOd.out.old)
  have HC1b := Lib.hid (HC1.out _ HOe.out.old)
  clear HO hq hq2
  go_cut [12] (fun s12 wx => ∃ (g : Nat) (a3 : Option Addr) (c3 : Nat), s12 = .pointer (some ⟨g, 0, none⟩) ∧ Hid (One w wx [RowE a3 c3 xs1, Blk g (.cells #[.bool false, .string lo, .string x.key, .int .i64 id, .slice a3 xs1.length c3] 24), Blk (w.heap.size + 1 + 1) (.cells #[.bool false, .string ⟨#[]⟩, .string ⟨#[]⟩, .int .i64 0, .slice none 0 0] 24), Blk (w.heap.size + 1) (.cells #[.bool false, .string ⟨#[]⟩, .string ⟨#[]⟩, .int .i64 0, .slice none 0 0] 24), Blk w.heap.size (.cells #[.bool false, .string lo, .string hi, .int .i64 r, .slice (some ⟨b, off, none⟩) l.length c0] 24)]))
  case first =>
    go_region_held3 (fun w' => w'.cell? ⟨w.heap.size, 0, none⟩ = some (.bool false) ∧ w'.cell? ⟨w.heap.size, 1, none⟩ = some (.string lo) ∧ w'.cell? ⟨w.heap.size, 2, none⟩ = some (.string hi) ∧ w'.cell? ⟨w.heap.size, 3, none⟩ = some (.int .i64 r) ∧ w'.cell? ⟨w.heap.size, 4, none⟩ = some (.slice (some ⟨b, off, none⟩) l.length c0))
      (first | (with_reducible exact K5.out) | (with_reducible exact K6.out) | go_keep) (first | (go_at_call 35; (with_reducible refine HC1a.out.mono ?_); rintro e w4 ⟨a4, c4, rfl, hpo⟩; have HO5 := Lib.hid (HOd.out.add hpo); have K5 := Lib.hid (cells5' (HO5.out.blk 3 rfl).1); have HO6 := Lib.hid (HO5.out.alloc (.cells #[.bool false, .string lo, .string x.key, .int .i64 id, .slice a4 xs1.length c4] 24)); have K6 := Lib.hid (cells5' (HO6.out.blk 4 rfl).1)) | (go_at_call 35; (with_reducible refine HC1b.out.mono ?_); rintro e w4 ⟨a4, c4, rfl, hpo⟩; have HO5 := Lib.hid (HOe.out.add hpo); have K5 := Lib.hid (cells5' (HO5.out.blk 4 rfl).1); have HO6 := Lib.hid (HO5.out.set5 1 rfl (.bool false) (.string lo) (.string x.key) (.int .i64 id) (.slice a4 xs1.length c4)); have K6 := Lib.hid (cells5' (HO6.out.blk 4 rfl).1); obtain ⟨y0, y1, y2, y3, y4, yf⟩ := cells5 (HO5.out.blk 1 rfl).1))
    · go_wp2_with fail
      go_meet
      exact ⟨w4.heap.size, a4, c4, rfl, Lib.hid (HO6.out.perm (List.Perm.swap _ _ _))⟩
    · go_wp2_with fail
      go_meet
      exact ⟨w1.heap.size, a4, c4, rfl, HO6⟩
  case rest =>
    obtain ⟨g, a3, c3, rfl, HR⟩ := hcut
    clear HC1 HC1a HC1b HOd HOe x0 x1 x2 x3 x4 xf
    obtain ⟨x0, x1, x2, x3, x4, xf⟩ := cells5 (HR.out.blk 4 rfl).1
    go_upto_region 14 with fail
    have HOd := Lib.hid (HR.out.kn ((Kp.refl _ _).drew))
    have HOe := Lib.hid ((HR.out.alloc (.cells #[.bool false, .string ⟨#[]⟩, .string ⟨#[]⟩, .int .i64 0, .slice none 0 0] 24)).kn ((Kp.refl _ _).drew))
    have HC2a := Lib.hid (HC2.out wc.drew HOd.out.old)
    have HC2b := Lib.hid (HC2.out _ HOe.out.old)
    go_cut [13] (fun s13 wx => ∃ (g' : Nat) (a5 : Option Addr) (c5 : Nat), s13 = .pointer (some ⟨g', 0, none⟩) ∧ Hid (One w wx [RowE a5 c5 xs2, Blk g' (.cells #[.bool false, .string x.key, .string hi, .int .i64 r, .slice a5 xs2.length c5] 24), RowE a3 c3 xs1, Blk g (.cells #[.bool false, .string lo, .string x.key, .int .i64 id, .slice a3 xs1.length c3] 24), Blk (w.heap.size + 1 + 1) (.cells #[.bool false, .string ⟨#[]⟩, .string ⟨#[]⟩, .int .i64 0, .slice none 0 0] 24), Blk (w.heap.size + 1) (.cells #[.bool false, .string ⟨#[]⟩, .string ⟨#[]⟩, .int .i64 0, .slice none 0 0] 24), Blk w.heap.size (.cells #[.bool false, .string lo, .string hi, .int .i64 r, .slice (some ⟨b, off, none⟩) l.length c0] 24)]))
    case first =>
      go_region_held3 (fun w' => w'.cell? ⟨w.heap.size, 0, none⟩ = some (.bool false) ∧ w'.cell? ⟨w.heap.size, 1, none⟩ = some (.string lo) ∧ w'.cell? ⟨w.heap.size, 2, none⟩ = some (.string hi) ∧ w'.cell? ⟨w.heap.size, 3, none⟩ = some (.int .i64 r) ∧ w'.cell? ⟨w.heap.size, 4, none⟩ = some (.slice (some ⟨b, off, none⟩) l.length c0))
        (first | (with_reducible exact K5.out) | (with_reducible exact K6.out) | go_keep) (first | (go_at_call 35; (with_reducible refine HC2a.out.mono ?_); rintro e w4 ⟨a4, c4, rfl, hpo⟩; have HO5 := Lib.hid (HOd.out.add hpo); have K5 := Lib.hid (cells5' (HO5.out.blk 5 rfl).1); have HO6 := Lib.hid (HO5.out.alloc (.cells #[.bool false, .string x.key, .string hi, .int .i64 r, .slice a4 xs2.length c4] 24)); have K6 := Lib.hid (cells5' (HO6.out.blk 6 rfl).1)) | (go_at_call 35; (with_reducible refine HC2b.out.mono ?_); rintro e w4 ⟨a4, c4, rfl, hpo⟩; have HO5 := Lib.hid (HOe.out.add hpo); have K5 := Lib.hid (cells5' (HO5.out.blk 6 rfl).1); have HO6 := Lib.hid (HO5.out.set5 1 rfl (.bool false) (.string x.key) (.string hi) (.int .i64 r) (.slice a4 xs2.length c4)); have K6 := Lib.hid (cells5' (HO6.out.blk 6 rfl).1); obtain ⟨y0, y1, y2, y3, y4, yf⟩ := cells5 (HO5.out.blk 1 rfl).1))
      · go_wp2_with fail
        go_meet
        exact ⟨w4.heap.size, a4, c4, rfl, Lib.hid (HO6.out.perm (List.Perm.swap _ _ _))⟩
      · go_wp2_with fail
        go_meet
        exact ⟨wc.heap.size, a4, c4, rfl, HO6⟩
    case rest =>
      clear x0 x1 x2 x3 x4 xf
      obtain ⟨g', a5, c5, rfl, HS⟩ := hcut
      obtain ⟨x0, x1, x2, x3, x4, xf⟩ := cells5 (HS.out.blk 1 rfl).1
      obtain ⟨y0, y1, y2, y3, y4, yf⟩ := cells5 (HS.out.blk 3 rfl).1
      obtain ⟨z0, z1, z2, z3, z4, zf⟩ := cells5 (HS.out.blk 4 rfl).1
      obtain ⟨t0, t1, t2, t3, t4, tf⟩ := cells5 (HS.out.blk 5 rfl).1
      go_wp2_with fail
      have HT0 := Lib.hid (HS.out.set5 5 rfl (.bool false) (.string lo) (.string x.key) (.int .i64 id) (.slice a3 xs1.length c3))
      have HT1 := Lib.hid (HT0.out.kn ((Kp.refl _ _).drew))
      have HT2 := Lib.hid ((HT0.out.set5 4 rfl (.bool false) (.string x.key) (.string hi) (.int .i64 r) (.slice a5 xs2.length c5)).kn ((Kp.refl _ _).drew))
      have K1 := Lib.hid (And.intro (cells5' (HT1.out.blk 3 rfl).1) (cells5' (HT1.out.blk 1 rfl).1))
      have K2 := Lib.hid (And.intro (cells5' (HT2.out.blk 3 rfl).1) (cells5' (HT2.out.blk 1 rfl).1))
      go_region_held3 (fun w' => (w'.cell? ⟨g, 0, none⟩ = some (.bool false) ∧ w'.cell? ⟨g, 1, none⟩ = some (.string lo) ∧ w'.cell? ⟨g, 2, none⟩ = some (.string x.key) ∧ w'.cell? ⟨g, 3, none⟩ = some (.int .i64 id) ∧ w'.cell? ⟨g, 4, none⟩ = some (.slice a3 xs1.length c3)) ∧
        w'.cell? ⟨g', 0, none⟩ = some (.bool false) ∧ w'.cell? ⟨g', 1, none⟩ = some (.string x.key) ∧ w'.cell? ⟨g', 2, none⟩ = some (.string hi) ∧ w'.cell? ⟨g', 3, none⟩ = some (.int .i64 r) ∧ w'.cell? ⟨g', 4, none⟩ = some (.slice a5 xs2.length c5)) (first | (with_reducible exact K1.out) | (with_reducible exact K2.out) | go_keep) (fail)
      go_wp2_with fail
      exact bodyPost_ret (res_c2t rfl rfl (load_pg (HT2.out.blk 5 rfl).1) rfl (load_pg (HT2.out.blk 4 rfl).1) rfl) rfl ⟨a3, c3, a5, c5, rfl, ((HT2.out.perm (List.Perm.swap _ _ _)).drop).keep2⟩

set_option maxHeartbeats 1000000 in
theorem split_leaf (lo hi : ByteArray) (r : Int) (l : List En) (id : Int) (w : World) {a0 : Option Addr} {c0 : Nat} (hrd : Rd En.enc 4 w a0 l) (hc0 : l.length ≤ c0) (h1 : 1 ≤ id) {k : Nat} (hk : k = l.length / 2) (h2 : 2 ≤ l.length) (hb : l.length * 40 ≤ 140737488355328) {x y : En} (hx : l[k]? = some x) (hy : l[k - 1]? = some y)
    {parts : ByteArray} (hp : sepS y.key x.key = (parts, true)) (hkey : x.key.size ≤ 281474976710656) :
    Calls Try.prog 10 #[.agg #[.bool true, .string lo, .string hi, .int .i64 r, .slice a0 l.length c0], .int .i64 id] w (GaveP2 (⟨true, lo, parts, id, l.take k⟩, ⟨true, parts, hi, r, l.drop k⟩, 0) w) := by
  obtain ⟨b, off, rfl, hbw, e0, e1, e2, e3⟩ := rd4 hrd hx
  obtain ⟨b', off', hab, _, f0, f1, f2, f3⟩ := rd4 hrd hy
  cases hab
  have hkl : k < l.length := by omega
  have hk1 : 1 ≤ k := by omega
  have hdiv : ((l.length : Int) / 2) = (k : Int) := by rw [hk]; rfl
  obtain ⟨a1, hs1, hr1⟩ := cut_pre hrd hc0 (i := k) (by omega)
  obtain ⟨a2, hs2, hr2⟩ := cut_post hrd hc0 (i := k) (by omega)
  have HR1 := Lib.hid hr1
  have HR2 := Lib.hid hr2
  have hl1 : (l.take k).length = k := by rw [List.length_take]; omega
  have hl2 : (l.drop k).length = l.length - k := by rw [List.length_drop]
  have HC1 := Lib.hid (fun W (kn : KN w W) => clone_En (hr1.kn kn) (by unfold maxLen; omega) (by omega))
  have HC2 := Lib.hid (fun W (kn : KN w W) => clone_En (hr2.kn kn) (by unfold maxLen; omega) (by omega))
  have HSep := Lib.hid (fun W => hp ▸ sep_k y.key x.key W hkey)
  have HO := Lib.hid ((One.nil w).alloc3 (.cells #[.bool true, .string lo, .string hi, .int .i64 r, .slice (some ⟨b, off, none⟩) l.length c0] 24) (.cells #[.bool false, .string ⟨#[]⟩, .string ⟨#[]⟩, .int .i64 0, .slice none 0 0] 24) (.cells #[.bool false, .string ⟨#[]⟩, .string ⟨#[]⟩, .int .i64 0, .slice none 0 0] 24))
  have hid : ¬ id < 1 := by omega
  have hn2 : ¬ (l.length : Int) < 2 := by omega
  have hz0 : (0 : Int) ≤ (k : Int) := by omega
  have hz1 : (k : Int) < (l.length : Int) := by omega
  have hz2 : (k : Int) ≤ (l.length : Int) := by omega
  have HD := Lib.hid hdiv
  have HL1 := Lib.hid hl1
  have HL2 := Lib.hid hl2
  have hmain : ∀ W, One w W [Blk (w.heap.size + 1 + 1) (.cells #[.bool false, .string ⟨#[]⟩, .string ⟨#[]⟩, .int .i64 0, .slice none 0 0] 24), Blk (w.heap.size + 1) (.cells #[.bool false, .string ⟨#[]⟩, .string ⟨#[]⟩, .int .i64 0, .slice none 0 0] 24), Blk w.heap.size (.cells #[.bool true, .string lo, .string hi, .int .i64 r, .slice (some ⟨b, off, none⟩) l.length c0] 24)] → True := fun _ _ => trivial
  clear hrd hr1 hr2 hl1 hl2 hdiv hk hx hy hmain
  generalize l.take k = xs1 at *
  generalize l.drop k = xs2 at *
  go_enter Try.func10, Try.ntmps10
  go_upto_region 6 with fail
  generalize ((w.alloc (.cells #[.bool true, .string lo, .string hi, .int .i64 r, .slice (some ⟨b, off, none⟩) l.length c0] 24)).alloc (.cells #[.bool false, .string ⟨#[]⟩, .string ⟨#[]⟩, .int .i64 0, .slice none 0 0] 24)).alloc (.cells #[.bool false, .string ⟨#[]⟩, .string ⟨#[]⟩, .int .i64 0, .slice none 0 0] 24) = w1 at *
  rw [← HO.out.old.below.cell (p := ⟨b, off + k * 4, none⟩) hbw] at e0
  rw [← HO.out.old.below.cell (p := ⟨b, off + (k - 1) * 4, none⟩) hbw] at f0
  obtain ⟨x0, x1, x2, x3, x4, xf⟩ := cells5 (HO.out.blk 2 rfl).1
  have hq : IntKind.i64.wrap ((l.length : Int) / 2) = (k : Int) := by rw [HD.out]; exact Go.IntWalk.i64_in _ (by omega)
  have hq2 : wrap64 ((l.length : Int).tdiv 2) = (k : Int) := by rw [Int.tdiv_eq_ediv_of_nonneg (by omega), HD.out]; unfold wrap64; omega
  have hw : IntKind.i64.wrap ((k : Int) - 1) = ((k - 1 : Nat) : Int) := by rw [Go.IntWalk.i64_in _ (by omega)]; omega
  have hw2 : wrap64 ((k : Int) - 1) = ((k - 1 : Nat) : Int) := by unfold wrap64; omega
  have hz4 : (0 : Int) ≤ ((k - 1 : Nat) : Int) := by omega
  have hz5 : ((k - 1 : Nat) : Int) < (l.length : Int) := by omega
  go_upto_region 9 with fail
  go_region_held3 (fun w' => w'.cell? ⟨w.heap.size, 4, none⟩ = some (.slice (some ⟨b, off, none⟩) l.length c0) ∧ w'.cell? ⟨b, off + k * 4, none⟩ = some (.string x.key) ∧ w'.cell? ⟨b, off + (k - 1) * 4, none⟩ = some (.string y.key)) (go_keep) (first | (go_at_call 34; refine (HSep.out _).mono ?_; rintro e w' ⟨rfl, rfl⟩))
  have HO' := Lib.hid (HO.out.kn ((Kp.refl _ _).drew))
  clear HO x0 x1 x2 x3 x4 xf e0 f0
  generalize w1.drew = w2 at *
  have HO := Lib.hid HO'.out
  clear HO'
  obtain ⟨x0, x1, x2, x3, x4, xf⟩ := cells5 (HO.out.blk 2 rfl).1
  clear hw hw2
  go_upto_region 13 with fail
  have HOd := Lib.hid (HO.out.kn ((Kp.refl _ _).drew))
  have HOe := Lib.hid ((HO.out.alloc (.cells #[.bool false, .string ⟨#[]⟩, .string ⟨#[]⟩, .int .i64 0, .slice none 0 0] 24)).kn ((Kp.refl _ _).drew))
  have HC1a := Lib.hid (HC1.out w2.drew HOd.out.old)
  have HC1b := Lib.hid (HC1.out _ HOe.out.old)
  clear HO hq hq2
  go_cut [12] (fun s12 wx => ∃ (g : Nat) (a3 : Option Addr) (c3 : Nat), s12 = .pointer (some ⟨g, 0, none⟩) ∧ Hid (One w wx [RowE a3 c3 xs1, Blk g (.cells #[.bool true, .string lo, .string parts, .int .i64 id, .slice a3 xs1.length c3] 24), Blk (w.heap.size + 1 + 1) (.cells #[.bool false, .string ⟨#[]⟩, .string ⟨#[]⟩, .int .i64 0, .slice none 0 0] 24), Blk (w.heap.size + 1) (.cells #[.bool false, .string ⟨#[]⟩, .string ⟨#[]⟩, .int .i64 0, .slice none 0 0] 24), Blk w.heap.size (.cells #[.bool true, .string lo, .string hi, .int .i64 r, .slice (some ⟨b, off, none⟩) l.length c0] 24)]))
  case first =>
    go_region_held3 (fun w' => w'.cell? ⟨w.heap.size, 0, none⟩ = some (.bool true) ∧ w'.cell? ⟨w.heap.size, 1, none⟩ = some (.string lo) ∧ w'.cell? ⟨w.heap.size, 2, none⟩ = some (.string hi) ∧ w'.cell? ⟨w.heap.size, 3, none⟩ = some (.int .i64 r) ∧ w'.cell? ⟨w.heap.size, 4, none⟩ = some (.slice (some ⟨b, off, none⟩) l.length c0))
      (first | (with_reducible exact K5.out) | (with_reducible exact K6.out) | go_keep) (first | (go_at_call 35; (with_reducible refine HC1a.out.mono ?_); rintro e w4 ⟨a4, c4, rfl, hpo⟩; have HO5 := Lib.hid (HOd.out.add hpo); have K5 := Lib.hid (cells5' (HO5.out.blk 3 rfl).1); have HO6 := Lib.hid (HO5.out.alloc (.cells #[.bool true, .string lo, .string parts, .int .i64 id, .slice a4 xs1.length c4] 24)); have K6 := Lib.hid (cells5' (HO6.out.blk 4 rfl).1)) | (go_at_call 35; (with_reducible refine HC1b.out.mono ?_); rintro e w4 ⟨a4, c4, rfl, hpo⟩; have HO5 := Lib.hid (HOe.out.add hpo); have K5 := Lib.hid (cells5' (HO5.out.blk 4 rfl).1); have HO6 := Lib.hid (HO5.out.set5 1 rfl (.bool true) (.string lo) (.string parts) (.int .i64 id) (.slice a4 xs1.length c4)); have K6 := Lib.hid (cells5' (HO6.out.blk 4 rfl).1); obtain ⟨y0, y1, y2, y3, y4, yf⟩ := cells5 (HO5.out.blk 1 rfl).1))
    · go_wp2_with fail
      go_meet
      exact ⟨w4.heap.size, a4, c4, rfl, Lib.hid (HO6.out.perm (List.Perm.swap _ _ _))⟩
    · go_wp2_with fail
      go_meet
      exact ⟨w2.heap.size, a4, c4, rfl, HO6⟩
  case rest =>
    obtain ⟨g, a3, c3, rfl, HR⟩ := hcut
    clear HC1 HC1a HC1b HOd HOe x0 x1 x2 x3 x4 xf
    obtain ⟨x0, x1, x2, x3, x4, xf⟩ := cells5 (HR.out.blk 4 rfl).1
    go_upto_region 14 with fail
    have HOd := Lib.hid (HR.out.kn ((Kp.refl _ _).drew))
    have HOe := Lib.hid ((HR.out.alloc (.cells #[.bool false, .string ⟨#[]⟩, .string ⟨#[]⟩, .int .i64 0, .slice none 0 0] 24)).kn ((Kp.refl _ _).drew))
    have HC2a := Lib.hid (HC2.out wc.drew HOd.out.old)
    have HC2b := Lib.hid (HC2.out _ HOe.out.old)
    go_cut [13] (fun s13 wx => ∃ (g' : Nat) (a5 : Option Addr) (c5 : Nat), s13 = .pointer (some ⟨g', 0, none⟩) ∧ Hid (One w wx [RowE a5 c5 xs2, Blk g' (.cells #[.bool true, .string parts, .string hi, .int .i64 r, .slice a5 xs2.length c5] 24), RowE a3 c3 xs1, Blk g (.cells #[.bool true, .string lo, .string parts, .int .i64 id, .slice a3 xs1.length c3] 24), Blk (w.heap.size + 1 + 1) (.cells #[.bool false, .string ⟨#[]⟩, .string ⟨#[]⟩, .int .i64 0, .slice none 0 0] 24), Blk (w.heap.size + 1) (.cells #[.bool false, .string ⟨#[]⟩, .string ⟨#[]⟩, .int .i64 0, .slice none 0 0] 24), Blk w.heap.size (.cells #[.bool true, .string lo, .string hi, .int .i64 r, .slice (some ⟨b, off, none⟩) l.length c0] 24)]))
    case first =>
      go_region_held3 (fun w' => w'.cell? ⟨w.heap.size, 0, none⟩ = some (.bool true) ∧ w'.cell? ⟨w.heap.size, 1, none⟩ = some (.string lo) ∧ w'.cell? ⟨w.heap.size, 2, none⟩ = some (.string hi) ∧ w'.cell? ⟨w.heap.size, 3, none⟩ = some (.int .i64 r) ∧ w'.cell? ⟨w.heap.size, 4, none⟩ = some (.slice (some ⟨b, off, none⟩) l.length c0))
        (first | (with_reducible exact K5.out) | (with_reducible exact K6.out) | go_keep) (first | (go_at_call 35; (with_reducible refine HC2a.out.mono ?_); rintro e w4 ⟨a4, c4, rfl, hpo⟩; have HO5 := Lib.hid (HOd.out.add hpo); have K5 := Lib.hid (cells5' (HO5.out.blk 5 rfl).1); have HO6 := Lib.hid (HO5.out.alloc (.cells #[.bool true, .string parts, .string hi, .int .i64 r, .slice a4 xs2.length c4] 24)); have K6 := Lib.hid (cells5' (HO6.out.blk 6 rfl).1)) | (go_at_call 35; (with_reducible refine HC2b.out.mono ?_); rintro e w4 ⟨a4, c4, rfl, hpo⟩; have HO5 := Lib.hid (HOe.out.add hpo); have K5 := Lib.hid (cells5' (HO5.out.blk 6 rfl).1); have HO6 := Lib.hid (HO5.out.set5 1 rfl (.bool true) (.string parts) (.string hi) (.int .i64 r) (.slice a4 xs2.length c4)); have K6 := Lib.hid (cells5' (HO6.out.blk 6 rfl).1); obtain ⟨y0, y1, y2, y3, y4, yf⟩ := cells5 (HO5.out.blk 1 rfl).1))
      · go_wp2_with fail
        go_meet
        exact ⟨w4.heap.size, a4, c4, rfl, Lib.hid (HO6.out.perm (List.Perm.swap _ _ _))⟩
      · go_wp2_with fail
        go_meet
        exact ⟨wc.heap.size, a4, c4, rfl, HO6⟩
    case rest =>
      clear x0 x1 x2 x3 x4 xf
      obtain ⟨g', a5, c5, rfl, HS⟩ := hcut
      obtain ⟨x0, x1, x2, x3, x4, xf⟩ := cells5 (HS.out.blk 1 rfl).1
      obtain ⟨y0, y1, y2, y3, y4, yf⟩ := cells5 (HS.out.blk 3 rfl).1
      obtain ⟨z0, z1, z2, z3, z4, zf⟩ := cells5 (HS.out.blk 4 rfl).1
      obtain ⟨t0, t1, t2, t3, t4, tf⟩ := cells5 (HS.out.blk 5 rfl).1
      go_wp2_with fail
      have HT0 := Lib.hid (HS.out.set5 5 rfl (.bool true) (.string lo) (.string parts) (.int .i64 id) (.slice a3 xs1.length c3))
      have HT1 := Lib.hid (HT0.out.kn ((Kp.refl _ _).drew))
      have HT2 := Lib.hid ((HT0.out.set5 4 rfl (.bool true) (.string parts) (.string hi) (.int .i64 r) (.slice a5 xs2.length c5)).kn ((Kp.refl _ _).drew))
      have K1 := Lib.hid (And.intro (cells5' (HT1.out.blk 3 rfl).1) (cells5' (HT1.out.blk 1 rfl).1))
      have K2 := Lib.hid (And.intro (cells5' (HT2.out.blk 3 rfl).1) (cells5' (HT2.out.blk 1 rfl).1))
      go_region_held3 (fun w' => (w'.cell? ⟨g, 0, none⟩ = some (.bool true) ∧ w'.cell? ⟨g, 1, none⟩ = some (.string lo) ∧ w'.cell? ⟨g, 2, none⟩ = some (.string parts) ∧ w'.cell? ⟨g, 3, none⟩ = some (.int .i64 id) ∧ w'.cell? ⟨g, 4, none⟩ = some (.slice a3 xs1.length c3)) ∧
        w'.cell? ⟨g', 0, none⟩ = some (.bool true) ∧ w'.cell? ⟨g', 1, none⟩ = some (.string parts) ∧ w'.cell? ⟨g', 2, none⟩ = some (.string hi) ∧ w'.cell? ⟨g', 3, none⟩ = some (.int .i64 r) ∧ w'.cell? ⟨g', 4, none⟩ = some (.slice a5 xs2.length c5)) (first | (with_reducible exact K1.out) | (with_reducible exact K2.out) | go_keep) (fail)
      go_wp2_with fail
      exact bodyPost_ret (res_c2t rfl rfl (load_pg (HT2.out.blk 5 rfl).1) rfl (load_pg (HT2.out.blk 4 rfl).1) rfl) rfl ⟨a3, c3, a5, c5, rfl, ((HT2.out.perm (List.Perm.swap _ _ _)).drop).keep2⟩
end Go.Proofs.Ytopmeecgjobofaa

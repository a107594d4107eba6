/- The walks of page.Split in one, of page.Merge and the reference's. -/
import Derived.Test.YtopmeecgjobofaaSplitP2
namespace Go.Proofs.Ytopmeecgjobofaa
set_option linter.unusedVariables false
set_option linter.unusedSimpArgs false
open Go Go.RowKit

theorem merge_no (p q : Pg) (w : World) {v u : Value} (hr : Rl En.enc 4 w v p.list) (hs : Rl En.enc 4 w u q.list) (h : ¬ (p.leaf = q.leaf ∧ p.high.toList.isEmpty = false ∧ p.high = q.low)) : Calls Try.prog 16 #[pgv p v, pgv q u] w (GavePE (zeroPg, 72) w) := by
  obtain ⟨lf, lo, hi, r, l⟩ := p
  obtain ⟨lf', lo', hi', r', l'⟩ := q
  simp only at h hr hs
  unfold pgv
  simp only
  have HO := Lib.hid (((One.nil w).nilRow 34 4).alloc3 (.cells #[.bool lf, .string lo, .string hi, .int .i64 r, v] 24) (.cells #[.bool lf', .string lo', .string hi', .int .i64 r', u] 24) (.cells #[.bool false, .string ⟨#[]⟩, .string ⟨#[]⟩, .int .i64 0, .slice none 0 0] 24))
  by_cases h1 : lf = lf'
  · subst h1
    cases h2 : hi.toList.isEmpty with
    | true =>
      clear h hr hs
      go_enter Try.func16, Try.ntmps16
      go_wp2_with fail
      exact bodyPost_ret (res_c1t rfl rfl (load_pg (HO.out.blk 0 rfl).1) rfl) rfl ⟨none, 0, rfl, HO.out.post 3 rfl⟩
    | false =>
      have h3 : (hi.toList == lo'.toList) = false := beq_str_false (fun e => h ⟨rfl, h2, e⟩)
      have h4 : (hi.toList != lo'.toList) = true := by unfold bne; rw [h3]; rfl
      clear h hr hs
      go_enter Try.func16, Try.ntmps16
      go_wp2_with fail
      exact bodyPost_ret (res_c1t rfl rfl (load_pg (HO.out.blk 0 rfl).1) rfl) rfl ⟨none, 0, rfl, HO.out.post 3 rfl⟩
  · have h2 : (lf != lf') = true := by simpa using h1
    clear h hr hs
    go_enter Try.func16, Try.ntmps16
    go_wp2_with fail
    exact bodyPost_ret (res_c1t rfl rfl (load_pg (HO.out.blk 0 rfl).1) rfl) rfl ⟨none, 0, rfl, HO.out.post 3 rfl⟩
theorem merge_yes (lf : Bool) (lo hi hi' : ByteArray) (r r' : Int) (l m : List En) (w : World) {v u : Value} (hr : Rl En.enc 4 w v l) (hs : Rl En.enc 4 w u m) (h : hi.toList.isEmpty = false) (hb : (l.length + m.length) * 40 ≤ 140737488355328) :
    Calls Try.prog 16 #[.agg #[.bool lf, .string lo, .string hi, .int .i64 r, v], .agg #[.bool lf, .string hi, .string hi', .int .i64 r', u]] w (GavePE (⟨lf, lo, hi', r', l ++ m⟩, 0) w) := by
  have h2 : (hi.toList != hi.toList) = false := by simp
  have h3 : (lf != lf) = false := by simp
  obtain ⟨a0, c0, rfl, hc0, hrd⟩ := hr
  obtain ⟨a1, c1, rfl, hc1, hsd⟩ := hs
  have HO := Lib.hid ((One.nil w).alloc4 (.cells #[.bool lf, .string lo, .string hi, .int .i64 r, .slice a0 l.length c0] 24) (.cells #[.bool lf, .string hi, .string hi', .int .i64 r', .slice a1 m.length c1] 24) (.cells #[.bool false, .string ⟨#[]⟩, .string ⟨#[]⟩, .int .i64 0, .slice none 0 0] 24)
    (.cells #[.slice a0 l.length c0, .slice a1 m.length c1] 22))
  have hx : l ++ m = allOf [(.slice a0 l.length c0, l), (.slice a1 m.length c1, m)] := by simp [allOf]
  have hxl : (l ++ m).length = l.length + m.length := by simp
  have HR := Lib.hid (with_at lf lo hi r (.slice a0 l.length c0) [(.slice a0 l.length c0, l), (.slice a1 m.length c1, m)] (cap := 2) (n := 2) _ (HO.out.blk 0 rfl).1 rfl rfl hx (parts2 ((Rl.of_rd hrd hc0).kn HO.out.old) ((Rl.of_rd hsd hc1).kn HO.out.old)) (by unfold maxLen; omega) (by omega) (by simp))
  clear hrd hsd hx hxl
  generalize l ++ m = xs at *
  go_enter Try.func16, Try.ntmps16
  go_wp2_with fail
  refine HR.out.mono ?_
  rintro e w1 ⟨a2, c2, rfl, hpo⟩
  have HO1 := Lib.hid (HO.out.add hpo)
  clear hpo HO HR
  obtain ⟨x0, x1, x2, x3, x4, xf⟩ := cells5 (HO1.out.blk 3 rfl).1
  go_upto_region 4 with fail
  have HO2 := Lib.hid (HO1.out.alloc (.cells #[.bool lf, .string lo, .string hi, .int .i64 r, .slice a2 xs.length c2] 24))
  clear x0 x1 x2 x3 x4 xf HO1
  generalize w1.alloc (.cells #[.bool lf, .string lo, .string hi, .int .i64 r, .slice a2 xs.length c2] 24) = w2 at *
  generalize w1.heap.size = g at *
  obtain ⟨x0, x1, x2, x3, x4, xf⟩ := cells5 (HO2.out.blk 4 rfl).1
  obtain ⟨y0, y1, y2, y3, y4, yf⟩ := cells5 (HO2.out.blk 0 rfl).1
  have HT0 := Lib.hid (HO2.out.setC 0 rfl (j := 2) (.string hi'))
  have HT1 := Lib.hid (HT0.out.kn ((Kp.refl _ _).drew))
  have HT2 := Lib.hid ((HT0.out.setC 0 rfl (j := 3) (.int .i64 r')).kn ((Kp.refl _ _).drew))
  have K1 := Lib.hid (cells5' (HT1.out.blk 4 rfl).1)
  have K2 := Lib.hid (cells5' (HT2.out.blk 4 rfl).1)
  go_region_held3 (fun w' => w'.cell? ⟨w.heap.size + 1, 0, none⟩ = some (.bool lf) ∧ w'.cell? ⟨w.heap.size + 1, 1, none⟩ = some (.string hi) ∧ w'.cell? ⟨w.heap.size + 1, 2, none⟩ = some (.string hi') ∧ w'.cell? ⟨w.heap.size + 1, 3, none⟩ = some (.int .i64 r') ∧ w'.cell? ⟨w.heap.size + 1, 4, none⟩ = some (.slice a1 m.length c1)) (first | (with_reducible exact K1.out) | (with_reducible exact K2.out) | go_keep) (fail)
  clear x0 x1 x2 x3 x4 xf y0 y1 y2 y3 y4 yf K1 K2 HT0 HT1 HO2
  have HT3 := Lib.hid (show One w ((w2.setCell ⟨g, 2, none⟩ (.string hi')).setCell ⟨g, 3, none⟩ (.int .i64 r')).drew [Blk g (.cells #[.bool lf, .string lo, .string hi', .int .i64 r', .slice a2 xs.length c2] 24), RowE a2 c2 xs, Blk (w.heap.size + 1 + 1 + 1) (.cells #[.slice a0 l.length c0, .slice a1 m.length c1] 22), Blk (w.heap.size + 1 + 1) (.cells #[.bool false, .string ⟨#[]⟩, .string ⟨#[]⟩, .int .i64 0, .slice none 0 0] 24),
    Blk (w.heap.size + 1) (.cells #[.bool lf, .string hi, .string hi', .int .i64 r', .slice a1 m.length c1] 24), Blk w.heap.size (.cells #[.bool lf, .string lo, .string hi, .int .i64 r, .slice a0 l.length c0] 24)] from HT2.out)
  generalize ((w2.setCell ⟨g, 2, none⟩ (.string hi')).setCell ⟨g, 3, none⟩ (.int .i64 r')).drew = w3 at *
  obtain ⟨x0, x1, x2, x3, x4, xf⟩ := cells5 (HT3.out.blk 0 rfl).1
  obtain ⟨y0, y1, y2, y3, y4, yf⟩ := cells5 (HT3.out.blk 3 rfl).1
  go_wp2_with fail
  have HT4 := Lib.hid (HT3.out.set5 3 rfl (.bool lf) (.string lo) (.string hi') (.int .i64 r') (.slice a2 xs.length c2))
  exact bodyPost_ret (res_c1t rfl rfl (load_pg (HT4.out.blk 3 rfl).1) rfl) rfl ⟨a2, c2, rfl, HT4.out.post 1 rfl⟩
theorem merge_page (p q : Pg) (w : World) {v u : Value} (hr : Rl En.enc 4 w v p.list) (hs : Rl En.enc 4 w u q.list) (hb : (p.list.length + q.list.length) * 40 ≤ 140737488355328) : Calls Try.prog 16 #[pgv p v, pgv q u] w (GavePE (mergeP p q) w) := by
  by_cases h : p.leaf = q.leaf ∧ p.high.toList.isEmpty = false ∧ p.high = q.low
  · unfold mergeP
    rw [if_pos h]
    obtain ⟨lf, lo, hi, r, l⟩ := p
    obtain ⟨lf', lo', hi', r', l'⟩ := q
    obtain ⟨h1, h2, h3⟩ := h
    simp only at h1 h2 h3
    subst h1; subst h3
    exact merge_yes lf lo hi hi' r r' l l' w hr hs h2 hb
  · unfold mergeP
    rw [if_neg h]
    exact merge_no p q w hr hs h
theorem rmerge_no (p q : Pg) (w : World) {v u : Value} (hr : Rl En.enc 4 w v p.list) (hs : Rl En.enc 4 w u q.list) (h : ¬ (p.leaf = q.leaf ∧ p.high.toList.isEmpty = false ∧ p.high = q.low)) : Calls Try.prog 17 #[pgv p v, pgv q u] w (GavePE (zeroPg, 72) w) := by
  obtain ⟨lf, lo, hi, r, l⟩ := p
  obtain ⟨lf', lo', hi', r', l'⟩ := q
  simp only at h hr hs
  unfold pgv
  simp only
  have HO := Lib.hid (((One.nil w).nilRow 34 4).alloc3 (.cells #[.bool lf, .string lo, .string hi, .int .i64 r, v] 24) (.cells #[.bool lf', .string lo', .string hi', .int .i64 r', u] 24) (.cells #[.bool false, .string ⟨#[]⟩, .string ⟨#[]⟩, .int .i64 0, .slice none 0 0] 24))
  by_cases h1 : lf = lf'
  · subst h1
    cases h2 : hi.toList.isEmpty with
    | true =>
      clear h hr hs
      go_enter Try.func17, Try.ntmps17
      go_wp2_with fail
      exact bodyPost_ret (res_c1t rfl rfl (load_pg (HO.out.blk 0 rfl).1) rfl) rfl ⟨none, 0, rfl, HO.out.post 3 rfl⟩
    | false =>
      have h3 : (hi.toList == lo'.toList) = false := beq_str_false (fun e => h ⟨rfl, h2, e⟩)
      have h4 : (hi.toList != lo'.toList) = true := by unfold bne; rw [h3]; rfl
      clear h hr hs
      go_enter Try.func17, Try.ntmps17
      go_wp2_with fail
      exact bodyPost_ret (res_c1t rfl rfl (load_pg (HO.out.blk 0 rfl).1) rfl) rfl ⟨none, 0, rfl, HO.out.post 3 rfl⟩
  · have h2 : (lf != lf') = true := by simpa using h1
    clear h hr hs
    go_enter Try.func17, Try.ntmps17
    go_wp2_with fail
    exact bodyPost_ret (res_c1t rfl rfl (load_pg (HO.out.blk 0 rfl).1) rfl) rfl ⟨none, 0, rfl, HO.out.post 3 rfl⟩
theorem rmerge_yes (lf : Bool) (lo hi hi' : ByteArray) (r r' : Int) (l m : List En) (w : World) {v u : Value} (hr : Rl En.enc 4 w v l) (hs : Rl En.enc 4 w u m) (h : hi.toList.isEmpty = false) (hb : (l.length + m.length) * 40 ≤ 140737488355328) :
    Calls Try.prog 17 #[.agg #[.bool lf, .string lo, .string hi, .int .i64 r, v], .agg #[.bool lf, .string hi, .string hi', .int .i64 r', u]] w (GavePE (⟨lf, lo, hi', r', l ++ m⟩, 0) w) := by
  have h2 : (hi.toList != hi.toList) = false := by simp
  have h3 : (lf != lf) = false := by simp
  obtain ⟨a0, c0, rfl, hc0, hrd⟩ := hr
  obtain ⟨a1, c1, rfl, hc1, hsd⟩ := hs
  have HO := Lib.hid ((One.nil w).alloc3 (.cells #[.bool lf, .string lo, .string hi, .int .i64 r, .slice a0 l.length c0] 24) (.cells #[.bool lf, .string hi, .string hi', .int .i64 r', .slice a1 m.length c1] 24) (.cells #[.bool false, .string ⟨#[]⟩, .string ⟨#[]⟩, .int .i64 0, .slice none 0 0] 24))
  have HR := Lib.hid (clone_ref ⟨lf, lo, hi, r, l⟩ _ ((Rl.of_rd hrd hc0).kn HO.out.old) (by unfold maxLen; simp only; omega) (by simp only; omega))
  have HS := Lib.hid (Rl.of_rd hsd hc1)
  clear hrd hsd
  go_enter Try.func17, Try.ntmps17
  go_wp2_with fail
  refine HR.out.mono ?_
  rintro e w1 ⟨a2, c2, rfl, hpo⟩
  have HO1 := Lib.hid (HO.out.add hpo)
  clear hpo HO HR
  obtain ⟨x0, x1, x2, x3, x4, xf⟩ := cells5 (HO1.out.blk 2 rfl).1
  go_upto_region 4 with fail
  have HO2 := Lib.hid (HO1.out.alloc (.cells #[.bool lf, .string lo, .string hi, .int .i64 r, .slice a2 l.length c2] 24))
  clear x0 x1 x2 x3 x4 xf HO1
  generalize w1.alloc (.cells #[.bool lf, .string lo, .string hi, .int .i64 r, .slice a2 l.length c2] 24) = w2 at *
  generalize w1.heap.size = g at *
  obtain ⟨x0, x1, x2, x3, x4, xf⟩ := cells5 (HO2.out.blk 3 rfl).1
  obtain ⟨y0, y1, y2, y3, y4, yf⟩ := cells5 (HO2.out.blk 0 rfl).1
  have HS2 := Lib.hid (HS.out.kn HO2.out.old)
  go_upto_region 5 with (at_builtin; refine wpList_appL 31 rfl rfl rfl rfl elt_En HO2.out 1 rfl rfl rfl enc4 HS2.out enc1 (by unfold maxLen; omega) (by omega) ?_; intro a3 c3 w3 ho; have HO3 := Lib.hid ho; obtain ⟨x0', x1', x2', x3', x4', xf'⟩ := cells5 (HO3.out.blk 3 rfl).1; obtain ⟨y0', y1', y2', y3', y4', yf'⟩ := cells5 (HO3.out.blk 0 rfl).1)
  clear x0 x1 x2 x3 x4 xf y0 y1 y2 y3 y4 yf x0' x1' x2' x3' x4' xf' y0' y1' y2' y3' y4' yf' HO2 HS2
  have HT := Lib.hid (show One w (w3.setCell ⟨g, 4, none⟩ (.slice a3 (l.length + m.length) c3)) [Blk g (.cells #[.bool lf, .string lo, .string hi, .int .i64 r, .slice a3 (l.length + m.length) c3] 24), RowA 34 4 (.slice a3 (l.length + m.length) c3) (l.length + m.length) (l.flatMap En.enc ++ m.flatMap En.enc), Blk (w.heap.size + 1 + 1) (.cells #[.bool false, .string ⟨#[]⟩, .string ⟨#[]⟩, .int .i64 0, .slice none 0 0] 24),
    Blk (w.heap.size + 1) (.cells #[.bool lf, .string hi, .string hi', .int .i64 r', .slice a1 m.length c1] 24), Blk w.heap.size (.cells #[.bool lf, .string lo, .string hi, .int .i64 r, .slice a0 l.length c0] 24)] from HO3.out.setC 0 rfl _)
  clear HO3 ho
  generalize w3.setCell ⟨g, 4, none⟩ (.slice a3 (l.length + m.length) c3) = w4 at *
  rw [← List.flatMap_append, ← List.length_append] at HT
  rw [← List.length_append]
  generalize l ++ m = xs at *
  obtain ⟨x0, x1, x2, x3, x4, xf⟩ := cells5 (HT.out.blk 3 rfl).1
  obtain ⟨y0, y1, y2, y3, y4, yf⟩ := cells5 (HT.out.blk 0 rfl).1
  have HT0 := Lib.hid (HT.out.setC 0 rfl (j := 2) (.string hi'))
  have HT1 := Lib.hid (HT0.out.kn ((Kp.refl _ _).drew))
  have HT2 := Lib.hid ((HT0.out.setC 0 rfl (j := 3) (.int .i64 r')).kn ((Kp.refl _ _).drew))
  have K1 := Lib.hid (cells5' (HT1.out.blk 3 rfl).1)
  have K2 := Lib.hid (cells5' (HT2.out.blk 3 rfl).1)
  go_region_held3 (fun w' => w'.cell? ⟨w.heap.size + 1, 0, none⟩ = some (.bool lf) ∧ w'.cell? ⟨w.heap.size + 1, 1, none⟩ = some (.string hi) ∧ w'.cell? ⟨w.heap.size + 1, 2, none⟩ = some (.string hi') ∧ w'.cell? ⟨w.heap.size + 1, 3, none⟩ = some (.int .i64 r') ∧ w'.cell? ⟨w.heap.size + 1, 4, none⟩ = some (.slice a1 m.length c1)) (first | (with_reducible exact K1.out) | (with_reducible exact K2.out) | go_keep) (fail)
  clear x0 x1 x2 x3 x4 xf y0 y1 y2 y3 y4 yf K1 K2 HT0 HT1 HT
  have HT3 := Lib.hid (show One w ((w4.setCell ⟨g, 2, none⟩ (.string hi')).setCell ⟨g, 3, none⟩ (.int .i64 r')).drew [Blk g (.cells #[.bool lf, .string lo, .string hi', .int .i64 r', .slice a3 xs.length c3] 24), RowE a3 c3 xs, Blk (w.heap.size + 1 + 1) (.cells #[.bool false, .string ⟨#[]⟩, .string ⟨#[]⟩, .int .i64 0, .slice none 0 0] 24),
    Blk (w.heap.size + 1) (.cells #[.bool lf, .string hi, .string hi', .int .i64 r', .slice a1 m.length c1] 24), Blk w.heap.size (.cells #[.bool lf, .string lo, .string hi, .int .i64 r, .slice a0 l.length c0] 24)] from HT2.out)
  generalize ((w4.setCell ⟨g, 2, none⟩ (.string hi')).setCell ⟨g, 3, none⟩ (.int .i64 r')).drew = w5 at *
  obtain ⟨x0, x1, x2, x3, x4, xf⟩ := cells5 (HT3.out.blk 0 rfl).1
  obtain ⟨y0, y1, y2, y3, y4, yf⟩ := cells5 (HT3.out.blk 2 rfl).1
  go_wp2_with fail
  have HT4 := Lib.hid (HT3.out.set5 2 rfl (.bool lf) (.string lo) (.string hi') (.int .i64 r') (.slice a3 xs.length c3))
  exact bodyPost_ret (res_c1t rfl rfl (load_pg (HT4.out.blk 2 rfl).1) rfl) rfl ⟨a3, c3, rfl, HT4.out.post 1 rfl⟩
theorem merge_ref (p q : Pg) (w : World) {v u : Value} (hr : Rl En.enc 4 w v p.list) (hs : Rl En.enc 4 w u q.list) (hb : (p.list.length + q.list.length) * 40 ≤ 140737488355328) : Calls Try.prog 17 #[pgv p v, pgv q u] w (GavePE (mergeP p q) w) := by
  by_cases h : p.leaf = q.leaf ∧ p.high.toList.isEmpty = false ∧ p.high = q.low
  · unfold mergeP
    rw [if_pos h]
    obtain ⟨lf, lo, hi, r, l⟩ := p
    obtain ⟨lf', lo', hi', r', l'⟩ := q
    obtain ⟨h1, h2, h3⟩ := h
    simp only at h1 h2 h3
    subst h1; subst h3
    exact rmerge_yes lf lo hi hi' r r' l l' w hr hs h2 hb
  · unfold mergeP
    rw [if_neg h]
    exact rmerge_no p q w hr hs h
theorem split_fail (lo hi : ByteArray) (r : Int) (l : List En) (id : Int) (w : World) {a0 : Option Addr} {c0 : Nat} (hrd : Rd En.enc 4 w a0 l) (hc0 : l.length ≤ c0) (h1 : 1 ≤ id) {k : Nat} (hk : k = l.length / 2) (h2 : 2 ≤ l.length) (hb : l.length * 40 ≤ 140737488355328) {x y : En} (hx : l[k]? = some x) (hy : l[k - 1]? = some y)
    {parts : ByteArray} (hp : sepS y.key x.key = (parts, false)) (hkey : x.key.size ≤ 281474976710656) :
    Calls Try.prog 10 #[.agg #[.bool true, .string lo, .string hi, .int .i64 r, .slice a0 l.length c0], .int .i64 id] w (GaveP2 (zeroPg, zeroPg, 70) w) := by
  obtain ⟨b, off, rfl, hbw, e0, e1, e2, e3⟩ := rd4 hrd hx
  obtain ⟨b', off', hab, _, f0, f1, f2, f3⟩ := rd4 hrd hy
  cases hab
  have hkl : k < l.length := by omega
  have hk1 : 1 ≤ k := by omega
  have hdiv : ((l.length : Int) / 2) = (k : Int) := by rw [hk]; rfl
  have HSep := Lib.hid (fun W => hp ▸ sep_k y.key x.key W hkey)
  have HO := Lib.hid ((((One.nil w).nilRow 34 4).nilRow 34 4).alloc3 (.cells #[.bool true, .string lo, .string hi, .int .i64 r, .slice (some ⟨b, off, none⟩) l.length c0] 24) (.cells #[.bool false, .string ⟨#[]⟩, .string ⟨#[]⟩, .int .i64 0, .slice none 0 0] 24) (.cells #[.bool false, .string ⟨#[]⟩, .string ⟨#[]⟩, .int .i64 0, .slice none 0 0] 24))
  have hid : ¬ id < 1 := by omega
  have hn2 : ¬ (l.length : Int) < 2 := by omega
  have hz0 : (0 : Int) ≤ (k : Int) := by omega
  have hz1 : (k : Int) < (l.length : Int) := by omega
  have HD := Lib.hid hdiv
  clear hrd hdiv hk hx hy
  go_enter Try.func10, Try.ntmps10
  go_upto_region 6 with fail
  generalize ((w.alloc (.cells #[.bool true, .string lo, .string hi, .int .i64 r, .slice (some ⟨b, off, none⟩) l.length c0] 24)).alloc (.cells #[.bool false, .string ⟨#[]⟩, .string ⟨#[]⟩, .int .i64 0, .slice none 0 0] 24)).alloc (.cells #[.bool false, .string ⟨#[]⟩, .string ⟨#[]⟩, .int .i64 0, .slice none 0 0] 24) = w1 at *
  rw [← HO.out.old.below.cell (p := ⟨b, off + k * 4, none⟩) hbw] at e0
  rw [← HO.out.old.below.cell (p := ⟨b, off + (k - 1) * 4, none⟩) hbw] at f0
  obtain ⟨x0, x1, x2, x3, x4, xf⟩ := cells5 (HO.out.blk 2 rfl).1
  have hq : IntKind.i64.wrap ((l.length : Int) / 2) = (k : Int) := by rw [HD.out]; exact Go.IntWalk.i64_in _ (by omega)
  have hq2 : wrap64 ((l.length : Int).tdiv 2) = (k : Int) := by rw [Int.tdiv_eq_ediv_of_nonneg (by omega), HD.out]; unfold wrap64; omega
  have hw : IntKind.i64.wrap ((k : Int) - 1) = ((k - 1 : Nat) : Int) := by rw [Go.IntWalk.i64_in _ (by omega)]; omega
  have hw2 : wrap64 ((k : Int) - 1) = ((k - 1 : Nat) : Int) := by unfold wrap64; omega
  have hz4 : (0 : Int) ≤ ((k - 1 : Nat) : Int) := by omega
  have hz5 : ((k - 1 : Nat) : Int) < (l.length : Int) := by omega
  go_upto_region 9 with fail
  go_region_held3 (fun w' => w'.cell? ⟨w.heap.size, 4, none⟩ = some (.slice (some ⟨b, off, none⟩) l.length c0) ∧ w'.cell? ⟨b, off + k * 4, none⟩ = some (.string x.key) ∧ w'.cell? ⟨b, off + (k - 1) * 4, none⟩ = some (.string y.key)) (go_keep) (first | (go_at_call 34; refine (HSep.out _).mono ?_; rintro e w' ⟨rfl, rfl⟩))
  have HO2 := Lib.hid (HO.out.kn ((Kp.refl _ _).drew))
  clear HO x0 x1 x2 x3 x4 xf e0 f0
  generalize w1.drew = w2 at *
  obtain ⟨y0, y1, y2, y3, y4, yf⟩ := cells5 (HO2.out.blk 1 rfl).1
  obtain ⟨z0, z1, z2, z3, z4, zf⟩ := cells5 (HO2.out.blk 0 rfl).1
  go_wp2_with fail
  have HO3 := Lib.hid ((HO2.out.set5 1 rfl (.bool false) (.string ⟨#[]⟩) (.string ⟨#[]⟩) (.int .i64 0) (.slice none 0 0)).set5 0 rfl (.bool false) (.string ⟨#[]⟩) (.string ⟨#[]⟩) (.int .i64 0) (.slice none 0 0))
  exact bodyPost_ret (res_c2t rfl rfl (load_pg (HO3.out.blk 1 rfl).1) rfl (load_pg (HO3.out.blk 0 rfl).1) rfl) rfl ⟨none, 0, none, 0, rfl, HO3.out.drop.drop.drop⟩
/-- The bound on what a page has. -/
def Fits (p : Pg) : Prop := p.list.length * 40 ≤ 140737488355328 ∧ ∀ x ∈ p.list, x.key.size ≤ 281474976710656
theorem split_page (p : Pg) (id : Int) (w : World) {v : Value} (hr : Rl En.enc 4 w v p.list) (hf : Fits p) : Calls Try.prog 10 #[pgv p v, .int .i64 id] w (GaveP2 (splitP p id) w) := by
  by_cases h : id < 1 ∨ p.list.length < 2
  · exact split_few p id w hr h (by have := hf.1; unfold maxLen; omega)
  · obtain ⟨lf, lo, hi, r, l⟩ := p
    obtain ⟨a0, c0, rfl, hc0, hrd⟩ := hr
    simp only at h hc0 hrd
    obtain ⟨hb, hf⟩ := hf
    simp only at hb hf
    have hx : l[l.length / 2]? = some (l[l.length / 2]'(by omega)) := List.getElem?_eq_getElem (by omega)
    have hy : l[l.length / 2 - 1]? = some (l[l.length / 2 - 1]'(by omega)) := List.getElem?_eq_getElem (by omega)
    have hkey := hf _ (List.mem_of_getElem? hx)
    generalize l[l.length / 2]'_ = x at *
    generalize l[l.length / 2 - 1]'_ = y at *
    unfold splitP
    rw [if_neg (by omega), if_neg (by simp only; omega)]
    cases lf with
    | false =>
      have hp : partOf ⟨false, lo, hi, r, l⟩ = (x.key, true) := by unfold partOf; simp [hx]
      rw [hp, if_pos rfl]
      exact split_inner lo hi r l id w hrd hc0 (by omega) rfl (by omega) hb hx hy
    | true =>
      have hp : partOf ⟨true, lo, hi, r, l⟩ = sepS y.key x.key := by unfold partOf; simp [hx, hy]
      rw [hp]
      obtain ⟨parts, ok, hs⟩ : ∃ a b, sepS y.key x.key = (a, b) := ⟨_, _, rfl⟩
      rw [hs]
      cases ok with
      | true =>
        rw [if_pos rfl]
        exact split_leaf lo hi r l id w hrd hc0 (by omega) rfl (by omega) hb hx hy hs hkey
      | false =>
        rw [if_neg (by simp)]
        exact split_fail lo hi r l id w hrd hc0 (by omega) rfl (by omega) hb hx hy hs hkey
end Go.Proofs.Ytopmeecgjobofaa

/- The walks of page.Split in one, of page.Merge and the reference's. -/
import Derived.Test.YtkdlodjpambelaaPutP2
namespace Go.Proofs.Ytkdlodjpambelaa
set_option linter.unusedVariables false
set_option linter.unusedSimpArgs false
open Go Go.RowKit

theorem merge_no (p q : Pg) (w : World) {v u : Value} (hr : Rl En.enc 4 w v p.list) (hs : Rl En.enc 4 w u q.list) (h : ¬ (p.leaf = q.leaf ∧ p.high.toList.isEmpty = false ∧ p.high = q.low)) : Calls Try.prog 54 #[pgv p v, pgv q u] w (GavePE (zeroPg, 72) w) := by
  obtain ⟨lf, lo, hi, r, l⟩ := p
  obtain ⟨lf', lo', hi', r', l'⟩ := q
  simp only at h hr hs
  unfold pgv
  simp only
  have HO := Lib.hid (((One.nil w).nilRow 28 4).alloc3 (.cells #[.bool lf, .string lo, .string hi, .int .i64 r, v] 24) (.cells #[.bool lf', .string lo', .string hi', .int .i64 r', u] 24) (.cells #[.bool false, .string ⟨#[]⟩, .string ⟨#[]⟩, .int .i64 0, .slice none 0 0] 24))
  by_cases h1 : lf = lf'
  · subst h1
    cases h2 : hi.toList.isEmpty with
    | true =>
      clear h hr hs
      go_enter Try.func54, Try.ntmps54
      go_wp2_with fail
      exact bodyPost_ret (res_c1t rfl rfl (load_pg (HO.out.blk 0 rfl).1) rfl) rfl ⟨none, 0, rfl, HO.out.post 3 rfl⟩
    | false =>
      have h3 : (hi.toList == lo'.toList) = false := beq_str_false (fun e => h ⟨rfl, h2, e⟩)
      have h4 : (hi.toList != lo'.toList) = true := by unfold bne; rw [h3]; rfl
      clear h hr hs
      go_enter Try.func54, Try.ntmps54
      go_wp2_with fail
      exact bodyPost_ret (res_c1t rfl rfl (load_pg (HO.out.blk 0 rfl).1) rfl) rfl ⟨none, 0, rfl, HO.out.post 3 rfl⟩
  · have h2 : (lf != lf') = true := by simpa using h1
    clear h hr hs
    go_enter Try.func54, Try.ntmps54
    go_wp2_with fail
    exact bodyPost_ret (res_c1t rfl rfl (load_pg (HO.out.blk 0 rfl).1) rfl) rfl ⟨none, 0, rfl, HO.out.post 3 rfl⟩
theorem merge_yes (lf : Bool) (lo hi hi' : ByteArray) (r r' : Int) (l m : List En) (w : World) {v u : Value} (hr : Rl En.enc 4 w v l) (hs : Rl En.enc 4 w u m) (h : hi.toList.isEmpty = false) (hb : (l.length + m.length) * 40 ≤ 140737488355328) :
    Calls Try.prog 54 #[.agg #[.bool lf, .string lo, .string hi, .int .i64 r, v], .agg #[.bool lf, .string hi, .string hi', .int .i64 r', u]] w (GavePE (⟨lf, lo, hi', r', l ++ m⟩, 0) w) := by
  have h2 : (hi.toList != hi.toList) = false := by simp
  have h3 : (lf != lf) = false := by simp
  obtain ⟨a0, c0, rfl, hc0, hrd⟩ := hr
  obtain ⟨a1, c1, rfl, hc1, hsd⟩ := hs
  have HO := Lib.hid ((One.nil w).alloc4 (.cells #[.bool lf, .string lo, .string hi, .int .i64 r, .slice a0 l.length c0] 24) (.cells #[.bool lf, .string hi, .string hi', .int .i64 r', .slice a1 m.length c1] 24) (.cells #[.bool false, .string ⟨#[]⟩, .string ⟨#[]⟩, .int .i64 0, .slice none 0 0] 24)
    (.cells #[.slice a0 l.length c0, .slice a1 m.length c1] 22))
  have hx : l ++ m = allOf [(.slice a0 l.length c0, l), (.slice a1 m.length c1, m)] := by simp [allOf]
  have hxl : (l ++ m).length = l.length + m.length := by simp
  have HR := Lib.hid (with_at lf lo hi r (.slice a0 l.length c0) [(.slice a0 l.length c0, l), (.slice a1 m.length c1, m)] (cap := 2) (n := 2) _ (HO.out.blk 0 rfl).1 rfl rfl hx (parts2 ((Rl.of_rd hrd hc0).kn HO.out.old) ((Rl.of_rd hsd hc1).kn HO.out.old)) (by unfold maxLen; omega) (by omega) (by simp))
  clear hrd hsd hx hxl
  generalize l ++ m = xs at *
  go_enter Try.func54, Try.ntmps54
  go_wp2_with fail
  refine HR.out.mono ?_
  rintro e w1 ⟨a2, c2, rfl, hpo⟩
  have HO1 := Lib.hid (HO.out.add hpo)
  clear hpo HO HR
  obtain ⟨x0, x1, x2, x3, x4, xf⟩ := cells5 (HO1.out.blk 3 rfl).1
  go_upto_region 4 with fail
  have HO2 := Lib.hid (HO1.out.alloc (.cells #[.bool lf, .string lo, .string hi, .int .i64 r, .slice a2 xs.length c2] 24))
  clear x0 x1 x2 x3 x4 xf HO1
  generalize w1.alloc (.cells #[.bool lf, .string lo, .string hi, .int .i64 r, .slice a2 xs.length c2] 24) = w2 at *
  generalize w1.heap.size = g at *
  obtain ⟨x0, x1, x2, x3, x4, xf⟩ := cells5 (HO2.out.blk 4 rfl).1
  obtain ⟨y0, y1, y2, y3, y4, yf⟩ := cells5 (HO2.out.blk 0 rfl).1
  have HT0 := Lib.hid (HO2.out.setC 0 rfl (j := 2) (.string hi'))
  have HT1 := Lib.hid (HT0.out.kn ((Kp.refl _ _).drew))
  have HT2 := Lib.hid ((HT0.out.setC 0 rfl (j := 3) (.int .i64 r')).kn ((Kp.refl _ _).drew))
  have K1 := Lib.hid (cells5' (HT1.out.blk 4 rfl).1)
  have K2 := Lib.hid (cells5' (HT2.out.blk 4 rfl).1)
  go_region_held3 (fun w' => w'.cell? ⟨w.heap.size + 1, 0, none⟩ = some (.bool lf) ∧ w'.cell? ⟨w.heap.size + 1, 1, none⟩ = some (.string hi) ∧ w'.cell? ⟨w.heap.size + 1, 2, none⟩ = some (.string hi') ∧ w'.cell? ⟨w.heap.size + 1, 3, none⟩ = some (.int .i64 r') ∧ w'.cell? ⟨w.heap.size + 1, 4, none⟩ = some (.slice a1 m.length c1)) (first | (with_reducible exact K1.out) | (with_reducible exact K2.out) | go_keep) (fail)
  clear x0 x1 x2 x3 x4 xf y0 y1 y2 y3 y4 yf K1 K2 HT0 HT1 HO2
  have HT3 := Lib.hid (show One w ((w2.setCell ⟨g, 2, none⟩ (.string hi')).setCell ⟨g, 3, none⟩ (.int .i64 r')).drew [Blk g (.cells #[.bool lf, .string lo, .string hi', .int .i64 r', .slice a2 xs.length c2] 24), RowE a2 c2 xs, Blk (w.heap.size + 1 + 1 + 1) (.cells #[.slice a0 l.length c0, .slice a1 m.length c1] 22), Blk (w.heap.size + 1 + 1) (.cells #[.bool false, .string ⟨#[]⟩, .string ⟨#[]⟩, .int .i64 0, .slice none 0 0] 24),
    Blk (w.heap.size + 1) (.cells #[.bool lf, .string hi, .string hi', .int .i64 r', .slice a1 m.length c1] 24), Blk w.heap.size (.cells #[.bool lf, .string lo, .string hi, .int .i64 r, .slice a0 l.length c0] 24)] from HT2.out)
  generalize ((w2.setCell ⟨g, 2, none⟩ (.string hi')).setCell ⟨g, 3, none⟩ (.int .i64 r')).drew = w3 at *
  obtain ⟨x0, x1, x2, x3, x4, xf⟩ := cells5 (HT3.out.blk 0 rfl).1
  obtain ⟨y0, y1, y2, y3, y4, yf⟩ := cells5 (HT3.out.blk 3 rfl).1
  go_wp2_with fail
  have HT4 := Lib.hid (HT3.out.set5 3 rfl (.bool lf) (.string lo) (.string hi') (.int .i64 r') (.slice a2 xs.length c2))
  exact bodyPost_ret (res_c1t rfl rfl (load_pg (HT4.out.blk 3 rfl).1) rfl) rfl ⟨a2, c2, rfl, HT4.out.post 1 rfl⟩
theorem merge_page (p q : Pg) (w : World) {v u : Value} (hr : Rl En.enc 4 w v p.list) (hs : Rl En.enc 4 w u q.list) (hb : (p.list.length + q.list.length) * 40 ≤ 140737488355328) : Calls Try.prog 54 #[pgv p v, pgv q u] w (GavePE (mergeP p q) w) := by
  by_cases h : p.leaf = q.leaf ∧ p.high.toList.isEmpty = false ∧ p.high = q.low
  · unfold mergeP
    rw [if_pos h]
    obtain ⟨lf, lo, hi, r, l⟩ := p
    obtain ⟨lf', lo', hi', r', l'⟩ := q
    obtain ⟨h1, h2, h3⟩ := h
    simp only at h1 h2 h3
    subst h1; subst h3
    exact merge_yes lf lo hi hi' r r' l l' w hr hs h2 hb
  · unfold mergeP
    rw [if_neg h]
    exact merge_no p q w hr hs h
theorem rmerge_no (p q : Pg) (w : World) {v u : Value} (hr : Rl En.enc 4 w v p.list) (hs : Rl En.enc 4 w u q.list) (h : ¬ (p.leaf = q.leaf ∧ p.high.toList.isEmpty = false ∧ p.high = q.low)) : Calls Try.prog 45 #[pgv p v, pgv q u] w (GavePE (zeroPg, 72) w) := by
  obtain ⟨lf, lo, hi, r, l⟩ := p
  obtain ⟨lf', lo', hi', r', l'⟩ := q
  simp only at h hr hs
  unfold pgv
  simp only
  have HO := Lib.hid (((One.nil w).nilRow 28 4).alloc3 (.cells #[.bool lf, .string lo, .string hi, .int .i64 r, v] 24) (.cells #[.bool lf', .string lo', .string hi', .int .i64 r', u] 24) (.cells #[.bool false, .string ⟨#[]⟩, .string ⟨#[]⟩, .int .i64 0, .slice none 0 0] 24))
  by_cases h1 : lf = lf'
  · subst h1
    cases h2 : hi.toList.isEmpty with
    | true =>
      clear h hr hs
      go_enter Try.func45, Try.ntmps45
      go_wp2_with fail
      exact bodyPost_ret (res_c1t rfl rfl (load_pg (HO.out.blk 0 rfl).1) rfl) rfl ⟨none, 0, rfl, HO.out.post 3 rfl⟩
    | false =>
      have h3 : (hi.toList == lo'.toList) = false := beq_str_false (fun e => h ⟨rfl, h2, e⟩)
      have h4 : (hi.toList != lo'.toList) = true := by unfold bne; rw [h3]; rfl
      clear h hr hs
      go_enter Try.func45, Try.ntmps45
      go_wp2_with fail
      exact bodyPost_ret (res_c1t rfl rfl (load_pg (HO.out.blk 0 rfl).1) rfl) rfl ⟨none, 0, rfl, HO.out.post 3 rfl⟩
  · have h2 : (lf != lf') = true := by simpa using h1
    clear h hr hs
    go_enter Try.func45, Try.ntmps45
    go_wp2_with fail
    exact bodyPost_ret (res_c1t rfl rfl (load_pg (HO.out.blk 0 rfl).1) rfl) rfl ⟨none, 0, rfl, HO.out.post 3 rfl⟩
theorem rmerge_yes (lf : Bool) (lo hi hi' : ByteArray) (r r' : Int) (l m : List En) (w : World) {v u : Value} (hr : Rl En.enc 4 w v l) (hs : Rl En.enc 4 w u m) (h : hi.toList.isEmpty = false) (hb : (l.length + m.length) * 40 ≤ 140737488355328) :
    Calls Try.prog 45 #[.agg #[.bool lf, .string lo, .string hi, .int .i64 r, v], .agg #[.bool lf, .string hi, .string hi', .int .i64 r', u]] w (GavePE (⟨lf, lo, hi', r', l ++ m⟩, 0) w) := by
  have h2 : (hi.toList != hi.toList) = false := by simp
  have h3 : (lf != lf) = false := by simp
  obtain ⟨a0, c0, rfl, hc0, hrd⟩ := hr
  obtain ⟨a1, c1, rfl, hc1, hsd⟩ := hs
  have HO := Lib.hid ((One.nil w).alloc3 (.cells #[.bool lf, .string lo, .string hi, .int .i64 r, .slice a0 l.length c0] 24) (.cells #[.bool lf, .string hi, .string hi', .int .i64 r', .slice a1 m.length c1] 24) (.cells #[.bool false, .string ⟨#[]⟩, .string ⟨#[]⟩, .int .i64 0, .slice none 0 0] 24))
  have HR := Lib.hid (clone_ref ⟨lf, lo, hi, r, l⟩ _ ((Rl.of_rd hrd hc0).kn HO.out.old) (by unfold maxLen; simp only; omega) (by simp only; omega))
  have HS := Lib.hid (Rl.of_rd hsd hc1)
  clear hrd hsd
  go_enter Try.func45, Try.ntmps45
  go_wp2_with fail
  refine HR.out.mono ?_
  rintro e w1 ⟨a2, c2, rfl, hpo⟩
  have HO1 := Lib.hid (HO.out.add hpo)
  clear hpo HO HR
  obtain ⟨x0, x1, x2, x3, x4, xf⟩ := cells5 (HO1.out.blk 2 rfl).1
  go_upto_region 4 with fail
  have HO2 := Lib.hid (HO1.out.alloc (.cells #[.bool lf, .string lo, .string hi, .int .i64 r, .slice a2 l.length c2] 24))
  clear x0 x1 x2 x3 x4 xf HO1
  generalize w1.alloc (.cells #[.bool lf, .string lo, .string hi, .int .i64 r, .slice a2 l.length c2] 24) = w2 at *
  generalize w1.heap.size = g at *
  obtain ⟨x0, x1, x2, x3, x4, xf⟩ := cells5 (HO2.out.blk 3 rfl).1
  obtain ⟨y0, y1, y2, y3, y4, yf⟩ := cells5 (HO2.out.blk 0 rfl).1
  have HS2 := Lib.hid (HS.out.kn HO2.out.old)
  go_upto_region 5 with (at_builtin; refine wpList_appL 31 rfl rfl rfl rfl elt_En HO2.out 1 rfl rfl rfl enc4 HS2.out enc1 (by unfold maxLen; omega) (by omega) ?_; intro a3 c3 w3 ho; have HO3 := Lib.hid ho; obtain ⟨x0', x1', x2', x3', x4', xf'⟩ := cells5 (HO3.out.blk 3 rfl).1; obtain ⟨y0', y1', y2', y3', y4', yf'⟩ := cells5 (HO3.out.blk 0 rfl).1)
  clear x0 x1 x2 x3 x4 xf y0 y1 y2 y3 y4 yf x0' x1' x2' x3' x4' xf' y0' y1' y2' y3' y4' yf' HO2 HS2
  have HT := Lib.hid (show One w (w3.setCell ⟨g, 4, none⟩ (.slice a3 (l.length + m.length) c3)) [Blk g (.cells #[.bool lf, .string lo, .string hi, .int .i64 r, .slice a3 (l.length + m.length) c3] 24), RowA 28 4 (.slice a3 (l.length + m.length) c3) (l.length + m.length) (l.flatMap En.enc ++ m.flatMap En.enc), Blk (w.heap.size + 1 + 1) (.cells #[.bool false, .string ⟨#[]⟩, .string ⟨#[]⟩, .int .i64 0, .slice none 0 0] 24),
    Blk (w.heap.size + 1) (.cells #[.bool lf, .string hi, .string hi', .int .i64 r', .slice a1 m.length c1] 24), Blk w.heap.size (.cells #[.bool lf, .string lo, .string hi, .int .i64 r, .slice a0 l.length c0] 24)] from HO3.out.setC 0 rfl _)
  clear HO3 ho
  generalize w3.setCell ⟨g, 4, none⟩ (.slice a3 (l.length + m.length) c3) = w4 at *
  rw [← List.flatMap_append, ← List.length_append] at HT
  rw [← List.length_append]
  generalize l ++ m = xs at *
  obtain ⟨x0, x1, x2, x3, x4, xf⟩ := cells5 (HT.out.blk 3 rfl).1
  obtain ⟨y0, y1, y2, y3, y4, yf⟩ := cells5 (HT.out.blk 0 rfl).1
  have HT0 := Lib.hid (HT.out.setC 0 rfl (j := 2) (.string hi'))
  have HT1 := Lib.hid (HT0.out.kn ((Kp.refl _ _).drew))
  have HT2 := Lib.hid ((HT0.out.setC 0 rfl (j := 3) (.int .i64 r')).kn ((Kp.refl _ _).drew))
  have K1 := Lib.hid (cells5' (HT1.out.blk 3 rfl).1)
  have K2 := Lib.hid (cells5' (HT2.out.blk 3 rfl).1)
  go_region_held3 (fun w' => w'.cell? ⟨w.heap.size + 1, 0, none⟩ = some (.bool lf) ∧ w'.cell? ⟨w.heap.size + 1, 1, none⟩ = some (.string hi) ∧ w'.cell? ⟨w.heap.size + 1, 2, none⟩ = some (.string hi') ∧ w'.cell? ⟨w.heap.size + 1, 3, none⟩ = some (.int .i64 r') ∧ w'.cell? ⟨w.heap.size + 1, 4, none⟩ = some (.slice a1 m.length c1)) (first | (with_reducible exact K1.out) | (with_reducible exact K2.out) | go_keep) (fail)
  clear x0 x1 x2 x3 x4 xf y0 y1 y2 y3 y4 yf K1 K2 HT0 HT1 HT
  have HT3 := Lib.hid (show One w ((w4.setCell ⟨g, 2, none⟩ (.string hi')).setCell ⟨g, 3, none⟩ (.int .i64 r')).drew [Blk g (.cells #[.bool lf, .string lo, .string hi', .int .i64 r', .slice a3 xs.length c3] 24), RowE a3 c3 xs, Blk (w.heap.size + 1 + 1) (.cells #[.bool false, .string ⟨#[]⟩, .string ⟨#[]⟩, .int .i64 0, .slice none 0 0] 24),
    Blk (w.heap.size + 1) (.cells #[.bool lf, .string hi, .string hi', .int .i64 r', .slice a1 m.length c1] 24), Blk w.heap.size (.cells #[.bool lf, .string lo, .string hi, .int .i64 r, .slice a0 l.length c0] 24)] from HT2.out)
  generalize ((w4.setCell ⟨g, 2, none⟩ (.string hi')).setCell ⟨g, 3, none⟩ (.int .i64 r')).drew = w5 at *
  obtain ⟨x0, x1, x2, x3, x4, xf⟩ := cells5 (HT3.out.blk 0 rfl).1
  obtain ⟨y0, y1, y2, y3, y4, yf⟩ := cells5 (HT3.out.blk 2 rfl).1
  go_wp2_with fail
  have HT4 := Lib.hid (HT3.out.set5 2 rfl (.bool lf) (.string lo) (.string hi') (.int .i64 r') (.slice a3 xs.length c3))
  exact bodyPost_ret (res_c1t rfl rfl (load_pg (HT4.out.blk 2 rfl).1) rfl) rfl ⟨a3, c3, rfl, HT4.out.post 1 rfl⟩
theorem merge_ref (p q : Pg) (w : World) {v u : Value} (hr : Rl En.enc 4 w v p.list) (hs : Rl En.enc 4 w u q.list) (hb : (p.list.length + q.list.length) * 40 ≤ 140737488355328) : Calls Try.prog 45 #[pgv p v, pgv q u] w (GavePE (mergeP p q) w) := by
  by_cases h : p.leaf = q.leaf ∧ p.high.toList.isEmpty = false ∧ p.high = q.low
  · unfold mergeP
    rw [if_pos h]
    obtain ⟨lf, lo, hi, r, l⟩ := p
    obtain ⟨lf', lo', hi', r', l'⟩ := q
    obtain ⟨h1, h2, h3⟩ := h
    simp only at h1 h2 h3
    subst h1; subst h3
    exact rmerge_yes lf lo hi hi' r r' l l' w hr hs h2 hb
  · unfold mergeP
    rw [if_neg h]
    exact rmerge_no p q w hr hs h
end Go.Proofs.Ytkdlodjpambelaa

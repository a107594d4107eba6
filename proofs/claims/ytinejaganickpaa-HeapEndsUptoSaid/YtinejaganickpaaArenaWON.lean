/- Arenas of cresset/heap.node: Get, Set, Free, Slots, Live, Stale. -/
import Derived.Test.YtinejaganickpaaArenaWMN
namespace Go.Proofs.Ytinejaganickpaa
set_option linter.unusedVariables false
set_option linter.unusedSimpArgs false
open Go Go.RowKit

section
variable {t sb m cx : Nat} {v : Value} {arr : Array Value} {l : List (Slot No)} {st : Int} {w w' : World} {F : Nat → Prop}
theorem get_good_N {i : Nat} {s : Slot No} (h : (ArN t l st).on w F) (hs : l[i]? = some s) (hg : s.given = true) : Calls Try.prog 45 #[.pointer (some ⟨t, 0, none⟩), .agg #[.int .i64 i, .int .i64 s.gen]] w fun e w' => e = .returned (.tuple #[.agg #[.int .i64 s.has.has.tS, .string s.has.has.value, .bool s.has.has.del, .int .i64 s.has.older.slot, .int .i64 s.has.older.gen], .int .i64 0]) ∧ KN w w' := by
  obtain ⟨sb, m, cx, v, arr, ha, hp⟩ := ar_here_N h
  have hk : KN w ((w.alloc (.cells #[.int .i64 i, .int .i64 s.gen] 36)).alloc (.cells #[.int .i64 0, .string ⟨#[]⟩, .bool false, .int .i64 0, .int .i64 0] 98)) := (kn_alloc _ _).alloc _
  obtain ⟨x0, x1, _, _⟩ := cells2 (blk_alloc (.cells #[.int .i64 0, .string ⟨#[]⟩, .bool false, .int .i64 0, .int .i64 0] 98) (heap_alloc_same w (.cells #[.int .i64 i, .int .i64 s.gen] 36)))
  have hsz : (w.alloc (.cells #[.int .i64 i, .int .i64 s.gen] 36)).heap.size = w.heap.size + 1 := by simp
  have hz := heap_alloc_same (w.alloc (.cells #[.int .i64 i, .int .i64 s.gen] 36)) (.cells #[.int .i64 0, .string ⟨#[]⟩, .bool false, .int .i64 0, .int .i64 0] 98)
  have hq := (hp.alloc (.cells #[.int .i64 i, .int .i64 s.gen] 36)).alloc (.cells #[.int .i64 0, .string ⟨#[]⟩, .bool false, .int .i64 0, .int .i64 0] 98)
  rw [hsz] at hz hq
  have HZ := Lib.hid hz
  have HP := Lib.hid hq
  have HC := Lib.hid (at_good_N (hp.kn hk) ha hs hg)
  have HE := Lib.hid (fun (W : World) (k : KN w W) => (hp.kn k).slotN ha hs)
  clear h hs hg hk ha hp hz hq hsz
  go_enter Try.func45, Try.ntmps45
  go_wp2_with fail
  refine HC.out.mono ?_
  rintro e w5 ⟨rfl, hk5⟩
  have HK := Lib.hid (((kn_alloc w (.cells #[.int .i64 i, .int .i64 s.gen] 36)).alloc (.cells #[.int .i64 0, .string ⟨#[]⟩, .bool false, .int .i64 0, .int .i64 0] 98)).trans hk5 (fun _ h => h.elim))
  have e0 : w5.cell? ⟨sb, i * 7, none⟩ = some (.int .i64 s.has.has.tS) := HE.out _ HK.out 0 (by omega)
  have e1 : w5.cell? ⟨sb, i * 7 + 1, none⟩ = some (.string s.has.has.value) := HE.out _ HK.out 1 (by omega)
  have e2 : w5.cell? ⟨sb, i * 7 + 2, none⟩ = some (.bool s.has.has.del) := HE.out _ HK.out 2 (by omega)
  have e3 : w5.cell? ⟨sb, i * 7 + 3, none⟩ = some (.int .i64 s.has.older.slot) := HE.out _ HK.out 3 (by omega)
  have e4 : w5.cell? ⟨sb, i * 7 + 4, none⟩ = some (.int .i64 s.has.older.gen) := HE.out _ HK.out 4 (by omega)
  have HZ5 := Lib.hid (hk5.blk HZ.out id)
  have HP5 := Lib.hid (HP.out.kn hk5)
  have z0 : w5.cell? ⟨w.heap.size + 1, 0, none⟩ = some (.int .i64 0) := cell_blk HZ5.out rfl
  have z1 : w5.cell? ⟨w.heap.size + 1, 1, none⟩ = some (.string ⟨#[]⟩) := cell_blk HZ5.out rfl
  have z2 : w5.cell? ⟨w.heap.size + 1, 2, none⟩ = some (.bool false) := cell_blk HZ5.out rfl
  have z3 : w5.cell? ⟨w.heap.size + 1, 3, none⟩ = some (.int .i64 0) := cell_blk HZ5.out rfl
  have z4 : w5.cell? ⟨w.heap.size + 1, 4, none⟩ = some (.int .i64 0) := cell_blk HZ5.out rfl
  have zf : ∀ j, w5.frozen? ⟨w.heap.size + 1, j, none⟩ = false := fun j => free_blk HZ5.out
  clear hk5 HZ HZ5 HP HC HE
  go_wp2_with fail
  have HP6 := HP5.out.setRow (i := 0) (base := 0) [(0, .int .i64 s.has.has.tS), (1, .string s.has.has.value), (2, .bool s.has.has.del), (3, .int .i64 s.has.older.slot), (4, .int .i64 s.has.older.gen)] rfl
  simp only [List.foldl_cons, List.foldl_nil, List.set_cons_zero, List.set_cons_succ, Nat.zero_add] at HP6
  have hk6 := kn_row (g := w.heap.size + 1) (base := 0) (by omega) [(0, .int .i64 s.has.has.tS), (1, .string s.has.has.value), (2, .bool s.has.has.del), (3, .int .i64 s.has.older.slot), (4, .int .i64 s.has.older.gen)] HK.out
  simp only [List.foldl_cons, List.foldl_nil, Nat.zero_add] at hk6
  have hb := HP6.blk 0 rfl
  have r0 := cell_blk hb (i := 0) (v := .int .i64 s.has.has.tS) rfl
  have r1 := cell_blk hb (i := 1) (v := .string s.has.has.value) rfl
  have r2 := cell_blk hb (i := 2) (v := .bool s.has.has.del) rfl
  have r3 := cell_blk hb (i := 3) (v := .int .i64 s.has.older.slot) rfl
  have r4 := cell_blk hb (i := 4) (v := .int .i64 s.has.older.gen) rfl
  exact bodyPost_ret (v := .tuple #[.agg #[.int .i64 s.has.has.tS, .string s.has.has.value, .bool s.has.has.del, .int .i64 s.has.older.slot, .int .i64 s.has.older.gen], .int .i64 0]) (by simp [results, Try.results45, go_sem, r0, r1, r2, r3, r4]) rfl ⟨rfl, hk6⟩
theorem get_bad_N {i g : Int} (h : (ArN t l st).on w F) (hb : goodAt l i g = none) (hst : 0 ≤ st ∧ st ≤ 4611686018427387904) : Calls Try.prog 45 #[.pointer (some ⟨t, 0, none⟩), .agg #[.int .i64 i, .int .i64 g]] w fun e w' => e = .returned (.tuple #[.agg #[.int .i64 0, .string ⟨#[]⟩, .bool false, .int .i64 0, .int .i64 0], .int .i64 7]) ∧ Post (ArN t l (st + 1)) F w w' := by
  have hk : KN w ((w.alloc (.cells #[.int .i64 i, .int .i64 g] 36)).alloc (.cells #[.int .i64 0, .string ⟨#[]⟩, .bool false, .int .i64 0, .int .i64 0] 98)) := (kn_alloc _ _).alloc _
  have hlt : ¬ F (w.heap.size + 1) := fun hf => by have := (ArN t l st).lt h _ hf; omega
  obtain ⟨sb, m, cx, v, arr, ha, hp⟩ := ar_here_N ((ArN t l st).kn h hk)
  obtain ⟨x0, x1, _, _⟩ := cells2 (blk_alloc (.cells #[.int .i64 0, .string ⟨#[]⟩, .bool false, .int .i64 0, .int .i64 0] 98) (heap_alloc_same w (.cells #[.int .i64 i, .int .i64 g] 36)))
  have hsz : (w.alloc (.cells #[.int .i64 i, .int .i64 g] 36)).heap.size = w.heap.size + 1 := by simp
  have hz := heap_alloc_same (w.alloc (.cells #[.int .i64 i, .int .i64 g] 36)) (.cells #[.int .i64 0, .string ⟨#[]⟩, .bool false, .int .i64 0, .int .i64 0] 98)
  rw [hsz] at hz
  have HZ := Lib.hid hz
  have HC := Lib.hid (at_bad_N hp ha hb hst)
  have HA := Lib.hid ha
  clear h ha hp hb hst hz hsz
  go_enter Try.func45, Try.ntmps45
  go_wp2_with fail
  refine HC.out.mono ?_
  rintro e w5 ⟨rfl, hp5⟩
  have HP := Lib.hid hp5
  have HZ5 := Lib.hid (hp5.kp.blk HZ.out hlt)
  have z0 : w5.cell? ⟨w.heap.size + 1, 0, none⟩ = some (.int .i64 0) := cell_blk HZ5.out rfl
  have z1 : w5.cell? ⟨w.heap.size + 1, 1, none⟩ = some (.string ⟨#[]⟩) := cell_blk HZ5.out rfl
  have z2 : w5.cell? ⟨w.heap.size + 1, 2, none⟩ = some (.bool false) := cell_blk HZ5.out rfl
  have z3 : w5.cell? ⟨w.heap.size + 1, 3, none⟩ = some (.int .i64 0) := cell_blk HZ5.out rfl
  have z4 : w5.cell? ⟨w.heap.size + 1, 4, none⟩ = some (.int .i64 0) := cell_blk HZ5.out rfl
  have zf : ∀ j, w5.frozen? ⟨w.heap.size + 1, j, none⟩ = false := fun j => free_blk HZ5.out
  have hs5 := lt_blk HZ5.out
  clear hp5 HZ
  go_wp2_with fail
  have k6 := (kp_row (S := (· = w.heap.size + 1)) (g := w.heap.size + 1) (base := 0) (.inl rfl) [(0, .int .i64 0), (1, .string ⟨#[]⟩), (2, .bool false), (3, .int .i64 0), (4, .int .i64 0)] (Kp.refl _ w5)).alloc (.cells #[.int .i64 0, .string ⟨#[]⟩, .bool false, .int .i64 0, .int .i64 0] 98)
  simp only [List.foldl_cons, List.foldl_nil, Nat.zero_add] at k6
  have hb6 := blk_alloc (.cells #[.int .i64 0, .string ⟨#[]⟩, .bool false, .int .i64 0, .int .i64 0] 98) (blk_row (base := 0) [(0, .int .i64 0), (1, .string ⟨#[]⟩), (2, .bool false), (3, .int .i64 0), (4, .int .i64 0)] HZ5.out)
  simp only [List.foldl_cons, List.foldl_nil, Nat.zero_add] at hb6
  have r0 := cell_blk hb6 (i := 0) (v := .int .i64 0) rfl
  have r1 := cell_blk hb6 (i := 1) (v := .string ⟨#[]⟩) rfl
  have r2 := cell_blk hb6 (i := 2) (v := .bool false) rfl
  have r3 := cell_blk hb6 (i := 3) (v := .int .i64 0) rfl
  have r4 := cell_blk hb6 (i := 4) (v := .int .i64 0) rfl
  exact bodyPost_ret (v := .tuple #[.agg #[.int .i64 0, .string ⟨#[]⟩, .bool false, .int .i64 0, .int .i64 0], .int .i64 7]) (by simp [results, Try.results45, go_sem, r0, r1, r2, r3, r4]) rfl ⟨rfl, Post.aside hk (Pw.arN HP.out HA.out) (by omega) (by simp) hlt k6⟩
theorem set_bad_N {i g : Int} (h : (ArN t l st).on w F) (hb : goodAt l i g = none) (hst : 0 ≤ st ∧ st ≤ 4611686018427387904) (x : No) : Calls Try.prog 46 #[.pointer (some ⟨t, 0, none⟩), .agg #[.int .i64 i, .int .i64 g], .agg #[.int .i64 x.has.tS, .string x.has.value, .bool x.has.del, .int .i64 x.older.slot, .int .i64 x.older.gen]] w fun e w' => e = .returned (.int .i64 7) ∧ Post (ArN t l (st + 1)) F w w' := by
  obtain ⟨sb, m, cx, v, arr, ha, hp⟩ := ar_here_N h
  have hk : KN w ((w.alloc (.cells #[.int .i64 i, .int .i64 g] 36)).alloc (.cells #[.int .i64 x.has.tS, .string x.has.value, .bool x.has.del, .int .i64 x.older.slot, .int .i64 x.older.gen] 98)) := (kn_alloc _ _).alloc _
  obtain ⟨x0, x1, _, _⟩ := cells2 (blk_alloc (.cells #[.int .i64 x.has.tS, .string x.has.value, .bool x.has.del, .int .i64 x.older.slot, .int .i64 x.older.gen] 98) (heap_alloc_same w (.cells #[.int .i64 i, .int .i64 g] 36)))
  have HC := Lib.hid (at_bad_N (hp.kn hk) ha hb hst)
  have HA := Lib.hid ha
  clear h hk ha hp hb hst
  go_enter Try.func46, Try.ntmps46
  go_wp2_with fail
  refine HC.out.mono ?_
  rintro e w5 ⟨rfl, hp5⟩
  have HP := Lib.hid hp5
  clear hp5
  go_wp2_with fail
  go_ret
  exact ⟨rfl, Pw.arN HP.out HA.out⟩
theorem set_good_N {i : Nat} {s : Slot No} (h : (ArN t l st).on w F) (hs : l[i]? = some s) (hg : s.given = true) (x : No) : Calls Try.prog 46 #[.pointer (some ⟨t, 0, none⟩), .agg #[.int .i64 i, .int .i64 s.gen], .agg #[.int .i64 x.has.tS, .string x.has.value, .bool x.has.del, .int .i64 x.older.slot, .int .i64 x.older.gen]] w fun e w' => e = .returned (.int .i64 0) ∧ Post (ArN t (l.set i ⟨x, s.gen, s.given⟩) st) F w w' := by
  obtain ⟨sb, m, cx, v, arr, ha, hp⟩ := ar_here_N h
  have hk : KN w ((w.alloc (.cells #[.int .i64 i, .int .i64 s.gen] 36)).alloc (.cells #[.int .i64 x.has.tS, .string x.has.value, .bool x.has.del, .int .i64 x.older.slot, .int .i64 x.older.gen] 98)) := (kn_alloc _ _).alloc _
  obtain ⟨x0, x1, _, _⟩ := cells2 (blk_alloc (.cells #[.int .i64 x.has.tS, .string x.has.value, .bool x.has.del, .int .i64 x.older.slot, .int .i64 x.older.gen] 98) (heap_alloc_same w (.cells #[.int .i64 i, .int .i64 s.gen] 36)))
  have hsz : (w.alloc (.cells #[.int .i64 i, .int .i64 s.gen] 36)).heap.size = w.heap.size + 1 := by simp
  have hz := heap_alloc_same (w.alloc (.cells #[.int .i64 i, .int .i64 s.gen] 36)) (.cells #[.int .i64 x.has.tS, .string x.has.value, .bool x.has.del, .int .i64 x.older.slot, .int .i64 x.older.gen] 98)
  rw [hsz] at hz
  have HZ := Lib.hid hz
  have HC := Lib.hid (at_good_N (hp.kn hk) ha hs hg)
  have HE := Lib.hid (fun (W : World) (k : KN w W) => And.intro ((hp.kn k).slotN ha hs) ((hp.kn k).atN).2.2.1)
  have HP := Lib.hid hp
  have ha3 := ha.sets (x' := ⟨x, s.gen, s.given⟩) [(0, .int .i64 x.has.tS), (1, .string x.has.value), (2, .bool x.has.del), (3, .int .i64 x.older.slot), (4, .int .i64 x.older.gen)] hs rfl rfl rfl
  simp only [List.foldl_cons, List.foldl_nil, Nat.add_zero] at ha3
  have HA := Lib.hid ha3
  have HF := Lib.hid (free_same (s' := (⟨x, s.gen, s.given⟩ : Slot No)) hs rfl)
  clear h hs hg hk ha hp hz hsz ha3
  go_enter Try.func46, Try.ntmps46
  go_wp2_with fail
  refine HC.out.mono ?_
  rintro e w5 ⟨rfl, hk5⟩
  have HK := Lib.hid (((kn_alloc w (.cells #[.int .i64 i, .int .i64 s.gen] 36)).alloc (.cells #[.int .i64 x.has.tS, .string x.has.value, .bool x.has.del, .int .i64 x.older.slot, .int .i64 x.older.gen] 98)).trans hk5 (fun _ h => h.elim))
  obtain ⟨he, ef⟩ := HE.out _ HK.out
  have HE5 := Lib.hid he
  have e0 : w5.cell? ⟨sb, i * 7, none⟩ = some (.int .i64 s.has.has.tS) := HE5.out 0 (by omega)
  have e1 : w5.cell? ⟨sb, i * 7 + 1, none⟩ = some (.string s.has.has.value) := HE5.out 1 (by omega)
  have e2 : w5.cell? ⟨sb, i * 7 + 2, none⟩ = some (.bool s.has.has.del) := HE5.out 2 (by omega)
  have e3 : w5.cell? ⟨sb, i * 7 + 3, none⟩ = some (.int .i64 s.has.older.slot) := HE5.out 3 (by omega)
  have e4 : w5.cell? ⟨sb, i * 7 + 4, none⟩ = some (.int .i64 s.has.older.gen) := HE5.out 4 (by omega)
  have HZ5 := Lib.hid (hk5.blk HZ.out id)
  have y0 : w5.cell? ⟨w.heap.size + 1, 0, none⟩ = some (.int .i64 x.has.tS) := cell_blk HZ5.out rfl
  have y1 : w5.cell? ⟨w.heap.size + 1, 1, none⟩ = some (.string x.has.value) := cell_blk HZ5.out rfl
  have y2 : w5.cell? ⟨w.heap.size + 1, 2, none⟩ = some (.bool x.has.del) := cell_blk HZ5.out rfl
  have y3 : w5.cell? ⟨w.heap.size + 1, 3, none⟩ = some (.int .i64 x.older.slot) := cell_blk HZ5.out rfl
  have y4 : w5.cell? ⟨w.heap.size + 1, 4, none⟩ = some (.int .i64 x.older.gen) := cell_blk HZ5.out rfl
  clear hk5 he HE HE5 HZ HZ5 HC
  go_wp2_with fail
  go_ret
  refine ⟨rfl, ?_⟩
  have h1 := (HP.out.kn HK.out).setRow (i := 1) (base := i * 7) [(0, .int .i64 x.has.tS), (1, .string x.has.value), (2, .bool x.has.del), (3, .int .i64 x.older.slot), (4, .int .i64 x.older.gen)] rfl
  simp only [List.foldl_cons, List.foldl_nil, Nat.add_zero] at h1
  exact Pw.ar2N h1 HA.out (by simp) HF.out
theorem slots_N (h : (ArN t l st).on w F) : Calls Try.prog 60 #[.pointer (some ⟨t, 0, none⟩)] w fun e w' => e = .returned (.int .i64 l.length) ∧ w = w' := by
  obtain ⟨sb, m, cx, v, arr, ha, hp⟩ := ar_here_N h
  have HC := Lib.hid (none_N hp)
  obtain ⟨⟨c0, c1, c2⟩, _⟩ := hp.atN
  clear h hp ha
  go_enter Try.func60, Try.ntmps60
  go_wp2_with fail
  refine HC.out.mono ?_
  rintro e w5 ⟨rfl, rfl⟩
  go_wp2_with fail
  go_ret
  exact ⟨rfl, rfl⟩
theorem live_N (h : (ArN t l st).on w F) (hm : l.length ≤ 65536) : Calls Try.prog 54 #[.pointer (some ⟨t, 0, none⟩)] w fun e w' => e = .returned (.int .i64 ((l.length : Int) - (freeOf l).length)) ∧ KN w w' := by
  obtain ⟨sb, m, cx, v, arr, ha, hp⟩ := ar_here_N h
  have HC := Lib.hid (none_N hp)
  obtain ⟨F1, hw, _⟩ := hp.get 2 rfl
  obtain ⟨a, cap, rfl, _⟩ := WinA.form hw
  obtain ⟨⟨c0, c1, c2⟩, _⟩ := hp.atN
  have hfl := free_len l
  have hwr : IntKind.i64.wrap ((l.length : Int) - ((freeOf l).length : Int)) = (l.length : Int) - (freeOf l).length := Go.IntWalk.i64_in _ (by omega)
  clear h hp ha hw
  generalize (freeOf l).length = q at *
  generalize l.length = n at *
  go_enter Try.func54, Try.ntmps54
  go_wp2_with fail
  refine HC.out.mono ?_
  rintro e w5 ⟨rfl, rfl⟩
  go_wp2_with fail
  go_quiet (fail)
  go_wp2_with fail
  go_ret
  exact ⟨rfl, (Kp.refl _ _).drewN _⟩
theorem stale_N (h : (ArN t l st).on w F) : Calls Try.prog 51 #[.pointer (some ⟨t, 0, none⟩)] w fun e w' => e = .returned (.int .i64 st) ∧ w = w' := by
  obtain ⟨sb, m, cx, v, arr, ha, hp⟩ := ar_here_N h
  have HC := Lib.hid (none_N hp)
  obtain ⟨⟨c0, c1, c2⟩, _⟩ := hp.atN
  have HL := Lib.hid (aload (hp.blk 3 rfl))
  clear h hp ha
  go_enter Try.func51, Try.ntmps51
  go_wp2_with fail
  refine HC.out.mono ?_
  rintro e w5 ⟨rfl, rfl⟩
  go_wp2_with fail
  refine HL.out.mono ?_
  rintro e w5 ⟨rfl, rfl⟩
  go_wp2_with fail
  go_ret
  exact ⟨rfl, rfl⟩
theorem free_bad_N {i g : Int} (h : (ArN t l st).on w F) (hb : goodAt l i g = none) (hst : 0 ≤ st ∧ st ≤ 4611686018427387904) : Calls Try.prog 57 #[.pointer (some ⟨t, 0, none⟩), .agg #[.int .i64 i, .int .i64 g]] w fun e w' => e = .returned (.int .i64 7) ∧ Post (ArN t l (st + 1)) F w w' := by
  obtain ⟨sb, m, cx, v, arr, ha, hp⟩ := ar_here_N h
  have hk := kn_alloc w (.cells #[.int .i64 i, .int .i64 g] 36)
  obtain ⟨x0, x1, _, _⟩ := cells2 (heap_alloc_same w (.cells #[.int .i64 i, .int .i64 g] 36))
  have HC := Lib.hid (at_bad_N (hp.kn hk) ha hb hst)
  have HA := Lib.hid ha
  clear h hk ha hp hb hst
  go_enter Try.func57, Try.ntmps57
  go_wp2_with fail
  refine HC.out.mono ?_
  rintro e w5 ⟨rfl, hp5⟩
  have HP := Lib.hid hp5
  clear hp5
  go_wp2_with fail
  go_ret
  exact ⟨rfl, Pw.arN HP.out HA.out⟩
set_option maxHeartbeats 2000000 in
theorem free_good_N {i : Nat} {s : Slot No} (h : (ArN t l st).on w F) (hs : l[i]? = some s) (hg : s.given = true) (hm : l.length ≤ 65536) : Calls Try.prog 57 #[.pointer (some ⟨t, 0, none⟩), .agg #[.int .i64 i, .int .i64 s.gen]] w fun e w' => e = .returned (.int .i64 0) ∧ Post (ArN t (l.set i ⟨(⟨⟨0, ⟨#[]⟩, false⟩, ⟨0, 0⟩⟩ : No), s.gen, false⟩) st) F w w' := by
  obtain ⟨sb, m, cx, v, arr, ha, hp⟩ := ar_here_N h
  have hil := (List.getElem?_eq_some_iff.1 hs).1
  have hk := kn_alloc w (.cells #[.int .i64 i, .int .i64 s.gen] 36)
  obtain ⟨x0, x1, _, _⟩ := cells2 (heap_alloc_same w (.cells #[.int .i64 i, .int .i64 s.gen] 36))
  have HC := Lib.hid (at_good_N (hp.kn hk) ha hs hg)
  have HP := Lib.hid (hp.alloc (.cells #[.int .i64 i, .int .i64 s.gen] 36))
  have HAS := Lib.hid (And.intro ha hs)
  have HFB := Lib.hid (free_back (s' := (⟨(⟨⟨0, ⟨#[]⟩, false⟩, ⟨0, 0⟩⟩ : No), s.gen, false⟩ : Slot No)) hs hg rfl)
  have hfl := free_len l
  have HSo := Lib.hid (free_sorted l)
  clear h hs hg hk ha hp
  go_enter Try.func57, Try.ntmps57
  go_wp2_with fail
  refine HC.out.mono ?_
  rintro e w5 ⟨rfl, hk5⟩
  have HP5 := Lib.hid (HP.out.kn hk5)
  clear hk5 HP HC x0 x1
  generalize w.heap.size = gh at *
  have hb1 := HP5.out.blk 2 rfl
  have e0 : w5.cell? ⟨sb, i * 7, none⟩ = some (.int .i64 s.has.has.tS) := cell_blk hb1 (HAS.out.1.cell HAS.out.2 (j := 0) (by omega))
  have e1 : w5.cell? ⟨sb, i * 7 + 1, none⟩ = some (.string s.has.has.value) := cell_blk hb1 (HAS.out.1.cell HAS.out.2 (j := 1) (by omega))
  have e2 : w5.cell? ⟨sb, i * 7 + 2, none⟩ = some (.bool s.has.has.del) := cell_blk hb1 (HAS.out.1.cell HAS.out.2 (j := 2) (by omega))
  have e3 : w5.cell? ⟨sb, i * 7 + 3, none⟩ = some (.int .i64 s.has.older.slot) := cell_blk hb1 (HAS.out.1.cell HAS.out.2 (j := 3) (by omega))
  have e4 : w5.cell? ⟨sb, i * 7 + 4, none⟩ = some (.int .i64 s.has.older.gen) := cell_blk hb1 (HAS.out.1.cell HAS.out.2 (j := 4) (by omega))
  have eg : w5.cell? ⟨sb, i * 7 + 6, none⟩ = some (.bool s.given) := cell_blk hb1 (HAS.out.1.cell HAS.out.2 (j := 6) (by omega))
  have ef : ∀ j, w5.frozen? ⟨sb, j, none⟩ = false := fun j => free_blk hb1
  have hs5 : sb < w5.heap.size := lt_blk hb1
  clear hb1
  go_upto_region 6 with fail
  have h6 := HP5.out.setRow (i := 2) (base := i * 7) [(0, .int .i64 0), (1, .string ⟨#[]⟩), (2, .bool false), (3, .int .i64 0), (4, .int .i64 0), (6, .bool false)] rfl
  simp only [List.foldl_cons, List.foldl_nil, List.set_cons_zero, List.set_cons_succ, Nat.add_zero] at h6
  have a2 := HAS.out.1.sets (x' := ⟨(⟨⟨0, ⟨#[]⟩, false⟩, ⟨0, 0⟩⟩ : No), s.gen, false⟩) [(0, .int .i64 0), (1, .string ⟨#[]⟩), (2, .bool false), (3, .int .i64 0), (4, .int .i64 0), (6, .bool false)] HAS.out.2 rfl rfl rfl
  simp only [List.foldl_cons, List.foldl_nil, Nat.add_zero] at a2
  generalize ((((((arr.setIfInBounds (i * 7) (.int .i64 0)).setIfInBounds (i * 7 + 1) (.string ⟨#[]⟩)).setIfInBounds (i * 7 + 2) (.bool false)).setIfInBounds (i * 7 + 3) (.int .i64 0)).setIfInBounds (i * 7 + 4) (.int .i64 0)).setIfInBounds (i * 7 + 6) (.bool false)) = arr6 at h6 a2
  have HP6 := Lib.hid (h6.kn (kn_alloc _ (.cells #[.int .i64 0, .string ⟨#[]⟩, .bool false, .int .i64 0, .int .i64 0] 98)))
  have HA6 := Lib.hid a2
  clear HP5 eg ef e0 e1 e2 e3 e4 h6 a2 HAS hs5
  generalize ((((((w5.setCell ⟨sb, i * 7, none⟩ (.int .i64 0)).setCell ⟨sb, i * 7 + 1, none⟩ (.string ⟨#[]⟩)).setCell ⟨sb, i * 7 + 2, none⟩ (.bool false)).setCell ⟨sb, i * 7 + 3, none⟩ (.int .i64 0)).setCell ⟨sb, i * 7 + 4, none⟩ (.int .i64 0)).setCell ⟨sb, i * 7 + 6, none⟩ (.bool false)).alloc (.cells #[.int .i64 0, .string ⟨#[]⟩, .bool false, .int .i64 0, .int .i64 0] 98) = w6 at *
  have c1 : w6.cell? ⟨t, 1, none⟩ = some v := cell_blk (HP6.out.blk 1 rfl) rfl
  obtain ⟨x0, x1, _, _⟩ := cells2 (HP6.out.blk 0 rfl)
  have HSe := Lib.hid (fun (W : World) (k : KN w6 W) => show Calls Try.prog 73 #[v, .int .i64 (i : Int)] W _ from by
    obtain ⟨F1, hw, _⟩ := (HP6.out.kn k).get 3 rfl
    exact search_w hw (i : Int) HSo.out (by omega))
  go_region_held3 (fun w' => w'.cell? ⟨t, 1, none⟩ = some v ∧ w'.cell? ⟨gh, 0, none⟩ = some (.int .i64 (i : Int))) (go_keep) ((go_at_call 73; refine (HSe.out _ (Kp.refl _ _).drew).mono ?_; rintro e w7 ⟨rfl, q, hw7⟩; subst hw7))
  have HP7 := Lib.hid (HP6.out.kn ((Kp.refl (fun _ => False) w6).drew.drewN q))
  have c1' : (w6.drewN (1 + q)).cell? ⟨t, 1, none⟩ = some v := c1
  have x0' : (w6.drewN (1 + q)).cell? ⟨gh, 0, none⟩ = some (.int .i64 (i : Int)) := x0
  have hcl : (freeOf l).countP (· < (i : Int)) ≤ (freeOf l).length := HFB.out.2
  have HIn := Lib.hid (fun (W : World) (vb vc : Nat) (k : KN w6 W) (hvb : w6.heap.size ≤ vb) (hb : W.heap[vb]? = some (.cells #[.int .i64 (i : Int)] 3 (0, 0))) => show Calls Try.prog 74 #[v, .int .i64 (((freeOf l).countP (· < (i : Int)) : Nat) : Int), .slice (some ⟨vb, 0, none⟩) 1 vc] W (fun e w9 => ∃ a9 n9 c9, e = .returned (.slice a9 n9 c9) ∧ Pw F w w9 [Blk gh (.cells #[.int .i64 (i : Int), .int .i64 s.gen] 36), Blk t (.cells #[.slice (some ⟨sb, 0, none⟩) l.length (l.length + cx), v, .pointer (some ⟨m, 0, none⟩)] 131), Blk sb (.cells arr6 141), WinA 3 (.slice a9 n9 c9) (insAt (freeOf l) ((freeOf l).countP (· < (i : Int))) i), Blk m (atom st)]) from by
    obtain ⟨F1, hw, _⟩ := HP6.out.get 3 rfl
    obtain ⟨F2, hw2, _, hup⟩ := (HP6.out.kn k).get 3 rfl
    have hF : ¬ F1 vb := fun hh => by have := (WinA 3 v (freeOf l)).lt hw vb hh; omega
    have hww := (WinA 3 v (freeOf l)).kn hw k
    have e : F1 = F2 := by
      rcases hww with ⟨h1, _, h3⟩ | ⟨b, off, cap, cs, h1, _, _, _, _, _, h3⟩
      · rcases hw2 with ⟨_, _, h4⟩ | ⟨b', off', cap', cs', h5, _⟩
        · rw [h3, h4]
        · rw [h1] at h5; cases h5
      · rcases hw2 with ⟨h5, _⟩ | ⟨b', off', cap', cs', h5, _, _, _, _, _, h4⟩
        · rw [h1] at h5; cases h5
        · rw [h1] at h5; cases h5; rw [h3, h4]
    refine (insert_w hw2 hcl hb (by rw [← e]; exact hF) (by omega)).mono ?_
    rintro e w9 ⟨v', rfl, hp⟩
    have hp0 := hp
    obtain ⟨F9, h9, _⟩ := hp0
    obtain ⟨a9, c9, rfl, _⟩ := WinA.form h9
    exact ⟨a9, _, c9, rfl, hup hp⟩)
  generalize (freeOf l).countP (· < (i : Int)) = cnt at *
  clear HP6 c1' x0' x1 HSe hfl HSo
  go_wp2_with fail
  have hlt1 : t < w6.heap.size := World.block_lt_of_cell? w6 _ c1
  have hlt2 : gh < w6.heap.size := World.block_lt_of_cell? w6 _ x0
  have en1 : ∀ n o, ((w6.drewN n).alloc o).cell? ⟨t, 1, none⟩ = some v := fun n o => cell_kp (((Kp.refl (fun _ => False) w6).drewN n).alloc o) id c1
  go_region_with ((go_at_call 74; refine (HIn.out _ w6.heap.size 1 (((Kp.refl _ w6).drewN _).alloc _) (Nat.le_refl _) (heap_alloc_same (w6.drewN _) _)).mono ?_; rintro e w9 ⟨a9, n9, c9, rfl, hp9⟩; have HP9 := Lib.hid hp9; have k9 : w9.cell? ⟨t, 1, none⟩ = some v := cell_blk (hp9.blk 1 rfl) rfl; have f9 : w9.frozen? ⟨t, 1, none⟩ = false := free_blk (hp9.blk 1 rfl); clear hp9))
  all_goals
    go_wp2_with fail
    go_ret
    refine ⟨rfl, ?_⟩
    have h1 := (HP9.out.setC 1 rfl (j := 1) (.slice a9 n9 c9)).drop
    exact Pw.ar2N h1 HA6.out (by simp) HFB.out.1
end
end Go.Proofs.Ytinejaganickpaa

/- The walks of page.with and the clones. -/
import Derived.Test.YtkdlodjpambelaaMakeP
namespace Go.Proofs.Ytkdlodjpambelaa
set_option linter.unusedVariables false
set_option linter.unusedSimpArgs false
open Go Go.RowKit

theorem One.setC {w0 w : World} {l : List Asr} (h : One w0 w l) (i : Nat) {g j : Nat} {cs : Array Value} {T : TypeId} {fr : Nat × Nat} (hi : l[i]? = some (Blk g (.cells cs T fr))) (v : Value) : One w0 (w.setCell ⟨g, j, none⟩ v) (l.set i (Blk g (.cells (cs.setIfInBounds j v) T fr))) := by
  rw [setCell_setB v (h.blk i hi).1]
  exact h.setB i hi _
theorem One.set5 {w0 w : World} {l : List Asr} (h : One w0 w l) (i : Nat) {g : Nat} {a0 a1 a2 a3 a4 : Value} {T : TypeId} (hi : l[i]? = some (Blk g (.cells #[a0, a1, a2, a3, a4] T))) (v0 v1 v2 v3 v4 : Value) :
    One w0 (((((w.setCell ⟨g, 0, none⟩ v0).setCell ⟨g, 1, none⟩ v1).setCell ⟨g, 2, none⟩ v2).setCell ⟨g, 3, none⟩ v3).setCell ⟨g, 4, none⟩ v4) (l.set i (Blk g (.cells #[v0, v1, v2, v3, v4] T))) := by
  have hb := (h.blk i hi).1
  have hl := lt_blk hb
  rw [setCell_setB v0 hb, setCell_setB v1 (setB_same _ hl), setB_setB, setCell_setB v2 (setB_same _ hl), setB_setB, setCell_setB v3 (setB_same _ hl), setB_setB, setCell_setB v4 (setB_same _ hl), setB_setB]
  exact h.setB i hi _
theorem cells5 {w : World} {b : Nat} {T : TypeId} {v0 v1 v2 v3 v4 : Value} (h : w.heap[b]? = some (.cells #[v0, v1, v2, v3, v4] T (0, 0))) : w.cell? ⟨b, 0, none⟩ = some v0 ∧ w.cell? ⟨b, 1, none⟩ = some v1 ∧ w.cell? ⟨b, 2, none⟩ = some v2 ∧ w.cell? ⟨b, 3, none⟩ = some v3 ∧ w.cell? ⟨b, 4, none⟩ = some v4 ∧ (∀ j, w.frozen? ⟨b, j, none⟩ = false) :=
  ⟨cell_blk h rfl, cell_blk h rfl, cell_blk h rfl, cell_blk h rfl, cell_blk h rfl, fun j => free_blk h⟩
theorem One.alloc3 {w0 w : World} {l : List Asr} (h : One w0 w l) (o o' o'' : Obj) : One w0 (((w.alloc o).alloc o').alloc o'') (Blk (w.heap.size + 1 + 1) o'' :: Blk (w.heap.size + 1) o' :: Blk w.heap.size o :: l) := by
  have := ((h.alloc o).alloc o').alloc o''
  simpa using this
theorem One.alloc4 {w0 w : World} {l : List Asr} (h : One w0 w l) (o o' o'' p : Obj) : One w0 ((((w.alloc o).alloc o').alloc o'').alloc p) (Blk (w.heap.size + 1 + 1 + 1) p :: Blk (w.heap.size + 1 + 1) o'' :: Blk (w.heap.size + 1) o' :: Blk w.heap.size o :: l) := by
  have := (((h.alloc o).alloc o').alloc o'').alloc p
  simpa using this
/-- A result that lies in a cell. -/
theorem res_c1 {P : Program} {fn : Func} {t T : Nat} (h : fn.results = #[.cell t T]) {tmps : Array Value} {a : Addr} {v : Value} {W : World} (ha : tmps.getD t undef = .pointer (some a)) (hl : (loadVar T a).run P W = .ok v W) : (results fn tmps).run P W = .ok v W := by
  simp only [results, h]
  rw [Array.getD_eq_getD_getElem?] at ha
  simp [ha, asAddr, hl]
theorem res_c1t {P : Program} {fn : Func} {t T u : Nat} (h : fn.results = #[.cell t T, .tmp u]) {tmps : Array Value} {a : Addr} {v x : Value} {W : World} (ha : tmps.getD t undef = .pointer (some a)) (hl : (loadVar T a).run P W = .ok v W) (hx : tmps.getD u undef = x) : (results fn tmps).run P W = .ok (.tuple #[v, x]) W := by
  simp only [results, h]
  rw [Array.getD_eq_getD_getElem?] at ha hx
  simp [ha, asAddr, hl, hx]
theorem res_c2t {P : Program} {fn : Func} {t t' T u : Nat} (h : fn.results = #[.cell t T, .cell t' T, .tmp u]) {tmps : Array Value} {a a' : Addr} {v v' x : Value} {W : World} (ha : tmps.getD t undef = .pointer (some a)) (hl : (loadVar T a).run P W = .ok v W)
    (ha' : tmps.getD t' undef = .pointer (some a')) (hl' : (loadVar T a').run P W = .ok v' W) (hx : tmps.getD u undef = x) : (results fn tmps).run P W = .ok (.tuple #[v, v', x]) W := by
  simp only [results, h]
  rw [Array.getD_eq_getD_getElem?] at ha hx ha'
  simp [ha, asAddr, hl, hx, ha', hl']
theorem load_pg {W : World} {g : Nat} {v0 v1 v2 v3 v4 : Value} (h : W.heap[g]? = some (.cells #[v0, v1, v2, v3, v4] 24)) : (loadVar 24 ⟨g, 0, none⟩).run Try.prog W = .ok (.agg #[v0, v1, v2, v3, v4]) W := by
  obtain ⟨z0, z1, z2, z3, z4, _⟩ := cells5 h
  clear h
  go_simp
/-- A page that was made. -/
def GaveP (p : Pg) (w : World) (e : Ending) (w' : World) : Prop := ∃ a cap, e = .returned (pgv p (.slice a p.list.length cap)) ∧ Post (RowE a cap p.list) (fun _ => False) w w'
def GavePE (p : Pg × Int) (w : World) (e : Ending) (w' : World) : Prop := ∃ a cap, e = .returned (.tuple #[pgv p.1 (.slice a p.1.list.length cap), .int .i64 p.2]) ∧ Post (RowE a cap p.1.list) (fun _ => False) w w'
theorem with_page {b cap : Nat} (lf : Bool) (lo hi : ByteArray) (r : Int) (v : Value) (ps : List (Value × List En)) (w : World) (hc : ∀ (i : Nat) (p : Value × List En), ps[i]? = some p → w.cell? ⟨b, i, none⟩ = some p.1) (hp : Parts w ps) (h63 : (allOf ps).length ≤ maxLen) (hb : (allOf ps).length * 40 ≤ 140737488355328) (hps : ps.length ≤ 100) :
    Calls Try.prog 48 #[.agg #[.bool lf, .string lo, .string hi, .int .i64 r, v], .slice (some ⟨b, 0, none⟩) ps.length cap] w (GaveP ⟨lf, lo, hi, r, allOf ps⟩ w) := by
  have HC := Lib.hid (fun W (k : KN w W) => concat_En (b := b) (cap := cap) ps W (fun i p h => cell_kp k id (hc i p h)) (hp.kn k) h63 hb hps)
  clear hc hp
  generalize allOf ps = xs at *
  have HO := Lib.hid ((One.nil w).alloc2 (.cells #[.bool lf, .string lo, .string hi, .int .i64 r, v] 24) (.cells #[.bool false, .string empS, .string empS, .int .i64 0, .slice none 0 0] 24))
  go_enter Try.func48, Try.ntmps48
  go_wp2_with fail
  refine (HC.out _ HO.out.old).mono ?_
  rintro e w1 ⟨a1, c1, rfl, hpo⟩
  have HO1 := Lib.hid (HO.out.add hpo)
  clear hpo HO HC
  obtain ⟨x0, x1, x2, x3, x4, xf⟩ := cells5 (HO1.out.blk 2 rfl).1
  obtain ⟨y0, y1, y2, y3, y4, yf⟩ := cells5 (HO1.out.blk 1 rfl).1
  go_wp2_with fail
  have HO2 := Lib.hid (((HO1.out.setC 2 rfl (j := 4) (.slice a1 xs.length c1))).set5 1 rfl (.bool lf) (.string lo) (.string hi) (.int .i64 r) (.slice a1 xs.length c1))
  exact bodyPost_ret (res_c1 rfl rfl (load_pg (HO2.out.blk 1 rfl).1)) rfl ⟨a1, c1, rfl, HO2.out.post 0 rfl⟩
end Go.Proofs.Ytkdlodjpambelaa

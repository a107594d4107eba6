/- The walks of the clones of a page. -/
import Derived.Test.YtkdlodjpambelaaWith
namespace Go.Proofs.Ytkdlodjpambelaa
set_option linter.unusedVariables false
set_option linter.unusedSimpArgs false
open Go Go.RowKit

theorem parts1 {w : World} {v : Value} {l : List En} (h : Rl En.enc 4 w v l) : Parts w [(v, l)] := fun i p hp => by
  match i, hp with
  | 0, hp => cases hp; exact h
theorem parts2 {w : World} {v u : Value} {l m : List En} (h : Rl En.enc 4 w v l) (h2 : Rl En.enc 4 w u m) : Parts w [(v, l), (u, m)] := fun i p hp => by
  match i, hp with
  | 0, hp => cases hp; exact h
  | 1, hp => cases hp; exact h2
theorem parts3 {w : World} {v u s : Value} {l m n : List En} (h : Rl En.enc 4 w v l) (h2 : Rl En.enc 4 w u m) (h3 : Rl En.enc 4 w s n) : Parts w [(v, l), (u, m), (s, n)] := fun i p hp => by
  match i, hp with
  | 0, hp => cases hp; exact h
  | 1, hp => cases hp; exact h2
  | 2, hp => cases hp; exact h3
/-- with, over a slice of slices that was just built. -/
theorem with_at (lf : Bool) (lo hi : ByteArray) (r : Int) (v : Value) (ps : List (Value × List En)) (W : World) {b cap : Nat} {cs : List Value} (hb : W.heap[b]? = some (.cells cs.toArray 22)) (hcs : cs = ps.map (·.1)) {n : Nat} (hn : n = ps.length) {xs : List En} (hx : xs = allOf ps) (hp : Parts W ps) (h63 : xs.length ≤ maxLen) (hbb : xs.length * 40 ≤ 140737488355328) (hps : ps.length ≤ 100) :
    Calls Try.prog 48 #[.agg #[.bool lf, .string lo, .string hi, .int .i64 r, v], .slice (some ⟨b, 0, none⟩) n cap] W (GaveP ⟨lf, lo, hi, r, xs⟩ W) := by
  subst hn; subst hx; subst hcs
  exact with_page lf lo hi r v ps W (fun i p hi => cell_blk hb (by simp [hi])) hp h63 hbb hps
theorem zero_pg (w : World) : Obj.cells #[.bool false, .string empS, .string empS, .int .i64 0, .slice none 0 0] 24 = Obj.cells #[.bool false, .string empS, .string empS, .int .i64 0, .slice none 0 0] 24 := rfl
theorem clone_page (p : Pg) (w : World) {v : Value} (hr : Rl En.enc 4 w v p.list) (h63 : p.list.length ≤ maxLen) (hb : p.list.length * 40 ≤ 140737488355328) : Calls Try.prog 34 #[pgv p v] w (GaveP p w) := by
  obtain ⟨lf, lo, hi, r, l⟩ := p
  simp only at hr h63 hb
  have HR := Lib.hid hr
  clear hr
  unfold pgv
  simp only
  obtain ⟨a0, c0, rfl, hc0⟩ := HR.out.form
  have HO := Lib.hid ((One.nil w).alloc3 (.cells #[.bool lf, .string lo, .string hi, .int .i64 r, .slice a0 l.length c0] 24) (.cells #[.bool false, .string empS, .string empS, .int .i64 0, .slice none 0 0] 24) (.cells #[.slice a0 l.length c0] 22))
  go_enter Try.func34, Try.ntmps34
  go_wp2_with fail
  refine (with_at _ _ _ _ _ [(.slice a0 l.length c0, l)] _ (HO.out.blk 0 rfl).1 rfl rfl (xs := l) (by simp [allOf]) (parts1 (HR.out.kn HO.out.old)) h63 hb (by simp)).mono ?_
  rintro e w1 ⟨a1, c1, rfl, hpo⟩
  have HO1 := Lib.hid (HO.out.add hpo)
  clear hpo HO
  obtain ⟨y0, y1, y2, y3, y4, yf⟩ := cells5 (HO1.out.blk 2 rfl).1
  go_wp2_with fail
  have HO2 := Lib.hid (HO1.out.set5 2 rfl (.bool lf) (.string lo) (.string hi) (.int .i64 r) (.slice a1 l.length c1))
  exact bodyPost_ret (res_c1 rfl rfl (load_pg (HO2.out.blk 2 rfl).1)) rfl ⟨a1, c1, rfl, HO2.out.post 0 rfl⟩
theorem clone_ref (p : Pg) (w : World) {v : Value} (hr : Rl En.enc 4 w v p.list) (h63 : p.list.length ≤ maxLen) (hb : p.list.length * 40 ≤ 140737488355328) : Calls Try.prog 23 #[pgv p v] w (GaveP p w) := by
  obtain ⟨lf, lo, hi, r, l⟩ := p
  simp only at hr h63 hb
  unfold maxLen at h63
  have HR := Lib.hid hr
  clear hr
  unfold pgv
  simp only
  have HO := Lib.hid (((One.nil w).nilRow 28 4).alloc2 (.cells #[.bool lf, .string lo, .string hi, .int .i64 r, v] 24) (.cells #[.bool false, .string empS, .string empS, .int .i64 0, .slice none 0 0] 24))
  obtain ⟨a0, c0, rfl, hc0⟩ := HR.out.form
  have HR2 := Lib.hid (HR.out.kn HO.out.old)
  go_enter Try.func23, Try.ntmps23
  go_wp2_with (at_builtin; refine wpList_appL 7 rfl rfl rfl rfl elt_En HO.out 2 rfl rfl rfl enc4 HR2.out enc1 (by unfold maxLen; omega) (by omega) ?_; intro a1 c1 w1 ho; rw [Nat.zero_add] at *; rw [List.nil_append] at ho; have HO1 := Lib.hid ho; obtain ⟨x0, x1, x2, x3, x4, xf⟩ := cells5 (HO1.out.blk 1 rfl).1; obtain ⟨y0, y1, y2, y3, y4, yf⟩ := cells5 (HO1.out.blk 0 rfl).1)
  have HO2 := Lib.hid ((HO1.out.setC 1 rfl (j := 4) (.slice a1 l.length c1)).set5 0 rfl (.bool lf) (.string lo) (.string hi) (.int .i64 r) (.slice a1 l.length c1))
  exact bodyPost_ret (res_c1 rfl rfl (load_pg (HO2.out.blk 0 rfl).1)) rfl ⟨a1, c1, rfl, HO2.out.post 2 rfl⟩
end Go.Proofs.Ytkdlodjpambelaa

/- Arenas of texts that no call made: each method's walk; silent. -/
import Derived.Test.YthbiohfnnjbbgaaArenaAl
namespace Go.Proofs.Ythbiohfnnjbbgaa
set_option linter.unusedVariables false
set_option linter.unusedSimpArgs false
open Go Go.RowKit Go.Shelf
attribute [local go_sem] Oper.semAt_some

theorem Below.kn' {w w' : World} (h : Below w.heap.size w w') : KN w w' := ⟨h.os, h.tape, h.output, h.size, fun k hk _ => h.block k hk⟩
theorem setCell_other {w : World} {p : Addr} {v : Value} {b : Nat} (h : b ≠ p.block) : (w.setCell p v).heap[b]? = w.heap[b]? := Below.heap_setCell w p v b h
theorem putObj_other {w : World} {D b : Nat} {o : Obj} (h : b ≠ D) : (w.putObj D o).heap[b]? = w.heap[b]? := by
  simp only [World.putObj]
  exact Array.getElem?_setIfInBounds_ne (Ne.symm h)
theorem below_putO {B D : Nat} {a w : World} {o : Obj} (h : Below B a w) (hD : B ≤ D) : Below B a (w.putObj D o) :=
  h.trans ⟨rfl, rfl, rfl, by simp [World.putObj], fun k hk => putObj_other (by omega)⟩
/-- An arena that no call made. -/
abbrev noAr : Obj := .cells #[.slice none 0 0, .slice none 0 0, .pointer none] 61
def NoE (w : World) (p : Option Addr) : Prop := p = none ∨ ∃ b, p = some ⟨b, 0, none⟩ ∧ w.heap[b]? = some noAr
theorem NoE.kn {w w' : World} {p : Option Addr} (h : NoE w p) (k : KN w w') : NoE w' p := h.imp id fun ⟨b, hp, hb⟩ => ⟨b, hp, k.blk hb id⟩
def No (v : Value) (w : World) (e : Ending) (w' : World) : Prop := e = .returned v ∧ KN w w'
section
variable {w : World} {p : Option Addr}
theorem none_no' (h : NoE w p) : Calls Try.prog 32 #[.pointer p] w fun e w' => e = .returned (.bool true) ∧ w = w' := by
  rcases h with rfl | ⟨b, rfl, hb⟩
  · go_enter Try.func32, Try.ntmps32
    go_wp2
    go_ret
    exact ⟨rfl, rfl⟩
  · have h2 : w.cell? ⟨b, 2, none⟩ = some (.pointer none) := cell_blk hb rfl
    clear hb
    go_enter Try.func32, Try.ntmps32
    go_wp2
    go_ret
    exact ⟨rfl, rfl⟩
theorem none_no (h : NoE w p) : Calls Try.prog 32 #[.pointer p] w (No (.bool true) w) := (none_no' h).mono fun e w' ⟨he, hw⟩ => ⟨he, hw ▸ Kp.refl _ _⟩
theorem put_no (x : ByteArray) (h : NoE w p) : Calls Try.prog 14 #[.pointer p, .string x] w (No (.tuple #[.agg #[.int .i64 0, .int .i64 0], .int .i64 2]) w) := by
  have h' := h.kn (kn_alloc w (.cells #[.int .i64 0, .int .i64 0] 30))
  obtain ⟨g0, g1, gf0, gf1⟩ := cells2 (heap_alloc_same w (.cells #[.int .i64 0, .int .i64 0] 30))
  go_enter Try.func14, Try.ntmps14
  go_wp2_with (go_at_call 32; refine (none_no' h').mono ?_; rintro e w1 ⟨rfl, k⟩; subst k)
  exact bodyPost_ret (v := .tuple #[.agg #[.int .i64 0, .int .i64 0], .int .i64 2]) (by simp [results, Try.results14, go_sem, g0, g1]) rfl ⟨rfl, kn_alloc _ _⟩
theorem at_no (a b : Int) (h : NoE w p) : Calls Try.prog 33 #[.pointer p, .agg #[.int .i64 a, .int .i64 b]] w (No (.tuple #[.pointer none, .int .i64 2]) w) := by
  have h' := h.kn (kn_alloc w (.cells #[.int .i64 a, .int .i64 b] 30))
  go_enter Try.func33, Try.ntmps33
  go_wp2_with (go_at_call 32; refine (none_no' h').mono ?_; rintro e w1 ⟨rfl, k⟩; subst k)
  go_ret2
  exact ⟨rfl, kn_alloc _ _⟩
theorem get_no (a b : Int) (h : NoE w p) : Calls Try.prog 17 #[.pointer p, .agg #[.int .i64 a, .int .i64 b]] w (No (.tuple #[.string ⟨#[]⟩, .int .i64 2]) w) := by
  have h' := h.kn (kn_alloc w (.cells #[.int .i64 a, .int .i64 b] 30))
  obtain ⟨g0, g1, gf0, gf1⟩ := cells2 (heap_alloc_same w (.cells #[.int .i64 a, .int .i64 b] 30))
  go_enter Try.func17, Try.ntmps17
  go_wp2_with fail
  refine (at_no a b h').mono ?_
  rintro e w1 ⟨rfl, k⟩
  have HK := Lib.hid ((kn_alloc w (.cells #[.int .i64 a, .int .i64 b] 30)).trans k (fun _ h => h.elim))
  clear k
  go_wp2
  go_ret2
  exact ⟨rfl, HK.out⟩
theorem set_no (a b : Int) (x : ByteArray) (h : NoE w p) : Calls Try.prog 16 #[.pointer p, .agg #[.int .i64 a, .int .i64 b], .string x] w (No (.int .i64 2) w) := by
  have h' := h.kn (kn_alloc w (.cells #[.int .i64 a, .int .i64 b] 30))
  obtain ⟨g0, g1, gf0, gf1⟩ := cells2 (heap_alloc_same w (.cells #[.int .i64 a, .int .i64 b] 30))
  go_enter Try.func16, Try.ntmps16
  go_wp2_with fail
  refine (at_no a b h').mono ?_
  rintro e w1 ⟨rfl, k⟩
  have HK := Lib.hid ((kn_alloc w (.cells #[.int .i64 a, .int .i64 b] 30)).trans k (fun _ h => h.elim))
  clear k
  go_wp2
  go_ret
  exact ⟨rfl, HK.out⟩
theorem free_no (a b : Int) (h : NoE w p) : Calls Try.prog 15 #[.pointer p, .agg #[.int .i64 a, .int .i64 b]] w (No (.int .i64 2) w) := by
  have h' := h.kn (kn_alloc w (.cells #[.int .i64 a, .int .i64 b] 30))
  obtain ⟨g0, g1, gf0, gf1⟩ := cells2 (heap_alloc_same w (.cells #[.int .i64 a, .int .i64 b] 30))
  go_enter Try.func15, Try.ntmps15
  go_wp2_with fail
  refine (at_no a b h').mono ?_
  rintro e w1 ⟨rfl, k⟩
  have HK := Lib.hid ((kn_alloc w (.cells #[.int .i64 a, .int .i64 b] 30)).trans k (fun _ h => h.elim))
  clear k
  go_wp2
  go_ret
  exact ⟨rfl, HK.out⟩
theorem slots_no (h : NoE w p) : Calls Try.prog 25 #[.pointer p] w (No (.int .i64 0) w) := by
  go_enter Try.func25, Try.ntmps25
  go_wp2_with (go_at_call 32; refine (none_no h).mono ?_; rintro e w' ⟨rfl, k⟩)
  go_ret
  exact ⟨rfl, k⟩
theorem live_no (h : NoE w p) : Calls Try.prog 18 #[.pointer p] w (No (.int .i64 0) w) := by
  go_enter Try.func18, Try.ntmps18
  go_wp2_with (go_at_call 32; refine (none_no h).mono ?_; rintro e w' ⟨rfl, k⟩)
  go_ret
  exact ⟨rfl, k⟩
theorem stale_no (h : NoE w p) : Calls Try.prog 19 #[.pointer p] w (No (.int .i64 0) w) := by
  go_enter Try.func19, Try.ntmps19
  go_wp2_with (go_at_call 32; refine (none_no h).mono ?_; rintro e w' ⟨rfl, k⟩)
  go_ret
  exact ⟨rfl, k⟩
theorem clone_no (h : NoE w p) : Calls Try.prog 26 #[.pointer p] w (No (.pointer none) w) := by
  go_enter Try.func26, Try.ntmps26
  go_wp2_with (go_at_call 32; refine (none_no h).mono ?_; rintro e w' ⟨rfl, k⟩)
  go_ret
  exact ⟨rfl, k⟩
theorem all_no (h : NoE w p) : Calls Try.prog 40 #[.pointer p] w (AllGave [] w) := by
  have HO := Lib.hid (show One w ((w.alloc (.cells #[.slice none 0 0] 28)).alloc (.cells #[.slice none 0 0] 40)) (AllL w.heap.size (w.heap.size + 1) none none 0 0 []) from
    ((((One.nil w).nilRow 9 1).nilRow 30 2).alloc2 (.cells #[.slice none 0 0] 28) (.cells #[.slice none 0 0] 40)).perm (List.Perm.swap _ _ _))
  have h' := h.kn HO.out.old
  have hmf : ∀ (fn : Fn) (first cap : Array Value) (w : World), (Instr.makeFunc fn first cap).run Try.prog w = .ok (.func fn first cap) w := fun _ _ _ _ => rfl
  go_enter Try.func40, Try.ntmps40
  go_wp2_with (go_at_call 32; refine (none_no' h').mono ?_; rintro e w1 ⟨rfl, k⟩; subst k)
  go_ret
  have hq := (One.all (l1 := AllL w.heap.size (w.heap.size + 1) none none 0 0 []) (l2 := [])).1 (by rw [List.append_nil]; exact HO.out)
  exact ⟨w.heap.size, w.heap.size + 1, rfl, (One.imp hq (fun F h => all_of h)).post 0 rfl⟩
end
set_option maxRecDepth 100000 in
set_option maxHeartbeats 2000000 in
theorem silent_in (w : World) (p : Option Addr) (h : NoE w p) : CallsIn Fence.wide 3 Try.prog 27 #[.pointer p] w fun e W' => e = .returned (.bool true) ∧ Below w.heap.size w W' := by
  have HO := Lib.hid ((One.nil w).alloc (.cells #[.bool false] 4))
  have HN := Lib.hid (h.kn HO.out.old)
  clear h
  refine callsIn_of_wp_marks Try.func27 rfl trivial ?_ rfl
  simp only [Try.ntmps27, List.size_toArray, List.length_cons, List.length_nil, Nat.reduceAdd, Nat.reduceSub, Array.replicate_succ, Array.replicate_zero, List.push_toArray, List.append_toArray, List.nil_append, List.cons_append]
  gi_wp2_with fail
  refine ⟨trivial, ?_⟩
  refine ((callsIn_wide (n := 2)).2 (all_no HN.out)).mono ?_
  rintro e w1 ⟨b1, b2, rfl, G, hA, k1, hG⟩
  have HO1 := Lib.hid (HO.out.kn k1)
  have HSEQ := Lib.hid (all_stops Fence.wide 2 trivial rfl (by omega) b1 b2 G [] (by simp) w1 hA)
  have hw1 : w.heap.size < w1.heap.size := lt_blk (HO1.out.blk 0 rfl).1
  have HF0 := Lib.hid HO1.out.loopF
  have hBel := HO1.out.old.below
  have hGl := hA.2
  clear HO HN HO1 hA hG k1
  gi_wp2_with fail
  refine wpIn_rangeFunc_ownH rfl (show 1 ≤ 3 by omega) (gf := 52) (lb := #[.pointer (some ⟨b1, 0, none⟩), .pointer (some ⟨b2, 0, none⟩)]) rfl trivial (enters_of Try.func52 (by kernel_rfl) rfl)
    HSEQ.out KpG.trans (KpG.put (G := G) hGl) (Below.refl _ _) (fun _ => rfl)
    (fun pre W => OneF w1.heap.size w W [Blk w.heap.size (.cells #[.bool false] 4)])
    (fun c pre W => False)
    (oneF_own (by omega) _)
    (fun c s W W' row hs hg hr => hs.elim)
    HF0.out
    (fun x a' W => True)
    (fun x a' _ X Y row hs hg hr => trivial)
    ?assign ?body ?done ?stop
  case assign =>
    intro l pre x W K hI hK
    gi_wp2
    exact hK _ _ (keepsFrom_kn (Kp.refl _ _)) (KpG.refl _ _) hI trivial
  case body =>
    rintro l pre x a' W hl ⟨r, hr⟩ hI _ hlt
    exact absurd hlt (by simp)
  case done =>
    rintro D ys W hD rfl hI hK
    obtain ⟨n0, f0⟩ := cells1 (hI.one.blk 0 rfl).1
    have HI := Lib.hid hI
    have HK := Lib.hid hK
    clear hI hK
    gi_wp2
    refine ⟨by simp, .inl ⟨_, _, rfl, run_takeDeferred ((setCell_other (by simp; omega)).trans HK.out), ?_⟩⟩
    obtain ⟨r1, _⟩ := cells1 ((putObj_other (w := W.setCell ⟨w.heap.size, 0, none⟩ (.bool true)) (D := D) (o := .deferred none) (by omega)).trans ((HI.out.one.set1 0 rfl (.bool true)).blk 0 rfl).1)
    refine ⟨.bool true, by simp [results, Try.results27, go_sem, r1], rfl, below_putO (HI.out.one.old.below.setCell (by simp) _) (by omega)⟩
  case stop =>
    rintro D c pre W hD hpre hI hK
    exact hI.elim
theorem silent_no {w : World} {p : Option Addr} (h : NoE w p) : Calls Try.prog 27 #[.pointer p] w (No (.bool true) w) :=
  (callsIn_wide.1 (silent_in w p h)).mono fun e W' ⟨he, hb⟩ => ⟨he, Below.kn' hb⟩
end Go.Proofs.Ythbiohfnnjbbgaa

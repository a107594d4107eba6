/- The reference's arena: in memory; Good, may, Get, Set, Free, Stale, Slots. -/
import Derived.Test.YthbiohfnnjbbgaaArenaL
import Derived.Deep.QuietTactic
import Derived.BigQuiet
import Derived.Deep.RegionHeld3
import Derived.StillTailTactics
import Derived.Deep.CutBlock
namespace Go.Proofs.Ythbiohfnnjbbgaa
set_option linter.unusedVariables false
set_option linter.unusedSimpArgs false
open Go Go.RowKit

abbrev Rs := List (Slot ByteArray)
def bArr (l : Rs) : Array Value := (l.map fun x => Value.bool x.given).toArray
def gArr (l : Rs) : Array Value := (l.map fun x => Value.int .i64 x.gen).toArray
def hArr (l : Rs) : Array Value := (l.map fun x => Value.string x.has).toArray
abbrev rfO (g k s : Nat) (l : Rs) (st : Int) : Obj := .cells #[.slice (some ⟨g, 0, none⟩) l.length l.length, .slice (some ⟨k, 0, none⟩) l.length l.length, .slice (some ⟨s, 0, none⟩) l.length l.length, .int .i64 st] 90
abbrev RfL (t g k s : Nat) (l : Rs) (st : Int) : List Asr := [Blk t (rfO g k s l st), Blk g (.cells (bArr l) 4), Blk k (.cells (gArr l) 2), Blk s (.cells (hArr l) 9)]
/-- The reference's arena. -/
def RfA (t : Nat) (l : Rs) (st : Int) : Asr where
  on := fun w F => ∃ g k s, (All (RfL t g k s l st)).on w F
  keep := fun h k hS => by
    obtain ⟨g, k', s, h⟩ := h
    exact ⟨g, k', s, (All _).keep h k hS⟩
  lt := fun h => by
    obtain ⟨g, k', s, h⟩ := h
    exact (All _).lt h
section
variable {t g k s : Nat} {l : Rs} {st : Int} {w w' : World} {F : Nat → Prop}
theorem rf_here (h : (RfA t l st).on w F) : ∃ g k s, Pw F w w (RfL t g k s l st) := let ⟨g, k, s, h⟩ := h; ⟨g, k, s, Pw.start h⟩
theorem Pw.rf (h : Pw F w w' (RfL t g k s l st)) : Post (RfA t l st) F w w' := Post.imp h fun F' h' => ⟨g, k, s, h'⟩
theorem Pw.atR (h : Pw F w w' (RfL t g k s l st)) : (w'.cell? ⟨t, 0, none⟩ = some (.slice (some ⟨g, 0, none⟩) l.length l.length) ∧ w'.cell? ⟨t, 1, none⟩ = some (.slice (some ⟨k, 0, none⟩) l.length l.length) ∧ w'.cell? ⟨t, 2, none⟩ = some (.slice (some ⟨s, 0, none⟩) l.length l.length) ∧ w'.cell? ⟨t, 3, none⟩ = some (.int .i64 st)) ∧ w'.frozen? ⟨t, 3, none⟩ = false := by
  have h0 := h.blk 0 rfl
  exact ⟨⟨cell_blk h0 rfl, cell_blk h0 rfl, cell_blk h0 rfl, cell_blk h0 rfl⟩, free_blk h0⟩
theorem Pw.slotR (h : Pw F w w' (RfL t g k s l st)) {i : Nat} {x : Slot ByteArray} (hx : l[i]? = some x) : (w'.cell? ⟨g, i, none⟩ = some (.bool x.given) ∧ w'.cell? ⟨k, i, none⟩ = some (.int .i64 x.gen) ∧ w'.cell? ⟨s, i, none⟩ = some (.string x.has)) ∧ w'.frozen? ⟨g, i, none⟩ = false ∧ w'.frozen? ⟨k, i, none⟩ = false ∧ w'.frozen? ⟨s, i, none⟩ = false := by
  have h1 := h.blk 1 rfl
  have h2 := h.blk 2 rfl
  have h3 := h.blk 3 rfl
  exact ⟨⟨cell_blk h1 (by simp [bArr, hx]), cell_blk h2 (by simp [gArr, hx]), cell_blk h3 (by simp [hArr, hx])⟩, free_blk h1, free_blk h2, free_blk h3⟩
theorem map_same {β : Type} (f : Slot ByteArray → β) {l : Rs} {i : Nat} {x x' : Slot ByteArray} (hx : l[i]? = some x) (h : f x' = f x) : (l.set i x').map f = l.map f := by
  apply List.ext_getElem?
  intro j
  rw [List.getElem?_map, List.getElem?_map]
  by_cases e : i = j
  · subst e
    rw [List.getElem?_set_self (List.getElem?_eq_some_iff.1 hx).1, hx]
    simp [h]
  · rw [List.getElem?_set_ne e]
theorem rf_has (h : Pw F w w' (RfL t g k s l st)) {i : Nat} {x : Slot ByteArray} (hx : l[i]? = some x) (y : ByteArray) : Pw F w (w'.setCell ⟨s, i, none⟩ (.string y)) (RfL t g k s (l.set i ⟨y, x.gen, x.given⟩) st) := by
  have h1 := h.setC 3 rfl (j := i) (.string y)
  have e1 : bArr (l.set i ⟨y, x.gen, x.given⟩) = bArr l := congrArg List.toArray (map_same _ hx (by rfl))
  have e2 : gArr (l.set i ⟨y, x.gen, x.given⟩) = gArr l := congrArg List.toArray (map_same _ hx (by rfl))
  have e3 : hArr (l.set i ⟨y, x.gen, x.given⟩) = (hArr l).setIfInBounds i (.string y) := by simp [hArr, List.map_set]
  have e4 : (l.set i ⟨y, x.gen, x.given⟩).length = l.length := by simp
  unfold RfL rfO
  rw [e1, e2, e3, e4]
  exact h1
theorem rf_given (h : Pw F w w' (RfL t g k s l st)) {i : Nat} {x : Slot ByteArray} (hx : l[i]? = some x) (b : Bool) : Pw F w (w'.setCell ⟨g, i, none⟩ (.bool b)) (RfL t g k s (l.set i ⟨x.has, x.gen, b⟩) st) := by
  have h1 := h.setC 1 rfl (j := i) (.bool b)
  have e1 : bArr (l.set i ⟨x.has, x.gen, b⟩) = (bArr l).setIfInBounds i (.bool b) := by simp [bArr, List.map_set]
  have e2 : gArr (l.set i ⟨x.has, x.gen, b⟩) = gArr l := congrArg List.toArray (map_same _ hx (by rfl))
  have e3 : hArr (l.set i ⟨x.has, x.gen, b⟩) = hArr l := congrArg List.toArray (map_same _ hx (by rfl))
  have e4 : (l.set i ⟨x.has, x.gen, b⟩).length = l.length := by simp
  unfold RfL rfO
  rw [e1, e2, e3, e4]
  exact h1
theorem rf_gen (h : Pw F w w' (RfL t g k s l st)) {i : Nat} {x : Slot ByteArray} (hx : l[i]? = some x) (y : Int) : Pw F w (w'.setCell ⟨k, i, none⟩ (.int .i64 y)) (RfL t g k s (l.set i ⟨x.has, y, x.given⟩) st) := by
  have h1 := h.setC 2 rfl (j := i) (.int .i64 y)
  have e1 : bArr (l.set i ⟨x.has, y, x.given⟩) = bArr l := congrArg List.toArray (map_same _ hx (by rfl))
  have e2 : gArr (l.set i ⟨x.has, y, x.given⟩) = (gArr l).setIfInBounds i (.int .i64 y) := by simp [gArr, List.map_set]
  have e3 : hArr (l.set i ⟨x.has, y, x.given⟩) = hArr l := congrArg List.toArray (map_same _ hx (by rfl))
  have e4 : (l.set i ⟨x.has, y, x.given⟩).length = l.length := by simp
  unfold RfL rfO
  rw [e1, e2, e3, e4]
  exact h1
theorem good_some {i : Nat} {x : Slot ByteArray} (hx : l[i]? = some x) (hg : x.given = true) : (goodAt l (i : Int) x.gen).isSome = true := by
  unfold goodAt
  rw [if_pos (by omega), Int.toNat_natCast, hx]
  simp [hg]
theorem good_r (h : (RfA t l st).on w F) {i gg : Int} : Calls Try.prog 59 #[.pointer (some ⟨t, 0, none⟩), .agg #[.int .i64 i, .int .i64 gg]] w fun e w' => e = .returned (.bool (goodAt l i gg).isSome) ∧ KN w w' := by
  obtain ⟨g, k, s, hp⟩ := rf_here h
  obtain ⟨g0, g1, gf0, gf1⟩ := cells2 (heap_alloc_same w (.cells #[.int .i64 i, .int .i64 gg] 30))
  have hk := kn_alloc w (.cells #[.int .i64 i, .int .i64 gg] 30)
  obtain ⟨⟨c0, c1, c2, c3⟩, _⟩ := (hp.kn hk).atR
  have HP := Lib.hid (hp.kn hk)
  clear h hp
  have HK := Lib.hid hk
  clear hk
  by_cases hi : 0 ≤ i ∧ i < l.length
  · obtain ⟨n, rfl, hn⟩ : ∃ n : Nat, i = n ∧ n < l.length := ⟨i.toNat, by omega, by omega⟩
    obtain ⟨x, hx⟩ : ∃ x, l[n]? = some x := ⟨_, List.getElem?_eq_getElem hn⟩
    obtain ⟨⟨s0, s1, s2⟩, _⟩ := HP.out.slotR hx
    have HG : Hid ((goodAt l (n : Int) gg).isSome = (x.given && x.gen == gg)) := Lib.hid (by
      unfold goodAt
      rw [if_pos (by omega), Int.toNat_natCast, hx]
      simp only
      split <;> simp_all)
    clear hx
    obtain ⟨xh, xg, xv⟩ := x
    simp only at s0 s1 s2 HG
    clear HP
    have hd0 : decide (0 ≤ (n : Int)) = true := by simp
    have hd1 : decide ((n : Int) < (l.length : Int)) = true := by simp; omega
    rw [HG.out]
    clear HG
    cases xv with
    | false =>
      go_enter Try.func59, Try.ntmps59
      go_upto_region 1 with fail
      generalize w.alloc _ = W at *
      go_quiet (fail)
      go_wp2_with fail
      go_ret
      exact ⟨by first | rfl | (simp [*]), by first | exact HK.out | exact HK.out.drew | exact HK.out.drewN _⟩
    | true =>
      by_cases hg : xg = gg
      · subst hg
        go_enter Try.func59, Try.ntmps59
        go_upto_region 1 with fail
        generalize w.alloc _ = W at *
        go_quiet (fail)
        go_wp2_with fail
        go_ret
        exact ⟨by first | rfl | (simp [*]), by first | exact HK.out | exact HK.out.drew | exact HK.out.drewN _⟩
      · have hg1 : (xg == gg) = false := by simp [hg]
        have hg2 : decide (xg = gg) = false := by simp [hg]
        go_enter Try.func59, Try.ntmps59
        go_upto_region 1 with fail
        generalize w.alloc _ = W at *
        go_quiet (fail)
        go_wp2_with fail
        go_ret
        exact ⟨by first | rfl | (simp [*]), by first | exact HK.out | exact HK.out.drew | exact HK.out.drewN _⟩
  · have HG : Hid ((goodAt l i gg).isSome = false) := Lib.hid (by
      unfold goodAt
      split
      · rw [List.getElem?_eq_none (by omega)]; rfl
      · rfl)
    rw [HG.out]
    clear HG HP
    by_cases hi0 : 0 ≤ i
    · have hd0 : decide (0 ≤ i) = true := by simp [hi0]
      have hd1 : decide (i < (l.length : Int)) = false := by simp; omega
      go_enter Try.func59, Try.ntmps59
      go_upto_region 1 with fail
      generalize w.alloc _ = W at *
      go_quiet (fail)
      go_wp2_with fail
      go_ret
      exact ⟨by first | rfl | (simp [*]), by first | exact HK.out | exact HK.out.drew | exact HK.out.drewN _⟩
    · have hd0 : decide (0 ≤ i) = false := by simp; omega
      go_enter Try.func59, Try.ntmps59
      go_upto_region 1 with fail
      generalize w.alloc _ = W at *
      go_quiet (fail)
      go_wp2_with fail
      go_ret
      exact ⟨by first | rfl | (simp [*]), by first | exact HK.out | exact HK.out.drew | exact HK.out.drewN _⟩
theorem may_good_r (h : (RfA t l st).on w F) {i gg : Int} (hb : (goodAt l i gg).isSome = true) : Calls Try.prog 51 #[.pointer (some ⟨t, 0, none⟩), .agg #[.int .i64 i, .int .i64 gg]] w fun e w' => e = .returned (.bool true) ∧ KN w w' := by
  have hk := kn_alloc w (.cells #[.int .i64 i, .int .i64 gg] 30)
  obtain ⟨g0, g1, gf0, gf1⟩ := cells2 (heap_alloc_same w (.cells #[.int .i64 i, .int .i64 gg] 30))
  have HC := Lib.hid (good_r ((RfA t l st).keep h hk (fun _ _ h => h)) (i := i) (gg := gg))
  have HB := Lib.hid hb
  clear h hb
  go_enter Try.func51, Try.ntmps51
  go_wp2_with fail
  refine HC.out.mono ?_
  rintro e w5 ⟨rfl, hk5⟩
  rw [HB.out]
  have HK := Lib.hid (hk.trans hk5 (fun _ h => h.elim))
  clear hk5 hk
  go_wp2_with fail
  go_ret
  exact ⟨rfl, HK.out⟩
theorem may_bad_r (h : (RfA t l st).on w F) {i gg : Int} (hb : (goodAt l i gg).isSome = false) (hst : 0 ≤ st ∧ st ≤ 4611686018427387904) : Calls Try.prog 51 #[.pointer (some ⟨t, 0, none⟩), .agg #[.int .i64 i, .int .i64 gg]] w fun e w' => e = .returned (.bool false) ∧ Post (RfA t l (st + 1)) F w w' := by
  obtain ⟨g, k, s, hp⟩ := rf_here h
  have hk := kn_alloc w (.cells #[.int .i64 i, .int .i64 gg] 30)
  obtain ⟨g0, g1, gf0, gf1⟩ := cells2 (heap_alloc_same w (.cells #[.int .i64 i, .int .i64 gg] 30))
  have HC := Lib.hid (good_r ((RfA t l st).keep h hk (fun _ _ h => h)) (i := i) (gg := gg))
  have HB := Lib.hid hb
  have HP := Lib.hid hp
  clear h hb hp
  go_enter Try.func51, Try.ntmps51
  go_wp2_with fail
  refine HC.out.mono ?_
  rintro e w5 ⟨rfl, hk5⟩
  rw [HB.out]
  have HP5 := Lib.hid (HP.out.kn (hk.trans hk5 (fun _ h => h.elim)))
  obtain ⟨⟨c0, c1, c2, c3⟩, cf⟩ := HP5.out.atR
  clear hk5 hk HP
  go_wp2_with fail
  go_ret
  exact ⟨rfl, Pw.rf (HP5.out.setC 0 rfl (j := 3) (.int .i64 (st + 1)))⟩
theorem stale_r (h : (RfA t l st).on w F) : Calls Try.prog 23 #[.pointer (some ⟨t, 0, none⟩)] w fun e w' => e = .returned (.int .i64 st) ∧ w = w' := by
  obtain ⟨g, k, s, hp⟩ := rf_here h
  obtain ⟨⟨c0, c1, c2, c3⟩, cf⟩ := hp.atR
  clear h hp
  go_enter Try.func23, Try.ntmps23
  go_wp2
  go_ret
  exact ⟨rfl, rfl⟩
theorem slots_r (h : (RfA t l st).on w F) : Calls Try.prog 42 #[.pointer (some ⟨t, 0, none⟩)] w fun e w' => e = .returned (.int .i64 l.length) ∧ w = w' := by
  obtain ⟨g, k, s, hp⟩ := rf_here h
  obtain ⟨⟨c0, c1, c2, c3⟩, cf⟩ := hp.atR
  clear h hp
  go_enter Try.func42, Try.ntmps42
  go_wp2
  go_ret
  exact ⟨rfl, rfl⟩
theorem get_bad_r (h : (RfA t l st).on w F) {i gg : Int} (hb : (goodAt l i gg).isSome = false) (hst : 0 ≤ st ∧ st ≤ 4611686018427387904) : Calls Try.prog 39 #[.pointer (some ⟨t, 0, none⟩), .agg #[.int .i64 i, .int .i64 gg]] w fun e w' => e = .returned (.tuple #[.string (ByteArray.mk #[]), .int .i64 7]) ∧ Post (RfA t l (st + 1)) F w w' := by
  have hk := kn_alloc w (.cells #[.int .i64 i, .int .i64 gg] 30)
  obtain ⟨g0, g1, gf0, gf1⟩ := cells2 (heap_alloc_same w (.cells #[.int .i64 i, .int .i64 gg] 30))
  have HC := Lib.hid (may_bad_r ((RfA t l st).keep h hk (fun _ _ h => h)) hb hst)
  have HK := Lib.hid hk
  clear h hb hst hk
  go_enter Try.func39, Try.ntmps39
  go_wp2_with fail
  refine HC.out.mono ?_
  rintro e w5 ⟨rfl, hp5⟩
  have HP := Lib.hid (Post.pre HK.out hp5)
  clear hp5
  go_wp2_with fail
  go_ret2
  exact ⟨rfl, HP.out⟩
theorem set_bad_r (h : (RfA t l st).on w F) {i gg : Int} (hb : (goodAt l i gg).isSome = false) (hst : 0 ≤ st ∧ st ≤ 4611686018427387904) (x : ByteArray) : Calls Try.prog 37 #[.pointer (some ⟨t, 0, none⟩), .agg #[.int .i64 i, .int .i64 gg], .string x] w fun e w' => e = .returned (.int .i64 7) ∧ Post (RfA t l (st + 1)) F w w' := by
  have hk := kn_alloc w (.cells #[.int .i64 i, .int .i64 gg] 30)
  obtain ⟨g0, g1, gf0, gf1⟩ := cells2 (heap_alloc_same w (.cells #[.int .i64 i, .int .i64 gg] 30))
  have HC := Lib.hid (may_bad_r ((RfA t l st).keep h hk (fun _ _ h => h)) hb hst)
  have HK := Lib.hid hk
  clear h hb hst hk
  go_enter Try.func37, Try.ntmps37
  go_wp2_with fail
  refine HC.out.mono ?_
  rintro e w5 ⟨rfl, hp5⟩
  have HP := Lib.hid (Post.pre HK.out hp5)
  clear hp5
  go_wp2_with fail
  go_ret
  exact ⟨rfl, HP.out⟩
theorem free_bad_r (h : (RfA t l st).on w F) {i gg : Int} (hb : (goodAt l i gg).isSome = false) (hst : 0 ≤ st ∧ st ≤ 4611686018427387904) : Calls Try.prog 38 #[.pointer (some ⟨t, 0, none⟩), .agg #[.int .i64 i, .int .i64 gg]] w fun e w' => e = .returned (.int .i64 7) ∧ Post (RfA t l (st + 1)) F w w' := by
  have hk := kn_alloc w (.cells #[.int .i64 i, .int .i64 gg] 30)
  obtain ⟨g0, g1, gf0, gf1⟩ := cells2 (heap_alloc_same w (.cells #[.int .i64 i, .int .i64 gg] 30))
  have HC := Lib.hid (may_bad_r ((RfA t l st).keep h hk (fun _ _ h => h)) hb hst)
  have HK := Lib.hid hk
  clear h hb hst hk
  go_enter Try.func38, Try.ntmps38
  go_wp2_with fail
  refine HC.out.mono ?_
  rintro e w5 ⟨rfl, hp5⟩
  have HP := Lib.hid (Post.pre HK.out hp5)
  clear hp5
  go_wp2_with fail
  go_ret
  exact ⟨rfl, HP.out⟩
theorem get_good_r (h : (RfA t l st).on w F) {i : Nat} {x : Slot ByteArray} (hx : l[i]? = some x) (hg : x.given = true) : Calls Try.prog 39 #[.pointer (some ⟨t, 0, none⟩), .agg #[.int .i64 i, .int .i64 x.gen]] w fun e w' => e = .returned (.tuple #[.string x.has, .int .i64 0]) ∧ KN w w' := by
  obtain ⟨g, k, s, hp⟩ := rf_here h
  have hil := (List.getElem?_eq_some_iff.1 hx).1
  have hk := kn_alloc w (.cells #[.int .i64 i, .int .i64 x.gen] 30)
  obtain ⟨g0, g1, gf0, gf1⟩ := cells2 (heap_alloc_same w (.cells #[.int .i64 i, .int .i64 x.gen] 30))
  have HC := Lib.hid (may_good_r ((RfA t l st).keep h hk (fun _ _ h => h)) (good_some hx hg))
  have HP := Lib.hid hp
  have HX := Lib.hid hx
  have HK := Lib.hid hk
  clear h hp hx hk hg
  go_enter Try.func39, Try.ntmps39
  go_wp2_with fail
  refine HC.out.mono ?_
  rintro e w5 ⟨rfl, hk5⟩
  have HP5 := Lib.hid (HP.out.kn (HK.out.trans hk5 (fun _ h => h.elim)))
  obtain ⟨⟨c0, c1, c2, c3⟩, cf⟩ := HP5.out.atR
  obtain ⟨⟨s0, s1, s2⟩, _⟩ := HP5.out.slotR HX.out
  have e0 := cell_kp hk5 id g0
  have HK5 := Lib.hid (HK.out.trans hk5 (fun _ h => h.elim))
  clear hk5 HP g0 g1
  go_wp2_with fail
  go_quiet (fail)
  go_wp2_with fail
  go_ret2
  exact ⟨rfl, by first | exact HK5.out | exact HK5.out.drew | exact HK5.out.drewN _⟩
set_option maxRecDepth 100000 in
theorem set_good_r (h : (RfA t l st).on w F) {i : Nat} {x : Slot ByteArray} (hx : l[i]? = some x) (hg : x.given = true) (y : ByteArray) : Calls Try.prog 37 #[.pointer (some ⟨t, 0, none⟩), .agg #[.int .i64 i, .int .i64 x.gen], .string y] w fun e w' => e = .returned (.int .i64 0) ∧ Post (RfA t (l.set i ⟨y, x.gen, x.given⟩) st) F w w' := by
  obtain ⟨g, k, s, hp⟩ := rf_here h
  have hil := (List.getElem?_eq_some_iff.1 hx).1
  have hk := kn_alloc w (.cells #[.int .i64 i, .int .i64 x.gen] 30)
  obtain ⟨g0, g1, gf0, gf1⟩ := cells2 (heap_alloc_same w (.cells #[.int .i64 i, .int .i64 x.gen] 30))
  have HC := Lib.hid (may_good_r ((RfA t l st).keep h hk (fun _ _ h => h)) (good_some hx hg))
  have HP := Lib.hid hp
  have HX := Lib.hid hx
  have HK := Lib.hid hk
  clear h hp hx hk hg
  go_enter Try.func37, Try.ntmps37
  go_wp2_with fail
  refine HC.out.mono ?_
  rintro e w5 ⟨rfl, hk5⟩
  have HP5 := Lib.hid (HP.out.kn (HK.out.trans hk5 (fun _ h => h.elim)))
  obtain ⟨⟨c0, c1, c2, c3⟩, cf⟩ := HP5.out.atR
  obtain ⟨⟨s0, s1, s2⟩, f0, f1, f2⟩ := HP5.out.slotR HX.out
  have e0 := cell_kp hk5 id g0
  clear hk5 HP g0 g1
  go_wp2_with fail
  go_still_tail 8, (by kernel_rfl)
  go_wp2_with fail
  go_ret
  exact ⟨rfl, Pw.rf ((rf_has HP5.out HX.out y).kn (Kp.refl _ _).drew)⟩
set_option maxRecDepth 100000 in
theorem free_good_r (h : (RfA t l st).on w F) {i : Nat} {x : Slot ByteArray} (hx : l[i]? = some x) (hg : x.given = true) : Calls Try.prog 38 #[.pointer (some ⟨t, 0, none⟩), .agg #[.int .i64 i, .int .i64 x.gen]] w fun e w' => e = .returned (.int .i64 0) ∧ Post (RfA t (l.set i ⟨x.has, x.gen, false⟩) st) F w w' := by
  obtain ⟨g, k, s, hp⟩ := rf_here h
  have hil := (List.getElem?_eq_some_iff.1 hx).1
  have hk := kn_alloc w (.cells #[.int .i64 i, .int .i64 x.gen] 30)
  obtain ⟨g0, g1, gf0, gf1⟩ := cells2 (heap_alloc_same w (.cells #[.int .i64 i, .int .i64 x.gen] 30))
  have HC := Lib.hid (may_good_r ((RfA t l st).keep h hk (fun _ _ h => h)) (good_some hx hg))
  have HP := Lib.hid hp
  have HX := Lib.hid hx
  have HK := Lib.hid hk
  clear h hp hx hk hg
  go_enter Try.func38, Try.ntmps38
  go_wp2_with fail
  refine HC.out.mono ?_
  rintro e w5 ⟨rfl, hk5⟩
  have HP5 := Lib.hid (HP.out.kn (HK.out.trans hk5 (fun _ h => h.elim)))
  obtain ⟨⟨c0, c1, c2, c3⟩, cf⟩ := HP5.out.atR
  obtain ⟨⟨s0, s1, s2⟩, f0, f1, f2⟩ := HP5.out.slotR HX.out
  have e0 := cell_kp hk5 id g0
  clear hk5 HP g0 g1
  go_wp2_with fail
  go_still_tail 7, (by kernel_rfl)
  go_wp2_with fail
  go_ret
  exact ⟨rfl, Pw.rf ((rf_given HP5.out HX.out false).kn (Kp.refl _ _).drew)⟩
end
end Go.Proofs.Ythbiohfnnjbbgaa

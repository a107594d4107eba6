/- The reference's arena: New, Put, Live, At. -/
import Derived.Test.YthbiohfnnjbbgaaRefAr
import Derived.Test.YthbiohfnnjbbgaaPostL
import Derived.Deep.DeepCutAuto
import Derived.RegionTactic
namespace Go.Proofs.Ythbiohfnnjbbgaa
set_option linter.unusedVariables false
set_option linter.unusedSimpArgs false
open Go Go.RowKit

section
variable {t g k s : Nat} {l : Rs} {st : Int} {w w' : World} {F : Nat → Prop}
theorem Pw.atR1 {B : Asr} (h : Pw F w w' (B :: RfL t g k s l st)) : (w'.cell? ⟨t, 0, none⟩ = some (.slice (some ⟨g, 0, none⟩) l.length l.length) ∧ w'.cell? ⟨t, 1, none⟩ = some (.slice (some ⟨k, 0, none⟩) l.length l.length) ∧ w'.cell? ⟨t, 2, none⟩ = some (.slice (some ⟨s, 0, none⟩) l.length l.length) ∧ w'.cell? ⟨t, 3, none⟩ = some (.int .i64 st)) ∧ w'.frozen? ⟨t, 3, none⟩ = false := by
  have h0 := h.blk 1 rfl
  exact ⟨⟨cell_blk h0 rfl, cell_blk h0 rfl, cell_blk h0 rfl, cell_blk h0 rfl⟩, free_blk h0⟩
theorem Pw.slotR1 {B : Asr} (h : Pw F w w' (B :: RfL t g k s l st)) {i : Nat} {x : Slot ByteArray} (hx : l[i]? = some x) : (w'.cell? ⟨g, i, none⟩ = some (.bool x.given) ∧ w'.cell? ⟨k, i, none⟩ = some (.int .i64 x.gen) ∧ w'.cell? ⟨s, i, none⟩ = some (.string x.has)) ∧ w'.frozen? ⟨g, i, none⟩ = false ∧ w'.frozen? ⟨k, i, none⟩ = false ∧ w'.frozen? ⟨s, i, none⟩ = false := by
  have h1 := h.blk 2 rfl
  have h2 := h.blk 3 rfl
  have h3 := h.blk 4 rfl
  exact ⟨⟨cell_blk h1 (by simp [bArr, hx]), cell_blk h2 (by simp [gArr, hx]), cell_blk h3 (by simp [hArr, hx])⟩, free_blk h1, free_blk h2, free_blk h3⟩

theorem rf_has1 {B : Asr} (h : Pw F w w' (B :: RfL t g k s l st)) {i : Nat} {x : Slot ByteArray} (hx : l[i]? = some x) (y : ByteArray) : Pw F w (w'.setCell ⟨s, i, none⟩ (.string y)) (B :: RfL t g k s (l.set i ⟨y, x.gen, x.given⟩) st) := by
  have h1 := h.setC 4 rfl (j := i) (.string y)
  have e1 : bArr (l.set i ⟨y, x.gen, x.given⟩) = bArr l := congrArg List.toArray (map_same _ hx (by rfl))
  have e2 : gArr (l.set i ⟨y, x.gen, x.given⟩) = gArr l := congrArg List.toArray (map_same _ hx (by rfl))
  have e3 : hArr (l.set i ⟨y, x.gen, x.given⟩) = (hArr l).setIfInBounds i (.string y) := by simp [hArr, List.map_set]
  have e4 : (l.set i ⟨y, x.gen, x.given⟩).length = l.length := by simp
  unfold RfL rfO
  rw [e1, e2, e3, e4]
  exact h1
theorem rf_given1 {B : Asr} (h : Pw F w w' (B :: RfL t g k s l st)) {i : Nat} {x : Slot ByteArray} (hx : l[i]? = some x) (b : Bool) : Pw F w (w'.setCell ⟨g, i, none⟩ (.bool b)) (B :: RfL t g k s (l.set i ⟨x.has, x.gen, b⟩) st) := by
  have h1 := h.setC 2 rfl (j := i) (.bool b)
  have e1 : bArr (l.set i ⟨x.has, x.gen, b⟩) = (bArr l).setIfInBounds i (.bool b) := by simp [bArr, List.map_set]
  have e2 : gArr (l.set i ⟨x.has, x.gen, b⟩) = gArr l := congrArg List.toArray (map_same _ hx (by rfl))
  have e3 : hArr (l.set i ⟨x.has, x.gen, b⟩) = hArr l := congrArg List.toArray (map_same _ hx (by rfl))
  have e4 : (l.set i ⟨x.has, x.gen, b⟩).length = l.length := by simp
  unfold RfL rfO
  rw [e1, e2, e3, e4]
  exact h1
theorem rf_gen1 {B : Asr} (h : Pw F w w' (B :: RfL t g k s l st)) {i : Nat} {x : Slot ByteArray} (hx : l[i]? = some x) (y : Int) : Pw F w (w'.setCell ⟨k, i, none⟩ (.int .i64 y)) (B :: RfL t g k s (l.set i ⟨x.has, y, x.given⟩) st) := by
  have h1 := h.setC 3  rfl (j := i) (.int .i64 y)
  have e1 : bArr (l.set i ⟨x.has, y, x.given⟩) = bArr l := congrArg List.toArray (map_same _ hx (by rfl))
  have e2 : gArr (l.set i ⟨x.has, y, x.given⟩) = (gArr l).setIfInBounds i (.int .i64 y) := by simp [gArr, List.map_set]
  have e3 : hArr (l.set i ⟨x.has, y, x.given⟩) = hArr l := congrArg List.toArray (map_same _ hx (by rfl))
  have e4 : (l.set i ⟨x.has, y, x.given⟩).length = l.length := by simp
  unfold RfL rfO
  rw [e1, e2, e3, e4]
  exact h1

theorem free_first {α : Type} {l : List (Slot α)} {i : Nat} {fr : List Int} (h : freeOf l = (i : Int) :: fr) : ∀ j, j < i → ∃ x, l[j]? = some x ∧ x.given = true := by
  intro j hj
  have hi := (free_put (s := (⟨by cases l with | nil => simp [freeOf, freeN] at h | cons a b => exact a.has, 0, true⟩ : Slot α)) h rfl).1
  have hjl : j < l.length := by omega
  refine ⟨l[j], List.getElem?_eq_getElem hjl, ?_⟩
  cases hg : (l[j]).given with
  | true => rfl
  | false =>
    exfalso
    have hm : j ∈ freeN l := mem_freeN.2 ⟨hjl, by rw [given_of (List.getElem?_eq_getElem hjl)]; exact hg⟩
    have hs : (freeN l).Pairwise (· < ·) := List.Pairwise.filter _ (List.pairwise_lt_range)
    unfold freeOf at h
    cases hN : freeN l with
    | nil => rw [hN] at hm; cases hm
    | cons a b =>
      rw [hN] at h hm hs
      simp only [List.map_cons, List.cons.injEq] at h
      have ha : a = i := by omega
      subst ha
      rcases List.mem_cons.1 hm with e | e
      · omega
      · have := (List.pairwise_cons.1 hs).1 j e
        omega
theorem free_none {α : Type} {l : List (Slot α)} (h : freeOf l = []) : ∀ j, j < l.length → ∃ x, l[j]? = some x ∧ x.given = true := by
  intro j hjl
  refine ⟨l[j], List.getElem?_eq_getElem hjl, ?_⟩
  cases hg : (l[j]).given with
  | true => rfl
  | false =>
    exfalso
    have hm : j ∈ freeN l := mem_freeN.2 ⟨hjl, by rw [given_of (List.getElem?_eq_getElem hjl)]; exact hg⟩
    unfold freeOf at h
    rw [List.map_eq_nil_iff] at h
    rw [h] at hm
    cases hm
theorem put_full_r (h : (RfA t l st).on w F) (hf : ∀ j, j < l.length → ∃ x, l[j]? = some x ∧ x.given = true) (hm : l.length ≤ 65536) (y : ByteArray) : Calls Try.prog 36 #[.pointer (some ⟨t, 0, none⟩), .string y] w fun e w' => e = .returned (.tuple #[.agg #[.int .i64 0, .int .i64 0], .int .i64 5]) ∧ KN w w' := by
  obtain ⟨g, k, s, hp⟩ := rf_here h
  have HP := Lib.hid (hp.alloc (.cells #[.int .i64 0, .int .i64 0] 30))
  have HK := Lib.hid (kn_alloc w (.cells #[.int .i64 0, .int .i64 0] 30))
  clear h hp
  go_enter Try.func36, Try.ntmps36
  go_wp2_with fail
  generalize w.alloc (.cells #[.int .i64 0, .int .i64 0] 30) = w1 at *
  generalize hgx : w.heap.size = gx at *
  obtain ⟨⟨c0, c1, c2, c3⟩, _⟩ := HP.out.atR1
  obtain ⟨g0, g1, gf0, gf1⟩ := cells2 (HP.out.blk 0 rfl)
  go_loopw [6] (fun v wr => ∃ j : Nat, j ≤ l.length ∧ v = .int .i64 j ∧ wr = w1) (fun v _ => l.length - (intOf v).toNat)
  case atStart => exact ⟨0, Nat.zero_le _, rfl, rfl⟩
  case round =>
    obtain ⟨j, hj, rfl, rfl⟩ := hrel
    by_cases hjl : j < l.length
    · obtain ⟨x, hx, hxg⟩ := hf j hjl
      obtain ⟨⟨s0, s1, s2⟩, f0, f1, f2⟩ := HP.out.slotR1 hx
      rw [hxg] at s0
      clear hx
      have hz1 : (j : Int) < (l.length : Int) := by omega
      go_wp2_with fail
      go_roundw
      case rel => exact ⟨j + 1, by omega, by go_num, by first | rfl | trivial⟩
      case measure => simp [intOf]; omega
    · obtain rfl : j = l.length := by omega
      go_wp2_with fail
      exact bodyPost_ret (v := .tuple #[.agg #[.int .i64 0, .int .i64 0], .int .i64 5]) (by simp [results, Try.results36, go_sem, g0, g1]) rfl ⟨rfl, (HK.out.setCell (p := ⟨gx, 0, none⟩) (.inr (Nat.le_of_eq hgx)) _).setCell (p := ⟨gx, 1, none⟩) (.inr (Nat.le_of_eq hgx)) _⟩
set_option maxHeartbeats 4000000 in
theorem put_ok_r {i : Nat} {x : Slot ByteArray} (h : (RfA t l st).on w F) (hx : l[i]? = some x) (hg : x.given = false) (hf : ∀ j, j < i → ∃ x, l[j]? = some x ∧ x.given = true) (hb : 0 ≤ x.gen ∧ x.gen ≤ 9000000) (hm : l.length ≤ 65536) (y : ByteArray) :
    Calls Try.prog 36 #[.pointer (some ⟨t, 0, none⟩), .string y] w fun e w' => e = .returned (.tuple #[.agg #[.int .i64 i, .int .i64 (x.gen + 1)], .int .i64 0]) ∧ Post (RfA t (l.set i ⟨y, x.gen + 1, true⟩) st) F w w' := by
  obtain ⟨g, k, s, hp⟩ := rf_here h
  have hil := (List.getElem?_eq_some_iff.1 hx).1
  have HP := Lib.hid (hp.alloc (.cells #[.int .i64 0, .int .i64 0] 30))
  have HX := Lib.hid hx
  clear h hp hx
  go_enter Try.func36, Try.ntmps36
  go_wp2_with fail
  generalize w.alloc (.cells #[.int .i64 0, .int .i64 0] 30) = w1 at *
  generalize w.heap.size = gx at *
  go_loopw [6] (fun v wr => ∃ j : Nat, j ≤ i ∧ v = .int .i64 j ∧ wr = w1) (fun v _ => l.length - (intOf v).toNat)
  case atStart => exact ⟨0, Nat.zero_le _, rfl, rfl⟩
  case round =>
    obtain ⟨j, hj, rfl, rfl⟩ := hrel
    obtain ⟨⟨c0, c1, c2, c3⟩, _⟩ := HP.out.atR1
    have hz1 : (j : Int) < (l.length : Int) := by omega
    by_cases hjl : j < i
    · obtain ⟨x', hx, hxg⟩ := hf j hjl
      obtain ⟨⟨s0, s1, s2⟩, f0, f1, f2⟩ := HP.out.slotR1 hx
      rw [hxg] at s0
      clear hx
      go_wp2_with fail
      go_roundw
      case rel => exact ⟨j + 1, by omega, by go_num, by first | rfl | trivial⟩
      case measure => simp [intOf]; omega
    · obtain rfl : j = i := by omega
      obtain ⟨⟨s0, s1, s2⟩, f0, f1, f2⟩ := HP.out.slotR1 HX.out
      rw [hg] at s0
      go_upto_region 6 with fail
      have HP1 := Lib.hid (rf_given1 HP.out HX.out true)
      clear HP s0 s1 s2 f0 f1 f2 c0 c1 c2 c3
      generalize wr.setCell ⟨g, j, none⟩ (.bool true) = w2 at *
      have hx1 : (l.set j ⟨x.has, x.gen, true⟩)[j]? = some ⟨x.has, x.gen, true⟩ := List.getElem?_set_self hil
      obtain ⟨⟨c0, c1, c2, c3⟩, _⟩ := HP1.out.atR1
      obtain ⟨⟨s0, s1, s2⟩, f0, f1, f2⟩ := HP1.out.slotR1 hx1
      simp only [List.length_set] at c0 c1 c2 s0 s1 s2
      go_upto_region 7 with fail
      have HP2 := Lib.hid (rf_gen1 HP1.out hx1 (x.gen + 1))
      rw [List.set_set] at HP2
      clear HP1 hx1 s0 s1 s2 f0 f1 f2 c0 c1 c2 c3
      generalize w2.setCell ⟨k, j, none⟩ (.int .i64 (x.gen + 1)) = w3 at *
      have hx2 : (l.set j ⟨x.has, x.gen + 1, true⟩)[j]? = some ⟨x.has, x.gen + 1, true⟩ := List.getElem?_set_self hil
      obtain ⟨⟨c0, c1, c2, c3⟩, _⟩ := HP2.out.atR1
      obtain ⟨⟨s0, s1, s2⟩, f0, f1, f2⟩ := HP2.out.slotR1 hx2
      simp only [List.length_set] at c0 c1 c2 s0 s1 s2
      go_upto_region 8 with fail
      have HP3 := Lib.hid (rf_has1 HP2.out hx2 y)
      rw [List.set_set] at HP3
      clear HP2 hx2 s0 s1 s2 f0 f1 f2 c0 c1 c2 c3
      generalize w3.setCell ⟨s, j, none⟩ (.string y) = w4 at *
      have hx3 : (l.set j ⟨y, x.gen + 1, true⟩)[j]? = some ⟨y, x.gen + 1, true⟩ := List.getElem?_set_self hil
      obtain ⟨⟨c0, c1, c2, c3⟩, _⟩ := HP3.out.atR1
      obtain ⟨⟨s0, s1, s2⟩, f0, f1, f2⟩ := HP3.out.slotR1 hx3
      obtain ⟨g0, g1, gf0, gf1⟩ := cells2 (HP3.out.blk 0 rfl)
      simp only [List.length_set] at c0 c1 c2 s0 s1 s2
      go_wp2_with fail
      refine bodyPost_ret (v := .tuple #[.agg #[.int .i64 j, .int .i64 (x.gen + 1)], .int .i64 0]) (by simp [results, Try.results36, go_sem, g0, g1]) rfl ⟨rfl, Pw.rf (t := t) (g := g) (k := k) (s := s) ?_⟩
      have h5 := ((HP3.out.setC 0 rfl (j := 0) (.int .i64 (j : Int))).setC 0 rfl (j := 1) (.int .i64 (x.gen + 1))).drop
      exact h5
set_option maxRecDepth 100000 in
theorem at_r {i : Nat} {x : Slot ByteArray} (h : (RfA t l st).on w F) (hx : l[i]? = some x) : Calls Try.prog 54 #[.pointer (some ⟨t, 0, none⟩), .int .i64 i] w fun e w' => e = .returned (.tuple #[.agg #[.int .i64 i, .int .i64 x.gen], .string x.has, .bool x.given]) ∧ KN w w' := by
  obtain ⟨g, k, s, hp⟩ := rf_here h
  have hil := (List.getElem?_eq_some_iff.1 hx).1
  have HP := Lib.hid (hp.alloc (.cells #[.int .i64 0, .int .i64 0] 30))
  have HK := Lib.hid (kn_alloc w (.cells #[.int .i64 0, .int .i64 0] 30))
  obtain ⟨⟨c0, c1, c2, c3⟩, _⟩ := HP.out.atR1
  obtain ⟨⟨s0, s1, s2⟩, f0, f1, f2⟩ := HP.out.slotR1 hx
  obtain ⟨g0, g1, gf0, gf1⟩ := cells2 (HP.out.blk 0 rfl)
  have lt1 := lt_blk (hp.blk 0 rfl)
  have lt2 := lt_blk (hp.blk 1 rfl)
  have lt3 := lt_blk (hp.blk 2 rfl)
  have lt4 := lt_blk (hp.blk 3 rfl)
  have ne1 : t ≠ w.heap.size ∧ g ≠ w.heap.size ∧ k ≠ w.heap.size ∧ s ≠ w.heap.size := ⟨by omega, by omega, by omega, by omega⟩
  have ne2 : w.heap.size ≠ t ∧ w.heap.size ≠ g ∧ w.heap.size ≠ k ∧ w.heap.size ≠ s := ⟨by omega, by omega, by omega, by omega⟩
  clear h hp hx
  go_enter Try.func54, Try.ntmps54
  go_upto_region 1 with fail
  generalize w.alloc (.cells #[.int .i64 0, .int .i64 0] 30) = w1 at *
  generalize hgx : w.heap.size = gx at *
  clear HP
  go_region_held3 (fun w' => w'.cell? ⟨t, 0, none⟩ = some (.slice (some ⟨g, 0, none⟩) l.length l.length) ∧ w'.cell? ⟨t, 1, none⟩ = some (.slice (some ⟨k, 0, none⟩) l.length l.length) ∧ w'.cell? ⟨t, 2, none⟩ = some (.slice (some ⟨s, 0, none⟩) l.length l.length) ∧ w'.cell? ⟨g, i, none⟩ = some (.bool x.given) ∧ w'.cell? ⟨k, i, none⟩ = some (.int .i64 x.gen) ∧ w'.cell? ⟨s, i, none⟩ = some (.string x.has)) (go_keep) (fail)
  go_wp2_with fail
  exact bodyPost_ret (v := .tuple #[.agg #[.int .i64 i, .int .i64 x.gen], .string x.has, .bool x.given]) (by simp [results, Try.results54, go_sem, g0, g1]) rfl ⟨rfl, ((HK.out.setCell (p := ⟨gx, 0, none⟩) (.inr (Nat.le_of_eq hgx)) _).setCell (p := ⟨gx, 1, none⟩) (.inr (Nat.le_of_eq hgx)) _).drew⟩
def cntTo (l : Rs) (j : Nat) : Nat := ((List.range j).filter fun i => givenAt l i).length
theorem cntTo_succ (l : Rs) {j : Nat} {x : Slot ByteArray} (h : l[j]? = some x) : cntTo l (j + 1) = cntTo l j + if x.given then 1 else 0 := by
  unfold cntTo
  rw [List.range_succ, List.filter_append, List.length_append]
  simp only [List.filter_cons, List.filter_nil, given_of h]
  cases x.given <;> simp
theorem cntTo_le (l : Rs) (j : Nat) : cntTo l j ≤ j := by
  unfold cntTo
  have := List.length_filter_le (fun i => givenAt l i) (List.range j)
  rw [List.length_range] at this
  exact this
theorem filt_len {α : Type} (p : α → Bool) : ∀ (l : List α), (l.filter p).length + (l.filter fun x => !p x).length = l.length
  | [] => rfl
  | a :: l => by
    have := filt_len p l
    rw [List.filter_cons, List.filter_cons]
    cases p a <;> simp <;> omega
theorem cntTo_all (l : Rs) : cntTo l l.length + (freeOf l).length = l.length := by
  unfold cntTo freeOf freeN
  rw [List.length_map]
  have := filt_len (fun i => givenAt l i) (List.range l.length)
  rw [List.length_range] at this
  omega
theorem live_r (h : (RfA t l st).on w F) (hm : l.length ≤ 65536) : Calls Try.prog 22 #[.pointer (some ⟨t, 0, none⟩)] w fun e w' => e = .returned (.int .i64 ((l.length : Int) - (freeOf l).length)) ∧ w = w' := by
  obtain ⟨g, k, s, hp⟩ := rf_here h
  have HP := Lib.hid hp
  have HA := Lib.hid (cntTo_all l)
  obtain ⟨⟨c0, c1, c2, c3⟩, _⟩ := hp.atR
  clear h hp
  go_enter Try.func22, Try.ntmps22
  go_wp2_with fail
  go_loopw [3, 4] (fun u v wr => ∃ j : Nat, j ≤ l.length ∧ u = .int .i64 (cntTo l j : Nat) ∧ v = .int .i64 j ∧ wr = w) (fun _ v _ => l.length - (intOf v).toNat)
  case atStart => exact ⟨0, Nat.zero_le _, rfl, rfl, rfl⟩
  case round =>
    obtain ⟨j, hj, rfl, rfl, rfl⟩ := hrel
    have hcl := cntTo_le l j
    by_cases hjl : j < l.length
    · obtain ⟨x, hx⟩ : ∃ x, l[j]? = some x := ⟨_, List.getElem?_eq_getElem hjl⟩
      obtain ⟨⟨s0, s1, s2⟩, f0, f1, f2⟩ := HP.out.slotR hx
      have HS := Lib.hid (cntTo_succ l hx)
      clear hx
      have hz1 : (j : Int) < (l.length : Int) := by omega
      generalize cntTo l j = q at *
      cases hxg : x.given with
      | true =>
        rw [hxg] at s0
        go_wp2_with fail
        go_roundw
        case rel => exact ⟨j + 1, by omega, by rw [HS.out, hxg]; simp only [if_true]; go_num, by go_num, by first | rfl | trivial⟩
        case measure => simp [intOf]; omega
      | false =>
        rw [hxg] at s0
        go_wp2_with fail
        go_roundw
        case rel => exact ⟨j + 1, by omega, by rw [HS.out, hxg]; simp, by go_num, by first | rfl | trivial⟩
        case measure => simp [intOf]; omega
    · obtain rfl : j = l.length := by omega
      go_wp2_with fail
      go_ret
      refine ⟨?_, rfl⟩
      have := HA.out
      rw [show ((cntTo l l.length : Nat) : Int) = (l.length : Int) - ((freeOf l).length : Int) by omega]
      rfl
end
end Go.Proofs.Ythbiohfnnjbbgaa

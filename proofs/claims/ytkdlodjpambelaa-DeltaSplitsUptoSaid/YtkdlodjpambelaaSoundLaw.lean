/- Plain laws of pages: what comes of a page that may be, may be. -/
import Derived.Test.YtkdlodjpambelaaKeepLaw
namespace Go.Proofs.Ytkdlodjpambelaa
set_option linter.unusedVariables false
set_option linter.unusedSimpArgs false
open Go Go.RowKit

def entOk (leaf : Bool) (x : En) : Prop := if leaf then x.child = 0 else x.ref.slot = 0 ∧ x.ref.gen = 0 ∧ 1 ≤ x.child
def Sorted (l : List En) : Prop := l.Pairwise (fun x y => ltS x.key y.key = true)
structure Ok2 (p : Pg) : Prop where
  rng : emptyR p.low p.high = false
  right : 0 ≤ p.right
  sort : Sorted p.list
  all : ∀ x ∈ p.list, inR p.low p.high x.key = true ∧ entOk p.leaf x
  head : p.leaf = false → ∃ x, p.list.head? = some x ∧ x.key = p.low
theorem b8_iff {p : Pg} {i : Nat} {x : En} : b8 p i x = false ↔ entOk p.leaf x ∧ (p.leaf = false → i = 0 → x.key = p.low) := by
  unfold b8 entOk
  cases p.leaf with
  | true => simp
  | false =>
    by_cases h : i = 0
    · simp [h, eqS_iff, and_assoc]
    · simp [h, eqS_iff, and_assoc]
theorem ok2_iff {p : Pg} : Ok p ↔ Ok2 p := by
  constructor
  · intro h
    refine ⟨h.rng, h.right, ?_, fun x hx => ?_, fun hl => ?_⟩
    · unfold Sorted
      rw [List.pairwise_iff_getElem]
      intro i j hi hj hij
      exact h.sorted hij (List.getElem?_eq_getElem hi) (List.getElem?_eq_getElem hj)
    · obtain ⟨i, hi⟩ := List.getElem?_of_mem hx
      exact ⟨h.inr hi, (b8_iff.1 (h.rest hi)).1⟩
    · have := h.some_ hl
      cases hq : p.list with
      | nil => exact absurd hq this
      | cons x l => exact ⟨x, rfl, (b8_iff.1 (h.rest (i := 0) (x := x) (by rw [hq]; rfl))).2 hl rfl⟩
  · intro h
    refine ⟨h.rng, h.right, fun hl hn => ?_, fun i x hx => ?_⟩
    · obtain ⟨x, hx, _⟩ := h.head hl
      rw [hn] at hx; cases hx
    · have hm := List.mem_of_getElem? hx
      rw [badE_eq]
      have h8 : b8 p i x = false := b8_iff.2 ⟨(h.all x hm).2, fun hl h0 => by
        subst h0
        obtain ⟨y, hy, hk⟩ := h.head hl
        rw [List.head?_eq_getElem?] at hy
        rw [hx] at hy; cases hy; exact hk⟩
      rw [h8, Bool.or_false]
      unfold b5
      rw [(h.all x hm).1]
      by_cases h0 : i = 0
      · subst h0; simp
      · have hlt := (List.getElem?_eq_some_iff.1 hx).1
        have hs := List.pairwise_iff_getElem.1 h.sort (i - 1) i (by omega) hlt (by omega)
        rw [List.getElem?_eq_getElem (by omega : i - 1 < p.list.length)]
        rw [(List.getElem?_eq_some_iff.1 hx).2] at hs
        simp [hs]
theorem sorted_put {l : List En} (h : Sorted l) (e : En) : ∃ A B, putAt l e = A ++ e :: B ∧ (∀ z ∈ A, ltS z.key e.key = true) ∧ (∀ z ∈ B, ltS e.key z.key = true) ∧ (l = A ++ B ∨ ∃ x, l = A ++ x :: B ∧ x.key = e.key) := by
  unfold Sorted at h
  unfold putAt
  cases hi : l.findIdx? (fun x => eqS x.key e.key) with
  | some i =>
    obtain ⟨hlt, h1, h2⟩ := List.findIdx?_eq_some_iff_getElem.1 hi
    have hk := eqS_iff.1 h1
    have he : l = l.take i ++ l[i] :: l.drop (i + 1) := by rw [List.getElem_cons_drop, List.take_append_drop]
    refine ⟨l.take i, l.drop (i + 1), rfl, fun z hz => ?_, fun z hz => ?_, .inr ⟨l[i], he, hk⟩⟩
    · rw [he, List.pairwise_append] at h
      rw [← hk]; exact h.2.2 z hz l[i] List.mem_cons_self
    · rw [he, List.pairwise_append, List.pairwise_cons] at h
      rw [← hk]; exact h.2.1.1 z hz
  | none =>
    have hn := List.findIdx?_eq_none_iff.1 hi
    have hne : ∀ z ∈ l, z.key ≠ e.key := fun z hz => eqS_false.1 (hn z hz)
    refine ⟨_, _, rfl, fun z hz => ?_, fun z hz => ?_, .inl (List.take_append_drop _ _).symm⟩
    · have hm := List.mem_of_mem_take hz
      have hge : ltS e.key z.key = false := by
        cases hj : l.findIdx? (fun x => ltS e.key x.key) with
        | none => simpa using List.findIdx?_eq_none_iff.1 hj z hm
        | some j =>
          rw [hj] at hz
          obtain ⟨hlt, h1, h2⟩ := List.findIdx?_eq_some_iff_getElem.1 hj
          obtain ⟨m, hm'⟩ := List.getElem?_of_mem hz
          simp only [Option.getD_some] at hm'
          rw [List.getElem?_take] at hm'
          split at hm'
          · rename_i hmj
            have := h2 m hmj
            rw [(List.getElem?_eq_some_iff.1 hm').2] at this
            simpa using this
          · cases hm'
      cases hq : ltS z.key e.key with
      | true => rfl
      | false => exact absurd (ltS_total hq hge) (hne z hm)
    · cases hj : l.findIdx? (fun x => ltS e.key x.key) with
      | none => rw [hj] at hz; simp at hz
      | some j =>
        rw [hj] at hz
        simp only [Option.getD_some] at hz
        obtain ⟨hlt, h1, h2⟩ := List.findIdx?_eq_some_iff_getElem.1 hj
        obtain ⟨m, hm'⟩ := List.getElem?_of_mem hz
        rw [List.getElem?_drop] at hm'
        by_cases h0 : m = 0
        · subst h0
          rw [Nat.add_zero, List.getElem?_eq_getElem hlt] at hm'
          cases hm'; exact h1
        · obtain ⟨hlt2, hz2⟩ := List.getElem?_eq_some_iff.1 hm'
          have hs := List.pairwise_iff_getElem.1 h j (j + m) hlt hlt2 (by omega)
          rw [hz2] at hs
          exact ltS_trans h1 hs
theorem ok_put {p : Pg} (h : Ok2 p) {e : En} (hin : inR p.low p.high e.key = true) (he : entOk p.leaf e) : Ok2 ⟨p.leaf, p.low, p.high, p.right, putAt p.list e⟩ := by
  obtain ⟨A, B, h1, hA, hB, h2⟩ := sorted_put h.sort e
  have hs : Sorted (A ++ B) ∧ (∀ z ∈ A, z ∈ p.list) ∧ (∀ z ∈ B, z ∈ p.list) := by
    rcases h2 with h2 | ⟨x, h2, _⟩
    · refine ⟨by rw [← h2]; exact h.sort, fun z hz => by rw [h2]; simp [hz], fun z hz => by rw [h2]; simp [hz]⟩
    · refine ⟨?_, fun z hz => by rw [h2]; simp [hz], fun z hz => by rw [h2]; simp [hz]⟩
      have := h.sort
      rw [h2] at this
      unfold Sorted at this ⊢
      rw [List.pairwise_append] at this ⊢
      exact ⟨this.1, (List.pairwise_cons.1 this.2.1).2, fun a ha b hb => this.2.2 a ha b (by simp [hb])⟩
  refine ⟨h.rng, h.right, ?_, fun x hx => ?_, fun hl => ?_⟩
  · simp only
    rw [h1]
    have := hs.1
    unfold Sorted at this ⊢
    rw [List.pairwise_append] at this ⊢
    refine ⟨this.1, List.pairwise_cons.2 ⟨hB, this.2.1⟩, fun a ha b hb => ?_⟩
    rcases List.mem_cons.1 hb with rfl | hb
    · exact hA a ha
    · exact this.2.2 a ha b hb
  · simp only at hx
    rw [h1] at hx
    rcases List.mem_append.1 hx with hx | hx
    · exact h.all x (hs.2.1 x hx)
    · rcases List.mem_cons.1 hx with rfl | hx
      · exact ⟨hin, he⟩
      · exact h.all x (hs.2.2 x hx)
  · obtain ⟨x, hx, hk⟩ := h.head hl
    simp only
    rw [h1]
    cases A with
    | cons z A =>
      refine ⟨z, rfl, ?_⟩
      rcases h2 with h2 | ⟨y, h2, _⟩ <;> (rw [h2] at hx; cases hx; exact hk)
    | nil =>
      refine ⟨e, rfl, ?_⟩
      rcases h2 with h2 | ⟨y, h2, hy⟩
      · rw [h2] at hx
        have hxB : x ∈ B := List.mem_of_mem_head? (by simpa using hx)
        have := hB x hxB
        rw [hk, (inR_iff.1 hin).1] at this
        cases this
      · rw [h2] at hx; cases hx; rw [← hy]; exact hk
theorem ok_remove {p q : Pg} (h : Ok2 p) {key : ByteArray} (hr : removeP p key = (q, 0)) (hc : p.leaf = true ∨ key ≠ p.low) : Ok2 q := by
  unfold removeP at hr
  split at hr
  · rename_i i hi
    cases hr
    obtain ⟨hlt, h1, h2⟩ := List.findIdx?_eq_some_iff_getElem.1 hi
    have hsub : (p.list.take i ++ p.list.drop (i + 1)).Sublist p.list := by
      conv => rhs; rw [← List.take_append_drop i p.list]
      exact List.Sublist.append_left (by rw [← List.drop_drop]; exact List.drop_sublist _ _) _
    refine ⟨h.rng, h.right, List.Pairwise.sublist hsub h.sort, fun x hx => h.all x (hsub.subset hx), fun hl => ?_⟩
    obtain ⟨x, hx, hk⟩ := h.head hl
    have hi0 : i ≠ 0 := by
      rintro rfl
      rw [List.head?_eq_getElem?, List.getElem?_eq_getElem hlt] at hx
      cases hx
      rcases hc with hc | hc
      · rw [hl] at hc; cases hc
      · exact hc (by rw [← eqS_iff.1 h1, hk])
    refine ⟨x, ?_, hk⟩
    simp only
    cases hq : p.list with
    | nil => rw [hq] at hx; cases hx
    | cons y l =>
      rw [hq] at hx; cases hx
      obtain ⟨j, rfl⟩ : ∃ j, i = j + 1 := ⟨i - 1, by omega⟩
      simp
  · cases hr
theorem put_form {p : Pg} {e : En} (hin : inR p.low p.high e.key = true) : putP p e = (⟨p.leaf, p.low, p.high, p.right, putAt p.list e⟩, 0) := by unfold putP; rw [if_pos hin]
theorem putAt_len (l : List En) (e : En) : (putAt l e).length ≤ l.length + 1 := by
  unfold putAt
  split
  · rename_i i hi
    have := (List.findIdx?_eq_some_iff_getElem.1 hi).1
    simp; omega
  · simp; omega
theorem removeP_len (p : Pg) (k : ByteArray) : (removeP p k).1.list.length ≤ p.list.length := by
  unfold removeP
  split
  · simp; omega
  · simp [zeroPg]
theorem removeP_code (p : Pg) (k : ByteArray) : (removeP p k).2 = 0 ∨ (removeP p k).2 = 4 := by
  unfold removeP; split <;> simp
end Go.Proofs.Ytkdlodjpambelaa

/- Plain laws of pages: what may be. -/
import Derived.Test.YtkdlodjpambelaaCheckR
import Derived.Test.YtkdlodjpambelaaFindP
namespace Go.Proofs.Ytkdlodjpambelaa
set_option linter.unusedVariables false
set_option linter.unusedSimpArgs false
open Go Go.RowKit

structure Ok (p : Pg) : Prop where
  rng : emptyR p.low p.high = false
  right : 0 ≤ p.right
  some_ : p.leaf = false → p.list ≠ []
  ent : ∀ (i : Nat) (x : En), p.list[i]? = some x → badE p i x = false
theorem ok_iff {p : Pg} : checkP p = 0 ↔ Ok p := by
  have h : checkP p = 0 ↔ badP p = false := by unfold checkP; cases badP p <;> simp
  rw [h]
  unfold badP badTo
  simp only [Bool.or_eq_false_iff, decide_eq_false_iff_not, Bool.and_eq_false_iff, List.any_eq_false, Bool.not_eq_eq_eq_not, Bool.not_false, Bool.not_true]
  constructor
  · rintro ⟨⟨⟨h1, h2⟩, h3⟩, h4⟩
    refine ⟨h1, by omega, fun hl hn => ?_, fun i x hx => ?_⟩
    · rw [hl, hn] at h3; simp at h3
    · have := h4 i (by simpa using (List.getElem?_eq_some_iff.1 hx).1)
      rw [hx] at this; simpa using this
  · rintro ⟨h1, h2, h3, h4⟩
    refine ⟨⟨⟨h1, by omega⟩, ?_⟩, fun i hi => ?_⟩
    · cases hl : p.leaf with
      | true => exact .inl rfl
      | false => right; have := h3 hl; simpa using this
    · simp only [List.mem_range] at hi
      have := h4 i _ (List.getElem?_eq_getElem hi)
      rw [List.getElem?_eq_getElem hi]; simpa using this
section
variable {p : Pg}
theorem Ok.inr (h : Ok p) {i : Nat} {x : En} (hx : p.list[i]? = some x) : inR p.low p.high x.key = true := by
  have := h.ent i x hx
  rw [badE_eq] at this; unfold b5 at this
  simp only [Bool.or_eq_false_iff] at this
  simpa using this.1.2
theorem Ok.step (h : Ok p) {i : Nat} {x y : En} (hx : p.list[i]? = some x) (hy : p.list[i + 1]? = some y) : ltS x.key y.key = true := by
  have := h.ent (i + 1) y hy
  rw [badE_eq] at this; unfold b5 at this
  simp only [Bool.or_eq_false_iff, Bool.and_eq_false_iff] at this
  have h1 := this.1.1
  rcases h1 with h1 | h1
  · simp at h1
  · simpa [hx] using h1
theorem Ok.rest (h : Ok p) {i : Nat} {x : En} (hx : p.list[i]? = some x) : b8 p i x = false := by
  have := h.ent i x hx
  rw [badE_eq] at this
  simp only [Bool.or_eq_false_iff] at this
  exact this.2
theorem Ok.sorted (h : Ok p) {i j : Nat} {x y : En} (hij : i < j) (hx : p.list[i]? = some x) (hy : p.list[j]? = some y) : ltS x.key y.key = true := by
  obtain ⟨d, rfl⟩ : ∃ d, j = i + 1 + d := ⟨j - (i + 1), by omega⟩
  induction d generalizing y with
  | zero => exact h.step hx hy
  | succ d ih =>
    have hlt := (List.getElem?_eq_some_iff.1 hy).1
    have hz : p.list[i + 1 + d]? = some (p.list[i + 1 + d]'(by omega)) := List.getElem?_eq_getElem (by omega)
    exact ltS_trans (ih (by omega) hz) (h.step hz hy)
theorem inR_iff {lo hi k : ByteArray} : inR lo hi k = true ↔ ltS k lo = false ∧ (hi.toList.isEmpty = true ∨ ltS k hi = true) := by
  unfold inR
  simp
theorem not_empty_of_lt {a b : ByteArray} (h : ltS a b = true) : b.toList.isEmpty = false := by
  unfold ltS at h
  cases hb : b.toList with
  | nil => rw [hb] at h; cases ha : a.toList <;> rw [ha] at h <;> simp [Op.bytesLess] at h
  | cons => rfl
end
end Go.Proofs.Ytkdlodjpambelaa

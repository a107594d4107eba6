/- A table and its reference: the plain law. -/
import Derived.Test.YtkjkaliblkihmaaRefTab3
namespace Go.Proofs.Ytkjkaliblkihmaa
set_option linter.unusedVariables false
set_option linter.unusedSimpArgs false
open Go Go.RowKit

structure Sm (A R : List AP) : Prop where
  len : A.length = R.length
  at_ : ∀ (i : Nat) (a b : AP), A[i]? = some a → R[i]? = some b → a.1 = b.1 ∧ (a.1 = 1 → a.2 = b.2)
section
variable {A R : List AP} {x n : Int}
theorem Sm.refl (A : List AP) : Sm A A := ⟨rfl, fun i a b ha hb => by rw [ha] at hb; cases hb; exact ⟨rfl, fun _ => rfl⟩⟩
theorem Sm.to (h : Sm A R) {i : Nat} {a : AP} (ha : A[i]? = some a) : ∃ b, R[i]? = some b ∧ a.1 = b.1 ∧ (a.1 = 1 → a.2 = b.2) := by
  have hi := (List.getElem?_eq_some_iff.1 ha).1
  have hb : R[i]? = some (R[i]'(by rw [← h.len]; exact hi)) := List.getElem?_eq_getElem _
  exact ⟨_, hb, h.at_ i a _ ha hb⟩
theorem Sm.map (h : Sm A R) : A.map (·.1) = R.map (·.1) := by
  apply List.ext_getElem?
  intro i
  rw [List.getElem?_map, List.getElem?_map]
  cases ha : A[i]? with
  | some a =>
    obtain ⟨b, hb, e, _⟩ := h.to ha
    rw [hb]; simp [e]
  | none =>
    have hb : R[i]? = none := List.getElem?_eq_none (by rw [← h.len]; exact List.getElem?_eq_none_iff.1 ha)
    rw [hb]
theorem Sm.st (h : Sm A R) (n : Int) : stOf A n = stOf R n := by
  have h1 := congrArg (fun l => l[n.toNat]?) h.map
  simp only [List.getElem?_map] at h1
  unfold stOf
  rw [h1]
theorem Sm.looks (h : Sm A R) (n st : Int) : looksOf A n st = looksOf R n st := by
  unfold looksOf
  rw [h.st, h.len]
theorem Sm.many (h : Sm A R) (st : Int) : manyOf A st = manyOf R st := by
  have e : ∀ l : List AP, manyOf l st = (l.map (·.1)).countP (· == st) := fun l => by
    unfold manyOf
    rw [List.countP_map]; rfl
  rw [e, e, h.map]
theorem Sm.find (h : Sm A R) : A.findIdx? (fun a => a.1 == 0) = R.findIdx? (fun a => a.1 == 0) := by
  have e : ∀ l : List AP, l.findIdx? (fun a => a.1 == 0) = (l.map (·.1)).findIdx? (· == 0) := fun l => by
    rw [List.findIdx?_map]; rfl
  rw [e, e, h.map]
theorem Sm.head (h : Sm A R) (hs : stOf A n = 1) : headOf A n = headOf R n := by
  obtain ⟨i, a, rfl, ha, h1⟩ := there hs (by decide)
  obtain ⟨b, hb, _, e⟩ := h.to ha
  rw [headOf_at ha, headOf_at hb, e h1]
theorem Sm.load (h : Sm A R) (n : Int) : loadOf A n = loadOf R n := by
  unfold loadOf
  rw [h.looks]
  by_cases e : looksOf R n 1 = 0
  · rw [if_pos e, if_pos e]
    rw [← h.looks, looks_st (by decide)] at e
    by_cases hs : stOf A n = 1
    · rw [h.head hs]
    · rw [if_neg hs] at e; exact absurd e (by decide)
  · rw [if_neg e, if_neg e]
theorem Sm.set (h : Sm A R) (i : Nat) {a b : AP} (e1 : a.1 = b.1) (e2 : a.1 = 1 → a.2 = b.2) : Sm (A.set i a) (R.set i b) := by
  refine ⟨by simp [h.len], fun j c d hc hd => ?_⟩
  by_cases e : i = j
  · subst e
    have h1 := (List.getElem?_eq_some_iff.1 hc).1
    have h2 := (List.getElem?_eq_some_iff.1 hd).1
    rw [List.length_set] at h1 h2
    rw [List.getElem?_set_self h1] at hc
    rw [List.getElem?_set_self h2] at hd
    cases hc; cases hd
    exact ⟨e1, e2⟩
  · rw [List.getElem?_set_ne e] at hc hd
    exact h.at_ j c d hc hd
theorem Sm.alloc (h : Sm A R) (g : Int × Int) : (allocOf A g).1 = (allocOf R g).1 ∧ Sm (allocOf A g).2 (allocOf R g).2 := by
  unfold allocOf
  by_cases hz : g = (0, 0)
  · rw [if_pos hz, if_pos hz]; exact ⟨rfl, h⟩
  · rw [if_neg hz, if_neg hz, h.find]
    cases R.findIdx? (fun a => a.1 == 0) with
    | none => exact ⟨rfl, h⟩
    | some i => exact ⟨rfl, h.set i rfl (fun _ => rfl)⟩
theorem Sm.swap (h : Sm A R) (x n : Int) (was is : Int × Int) : (swapOf A x n was is).1 = (swapOf R x n was is).1 ∧ Sm (swapOf A x n was is).2.1 (swapOf R x n was is).2.1 ∧ (swapOf A x n was is).2.2 = (swapOf R x n was is).2.2 := by
  unfold swapOf
  rw [h.looks]
  by_cases e : looksOf R n 1 = 0
  · rw [if_pos e, if_pos e]
    by_cases hz : is = (0, 0)
    · rw [if_pos hz, if_pos hz]; exact ⟨rfl, h, rfl⟩
    · rw [if_neg hz, if_neg hz]
      rw [← h.looks, looks_st (by decide)] at e
      by_cases hs : stOf A n = 1
      · rw [h.head hs]
        by_cases hw : headOf R n = was
        · rw [if_pos hw, if_pos hw]; exact ⟨rfl, h.set _ rfl (fun _ => rfl), rfl⟩
        · rw [if_neg hw, if_neg hw]; exact ⟨rfl, h, rfl⟩
      · rw [if_neg hs] at e; exact absurd e (by decide)
  · rw [if_neg e, if_neg e]; exact ⟨rfl, h, rfl⟩
theorem Sm.retire (h : Sm A R) (n : Int) : (retireOf A n).1 = (rretOf R n).1 ∧ Sm (retireOf A n).2 (rretOf R n).2 := by
  unfold retireOf rretOf
  rw [h.looks]
  by_cases e : looksOf R n 1 = 0
  · rw [if_pos e, if_pos e]; exact ⟨rfl, h.set _ rfl (fun e => absurd e (by decide))⟩
  · rw [if_neg e, if_neg e]; exact ⟨rfl, h⟩
theorem Sm.release (h : Sm A R) (n : Int) : (releaseOf A n).1 = (rrelOf R n).1 ∧ Sm (releaseOf A n).2 (rrelOf R n).2 := by
  unfold releaseOf rrelOf
  rw [h.looks]
  by_cases e : looksOf R n 2 = 0
  · rw [if_pos e, if_pos e]; exact ⟨rfl, h.set _ rfl (fun e => absurd e (by decide))⟩
  · rw [if_neg e, if_neg e]; exact ⟨rfl, h⟩
theorem lives_pre (A : List AP) (m : Nat) : ∀ n, m ≤ n → livesTo A m <+: livesTo A n := by
  intro n
  induction n with
  | zero => intro h; obtain rfl : m = 0 := by omega
            exact List.prefix_refl _
  | succ n ih =>
    intro h
    by_cases e : m = n + 1
    · subst e; exact List.prefix_refl _
    · rw [lives_step]
      exact (ih (by omega)).trans (List.prefix_append _ _)
/-- The next live page. -/
theorem live_next (A : List AP) (k : Nat) (hk : k < (livesOf A).length) : ∀ (d j : Nat), A.length - j = d → j ≤ A.length → (livesTo A j).length = k →
    ∃ (i : Nat), j ≤ i ∧ i < A.length ∧ stOf A i = 1 ∧ (∀ m : Nat, j ≤ m → m < i → stOf A m ≠ 1) ∧ (livesOf A)[k]? = some ((i : Int), headOf A i) ∧ (livesTo A (i + 1)).length = k + 1 := by
  intro d
  induction d with
  | zero =>
    intro j hd hj hl
    obtain rfl : j = A.length := by omega
    unfold livesOf at hk
    omega
  | succ d ih =>
    intro j hd hj hl
    have hst := lives_step A j
    by_cases hg : stOf A j = 1
    · rw [if_pos hg] at hst
      refine ⟨j, Nat.le_refl _, by omega, hg, fun m h1 h2 => by omega, ?_, by rw [hst]; simp [hl]⟩
      have hp := lives_pre A (j + 1) A.length (by omega)
      rw [hst] at hp
      obtain ⟨t, ht⟩ := hp
      unfold livesOf
      rw [← ht, List.append_assoc, List.getElem?_append_right (by omega), hl]
      simp
    · rw [if_neg hg, List.append_nil] at hst
      obtain ⟨i, h1, h2, h3, h4, h5, h6⟩ := ih (j + 1) (by omega) (by omega) (by rw [hst]; exact hl)
      refine ⟨i, by omega, h2, h3, fun m hm1 hm2 => ?_, h5, h6⟩
      by_cases e : m = j
      · subst e; exact hg
      · exact h4 m (by omega) hm2
theorem lives_many (A : List AP) : (livesOf A).length = manyOf A 1 := by
  have h : ∀ k, k ≤ A.length → (livesTo A k).length = manyOf (A.take k) 1 := by
    intro k
    induction k with
    | zero => intro _; rfl
    | succ k ih =>
      intro hk
      obtain ⟨a, ha⟩ : ∃ a, A[k]? = some a := ⟨_, List.getElem?_eq_getElem (by omega)⟩
      rw [lives_step, many_take A 1 ha, List.length_append, ih (by omega)]
      have e : stOf A k = a.1 := by unfold stOf; rw [if_pos (by omega), Int.toNat_natCast, ha]; rfl
      rw [e]
      by_cases h1 : a.1 = 1
      · simp [h1]
      · simp [h1]
  have := h A.length (Nat.le_refl _)
  rwa [List.take_length] at this
theorem lives_mem {y : PH} (h : y ∈ livesOf A) : ∃ (i : Nat) (a : AP), A[i]? = some a ∧ a.1 = 1 ∧ y = ((i : Int), a.2) := by
  unfold livesOf livesTo at h
  obtain ⟨i, hi, h2⟩ := List.mem_filterMap.1 h
  by_cases hs : stOf A i = 1
  · rw [if_pos hs] at h2
    cases h2
    obtain ⟨j, a, e, ha, h1⟩ := there hs (by decide)
    obtain rfl : i = j := by omega
    exact ⟨i, a, ha, h1, by rw [headOf_at ha]⟩
  · rw [if_neg hs] at h2; cases h2
theorem mem_lives {i : Nat} {a : AP} (ha : A[i]? = some a) (h1 : a.1 = 1) : ((i : Int), a.2) ∈ livesOf A := by
  unfold livesOf livesTo
  refine List.mem_filterMap.2 ⟨i, List.mem_range.2 (List.getElem?_eq_some_iff.1 ha).1, ?_⟩
  have e : stOf A i = a.1 := by unfold stOf; rw [if_pos (by omega), Int.toNat_natCast, ha]; rfl
  rw [e, if_pos h1, headOf_at ha]
end
end Go.Proofs.Ytkjkaliblkihmaa

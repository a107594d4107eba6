/- An arena and its reference: the plain law. -/
import Derived.Test.YthbiohfnnjbbgaaArenaL
namespace Go.Proofs.Ythbiohfnnjbbgaa
set_option linter.unusedVariables false
set_option linter.unusedSimpArgs false
open Go Go.RowKit

structure Same4 (L R : List (Slot ByteArray)) : Prop where
  len : L.length = R.length
  at_ : ∀ (i : Nat) (a b : Slot ByteArray), L[i]? = some a → R[i]? = some b → a.given = b.given ∧ a.gen = b.gen ∧ (a.given = true → a.has = b.has)
section
variable {L R : List (Slot ByteArray)}
theorem Same4.refl (L : List (Slot ByteArray)) : Same4 L L := ⟨rfl, fun i a b ha hb => by rw [ha] at hb; cases hb; exact ⟨rfl, rfl, fun _ => rfl⟩⟩
theorem Same4.to (h : Same4 L R) {i : Nat} {a : Slot ByteArray} (ha : L[i]? = some a) : ∃ b, R[i]? = some b ∧ a.given = b.given ∧ a.gen = b.gen ∧ (a.given = true → a.has = b.has) := by
  have hi := (List.getElem?_eq_some_iff.1 ha).1
  have hb : R[i]? = some (R[i]'(by rw [← h.len]; exact hi)) := List.getElem?_eq_getElem _
  exact ⟨_, hb, h.at_ i a _ ha hb⟩
theorem Same4.givenAt (h : Same4 L R) (i : Nat) : givenAt L i = givenAt R i := by
  cases ha : L[i]? with
  | some a =>
    obtain ⟨b, hb, e, _⟩ := h.to ha
    rw [given_of ha, given_of hb, e]
  | none =>
    have hb : R[i]? = none := List.getElem?_eq_none (by rw [← h.len]; exact List.getElem?_eq_none_iff.1 ha)
    unfold Go.Proofs.Ythbiohfnnjbbgaa.givenAt
    rw [ha, hb]
theorem Same4.free (h : Same4 L R) : freeOf L = freeOf R := by
  unfold freeOf freeN
  rw [h.len]
  congr 1
  exact List.filter_congr fun i _ => by rw [h.givenAt]
theorem Same4.good (h : Same4 L R) {i g : Int} {a : Slot ByteArray} (ha : goodAt L i g = some a) : ∃ (n : Nat) (b : Slot ByteArray), i = n ∧ L[n]? = some a ∧ a.given = true ∧ a.gen = g ∧ R[n]? = some b ∧ b.given = true ∧ b.gen = g ∧ b.has = a.has := by
  unfold goodAt at ha
  split at ha
  case isTrue hi =>
    split at ha
    case h_1 x hx =>
      split at ha
      case isTrue hc =>
        cases ha
        simp only [Bool.and_eq_true, beq_iff_eq] at hc
        obtain ⟨b, hb, e1, e2, e3⟩ := h.to hx
        exact ⟨i.toNat, b, by omega, hx, hc.1, hc.2, hb, by rw [← e1]; exact hc.1, by rw [← e2]; exact hc.2, (e3 hc.1).symm⟩
      case isFalse => cases ha
    case h_2 => cases ha
  case isFalse => cases ha
theorem Same4.symm_some (h : Same4 L R) {i g : Int} : (goodAt R i g).isSome = (goodAt L i g).isSome := by
  unfold goodAt
  split
  case isFalse => rfl
  case isTrue hi =>
    cases ha : L[i.toNat]? with
    | some a =>
      obtain ⟨b, hb, e1, e2, e3⟩ := h.to ha
      rw [hb]
      simp only [e1, e2]
      split <;> rfl
    | none =>
      have hb : R[i.toNat]? = none := List.getElem?_eq_none (by rw [← h.len]; exact List.getElem?_eq_none_iff.1 ha)
      rw [hb]
theorem Same4.set (h : Same4 L R) (i : Nat) {a b : Slot ByteArray} (e1 : a.given = b.given) (e2 : a.gen = b.gen) (e3 : a.given = true → a.has = b.has) : Same4 (L.set i a) (R.set i b) := by
  refine ⟨by simp [h.len], fun j x y hx hy => ?_⟩
  by_cases e : i = j
  · subst e
    have h1 := (List.getElem?_eq_some_iff.1 hx).1
    have h2 := (List.getElem?_eq_some_iff.1 hy).1
    rw [List.length_set] at h1 h2
    rw [List.getElem?_set_self h1] at hx
    rw [List.getElem?_set_self h2] at hy
    cases hx; cases hy
    exact ⟨e1, e2, e3⟩
  · rw [List.getElem?_set_ne e] at hx hy
    exact h.at_ j x y hx hy
end
end Go.Proofs.Ythbiohfnnjbbgaa

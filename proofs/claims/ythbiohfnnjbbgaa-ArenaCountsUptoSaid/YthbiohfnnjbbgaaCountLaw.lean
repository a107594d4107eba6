/- ArenaCounts: the plain law. -/
import Derived.Test.YthbiohfnnjbbgaaArenaL
namespace Go.Proofs.Ythbiohfnnjbbgaa
set_option linter.unusedVariables false
set_option linter.unusedSimpArgs false
open Go Go.RowKit

/-- Slots of numbers: n of them, f free, each given at most g times. -/
structure Cnt (n f g : Nat) (l : List (Slot Int)) : Prop where
  len : l.length = n
  free : (freeOf l).length = f
  gen : ∀ s ∈ l, 0 ≤ s.gen ∧ s.gen ≤ g
/-- The first i are given. -/
def firsts (n i : Nat) : List (Slot Int) := ((List.range i).map fun j : Nat => (⟨(j : Int), 1, true⟩ : Slot Int)) ++ List.replicate (n - i) ⟨0, 0, false⟩
theorem firsts_len {n i : Nat} (h : i ≤ n) : (firsts n i).length = n := by unfold firsts; simp; omega
theorem firsts_set {n i : Nat} (h : i < n) : (firsts n i).set i ⟨i, 1, true⟩ = firsts n (i + 1) := by
  unfold firsts
  rw [List.set_append_right _ _ (by simp), List.length_map, List.length_range, Nat.sub_self]
  obtain ⟨m, hm⟩ : ∃ m, n - i = m + 1 := ⟨n - i - 1, by omega⟩
  rw [hm, List.replicate_succ, List.set_cons_zero, List.range_succ, List.map_append, show n - (i + 1) = m by omega]
  simp
theorem firsts_at {n i : Nat} (h : i < n) : (firsts n i)[i]? = some ⟨0, 0, false⟩ := by
  unfold firsts
  rw [List.getElem?_append_right (by simp), List.length_map, List.length_range, Nat.sub_self, List.getElem?_replicate, if_pos (by omega)]
theorem firsts_zero (n : Nat) : firsts n 0 = List.replicate n ⟨0, 0, false⟩ := by unfold firsts; simp
theorem firsts_all (n : Nat) : firsts n n = (List.range n).map fun j : Nat => (⟨(j : Int), 1, true⟩ : Slot Int) := by unfold firsts; simp
theorem firsts_free (n : Nat) : ∀ i, i ≤ n → freeOf (firsts n i) = (List.range' i (n - i)).map fun j : Nat => (j : Int)
  | 0, _ => by
    rw [firsts_zero, free_new n _ rfl, List.range_eq_range', Nat.sub_zero]
  | i + 1, h => by
    have ih := firsts_free n i (by omega)
    obtain ⟨m, hm⟩ : ∃ m, n - i = m + 1 := ⟨n - i - 1, by omega⟩
    rw [hm, List.range'_succ, List.map_cons] at ih
    have := (free_put (s := (⟨(i : Int), 1, true⟩ : Slot Int)) ih rfl).2.2
    rw [firsts_set (by omega)] at this
    rw [this, show n - (i + 1) = m by omega]
theorem firsts_next {n i : Nat} (h : i < n) : freeOf (firsts n i) = (i : Int) :: freeOf (firsts n (i + 1)) := by
  rw [firsts_free n i (by omega), firsts_free n (i + 1) (by omega)]
  obtain ⟨m, hm⟩ : ∃ m, n - i = m + 1 := ⟨n - i - 1, by omega⟩
  rw [hm, List.range'_succ, List.map_cons, show n - (i + 1) = m by omega]
theorem firsts_count {n i : Nat} (h : i ≤ n) : (freeOf (firsts n i)).length = n - i := by rw [firsts_free n i h]; simp
/-- Each was given once. -/
structure Ones (n f : Nat) (l : List (Slot Int)) : Prop where
  len : l.length = n
  free : (freeOf l).length = f
  one : ∀ s ∈ l, s.gen = 1
theorem ones_all (n : Nat) : Ones n 0 (firsts n n) := ⟨firsts_len (Nat.le_refl _), by rw [firsts_count (Nat.le_refl _)]; omega, fun s hs => by
  rw [firsts_all] at hs
  obtain ⟨j, _, rfl⟩ := List.mem_map.1 hs
  rfl⟩
theorem ones_free {n f i : Nat} {l : List (Slot Int)} {s : Slot Int} (h : Ones n f l) (hs : l[i]? = some s) (hg : s.given = true) : Ones n (f + 1) (l.set i ⟨0, s.gen, false⟩) := by
  have hb := free_back (s' := (⟨0, s.gen, false⟩ : Slot Int)) hs hg rfl
  refine ⟨by simpa using h.len, by rw [hb.1, insAt_len _ hb.2, h.free], fun x hx => ?_⟩
  rcases List.mem_or_eq_of_mem_set hx with hx | rfl
  · exact h.one x hx
  · exact h.one s (List.mem_of_getElem? hs)
theorem good_iff {l : List (Slot Int)} {i : Nat} {s : Slot Int} (hs : l[i]? = some s) (hg : s.given = false) (g : Int) : goodAt l (i : Int) g = none := by
  unfold goodAt
  rw [if_pos (by omega), Int.toNat_natCast, hs]
  simp [hg]
theorem ones_cnt {n f : Nat} {l : List (Slot Int)} (h : Ones n f l) : Cnt n f 1 l := ⟨h.len, h.free, fun s hs => by rw [h.one s hs]; omega⟩
/-- One more is given. -/
theorem cnt_put {n f g : Nat} {l : List (Slot Int)} (h : Cnt n (f + 1) g l) (x : Int) : ∃ (i : Nat) (fr : List Int) (s : Slot Int), freeOf l = (i : Int) :: fr ∧ l[i]? = some s ∧ (0 ≤ s.gen ∧ s.gen ≤ g) ∧ Cnt n f (g + 1) (l.set i ⟨x, s.gen + 1, true⟩) := by
  cases hf : freeOf l with
  | nil => have := h.free; rw [hf] at this; cases this
  | cons a fr =>
    have ha : a ∈ freeOf l := by rw [hf]; exact List.mem_cons_self
    unfold freeOf at ha
    obtain ⟨i, hi, rfl⟩ := List.mem_map.1 ha
    have hil := (mem_freeN.1 hi).1
    have hs : l[i]? = some l[i] := List.getElem?_eq_getElem hil
    refine ⟨i, fr, l[i], rfl, hs, h.gen _ (List.getElem_mem hil), by simpa using h.len, ?_, fun s hx => ?_⟩
    · rw [(free_put (s := (⟨x, l[i].gen + 1, true⟩ : Slot Int)) hf rfl).2.2]
      have := h.free
      rw [hf] at this
      simpa using this
    · have hgi := h.gen _ (List.getElem_mem hil)
      rcases List.mem_or_eq_of_mem_set hx with hx | rfl
      · have := h.gen s hx
        exact ⟨this.1, by have := this.2; omega⟩
      · exact ⟨by show 0 ≤ l[i].gen + 1; omega, by show l[i].gen + 1 ≤ _; omega⟩
end Go.Proofs.Ythbiohfnnjbbgaa

/- Rows of records in a block: each record n cells wide. -/
import Derived.Test.YtkjkaliblkihmaaSlices
import Derived.Laws.MakeOwn
namespace Go.Proofs.Ytkjkaliblkihmaa
set_option linter.unusedVariables false
set_option linter.unusedSimpArgs false
open Go Go.RowKit

/-- A block's cells read as the records l, n cells each. -/
def Arr {α : Type} (enc : α → List Value) (n : Nat) (arr : Array Value) (l : List α) : Prop :=
  arr.size = l.length * n ∧ ∀ i x, l[i]? = some x → ∀ j, j < n → arr[i * n + j]? = (enc x)[j]?

section
variable {α : Type} {enc : α → List Value} {n : Nat} {arr : Array Value} {l : List α}
theorem idx_ne {i k j m n : Nat} (hj : j < n) (hm : m < n) (h : i ≠ k ∨ j ≠ m) : i * n + j ≠ k * n + m := by
  intro e
  rcases Nat.lt_trichotomy i k with hlt | rfl | hlt
  · have : (i + 1) * n ≤ k * n := Nat.mul_le_mul_right n hlt
    rw [Nat.add_mul] at this
    omega
  · rcases h with h | h
    · exact h rfl
    · omega
  · have : (k + 1) * n ≤ i * n := Nat.mul_le_mul_right n hlt
    rw [Nat.add_mul] at this
    omega
theorem idx_lt {i j n m : Nat} (hi : i < m) (hj : j < n) : i * n + j < m * n := by
  have : (i + 1) * n ≤ m * n := Nat.mul_le_mul_right n hi
  rw [Nat.add_mul] at this
  omega
theorem Arr.cell {i j : Nat} {x : α} (h : Arr enc n arr l) (hx : l[i]? = some x) (hj : j < n) : arr[i * n + j]? = (enc x)[j]? := h.2 i x hx j hj
/-- One cell of one record is written. -/
theorem Arr.set {i j : Nat} {x x' : α} {v : Value} (h : Arr enc n arr l) (hx : l[i]? = some x) (hj : j < n) (hlen : (enc x).length = n) (he : enc x' = (enc x).set j v) :
    Arr enc n (arr.setIfInBounds (i * n + j) v) (l.set i x') := by
  have hi : i < l.length := (List.getElem?_eq_some_iff.1 hx).1
  refine ⟨by simp [h.1], fun k y hy m hm => ?_⟩
  by_cases hk : i = k
  · subst hk
    rw [List.getElem?_set_self hi] at hy
    obtain rfl := Option.some.inj hy
    rw [he]
    by_cases hjm : j = m
    · subst hjm
      have hb : i * n + j < arr.size := by rw [h.1]; exact idx_lt hi hj
      rw [Array.getElem?_setIfInBounds_self_of_lt hb, List.getElem?_set_self (by omega)]
    · rw [Array.getElem?_setIfInBounds_ne (idx_ne hj hm (.inr hjm)), List.getElem?_set_ne hjm]
      exact h.2 i x hx m hm
  · rw [List.getElem?_set_ne hk] at hy
    rw [Array.getElem?_setIfInBounds_ne (idx_ne hj hm (.inl hk))]
    exact h.2 k y hy m hm
/-- A row of one record again and again. -/
theorem Arr.made {z : Array Value} {x : α} (hz : z.size = n) (hn : 0 < n) (he : enc x = z.toList) (m : Nat) : Arr enc n (madeCells z (m * n)) (List.replicate m x) := by
  refine ⟨by simp [madeCells], fun i y hy j hj => ?_⟩
  have hi : i < m := by have := (List.getElem?_eq_some_iff.1 hy).1; simpa using this
  rw [List.getElem?_replicate, if_pos hi] at hy
  obtain rfl := Option.some.inj hy
  have hlt := idx_lt hi hj
  have hmod : (i * n + j) % z.size = j := by rw [hz, Nat.mul_comm, Nat.mul_add_mod, Nat.mod_eq_of_lt hj]
  simp only [madeCells, Array.getElem?_map, Array.getElem?_range, if_pos hlt, Option.map_some, hmod, he]
  simp [hz, hj]
end

/-- make([]E, n). -/
theorem run_mk {P : Program} {w : World} {t E sz bytes : Nat} {z : Value} (el : Elt P t E z sz bytes) (n : Nat) (hb : (bytes : Int) * (n : Int) ≤ 281474976710656) (h63 : (n : Int) ≤ 9223372036854775807) :
    (Instr.makeSlice t (.int .i64 (n : Int)) (.int .i64 (n : Int))).run P w = .ok (.slice (some ⟨w.heap.size, 0, none⟩) n n) (w.alloc (.cells (madeCells z.cells (n * sz)) E)) := by
  obtain ⟨i, hi, hi2⟩ := Option.map_eq_some_iff.1 el.hi
  simp only [Prod.mk.injEq] at hi2
  obtain ⟨hz, hs, hby⟩ := hi2
  have := run_make w t E i z el.ht hi hz .i64 .i64 n n (by omega) (Int.le_refl _) (by rw [hby]; exact hb) h63
  rw [hs] at this
  simpa using this
end Go.Proofs.Ytkjkaliblkihmaa

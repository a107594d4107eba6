/- EpochEnds: the plain law. -/
import Derived.Test.YtghmgmchfcbodaaEpochG
import Derived.Test.YtghmgmchfcbodaaLawAges
namespace Go.Proofs.Ytghmgmchfcbodaa
set_option linter.unusedVariables false
set_option linter.unusedSimpArgs false
open Go Go.RowKit

/-- The sessions below k are unpinned. -/
def Eps.un (σ : Eps) : Nat → Eps
  | 0 => σ
  | k + 1 => (σ.un k).put k 0
theorem un_ls (σ : Eps) : ∀ k, (σ.un k).ls = σ.ls ∧ (σ.un k).now = σ.now
  | 0 => ⟨rfl, rfl⟩
  | k + 1 => un_ls σ k
theorem good_un {m : Nat} {σ : Eps} (h : Good m σ) : ∀ k, Good m (σ.un k)
  | 0 => h
  | k + 1 => good_put (good_un h k) (by omega)
theorem un_zero {m : Nat} {σ : Eps} (h : Good m σ) : ∀ k (j : Nat) x, j < k → (σ.un k).xs[j]? = some x → x = 0
  | 0, j, x, hj, _ => by omega
  | k + 1, j, x, hj, hx => by
    by_cases e : j = k
    · subst e
      simp only [Eps.un, Eps.put, Int.toNat_natCast] at hx
      rw [List.getElem?_set_self'] at hx
      cases hq : (σ.un j).xs[j]? with
      | none => rw [hq] at hx; simp at hx
      | some y => rw [hq] at hx; simpa using hx.symm
    · simp only [Eps.un, Eps.put, Int.toNat_natCast] at hx
      rw [List.getElem?_set_ne (by omega)] at hx
      exact un_zero h k j x (by omega) hx
/-- Nobody is pinned. -/
def Eps.Free (σ : Eps) : Prop := ∀ (j : Nat) x, σ.xs[j]? = some x → x = 0
theorem free_un {m : Nat} {σ : Eps} (h : Good m σ) : (σ.un 17).Free := fun j x hx => un_zero h 17 j x (by have := (List.getElem?_eq_some_iff.1 hx).1; have := (good_un h 17).fit.xlen; omega) hx
theorem put_same {σ : Eps} {k : Nat} (hk : k < σ.xs.length) (h : σ.at k = 0) : σ.put k 0 = σ := by
  unfold Eps.put
  have : σ.xs.set k 0 = σ.xs := by
    apply List.ext_getElem?
    intro i
    by_cases e : k = i
    · subst e
      rw [List.getElem?_set_self hk]
      simp only [Eps.at, Int.toNat_natCast, List.getD] at h
      rw [List.getElem?_eq_getElem hk] at h ⊢
      simpa using h.symm
    · rw [List.getElem?_set_ne e]
  rw [Int.toNat_natCast, this]
theorem free_adv {σ : Eps} (h : σ.Free) : σ.advance = (⟨σ.now + 1, σ.xs, σ.ls.set ((σ.now + 2) % 3) []⟩, σ.row ((σ.now + 2) % 3), 0) := by
  unfold Eps.advance
  rw [if_neg]
  rw [held_no (fun i x hx => .inl (h i x hx))]
  simp
theorem limbo_two {σ : Eps} (hp : 0 < σ.now) (hg : σ.Gap) : σ.limbo.map (·.2) = σ.row ((σ.now + 2) % 3) ++ σ.row (σ.now % 3) := by
  have hmm : ∀ m, ((σ.row (m % 3)).map fun x => ((m : Int), x)).map (·.2) = σ.row (m % 3) := by
    intro m
    rw [List.map_map]
    exact List.map_id' _
  by_cases e : σ.now = 1
  · unfold Eps.limbo Eps.upto
    rw [e]
    simp only [show (1 : Nat) - 2 = 0 from rfl, show 1 + 1 - 0 = 2 from rfl, List.range'_succ, List.range'_zero, List.flatMap_cons, List.flatMap_nil, List.append_nil, List.map_append, hmm]
  · obtain ⟨n, hn⟩ : ∃ n, σ.now = n + 2 := ⟨σ.now - 2, by omega⟩
    unfold Eps.limbo Eps.upto
    unfold Eps.Gap at hg
    rw [hn] at hg ⊢
    rw [show n + 2 - 2 = n by omega, show n + 2 + 1 - n = 3 by omega]
    simp only [List.range'_succ, List.range'_zero, List.flatMap_cons, List.flatMap_nil, List.append_nil, List.map_append, hmm]
    rw [show n % 3 = (n + 2 + 1) % 3 by omega, hg, List.nil_append, show (n + 1) % 3 = (n + 2 + 2) % 3 by omega]
structure Ends (σ τ υ : Eps) (a b : List Re) : Prop where
  one : σ.advance = (τ, a, 0)
  two : τ.advance = (υ, b, 0)
  all : σ.limbo.map (·.2) = a ++ b
  none : υ.limbo = []
  free : υ.Free
theorem ends_of {m : Nat} {σ : Eps} (h : Good m σ) (hf : σ.Free) : ∃ τ υ a b, Ends σ τ υ a b := by
  have h1 := free_adv hf
  have hf1 : (⟨σ.now + 1, σ.xs, σ.ls.set ((σ.now + 2) % 3) []⟩ : Eps).Free := hf
  have h2 := free_adv hf1
  refine ⟨_, _, _, _, h1, h2, ?_, ?_, hf⟩
  · rw [limbo_two h.fit.pos h.gap]
    congr 1
    show _ = Eps.row ⟨σ.now + 1, σ.xs, σ.ls.set ((σ.now + 2) % 3) []⟩ ((σ.now + 1 + 2) % 3)
    rw [row_set h.fit.llen, if_neg (by omega), show (σ.now + 1 + 2) % 3 = σ.now % 3 by omega]
  · apply List.eq_nil_of_length_eq_zero
    have hl : ((⟨σ.now + 1, σ.xs, σ.ls.set ((σ.now + 2) % 3) []⟩ : Eps).ls).length = 3 := by simpa using h.fit.llen
    have := limbo_le (σ := ⟨σ.now + 1 + 1, σ.xs, (σ.ls.set ((σ.now + 2) % 3) []).set ((σ.now + 1 + 2) % 3) []⟩) (M := 0) (fun j => by
      by_cases h3 : j < 3
      · have e1 := row_set (σ := ⟨σ.now + 1, σ.xs, σ.ls.set ((σ.now + 2) % 3) []⟩) (n := σ.now + 1 + 1) (xs := σ.xs) (i := (σ.now + 1 + 2) % 3) (l := []) hl j
        have e2 := row_set (n := σ.now + 1) (xs := σ.xs) (i := (σ.now + 2) % 3) (l := []) h.fit.llen j
        rw [e1]
        split
        · simp
        · rename_i hn1
          rw [e2]
          split
          · simp
          · rename_i hn2
            have : j = (σ.now + 1) % 3 := by omega
            rw [this, show σ.row ((σ.now + 1) % 3) = [] from h.gap]; simp
      · simp only [Eps.row, List.getD]
        rw [List.getElem?_eq_none (by simp [h.fit.llen]; omega)]; simp)
    exact Nat.le_zero.1 this
/-- With one session pinned. -/
structure Held (σ τ υ : Eps) (k : Nat) : Prop where
  pin : σ.pin k = (τ, 0)
  adv : ∃ a, τ.advance = (υ, a, 0)
  held : υ.advance = (υ, [], 62)
  now : υ.now = σ.now + 1
  un : (υ.unpin k).2 = 0
theorem held_of {m : Nat} {σ : Eps} (h : Good m σ) (hf : σ.Free) {k : Nat} (hk : k < 17) : ∃ τ υ, Held σ τ υ k := by
  have hin : inS (k : Int) = true := by simp [inS]; omega
  have hkl : k < σ.xs.length := by have := h.fit.xlen; omega
  have hx : σ.xs[k]? = some σ.xs[k] := List.getElem?_eq_getElem hkl
  have hat : σ.at k = 0 := by
    simp only [Eps.at, Int.toNat_natCast, List.getD, hx]
    exact hf k _ hx
  have hp := h.fit.pos
  have hget : (σ.xs.set k (σ.now : Int))[k]? = some (σ.now : Int) := by rw [List.getElem?_set_self hkl]
  have hnh : (σ.put k σ.now).held = false := held_no (fun i x hi => by
    simp only [Eps.put, Int.toNat_natCast] at hi ⊢
    by_cases e : k = i
    · subst e
      rw [hget] at hi; cases hi; exact .inr (Int.le_refl _)
    · rw [List.getElem?_set_ne e] at hi
      exact .inl (hf i x hi))
  refine ⟨_, ⟨σ.now + 1, σ.xs.set k σ.now, σ.ls.set ((σ.now + 2) % 3) []⟩, by unfold Eps.pin; rw [if_pos hin, if_pos hat], ⟨_, by unfold Eps.advance; rw [hnh]; rfl⟩, ?_, rfl, ?_⟩
  · unfold Eps.advance
    rw [if_pos]
    exact held_yes (i := k) (x := (σ.now : Int)) hget (by omega) (by show (σ.now : Int) < ((σ.now + 1 : Nat) : Int); omega)
  · unfold Eps.unpin
    rw [if_pos hin]
    have : (⟨σ.now + 1, σ.xs.set k σ.now, σ.ls.set ((σ.now + 2) % 3) []⟩ : Eps).at k = (σ.now : Int) := by
      simp only [Eps.at, Int.toNat_natCast, List.getD, hget]; rfl
    simp only [this]
    rw [if_neg (by omega)]
end Go.Proofs.Ytghmgmchfcbodaa

/- ArenaStale: the plain law. -/
import Derived.Test.YthbiohfnnjbbgaaArenaL
namespace Go.Proofs.Ythbiohfnnjbbgaa
set_option linter.unusedVariables false
set_option linter.unusedSimpArgs false
open Go Go.RowKit

structure Sta (n k : Nat) (L : List (Slot ByteArray)) (hs : List (Int × Int)) (ts : List ByteArray) (gs : List (Int × Int)) : Prop where
  len : L.length = n
  tl : ts.length = hs.length
  good : ∀ (j : Nat) (h : Int × Int), hs[j]? = some h → ∃ (i : Nat) (t : ByteArray), h.1 = (i : Int) ∧ ts[j]? = some t ∧ L[i]? = some ⟨t, h.2, true⟩
  dis : ∀ (j j' : Nat) (h h' : Int × Int), hs[j]? = some h → hs[j']? = some h' → h.1 = h'.1 → j = j'
  cnt : hs.length + (freeOf L).length = n
  gone : ∀ g ∈ gs, ∃ (i : Nat) (s : Slot ByteArray), g.1 = (i : Int) ∧ L[i]? = some s ∧ (g.2 < s.gen ∨ (g.2 = s.gen ∧ s.given = false))
  gen : ∀ s ∈ L, 0 ≤ s.gen ∧ s.gen ≤ k
  glen : gs.length ≤ k
section
variable {n k : Nat} {L : List (Slot ByteArray)} {hs : List (Int × Int)} {ts : List ByteArray} {gs : List (Int × Int)}
theorem sta_new (n : Nat) : Sta n 0 (List.replicate n ⟨⟨#[]⟩, 0, false⟩) [] [] [] := by
  refine ⟨by simp, rfl, fun j h hj => by simp at hj, fun j j' h h' hj => by simp at hj, ?_, fun g hg => by simp at hg, fun s hs => ?_, by simp⟩
  · rw [free_new n _ rfl]; simp
  · rw [List.eq_of_mem_replicate hs]
    exact ⟨Int.le_refl _, Int.le_refl _⟩
theorem sta_mono {k' : Nat} (h : Sta n k L hs ts gs) (hk : k ≤ k') : Sta n k' L hs ts gs := ⟨h.len, h.tl, h.good, h.dis, h.cnt, h.gone, fun s hs => by have := h.gen s hs; exact ⟨this.1, by omega⟩, Nat.le_trans h.glen hk⟩
theorem sta_full (h : Sta n k L hs ts gs) (hf : freeOf L = []) : hs.length = n := by have := h.cnt; rw [hf] at this; simpa using this
theorem sta_next (h : Sta n k L hs ts gs) {a : Int} {fr : List Int} (hf : freeOf L = a :: fr) : ∃ (i : Nat) (s : Slot ByteArray), a = (i : Int) ∧ L[i]? = some s ∧ (0 ≤ s.gen ∧ s.gen ≤ k) ∧ s.given = false := by
  have ha : a ∈ freeOf L := by rw [hf]; exact List.mem_cons_self
  unfold freeOf at ha
  obtain ⟨i, hi, rfl⟩ := List.mem_map.1 ha
  obtain ⟨h1, h2⟩ := mem_freeN.1 hi
  have hs : L[i]? = some L[i] := List.getElem?_eq_getElem h1
  refine ⟨i, L[i], rfl, hs, h.gen _ (List.getElem_mem h1), ?_⟩
  rw [given_of hs] at h2
  exact h2
theorem sta_put (h : Sta n k L hs ts gs) {i : Nat} {fr : List Int} {s : Slot ByteArray} (hf : freeOf L = (i : Int) :: fr) (hs' : L[i]? = some s) (hg : s.given = false) (x : ByteArray) :
    Sta n (k + 1) (L.set i ⟨x, s.gen + 1, true⟩) (hs ++ [((i : Int), s.gen + 1)]) (ts ++ [x]) gs := by
  have hil := (List.getElem?_eq_some_iff.1 hs').1
  have hne : ∀ (j : Nat) (h' : Int × Int), hs[j]? = some h' → h'.1 ≠ (i : Int) := fun j h' hj e => by
    obtain ⟨i', t, e1, _, e2⟩ := h.good j h' hj
    obtain rfl : i' = i := by omega
    rw [hs'] at e2
    injection e2 with e2
    rw [e2] at hg
    cases hg
  have hcases : ∀ (j : Nat) (h' : Int × Int), (hs ++ [((i : Int), s.gen + 1)])[j]? = some h' → hs[j]? = some h' ∨ (j = hs.length ∧ h' = ((i : Int), s.gen + 1)) := fun j h' hj => by
    by_cases hjl : j < hs.length
    · rw [List.getElem?_append_left hjl] at hj; exact .inl hj
    · rw [List.getElem?_append_right (by omega)] at hj
      have h0 := (List.getElem?_eq_some_iff.1 hj).1
      simp at h0
      have : j = hs.length := by omega
      subst this
      simp at hj
      exact .inr ⟨rfl, hj.symm⟩
  refine ⟨by simpa using h.len, by simp [h.tl], fun j h' hj => ?_, fun j j' h1 h2 hj hj' e => ?_, ?_, fun g hgg => ?_, fun s' hs2 => ?_, Nat.le_succ_of_le h.glen⟩
  · rcases hcases j h' hj with hj | ⟨rfl, rfl⟩
    · obtain ⟨i', t, e1, e2, e3⟩ := h.good j h' hj
      have hni : i ≠ i' := fun e => hne j h' hj (by rw [e1, e])
      refine ⟨i', t, e1, ?_, by rw [List.getElem?_set_ne hni]; exact e3⟩
      rw [List.getElem?_append_left (List.getElem?_eq_some_iff.1 e2).1]; exact e2
    · refine ⟨i, x, rfl, ?_, List.getElem?_set_self hil⟩
      rw [← h.tl, List.getElem?_append_right (Nat.le_refl _), Nat.sub_self]; rfl
  · rcases hcases j h1 hj with hj | ⟨rfl, rfl⟩ <;> rcases hcases j' h2 hj' with hj' | ⟨rfl, rfl⟩
    · exact h.dis j j' h1 h2 hj hj' e
    · exact absurd e (hne j h1 hj)
    · exact absurd e.symm (hne j' h2 hj')
    · rfl
  · rw [(free_put (s := (⟨x, s.gen + 1, true⟩ : Slot ByteArray)) hf rfl).2.2]
    have := h.cnt
    rw [hf] at this
    simp at this ⊢
    omega
  · obtain ⟨i', s', e1, e2, e3⟩ := h.gone g hgg
    by_cases e : i = i'
    · subst e
      rw [hs'] at e2
      cases e2
      refine ⟨i, _, e1, List.getElem?_set_self hil, .inl ?_⟩
      show g.2 < s.gen + 1
      omega
    · exact ⟨i', s', e1, by rw [List.getElem?_set_ne e]; exact e2, e3⟩
  · have hgi := h.gen s (List.mem_of_getElem? hs')
    rcases List.mem_or_eq_of_mem_set hs2 with hx | rfl
    · have := h.gen s' hx
      exact ⟨this.1, by omega⟩
    · exact ⟨by show 0 ≤ s.gen + 1; omega, by show s.gen + 1 ≤ ((k + 1 : Nat) : Int); omega⟩
theorem sta_set (h : Sta n k L hs ts gs) {q : Nat} {a : Int × Int} {i : Nat} {t : ByteArray} (hq : hs[q]? = some a) (ha : a.1 = (i : Int)) (hl : L[i]? = some ⟨t, a.2, true⟩) (x : ByteArray) :
    Sta n k (L.set i ⟨x, a.2, true⟩) hs (ts.set q x) gs := by
  have hil := (List.getElem?_eq_some_iff.1 hl).1
  have hql := (List.getElem?_eq_some_iff.1 hq).1
  refine ⟨by simpa using h.len, by simp [h.tl], fun j h' hj => ?_, h.dis, ?_, fun g hgg => ?_, fun s' hs2 => ?_, h.glen⟩
  · obtain ⟨i', t', e1, e2, e3⟩ := h.good j h' hj
    by_cases e : i = i'
    · subst e
      obtain rfl := h.dis j q h' a hj hq (by rw [e1, ha])
      rw [hq] at hj
      cases hj
      exact ⟨i, x, ha, by rw [List.getElem?_set_self (by rw [h.tl]; exact hql)], List.getElem?_set_self hil⟩
    · have hjq : q ≠ j := fun e' => by
        subst e'
        rw [hq] at hj
        cases hj
        omega
      exact ⟨i', t', e1, by rw [List.getElem?_set_ne hjq]; exact e2, by rw [List.getElem?_set_ne e]; exact e3⟩
  · rw [free_same (s' := (⟨x, a.2, true⟩ : Slot ByteArray)) hl rfl]; exact h.cnt
  · obtain ⟨i', s', e1, e2, e3⟩ := h.gone g hgg
    by_cases e : i = i'
    · subst e
      rw [hl] at e2
      cases e2
      exact ⟨i, _, e1, List.getElem?_set_self hil, e3⟩
    · exact ⟨i', s', e1, by rw [List.getElem?_set_ne e]; exact e2, e3⟩
  · rcases List.mem_or_eq_of_mem_set hs2 with hx | rfl
    · exact h.gen s' hx
    · exact h.gen ⟨t, a.2, true⟩ (List.mem_of_getElem? hl)
theorem erase_at {α : Type} (l : List α) (q j : Nat) (hq : q < l.length) : (l.take q ++ l.drop (q + 1))[j]? = l[if j < q then j else j + 1]? := by
  by_cases h : j < q
  · rw [if_pos h, List.getElem?_append_left (by rw [List.length_take]; omega), List.getElem?_take, if_pos h]
  · rw [if_neg h, List.getElem?_append_right (by rw [List.length_take]; omega), List.length_take, List.getElem?_drop]
    congr 1
    omega
theorem sta_free (h : Sta n k L hs ts gs) {q : Nat} {a : Int × Int} {i : Nat} {t : ByteArray} (hq : hs[q]? = some a) (ha : a.1 = (i : Int)) (hl : L[i]? = some ⟨t, a.2, true⟩) :
    Sta n (k + 1) (L.set i ⟨⟨#[]⟩, a.2, false⟩) (hs.take q ++ hs.drop (q + 1)) (ts.take q ++ ts.drop (q + 1)) (gs ++ [a]) := by
  have hil := (List.getElem?_eq_some_iff.1 hl).1
  have hql := (List.getElem?_eq_some_iff.1 hq).1
  have hfb := free_back (s' := (⟨⟨#[]⟩, a.2, false⟩ : Slot ByteArray)) hl rfl rfl
  have hix : ∀ j, (if j < q then j else j + 1) ≠ q := fun j => by split <;> omega
  refine ⟨by simpa using h.len, by simp [h.tl], fun j h' hj => ?_, fun j j' h1 h2 hj hj' e => ?_, ?_, fun g hgg => ?_, fun s' hs2 => ?_, by rw [List.length_append]; have := h.glen; simp; omega⟩
  · rw [erase_at _ _ _ hql] at hj
    obtain ⟨i', t', e1, e2, e3⟩ := h.good _ h' hj
    have hni : i ≠ i' := fun e => hix j (h.dis _ q h' a hj hq (by rw [e1, ha, e]))
    exact ⟨i', t', e1, by rw [erase_at _ _ _ (by rw [h.tl]; exact hql)]; exact e2, by rw [List.getElem?_set_ne hni]; exact e3⟩
  · rw [erase_at _ _ _ hql] at hj hj'
    have := h.dis _ _ h1 h2 hj hj' e
    split at this <;> split at this <;> omega
  · rw [hfb.1, insAt_len _ hfb.2]
    have := h.cnt
    rw [List.length_append, List.length_take, List.length_drop]
    omega
  · rcases List.mem_append.1 hgg with hgg | hgg
    · obtain ⟨i', s', e1, e2, e3⟩ := h.gone g hgg
      by_cases e : i = i'
      · subst e
        rw [hl] at e2
        cases e2
        refine ⟨i, _, e1, List.getElem?_set_self hil, ?_⟩
        rcases e3 with e3 | ⟨_, e3⟩
        · exact .inl e3
        · cases e3
      · exact ⟨i', s', e1, by rw [List.getElem?_set_ne e]; exact e2, e3⟩
    · simp at hgg
      subst hgg
      exact ⟨i, _, ha, List.getElem?_set_self hil, .inr ⟨rfl, rfl⟩⟩
  · rcases List.mem_or_eq_of_mem_set hs2 with hx | rfl
    · have := h.gen s' hx
      exact ⟨this.1, by omega⟩
    · have := h.gen _ (List.mem_of_getElem? hl)
      exact ⟨this.1, by have := this.2; show a.2 ≤ ((k + 1 : Nat) : Int); simp only at this; omega⟩
theorem sta_gone (h : Sta n k L hs ts gs) {j : Nat} {g : Int × Int} (hj : gs[j]? = some g) : goodAt L g.1 g.2 = none := by
  obtain ⟨i, s, e1, e2, e3⟩ := h.gone g (List.mem_of_getElem? hj)
  unfold goodAt
  rw [e1, if_pos (by omega), Int.toNat_natCast, e2]
  rcases e3 with e3 | ⟨_, e3⟩
  · have : (s.gen == g.2) = false := by simp; omega
    simp [this]
  · simp [e3]
end
end Go.Proofs.Ythbiohfnnjbbgaa

/- TableGone: what is live and gone, as lists. -/
import Derived.Test.YtkjkaliblkihmaaMaps
import Derived.Test.YtkjkaliblkihmaaTabMore
namespace Go.Proofs.Ytkjkaliblkihmaa
set_option linter.unusedVariables false
set_option linter.unusedSimpArgs false
open Go Go.RowKit

theorem looks_iff {aps : List AP} {p st : Int} (h : st ≠ 0) : looksOf aps p st = 0 ↔ stOf aps p = st := by
  constructor
  · intro hl
    obtain ⟨i, a, rfl, h1, h2⟩ := looks_ok hl
    unfold stOf
    rw [if_pos (by omega)]
    simp [h1, h2]
  · intro hs
    have : 0 ≤ p ∧ p < aps.length := by
      unfold stOf at hs
      split at hs
      · rename_i h0
        refine ⟨h0, ?_⟩
        by_cases hp : p < aps.length
        · exact hp
        · rw [List.getElem?_eq_none (by omega)] at hs
          exact absurd hs.symm h
      · exact absurd hs.symm h
    unfold looksOf
    rw [if_pos ⟨this.1, this.2, hs⟩]
theorem st_in {aps : List AP} {p : Int} (h : stOf aps p ≠ 0) : ∃ i : Nat, p = i ∧ i < aps.length := by
  unfold stOf at h
  split at h
  · rename_i h0
    refine ⟨p.toNat, by omega, ?_⟩
    by_cases hp : p.toNat < aps.length
    · exact hp
    · rw [List.getElem?_eq_none (by omega)] at h
      exact absurd rfl h
  · exact absurd rfl h
theorem st_set {aps : List AP} {i : Nat} (hi : i < aps.length) (a : AP) (p : Int) : stOf (aps.set i a) p = if p = i then a.1 else stOf aps p := by
  unfold stOf
  by_cases hp : p = i
  · subst hp
    rw [if_pos rfl, if_pos (by omega), Int.toNat_natCast, List.getElem?_set_self hi]
    rfl
  · rw [if_neg hp]
    split
    · rw [List.getElem?_set_ne (by omega)]
    · rfl
theorem head_set {aps : List AP} {i : Nat} (hi : i < aps.length) (a : AP) (p : Int) (h0 : 0 ≤ p) : headOf (aps.set i a) p = if p = i then a.2 else headOf aps p := by
  unfold headOf
  by_cases hp : p = i
  · subst hp
    rw [if_pos rfl, Int.toNat_natCast, List.getElem?_set_self hi]
    rfl
  · rw [if_neg hp, List.getElem?_set_ne (by omega)]
theorem many_set {aps : List AP} {i : Nat} {a : AP} (hi : aps[i]? = some a) (a' : AP) (st : Int) : manyOf (aps.set i a') st + (if a.1 == st then 1 else 0) = manyOf aps st + if a'.1 == st then 1 else 0 := by
  have hlt := (List.getElem?_eq_some_iff.1 hi).1
  have e1 := List.take_append_drop i aps
  have hd : aps.drop i = a :: aps.drop (i + 1) := by
    rw [List.drop_eq_getElem_cons hlt, (List.getElem?_eq_some_iff.1 hi).2]
  unfold manyOf
  rw [List.set_eq_take_append_cons_drop, if_pos hlt, List.countP_append, List.countP_cons]
  conv => rhs; rw [← e1, hd, List.countP_append, List.countP_cons]
  omega

section
variable {α β : Type} [DecidableEq α]
theorem len_put {m : List (α × β)} {a : α} {v : β} : (put m a v).length = if has m a then m.length else m.length + 1 := by
  unfold put; split <;> simp
theorem del_none {m : List (α × β)} {a : α} (h : look m a = none) : del m a = m := by
  unfold del
  rw [List.filter_eq_self]
  intro x hx
  unfold look at h
  rw [Option.map_eq_none_iff, List.find?_eq_none] at h
  simpa using h x hx
theorem len_del {m : List (α × β)} {a : α} (hn : (m.map (·.1)).Nodup) (h : has m a = true) : (del m a).length + 1 = m.length := by
  have h1 : (del m a).length = ((m.map (·.1)).filter (fun x => !decide (x = a))).length := by rw [← keys_del, List.length_map]
  rw [has_iff] at h
  have h2 : m.length = (m.map (·.1)).length := (List.length_map _).symm
  rw [h1, h2]
  clear h1 h2
  generalize m.map (·.1) = ks at hn h ⊢
  induction ks with
  | nil => cases h
  | cons x ks ih =>
    rw [List.nodup_cons] at hn
    rw [List.filter_cons]
    by_cases hx : x = a
    · subst hx
      simp only [decide_true, Bool.not_true, Bool.false_eq_true, if_false, List.length_cons]
      rw [List.filter_eq_self.2]
      intro y hy
      simp only [Bool.not_eq_true', decide_eq_false_iff_not]
      intro e; subst e; exact hn.1 hy
    · simp only [hx, decide_false, Bool.not_false, if_true, List.length_cons]
      rcases List.mem_cons.1 h with h | h
      · exact absurd h.symm hx
      · rw [ih hn.2 h]
end

structure GoneRel (n : Nat) (aps : List AP) (L : List (Int × (Int × Int))) (G : List (Int × Bool)) : Prop where
  len : aps.length = n
  sts : ∀ a ∈ aps, a.1 = 0 ∨ a.1 = 1 ∨ a.1 = 2
  lv : ∀ p, look L p = if stOf aps p = 1 then some (headOf aps p) else none
  gn : ∀ p, look G p = if stOf aps p = 2 then some true else none
  ln : L.length = manyOf aps 1
  gl : G.length = manyOf aps 2
  nl : (L.map (·.1)).Nodup
  ng : (G.map (·.1)).Nodup

theorem GoneRel.new (n : Nat) : GoneRel n (List.replicate n (0, (0, 0))) [] [] where
  len := List.length_replicate
  sts := fun a ha => by rw [List.mem_replicate] at ha; left; rw [ha.2]
  lv := fun p => by
    have : stOf (List.replicate n (0, (0, 0))) p = 0 := by
      unfold stOf
      split
      · rw [List.getElem?_replicate]; split <;> rfl
      · rfl
    rw [this]; rfl
  gn := fun p => by
    have : stOf (List.replicate n (0, (0, 0))) p = 0 := by
      unfold stOf
      split
      · rw [List.getElem?_replicate]; split <;> rfl
      · rfl
    rw [this]; rfl
  ln := by unfold manyOf; rw [List.countP_replicate]; simp
  gl := by unfold manyOf; rw [List.countP_replicate]; simp
  nl := List.nodup_nil
  ng := List.nodup_nil

section
variable {n : Nat} {aps : List AP} {L : List (Int × (Int × Int))} {G : List (Int × Bool)}
theorem GoneRel.has1 (h : GoneRel n aps L G) (p : Int) : has L p = decide (stOf aps p = 1) := by
  unfold has; rw [h.lv]; by_cases e : stOf aps p = 1 <;> simp [e]
theorem GoneRel.has2 (h : GoneRel n aps L G) (p : Int) : has G p = decide (stOf aps p = 2) := by
  unfold has; rw [h.gn]; by_cases e : stOf aps p = 2 <;> simp [e]
theorem set_sts {aps : List AP} (h : ∀ a ∈ aps, a.1 = 0 ∨ a.1 = 1 ∨ a.1 = 2) (i : Nat) (a : AP) (ha : a.1 = 0 ∨ a.1 = 1 ∨ a.1 = 2) : ∀ b ∈ aps.set i a, b.1 = 0 ∨ b.1 = 1 ∨ b.1 = 2 := by
  intro b hb
  rcases List.mem_or_eq_of_mem_set hb with h1 | h1
  · exact h b h1
  · rw [h1]; exact ha
theorem GoneRel.live (h : GoneRel n aps L G) {i : Nat} {a : AP} (hi : aps[i]? = some a) (ha : a.1 = 0 ∨ a.1 = 1) (hh : Int × Int) : GoneRel n (aps.set i (1, hh)) (put L i hh) G := by
  have hlt := (List.getElem?_eq_some_iff.1 hi).1
  have hsi : stOf aps i = a.1 := by unfold stOf; rw [if_pos (by omega)]; simp [hi]
  have c1 := many_set hi (1, hh) 1
  have c2 := many_set hi (1, hh) 2
  simp only [show ((1 : Int) == 1) = true from rfl, show ((1 : Int) == 2) = false from rfl, if_true, Bool.false_eq_true, if_false] at c1 c2
  refine ⟨by rw [List.length_set]; exact h.len, set_sts h.sts i _ (.inr (.inl rfl)), fun p => ?_, fun p => ?_, ?_, ?_, nodup_put h.nl _ _, h.ng⟩
  · rw [look_put, st_set hlt]
    by_cases hp : p = i
    · subst hp
      rw [if_pos rfl, if_pos rfl, if_pos rfl, head_set hlt _ _ (by omega), if_pos rfl]
    · rw [if_neg hp, if_neg hp, h.lv]
      by_cases h1 : stOf aps p = 1
      · obtain ⟨j, rfl, _⟩ := st_in (aps := aps) (p := p) (by omega)
        rw [if_pos h1, if_pos h1, head_set hlt _ _ (by omega), if_neg hp]
      · rw [if_neg h1, if_neg h1]
  · rw [h.gn, st_set hlt]
    by_cases hp : p = i
    · subst hp
      rw [if_pos rfl, if_neg (by omega), if_neg (by simp)]
    · rw [if_neg hp]
  · rw [len_put, h.has1, hsi, h.ln]
    rcases ha with ha | ha <;> simp [ha] at c1 ⊢ <;> omega
  · rw [h.gl]
    rcases ha with ha | ha <;> simp [ha] at c2 <;> omega
theorem GoneRel.gone (h : GoneRel n aps L G) {i : Nat} {a : AP} (hi : aps[i]? = some a) (ha : a.1 = 1) (hh : Int × Int) : GoneRel n (aps.set i (2, hh)) (del L i) (put G i true) := by
  have hlt := (List.getElem?_eq_some_iff.1 hi).1
  have hsi : stOf aps i = a.1 := by unfold stOf; rw [if_pos (by omega)]; simp [hi]
  have c1 := many_set hi (2, hh) 1
  have c2 := many_set hi (2, hh) 2
  rw [ha] at c1 c2 hsi
  simp only [show ((1 : Int) == 1) = true from rfl, show ((1 : Int) == 2) = false from rfl, show ((2 : Int) == 1) = false from rfl, show ((2 : Int) == 2) = true from rfl, if_true, Bool.false_eq_true, if_false] at c1 c2
  refine ⟨by rw [List.length_set]; exact h.len, set_sts h.sts i _ (.inr (.inr rfl)), fun p => ?_, fun p => ?_, ?_, ?_, nodup_del h.nl _, nodup_put h.ng _ _⟩
  · rw [look_del, st_set hlt]
    by_cases hp : p = i
    · subst hp
      rw [if_pos rfl, if_pos rfl, if_neg (by simp)]
    · rw [if_neg hp, if_neg hp, h.lv]
      by_cases h1 : stOf aps p = 1
      · obtain ⟨j, rfl, _⟩ := st_in (aps := aps) (p := p) (by omega)
        rw [if_pos h1, if_pos h1, head_set hlt _ _ (by omega), if_neg hp]
      · rw [if_neg h1, if_neg h1]
  · rw [look_put, st_set hlt, h.gn]
    by_cases hp : p = i
    · subst hp
      rw [if_pos rfl, if_pos rfl, if_pos rfl]
    · rw [if_neg hp, if_neg hp]
  · have := len_del h.nl (a := (i : Int)) (by rw [h.has1, hsi]; rfl)
    have := h.ln
    omega
  · rw [len_put, h.has2, hsi, h.gl]
    simp
    omega
theorem GoneRel.free (h : GoneRel n aps L G) {i : Nat} {a : AP} (hi : aps[i]? = some a) (ha : a.1 = 2) (hh : Int × Int) : GoneRel n (aps.set i (0, hh)) L (del G i) := by
  have hlt := (List.getElem?_eq_some_iff.1 hi).1
  have hsi : stOf aps i = a.1 := by unfold stOf; rw [if_pos (by omega)]; simp [hi]
  have c1 := many_set hi (0, hh) 1
  have c2 := many_set hi (0, hh) 2
  rw [ha] at c1 c2 hsi
  simp only [show ((2 : Int) == 1) = false from rfl, show ((2 : Int) == 2) = true from rfl, show ((0 : Int) == 1) = false from rfl, show ((0 : Int) == 2) = false from rfl, if_true, Bool.false_eq_true, if_false] at c1 c2
  refine ⟨by rw [List.length_set]; exact h.len, set_sts h.sts i _ (.inl rfl), fun p => ?_, fun p => ?_, ?_, ?_, h.nl, nodup_del h.ng _⟩
  · rw [h.lv, st_set hlt]
    by_cases hp : p = i
    · subst hp
      rw [if_pos rfl, if_neg (by omega), if_neg (by simp)]
    · rw [if_neg hp]
      by_cases h1 : stOf aps p = 1
      · obtain ⟨j, rfl, _⟩ := st_in (aps := aps) (p := p) (by omega)
        rw [if_pos h1, if_pos h1, head_set hlt _ _ (by omega), if_neg hp]
      · rw [if_neg h1, if_neg h1]
  · rw [look_del, st_set hlt, h.gn]
    by_cases hp : p = i
    · subst hp
      rw [if_pos rfl, if_pos rfl, if_neg (by simp)]
    · rw [if_neg hp, if_neg hp]
  · have := h.ln; omega
  · have := len_del h.ng (a := (i : Int)) (by rw [h.has2, hsi]; rfl)
    have := h.gl
    omega
theorem GoneRel.full (h : GoneRel n aps L G) (hf : ∀ a ∈ aps, a.1 ≠ 0) : L.length + G.length = n := by
  rw [h.ln, h.gl, ← h.len]
  have hs := h.sts
  clear h
  unfold manyOf
  induction aps with
  | nil => rfl
  | cons a l ih =>
    have := ih (fun b hb => hf b (.tail _ hb)) (fun b hb => hs b (.tail _ hb))
    rw [List.countP_cons, List.countP_cons, List.length_cons]
    have h0 := hf a (.head _)
    rcases hs a (.head _) with h1 | h1 | h1
    · exact absurd h1 h0
    · simp [h1]; omega
    · simp [h1]; omega
end
end Go.Proofs.Ytkjkaliblkihmaa

/- Plain laws of pages: what may be; the halves. -/
import Derived.Test.YtopmeecgjobofaaCheckR
import Derived.Test.YtopmeecgjobofaaKeys2
import Derived.Test.YtopmeecgjobofaaFindP
namespace Go.Proofs.Ytopmeecgjobofaa
set_option linter.unusedVariables false
set_option linter.unusedSimpArgs false
open Go Go.RowKit

structure Ok (p : Pg) : Prop where
  rng : emptyR p.low p.high = false
  right : 0 ≤ p.right
  some_ : p.leaf = false → p.list ≠ []
  ent : ∀ (i : Nat) (x : En), p.list[i]? = some x → badE p i x = false
theorem ok_iff {p : Pg} : checkP p = 0 ↔ Ok p := by
  have h : checkP p = 0 ↔ badP p = false := by unfold checkP; cases badP p <;> simp
  rw [h]
  unfold badP badTo
  simp only [Bool.or_eq_false_iff, decide_eq_false_iff_not, Bool.and_eq_false_iff, List.any_eq_false, Bool.not_eq_eq_eq_not, Bool.not_false, Bool.not_true]
  constructor
  · rintro ⟨⟨⟨h1, h2⟩, h3⟩, h4⟩
    refine ⟨h1, by omega, fun hl hn => ?_, fun i x hx => ?_⟩
    · rw [hl, hn] at h3; simp at h3
    · have := h4 i (by simpa using (List.getElem?_eq_some_iff.1 hx).1)
      rw [hx] at this; simpa using this
  · rintro ⟨h1, h2, h3, h4⟩
    refine ⟨⟨⟨h1, by omega⟩, ?_⟩, fun i hi => ?_⟩
    · cases hl : p.leaf with
      | true => exact .inl rfl
      | false => right; have := h3 hl; simpa using this
    · simp only [List.mem_range] at hi
      have := h4 i _ (List.getElem?_eq_getElem hi)
      rw [List.getElem?_eq_getElem hi]; simpa using this
section
variable {p : Pg}
theorem Ok.inr (h : Ok p) {i : Nat} {x : En} (hx : p.list[i]? = some x) : inR p.low p.high x.key = true := by
  have := h.ent i x hx
  rw [badE_eq] at this; unfold b5 at this
  simp only [Bool.or_eq_false_iff] at this
  simpa using this.1.2
theorem Ok.step (h : Ok p) {i : Nat} {x y : En} (hx : p.list[i]? = some x) (hy : p.list[i + 1]? = some y) : ltS x.key y.key = true := by
  have := h.ent (i + 1) y hy
  rw [badE_eq] at this; unfold b5 at this
  simp only [Bool.or_eq_false_iff, Bool.and_eq_false_iff] at this
  have h1 := this.1.1
  rcases h1 with h1 | h1
  · simp at h1
  · simpa [hx] using h1
theorem Ok.rest (h : Ok p) {i : Nat} {x : En} (hx : p.list[i]? = some x) : b8 p i x = false := by
  have := h.ent i x hx
  rw [badE_eq] at this
  simp only [Bool.or_eq_false_iff] at this
  exact this.2
theorem Ok.sorted (h : Ok p) {i j : Nat} {x y : En} (hij : i < j) (hx : p.list[i]? = some x) (hy : p.list[j]? = some y) : ltS x.key y.key = true := by
  obtain ⟨d, rfl⟩ : ∃ d, j = i + 1 + d := ⟨j - (i + 1), by omega⟩
  induction d generalizing y with
  | zero => exact h.step hx hy
  | succ d ih =>
    have hlt := (List.getElem?_eq_some_iff.1 hy).1
    have hz : p.list[i + 1 + d]? = some (p.list[i + 1 + d]'(by omega)) := List.getElem?_eq_getElem (by omega)
    exact ltS_trans (ih (by omega) hz) (h.step hz hy)
theorem inR_iff {lo hi k : ByteArray} : inR lo hi k = true ↔ ltS k lo = false ∧ (hi.toList.isEmpty = true ∨ ltS k hi = true) := by
  unfold inR
  simp
theorem not_empty_of_lt {a b : ByteArray} (h : ltS a b = true) : b.toList.isEmpty = false := by
  unfold ltS at h
  cases hb : b.toList with
  | nil => rw [hb] at h; cases ha : a.toList <;> rw [ha] at h <;> simp [Op.bytesLess] at h
  | cons => rfl
/-- What a split gives: the place where it parts. -/
structure Halves (p : Pg) (parts : ByteArray) (k : Nat) (x y : En) : Prop where
  k1 : 1 ≤ k
  hx : p.list[k]? = some x
  hy : p.list[k - 1]? = some y
  lo : ltS y.key parts = true
  hi : ltS x.key parts = false
  inner : p.leaf = false → parts = x.key
theorem sep_spec {a b c : ByteArray} (h : sepS a b = (c, true)) : ltS a c = true ∧ ltS b c = false := by
  unfold sepS at h
  split at h
  · rename_i n hn
    cases h
    obtain ⟨h1, _, _⟩ := List.find?_range_eq_some.1 hn
    exact ⟨h1, le_cut b n⟩
  · cases h
theorem split_halves (h : Ok p) {id : Int} {a b : Pg} (hs : splitP p id = (a, b, 0)) : ∃ parts k x y, Halves p parts k x y ∧ a = ⟨p.leaf, p.low, parts, id, p.list.take k⟩ ∧ b = ⟨p.leaf, parts, p.high, p.right, p.list.drop k⟩ ∧ k = p.list.length / 2 ∧ 1 ≤ id ∧ 2 ≤ p.list.length := by
  unfold splitP at hs
  split at hs
  · cases hs
  rename_i h1
  split at hs
  · cases hs
  rename_i h2
  split at hs
  · rename_i h3
    cases hs
    obtain ⟨x, hx⟩ : ∃ x, p.list[p.list.length / 2]? = some x := ⟨_, List.getElem?_eq_getElem (by omega)⟩
    obtain ⟨y, hy⟩ : ∃ y, p.list[p.list.length / 2 - 1]? = some y := ⟨_, List.getElem?_eq_getElem (by omega)⟩
    have hp : partOf p = if p.leaf then sepS y.key x.key else (x.key, true) := by unfold partOf; rw [hx, hy]; rfl
    refine ⟨(partOf p).1, p.list.length / 2, x, y, ⟨by omega, hx, hy, ?_, ?_, fun hl => ?_⟩, rfl, rfl, rfl, by omega, by omega⟩
    · cases hl : p.leaf with
      | true =>
        rw [hl, if_pos rfl] at hp
        rw [hp] at h3 ⊢
        exact (sep_spec (Prod.ext rfl h3)).1
      | false =>
        rw [hl, if_neg (by simp)] at hp
        rw [hp]
        exact h.sorted (by omega) hy hx
    · cases hl : p.leaf with
      | true =>
        rw [hl, if_pos rfl] at hp
        rw [hp] at h3 ⊢
        exact (sep_spec (Prod.ext rfl h3)).2
      | false =>
        rw [hl, if_neg (by simp)] at hp
        rw [hp]; exact ltS_irrefl _
    · rw [hl, if_neg (by simp)] at hp
      rw [hp]
  · cases hs
variable {parts : ByteArray} {k : Nat} {x y : En}
theorem Halves.below (h : Ok p) (s : Halves p parts k x y) {j : Nat} {z : En} (hz : p.list[j]? = some z) (hj : j < k) : ltS z.key parts = true := by
  by_cases e : j = k - 1
  · subst e; have := s.hy; rw [hz] at this; cases this; exact s.lo
  · exact ltS_trans (h.sorted (by omega) hz s.hy) s.lo
theorem Halves.above (h : Ok p) (s : Halves p parts k x y) {j : Nat} {z : En} (hz : p.list[j]? = some z) (hj : k ≤ j) : ltS z.key parts = false := by
  by_cases e : j = k
  · subst e; have := s.hx; rw [hz] at this; cases this; exact s.hi
  · exact leS_trans s.hi (ltS_asymm (h.sorted (by omega) s.hx hz))
theorem Halves.lowle (h : Ok p) (s : Halves p parts k x y) : ltS p.low parts = true := ltS_of_le_lt (inR_iff.1 (h.inr s.hy)).1 s.lo
theorem Halves.ltHigh (h : Ok p) (s : Halves p parts k x y) : p.high.toList.isEmpty = true ∨ ltS parts p.high = true :=
  (inR_iff.1 (h.inr s.hx)).2.imp id (fun q => ltS_of_le_lt s.hi q)
theorem Halves.left (h : Ok p) (s : Halves p parts k x y) (key : ByteArray) (hk : ltS key parts = true) : inR p.low parts key = inR p.low p.high key ∧ inR parts p.high key = false := by
  have he := not_empty_of_lt hk
  constructor
  · unfold inR
    rw [hk, he]
    rcases s.ltHigh h with q | q
    · rw [q]; simp
    · rw [ltS_trans hk q]; simp
  · unfold inR; rw [hk]; rfl
theorem Halves.rightH (h : Ok p) (s : Halves p parts k x y) (key : ByteArray) (hk : ltS key parts = false) : inR parts p.high key = inR p.low p.high key ∧ inR p.low parts key = false := by
  have he := not_empty_of_lt s.lo
  constructor
  · unfold inR
    rw [hk, show ltS key p.low = false from leS_trans (ltS_asymm (s.lowle h)) hk]
  · unfold inR; rw [hk, he]; simp
theorem Halves.findL (h : Ok p) (s : Halves p parts k x y) (key : ByteArray) (hk : ltS key parts = true) (r : Int) : findP p key = findP ⟨p.leaf, p.low, parts, r, p.list.take k⟩ key := by
  have hd : ∀ z ∈ p.list.drop k, ltS key z.key = true := by
    intro z hz
    obtain ⟨i, hi⟩ := List.getElem?_of_mem hz
    rw [List.getElem?_drop] at hi
    exact ltS_of_lt_le hk (s.above h hi (by omega))
  have hl : p.list = p.list.take k ++ p.list.drop k := (List.take_append_drop _ _).symm
  cases hf : p.leaf with
  | true =>
    rw [findP_leaf hf rfl, findP_leaf (p := ⟨true, p.low, parts, r, p.list.take k⟩) rfl rfl]
    congr 1
    conv => lhs; rw [hl]
    rw [List.find?_append]
    rw [show (p.list.drop k).find? (fun x => eqS x.key key) = none from List.find?_eq_none.2 (fun z hz he => by
      have h1 := hd z hz
      rw [eqS_iff.1 he, ltS_irrefl] at h1; cases h1)]
    simp
  | false =>
    rw [findP_inner hf rfl, findP_inner (p := ⟨false, p.low, parts, r, p.list.take k⟩) rfl rfl]
    congr 1
    conv => lhs; rw [hl]
    rw [List.reverse_append, List.find?_append]
    rw [show (p.list.drop k).reverse.find? (fun x => !ltS key x.key) = none from List.find?_eq_none.2 (fun z hz he => by
      rw [List.mem_reverse] at hz
      rw [hd z hz] at he; cases he)]
    simp
theorem Halves.findR (h : Ok p) (s : Halves p parts k x y) (key : ByteArray) (hk : ltS key parts = false) (r : Int) : findP p key = findP ⟨p.leaf, parts, p.high, r, p.list.drop k⟩ key := by
  have hd : ∀ z ∈ p.list.take k, ltS z.key key = true := by
    intro z hz
    obtain ⟨i, hi⟩ := List.getElem?_of_mem hz
    rw [List.getElem?_take] at hi
    split at hi
    · exact ltS_of_lt_le (s.below h hi (by assumption)) hk
    · cases hi
  have hl : p.list = p.list.take k ++ p.list.drop k := (List.take_append_drop _ _).symm
  cases hf : p.leaf with
  | true =>
    rw [findP_leaf hf rfl, findP_leaf (p := ⟨true, parts, p.high, r, p.list.drop k⟩) rfl rfl]
    congr 1
    conv => lhs; rw [hl]
    rw [List.find?_append]
    rw [show (p.list.take k).find? (fun x => eqS x.key key) = none from List.find?_eq_none.2 (fun z hz he => by
      have h1 := hd z hz
      rw [eqS_iff.1 he, ltS_irrefl] at h1; cases h1)]
    simp
  | false =>
    rw [findP_inner hf rfl, findP_inner (p := ⟨false, parts, p.high, r, p.list.drop k⟩) rfl rfl]
    congr 1
    conv => lhs; rw [hl]
    rw [List.reverse_append, List.find?_append]
    have : ∃ z, (p.list.drop k).reverse.find? (fun x => !ltS key x.key) = some z := by
      rw [← Option.isSome_iff_exists, List.find?_isSome]
      refine ⟨x, ?_, ?_⟩
      · rw [List.mem_reverse]
        exact List.mem_of_getElem? (i := 0) (by rw [List.getElem?_drop]; simpa using s.hx)
      · rw [s.inner hf] at hk; rw [hk]; rfl
    obtain ⟨z, hz⟩ := this
    rw [hz]; rfl
end
end Go.Proofs.Ytopmeecgjobofaa

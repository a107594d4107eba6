/- EpochSafe: the plain law. -/
import Derived.Test.YtghmgmchfcbodaaLawAges
import Derived.Test.YtghmgmchfcbodaaEndsLaw
import Derived.Test.YtghmgmchfcbodaaMaps
namespace Go.Proofs.Ytghmgmchfcbodaa
set_option linter.unusedVariables false
set_option linter.unusedSimpArgs false
open Go Go.RowKit

abbrev Hel := List (Int × List Int)
theorem getD_set (p : List Int) (i j : Nat) (v : Int) : (p.set i v).getD j 0 = if i = j ∧ j < p.length then v else p.getD j 0 := by
  simp only [List.getD, List.getElem?_set]
  by_cases e : i = j
  · subst e
    by_cases h : i < p.length
    · rw [if_pos rfl, if_pos h, if_pos ⟨rfl, h⟩]; rfl
    · rw [if_pos rfl, if_neg h, if_neg (fun x => h x.2), List.getElem?_eq_none (by omega)]
  · rw [if_neg e, if_neg (fun x => e x.1)]
/-- was counts no more than p. -/
structure Cov (p was : List Int) : Prop where
  len : was.length = 17
  le : ∀ s, s < 17 → 0 < was.getD s 0 → was.getD s 0 ≤ p.getD s 0 ∨ was.getD s 0 ≤ -(p.getD s 0)
/-- Whoever is pinned still was pinned ahead of this epoch. -/
def Aged (σ : Eps) (p was : List Int) : Prop := ∀ s : Nat, s < 17 → 0 < was.getD s 0 → p.getD s 0 = was.getD s 0 → σ.at s < σ.now
abbrev Eps.old (σ : Eps) : List Re := σ.row ((σ.now + 2) % 3)
abbrev Eps.cur (σ : Eps) : List Re := σ.row (σ.now % 3)
structure Safe (k : Nat) (σ : Eps) (p : List Int) (m : Hel) : Prop where
  good : Good k σ
  plen : p.length = 17
  pin : ∀ s : Nat, s < 17 → -(k : Int) ≤ p.getD s 0 ∧ p.getD s 0 ≤ k ∧ (0 < p.getD s 0 ↔ σ.at s ≠ 0) ∧ σ.at s ≤ σ.now
  keys : (m.map Prod.fst).Perm ((σ.old ++ σ.cur).map (·.kind))
  nodup : (m.map Prod.fst).Nodup
  top : ∀ x ∈ m.map Prod.fst, x < k
  old : ∀ x ∈ σ.old, ∃ was, look m x.kind = some was ∧ Cov p was ∧ Aged σ p was
  cur : ∀ x ∈ σ.cur, ∃ was, look m x.kind = some was ∧ Cov p was
theorem at_put {σ : Eps} (hf : σ.Fit) {i j : Nat} {x : Int} (hi : i < 17) : (σ.put i x).at j = if i = j then x else σ.at j := by
  simp only [Eps.put, Eps.at, Int.toNat_natCast]
  rw [getD_set]
  by_cases e : i = j
  · subst e; rw [if_pos ⟨rfl, by have := hf.xlen; omega⟩, if_pos rfl]
  · rw [if_neg (fun h => e h.1), if_neg e]
section
variable {k : Nat} {σ : Eps} {p : List Int} {m : Hel}
theorem safe_mono {k' : Nat} (h : Safe k σ p m) (hk : k ≤ k') : Safe k' σ p m :=
  ⟨good_mono h.good hk, h.plen, fun s hs => by have := h.pin s hs; exact ⟨by omega, by omega, this.2.2.1, this.2.2.2⟩, h.keys, h.nodup, fun x hx => by have := h.top x hx; omega, h.old, h.cur⟩
theorem safe_pin {s : Nat} (h : Safe k σ p m) (hs : s < 17) (hz : σ.at s = 0) : Safe (k + 1) (σ.put s σ.now) (p.set s (max (p.getD s 0) (-(p.getD s 0)) + 1)) m := by
  have ht := h.good.fit.top
  have hp := h.good.fit.pos
  have hps := h.pin s hs
  have cov : ∀ was, Cov p was → Cov (p.set s (max (p.getD s 0) (-(p.getD s 0)) + 1)) was := fun was c => ⟨c.len, fun j hj h0 => by
    have := c.le j hj h0
    rw [getD_set]
    split
    · rename_i e; obtain ⟨rfl, _⟩ := e; omega
    · exact this⟩
  refine ⟨good_mono (good_put h.good (by omega)) (by omega), by simpa using h.plen, fun j hj => ?_, h.keys, h.nodup, fun x hx => by have := h.top x hx; omega, fun x hx => ?_, fun x hx => ?_⟩
  · have hj2 := h.pin j hj
    rw [at_put h.good.fit hs, getD_set]
    by_cases e : s = j
    · subst e
      rw [if_pos ⟨rfl, by rw [h.plen]; exact hs⟩, if_pos rfl]
      refine ⟨by omega, by omega, ⟨fun _ => by omega, fun _ => by omega⟩, Int.le_refl _⟩
    · rw [if_neg (fun h => e h.1), if_neg e]
      exact ⟨by omega, by omega, hj2.2.2.1, hj2.2.2.2⟩
  · obtain ⟨was, h1, h2, h3⟩ := h.old x hx
    refine ⟨was, h1, cov was h2, fun j hj h0 he => ?_⟩
    have hc := h2.le j hj h0
    rw [getD_set] at he
    rw [at_put h.good.fit hs]
    by_cases e : s = j
    · subst e
      rw [if_pos ⟨rfl, by rw [h.plen]; exact hs⟩] at he
      omega
    · rw [if_neg (fun h => e h.1)] at he
      rw [if_neg e]
      exact h3 j hj h0 he
  · obtain ⟨was, h1, h2⟩ := h.cur x hx
    exact ⟨was, h1, cov was h2⟩
theorem safe_unpin {s : Nat} (h : Safe k σ p m) (hs : s < 17) (hz : σ.at s ≠ 0) : Safe (k + 1) (σ.put s 0) (p.set s (-(p.getD s 0))) m := by
  have hps := h.pin s hs
  have hpos := hps.2.2.1.2 hz
  have cov : ∀ was, Cov p was → Cov (p.set s (-(p.getD s 0))) was := fun was c => ⟨c.len, fun j hj h0 => by
    have := c.le j hj h0
    rw [getD_set]
    split
    · rename_i e; obtain ⟨rfl, _⟩ := e; omega
    · exact this⟩
  refine ⟨good_mono (good_put h.good (by omega)) (by omega), by simpa using h.plen, fun j hj => ?_, h.keys, h.nodup, fun x hx => by have := h.top x hx; omega, fun x hx => ?_, fun x hx => ?_⟩
  · have hj2 := h.pin j hj
    rw [at_put h.good.fit hs, getD_set]
    by_cases e : s = j
    · subst e
      rw [if_pos ⟨rfl, by rw [h.plen]; exact hs⟩, if_pos rfl]
      refine ⟨by omega, by omega, ⟨fun _ => by omega, fun h0 => absurd rfl h0⟩, ?_⟩
      show (0 : Int) ≤ ((σ.now : Nat) : Int)
      omega
    · rw [if_neg (fun h => e h.1), if_neg e]
      exact ⟨by omega, by omega, hj2.2.2.1, hj2.2.2.2⟩
  · obtain ⟨was, h1, h2, h3⟩ := h.old x hx
    refine ⟨was, h1, cov was h2, fun j hj h0 he => ?_⟩
    have hc := h2.le j hj h0
    rw [getD_set] at he
    rw [at_put h.good.fit hs]
    by_cases e : s = j
    · subst e
      rw [if_pos ⟨rfl, by rw [h.plen]; exact hs⟩] at he
      omega
    · rw [if_neg (fun h => e h.1)] at he
      rw [if_neg e]
      exact h3 j hj h0 he
  · obtain ⟨was, h1, h2⟩ := h.cur x hx
    exact ⟨was, h1, cov was h2⟩
theorem safe_retire (h : Safe k σ p m) : Safe (k + 1) (σ.retire ⟨k, ⟨0, 0⟩⟩) p (put m k p) := by
  have hn : ¬ has m (k : Int) = true := by
    rw [has_iff]
    intro hx
    have := h.top _ hx
    omega
  have hko : (σ.retire ⟨k, ⟨0, 0⟩⟩).old = σ.old := by
    show Eps.row (σ.retire _) ((σ.now + 2) % 3) = _
    unfold Eps.retire
    rw [row_set h.good.fit.llen, if_neg (by omega)]
  have hkc : (σ.retire ⟨k, ⟨0, 0⟩⟩).cur = σ.cur ++ [⟨k, ⟨0, 0⟩⟩] := by
    show Eps.row (σ.retire _) (σ.now % 3) = _
    unfold Eps.retire
    rw [row_set h.good.fit.llen, if_pos (by omega)]
  have hlt : ∀ x ∈ σ.old ++ σ.cur, x.kind ≠ (k : Int) := fun x hx e => by
    have := h.top x.kind (h.keys.symm.subset (List.mem_map.2 ⟨x, hx, rfl⟩))
    omega
  refine ⟨good_retire h.good _, h.plen, fun j hj => by have := h.pin j hj; exact ⟨by omega, by omega, this.2.2.1, this.2.2.2⟩, ?_, nodup_put h.nodup _ _, fun x hx => ?_, fun x hx => ?_, fun x hx => ?_⟩
  · rw [hko, hkc, keys_put, if_neg hn, ← List.append_assoc, List.map_append (l₂ := [_])]
    exact h.keys.append (List.Perm.refl _)
  · rw [keys_put, if_neg hn, List.mem_append] at hx
    rcases hx with hx | hx
    · have := h.top x hx; omega
    · simp at hx; omega
  · rw [hko] at hx
    obtain ⟨was, h1, h2, h3⟩ := h.old x hx
    refine ⟨was, ?_, h2, h3⟩
    rw [look_put, if_neg (hlt x (List.mem_append_left _ hx))]
    exact h1
  · rw [hkc, List.mem_append] at hx
    rcases hx with hx | hx
    · obtain ⟨was, h1, h2⟩ := h.cur x hx
      refine ⟨was, ?_, h2⟩
      rw [look_put, if_neg (hlt x (List.mem_append_right _ hx))]
      exact h1
    · simp at hx
      subst hx
      exact ⟨p, by rw [look_put, if_pos rfl], h.plen, fun s hs h0 => .inl (Int.le_refl _)⟩
def dels (m : Hel) (l : List Re) : Hel := l.foldl (fun m x => del m x.kind) m
theorem look_dels : ∀ (l : List Re) (m : Hel) (c : Int), (∀ x ∈ l, x.kind ≠ c) → look (dels m l) c = look m c
  | [], m, c, _ => rfl
  | x :: l, m, c, h => by
    show look (dels (del m x.kind) l) c = _
    rw [look_dels l _ c (fun y hy => h y (List.mem_cons_of_mem _ hy)), look_del, if_neg (fun e => h x (List.mem_cons_self) e.symm)]
theorem keys_dels : ∀ (l : List Re) (m : Hel) (r : List Int), (m.map Prod.fst).Nodup → (m.map Prod.fst).Perm (l.map (·.kind) ++ r) → ((dels m l).map Prod.fst).Perm r ∧ ((dels m l).map Prod.fst).Nodup
  | [], m, r, hn, hp => ⟨by simpa [dels] using hp, hn⟩
  | x :: l, m, r, hn, hp => by
    show ((dels (del m x.kind) l).map Prod.fst).Perm r ∧ _
    refine keys_dels l _ r (nodup_del hn _) ?_
    rw [keys_del]
    have h2 := hp.filter (fun y => !decide (y = x.kind))
    refine h2.trans ?_
    have hnd := hp.nodup hn
    simp only [List.map_cons, List.cons_append, List.nodup_cons] at hnd
    simp only [List.map_cons, List.cons_append, List.filter_cons, decide_true, Bool.not_true, Bool.false_eq_true, if_false]
    rw [List.filter_eq_self.2]
    intro y hy
    simp only [Bool.not_eq_true', decide_eq_false_iff_not]
    rintro rfl
    exact hnd.1 hy
theorem dels_sub (l : List Re) (m : Hel) : ∀ x ∈ (dels m l).map Prod.fst, x ∈ m.map Prod.fst := by
  induction l generalizing m with
  | nil => exact fun x hx => hx
  | cons y l ih =>
    intro x hx
    have := ih (del m y.kind) x hx
    rw [keys_del] at this
    exact (List.mem_filter.1 this).1
/-- At each round of what was answered. -/
theorem safe_at (h : Safe k σ p m) (hh : σ.held = false) {j : Nat} {x : Re} (hx : σ.old[j]? = some x) :
    ∃ was, look (dels m (σ.old.take j)) x.kind = some was ∧ was.length = 17 ∧ ∀ s, s < 17 → ¬ (0 < was.getD s 0 ∧ p.getD s 0 = was.getD s 0) := by
  obtain ⟨was, h1, h2, h3⟩ := h.old x (List.mem_of_getElem? hx)
  refine ⟨was, ?_, h2.len, fun s hs ⟨h4, h5⟩ => ?_⟩
  · rw [look_dels _ _ _ ?_]; exact h1
    intro y hy e
    have hnd : (σ.old.map (·.kind)).Nodup := by
      have := h.keys.nodup h.nodup
      rw [List.map_append, List.nodup_append] at this
      exact this.1
    obtain ⟨i, hi⟩ := List.getElem?_of_mem hy
    rw [List.getElem?_take] at hi
    split at hi
    · rename_i hij
      have hil := (List.getElem?_eq_some_iff.1 hi).1
      have hjl := (List.getElem?_eq_some_iff.1 hx).1
      have := (List.getElem_inj (h₀ := by simpa using hil) (h₁ := by simpa using hjl) hnd).1 (by
        obtain ⟨_, e1⟩ := List.getElem?_eq_some_iff.1 hi
        obtain ⟨_, e2⟩ := List.getElem?_eq_some_iff.1 hx
        simp only [List.getElem_map, e1, e2, e])
      omega
    · cases hi
  · have ha := h3 s hs h4 h5
    have hp := h.pin s hs
    have hne := hp.2.2.1.1 (by omega)
    have hsl : s < σ.xs.length := by have := h.good.fit.xlen; omega
    have hxs : σ.xs[s]? = some (σ.at s) := by
      simp only [Eps.at, Int.toNat_natCast, List.getD, List.getElem?_eq_getElem hsl]
      rfl
    rw [held_yes hxs hne ha] at hh
    cases hh
theorem safe_adv (h : Safe k σ p m) (hk : k + 2 < 4611686018427387904) (hh : σ.held = false) : Safe (k + 1) ⟨σ.now + 1, σ.xs, σ.ls.set ((σ.now + 2) % 3) []⟩ p (dels m σ.old) := by
  have hg : Good (k + 1) ⟨σ.now + 1, σ.xs, σ.ls.set ((σ.now + 2) % 3) []⟩ := by
    have := good_advance h.good hk
    unfold Eps.advance at this
    rw [if_neg (by rw [hh]; simp)] at this
    exact this
  have ho : Eps.old ⟨σ.now + 1, σ.xs, σ.ls.set ((σ.now + 2) % 3) []⟩ = σ.cur := by
    show Eps.row ⟨σ.now + 1, σ.xs, σ.ls.set ((σ.now + 2) % 3) []⟩ ((σ.now + 1 + 2) % 3) = _
    rw [row_set h.good.fit.llen, if_neg (by omega), show (σ.now + 1 + 2) % 3 = σ.now % 3 by omega]
  have hc : Eps.cur ⟨σ.now + 1, σ.xs, σ.ls.set ((σ.now + 2) % 3) []⟩ = [] := by
    show Eps.row ⟨σ.now + 1, σ.xs, σ.ls.set ((σ.now + 2) % 3) []⟩ ((σ.now + 1) % 3) = _
    rw [row_set h.good.fit.llen, if_neg (by omega)]
    exact h.good.gap
  have hkd := keys_dels σ.old m (σ.cur.map (·.kind)) h.nodup (by rw [← List.map_append]; exact h.keys)
  have hnd := h.keys.nodup h.nodup
  rw [List.map_append, List.nodup_append] at hnd
  refine ⟨hg, h.plen, fun j hj => ?_, ?_, hkd.2, fun x hx => ?_, fun x hx => ?_, fun x hx => ?_⟩
  · have := h.pin j hj
    refine ⟨by omega, by omega, this.2.2.1, ?_⟩
    show σ.at j ≤ ((σ.now + 1 : Nat) : Int)
    omega
  · rw [ho, hc, List.append_nil]; exact hkd.1
  · have := h.top x (dels_sub _ _ x hx); omega
  · rw [ho] at hx
    obtain ⟨was, h1, h2⟩ := h.cur x hx
    refine ⟨was, ?_, h2, fun s hs _ _ => ?_⟩
    · rw [look_dels _ _ _ ?_]; exact h1
      intro y hy e
      exact hnd.2.2 y.kind (List.mem_map.2 ⟨y, hy, rfl⟩) x.kind (List.mem_map.2 ⟨x, hx, rfl⟩) e
    · have := (h.pin s hs).2.2.2
      show σ.at s < ((σ.now + 1 : Nat) : Int)
      omega
  · rw [hc] at hx; cases hx
theorem safe_len (h : Safe k σ p m) : σ.limbo.length = m.length := by
  have h1 := congrArg List.length (limbo_two h.good.fit.pos h.good.gap)
  have h2 := h.keys.length_eq
  simp only [List.length_map] at h1 h2
  rw [h1, h2]
theorem safe0 : Safe 0 ep0 (List.replicate 17 0) [] := by
  refine ⟨good0, rfl, fun s hs => ?_, (List.Perm.refl _ : List.Perm ([] : List Int) []), (List.nodup_nil : ([] : List Int).Nodup), (fun x hx => by cases hx), (fun x hx => by exact absurd (show x ∈ ([] : List Re) from hx) (List.not_mem_nil)), (fun x hx => by exact absurd (show x ∈ ([] : List Re) from hx) (List.not_mem_nil))⟩
  have h1 : (List.replicate 17 (0 : Int)).getD s 0 = 0 := by
    simp only [List.getD, List.getElem?_replicate, if_pos hs]; rfl
  have h2 : ep0.at s = 0 := by
    show (List.replicate 17 (0 : Int)).getD s 0 = 0
    exact h1
  rw [h1, h2]
  refine ⟨by omega, by omega, ⟨fun h => by omega, fun h => absurd rfl h⟩, ?_⟩
  show (0 : Int) ≤ 1
  omega
/-- Both ways of Advance. -/
theorem safe_adv2 (h : Safe k σ p m) (hk : k + 2 < 4611686018427387904) : (∀ (j : Nat) (x : Re), σ.advance.2.1[j]? = some x → ∃ was, look (dels m (σ.advance.2.1.take j)) x.kind = some was ∧ was.length = 17 ∧ ∀ s, s < 17 → ¬ (0 < was.getD s 0 ∧ p.getD s 0 = was.getD s 0)) ∧
    Safe (k + 1) σ.advance.1 p (dels m σ.advance.2.1) ∧ σ.advance.2.1.length ≤ k := by
  cases hh : σ.held with
  | true =>
    have e : σ.advance = (σ, [], 62) := by unfold Eps.advance; rw [if_pos hh]
    rw [e]
    exact ⟨fun j x hx => by simp at hx, safe_mono h (by omega), by simp⟩
  | false =>
    have e : σ.advance = (⟨σ.now + 1, σ.xs, σ.ls.set ((σ.now + 2) % 3) []⟩, σ.old, 0) := by unfold Eps.advance; rw [if_neg (by rw [hh]; simp)]
    rw [e]
    exact ⟨fun j x hx => safe_at h hh hx, safe_adv h hk hh, h.good.row _⟩
theorem dels_step (m : Hel) {l : List Re} {j : Nat} {x : Re} (hx : l[j]? = some x) : dels m (l.take (j + 1)) = del (dels m (l.take j)) x.kind := by
  unfold dels
  rw [List.take_add_one, hx, List.foldl_append]
  rfl
end
end Go.Proofs.Ytghmgmchfcbodaa

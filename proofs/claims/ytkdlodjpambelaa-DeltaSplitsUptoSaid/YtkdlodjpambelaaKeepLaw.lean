/- Plain laws of pages: what was put is found, others stay. -/
import Derived.Test.YtkdlodjpambelaaPageLaw
namespace Go.Proofs.Ytkdlodjpambelaa
set_option linter.unusedVariables false
set_option linter.unusedSimpArgs false
open Go Go.RowKit

theorem eqS_false {a b : ByteArray} : eqS a b = false ↔ a ≠ b := by rw [← Bool.not_eq_true, eqS_iff]
theorem putAt_form (l : List En) (e : En) : ∃ A B, putAt l e = A ++ e :: B ∧ (∀ z ∈ A, z.key ≠ e.key) ∧ ((l = A ++ B ∧ (∀ z ∈ B, z.key ≠ e.key) ∧ l.findIdx? (fun x => eqS x.key e.key) = none) ∨ ∃ x, l = A ++ x :: B ∧ x.key = e.key ∧ l[A.length]? = some x) := by
  unfold putAt
  cases h : l.findIdx? (fun x => eqS x.key e.key) with
  | some i =>
    obtain ⟨hlt, h1, h2⟩ := List.findIdx?_eq_some_iff_getElem.1 h
    refine ⟨l.take i, l.drop (i + 1), rfl, fun z hz => ?_, .inr ⟨l[i], ?_, eqS_iff.1 h1, ?_⟩⟩
    · obtain ⟨j, hj⟩ := List.getElem?_of_mem hz
      rw [List.getElem?_take] at hj
      split at hj
      · rename_i hji
        have := h2 j hji
        rw [(List.getElem?_eq_some_iff.1 hj).2] at this
        exact eqS_false.1 (by simpa using this)
      · cases hj
    · rw [List.getElem_cons_drop, List.take_append_drop]
    · rw [List.length_take, Nat.min_eq_left (by omega)]; exact List.getElem?_eq_getElem hlt
  | none =>
    have hn := List.findIdx?_eq_none_iff.1 h
    have hk : ∀ z ∈ l, z.key ≠ e.key := fun z hz => eqS_false.1 (hn z hz)
    exact ⟨_, _, rfl, fun z hz => hk z (List.mem_of_mem_take hz), .inl ⟨(List.take_append_drop _ _).symm, fun z hz => hk z (List.mem_of_mem_drop hz), rfl⟩⟩
/-- The entries of a key, in a leaf. -/
def lookL (l : List En) (k : ByteArray) : Option En := l.find? (fun x => eqS x.key k)
theorem look_app {A B : List En} {k : ByteArray} (h : ∀ z ∈ A, z.key ≠ k) : lookL (A ++ B) k = lookL B k := by
  unfold lookL
  rw [List.find?_append, List.find?_eq_none.2 (fun z hz he => h z hz (eqS_iff.1 he))]
  rfl
theorem look_skip {A B : List En} {x : En} {k : ByteArray} (h : x.key ≠ k) : lookL (A ++ x :: B) k = lookL (A ++ B) k := by
  unfold lookL
  rw [List.find?_append, List.find?_append, List.find?_cons, eqS_false.2 h]
theorem look_hit {A B : List En} {x : En} (h : ∀ z ∈ A, z.key ≠ x.key) : lookL (A ++ x :: B) x.key = some x := by
  rw [look_app h]; unfold lookL; rw [List.find?_cons, eqS_iff.2 rfl]
theorem look_none {l : List En} {k : ByteArray} (h : ∀ z ∈ l, z.key ≠ k) : lookL l k = none :=
  List.find?_eq_none.2 (fun z hz he => h z hz (eqS_iff.1 he))
theorem findP_look {p : Pg} {k : ByteArray} (h : p.leaf = true) : findP p k = foundOf (lookL p.list k) := findP_leaf h rfl
theorem ix_app {A B : List En} {x : En} (h : ∀ z ∈ A, z.key ≠ x.key) : (A ++ x :: B).findIdx? (fun z => eqS z.key x.key) = some A.length := by
  rw [List.findIdx?_append, List.findIdx?_eq_none_iff.2 (fun z hz => eqS_false.2 (h z hz)), List.findIdx?_cons, eqS_iff.2 rfl]
  simp
structure Keeps (p : Pg) (e : En) (q g : Pg) : Prop where
  put : putP p e = (q, 0)
  hit : findP q e.key = (e, true)
  keep : ∀ k, k ≠ e.key → findP q k = findP p k
  rem : removeP q e.key = (g, 0)
  gone : (findP g e.key).2 = false
  keep2 : ∀ k, k ≠ e.key → findP g k = findP p k
  len : q.list.length ≤ p.list.length + 1
  lenG : g.list.length ≤ p.list.length + 1
theorem keeps {p : Pg} (h : Ok p) (hl : p.leaf = true) (e : En) (hin : inR p.low p.high e.key = true) : ∃ q g, Keeps p e q g := by
  obtain ⟨A, B, h1, hA, h2⟩ := putAt_form p.list e
  have hB : ∀ z ∈ B, z.key ≠ e.key := by
    rcases h2 with ⟨_, hB, _⟩ | ⟨x, hx, hxk, hxi⟩
    · exact hB
    · intro z hz he
      obtain ⟨j, hj⟩ := List.getElem?_of_mem hz
      have hz' : p.list[A.length + 1 + j]? = some z := by
        rw [hx, List.getElem?_append_right (by omega), show A.length + 1 + j - A.length = j + 1 by omega]
        simpa using hj
      have := h.sorted (by omega) hxi hz'
      rw [hxk, he, ltS_irrefl] at this
      cases this
  have hp : ∀ k, k ≠ e.key → lookL p.list k = lookL (A ++ B) k := by
    intro k hk
    rcases h2 with ⟨h3, _⟩ | ⟨x, hx, hxk, _⟩
    · rw [h3]
    · rw [hx, look_skip (by rw [hxk]; exact Ne.symm hk)]
  have hlen : p.list.length = A.length + B.length ∨ p.list.length = A.length + B.length + 1 := by
    rcases h2 with ⟨h3, _⟩ | ⟨x, hx, _⟩
    · left; rw [h3]; simp
    · right; rw [hx]; simp; omega
  refine ⟨⟨p.leaf, p.low, p.high, p.right, A ++ e :: B⟩, ⟨p.leaf, p.low, p.high, p.right, A ++ B⟩, ?_, ?_, ?_, ?_, ?_, ?_, ?_, ?_⟩
  · unfold putP; rw [if_pos hin, h1]
  · rw [findP_look (p := ⟨p.leaf, p.low, p.high, p.right, A ++ e :: B⟩) hl, look_hit hA]; rfl
  · intro k hk
    rw [findP_look (p := ⟨p.leaf, p.low, p.high, p.right, A ++ e :: B⟩) hl, findP_look (p := p) hl, hp k hk, look_skip (Ne.symm hk)]
  · unfold removeP
    simp only
    rw [ix_app hA]
    simp
  · rw [findP_look (p := ⟨p.leaf, p.low, p.high, p.right, A ++ B⟩) hl]
    simp only
    rw [look_none (fun z hz => (List.mem_append.1 hz).elim (hA z) (hB z))]
    rfl
  · intro k hk
    rw [findP_look (p := ⟨p.leaf, p.low, p.high, p.right, A ++ B⟩) hl, findP_look (p := p) hl, hp k hk]
  · simp; omega
  · simp; omega
theorem put_miss {p : Pg} {e : En} (hin : inR p.low p.high e.key = false) : putP p e = (zeroPg, 73) := by unfold putP; rw [if_neg (by rw [hin]; simp)]
end Go.Proofs.Ytkdlodjpambelaa

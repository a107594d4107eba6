/- Arenas: the plain slots, and how they lie in memory. -/
import Derived.Test.YthbiohfnnjbbgaaWin
import Derived.Test.YthbiohfnnjbbgaaArrs
import Derived.Test.YthbiohfnnjbbgaaAtomics
namespace Go.Proofs.Ythbiohfnnjbbgaa
set_option linter.unusedVariables false
set_option linter.unusedSimpArgs false
open Go Go.RowKit

structure Slot (α : Type) where
  has : α
  gen : Int
  given : Bool
section
variable {α : Type}
def givenAt (l : List (Slot α)) (i : Nat) : Bool := ((l[i]?).map (·.given)).getD true
def freeN (l : List (Slot α)) : List Nat := (List.range l.length).filter fun i => !givenAt l i
/-- The free slots, rising. -/
def freeOf (l : List (Slot α)) : List Int := (freeN l).map fun i : Nat => (i : Int)
theorem mem_freeN {l : List (Slot α)} {i : Nat} : i ∈ freeN l ↔ i < l.length ∧ givenAt l i = false := by
  unfold freeN
  rw [List.mem_filter, List.mem_range]
  simp
theorem freeN_lt (l : List (Slot α)) : (freeN l).Pairwise (· < ·) := List.Pairwise.sublist List.filter_sublist List.pairwise_lt_range
theorem free_sorted (l : List (Slot α)) : (freeOf l).Pairwise (· ≤ ·) := by
  unfold freeOf
  rw [List.pairwise_map]
  exact (freeN_lt l).imp fun h => by omega
theorem freeN_len (l : List (Slot α)) : (freeN l).length ≤ l.length := by
  unfold freeN
  exact Nat.le_trans (List.length_filter_le _ _) (by simp)
theorem free_len (l : List (Slot α)) : (freeOf l).length ≤ l.length := by
  unfold freeOf
  rw [List.length_map]; exact freeN_len l
theorem given_set {l : List (Slot α)} {i : Nat} {s : Slot α} (hi : i < l.length) (j : Nat) : givenAt (l.set i s) j = if i = j then s.given else givenAt l j := by
  unfold givenAt
  rw [List.getElem?_set]
  by_cases e : i = j
  · subst e; rw [if_pos rfl, if_pos hi, if_pos rfl]; rfl
  · rw [if_neg e, if_neg e]
theorem given_of {l : List (Slot α)} {i : Nat} {s : Slot α} (h : l[i]? = some s) : givenAt l i = s.given := by unfold givenAt; rw [h]; rfl
theorem freeN_same {l : List (Slot α)} {i : Nat} {s s' : Slot α} (h : l[i]? = some s) (hg : s'.given = s.given) : freeN (l.set i s') = freeN l := by
  have hi := (List.getElem?_eq_some_iff.1 h).1
  unfold freeN
  rw [List.length_set]
  refine List.filter_congr fun j hj => ?_
  rw [given_set hi]
  by_cases e : i = j
  · subst e; rw [if_pos rfl, hg, given_of h]
  · rw [if_neg e]
theorem free_same {l : List (Slot α)} {i : Nat} {s s' : Slot α} (h : l[i]? = some s) (hg : s'.given = s.given) : freeOf (l.set i s') = freeOf l := by unfold freeOf; rw [freeN_same h hg]
theorem range_cut {i n : Nat} (h : i < n) : List.range n = List.range i ++ i :: List.range' (i + 1) (n - i - 1) := by
  rw [List.range_eq_range', List.range_eq_range']
  have h1 : List.range' 0 n = List.range' 0 i ++ List.range' (0 + 1 * i) (n - i) := by rw [List.range'_append]; congr 1; omega
  rw [h1, show n - i = (n - i - 1) + 1 by omega, List.range'_succ]
  simp
/-- The free slots below i, and those above. -/
theorem freeN_cut {l : List (Slot α)} {i : Nat} (hi : i < l.length) : freeN l = (List.range i).filter (fun j => !givenAt l j) ++ ((if givenAt l i then [] else [i]) ++ (List.range' (i + 1) (l.length - i - 1)).filter (fun j => !givenAt l j)) := by
  unfold freeN
  rw [range_cut hi, List.filter_append, List.filter_cons]
  cases givenAt l i <;> rfl
theorem freeN_set {l : List (Slot α)} {i : Nat} (s : Slot α) (hi : i < l.length) : freeN (l.set i s) = (List.range i).filter (fun j => !givenAt l j) ++ ((if s.given then [] else [i]) ++ (List.range' (i + 1) (l.length - i - 1)).filter (fun j => !givenAt l j)) := by
  have h2 : ∀ j, j ≠ i → givenAt (l.set i s) j = givenAt l j := fun j hj => by rw [given_set hi, if_neg (fun e => hj e.symm)]
  rw [freeN_cut (by simpa using hi), given_set hi, if_pos rfl, List.length_set]
  congr 1
  · exact List.filter_congr fun j hj => by rw [h2 j (by have := List.mem_range.1 hj; omega)]
  · congr 1
    exact List.filter_congr fun j hj => by rw [h2 j (by have := List.mem_range'_1.1 hj; omega)]
theorem below_all (l : List (Slot α)) (i : Nat) : ∀ x ∈ (List.range i).filter (fun j => !givenAt l j), x < i := fun x hx => List.mem_range.1 (List.mem_filter.1 hx).1
theorem above_all (l : List (Slot α)) (i n : Nat) : ∀ x ∈ (List.range' (i + 1) n).filter (fun j => !givenAt l j), i < x := fun x hx => by have := List.mem_range'_1.1 (List.mem_filter.1 hx).1; omega
/-- The lowest one is given. -/
theorem free_put {l : List (Slot α)} {i : Nat} {fr : List Int} {s : Slot α} (h : freeOf l = (i : Int) :: fr) (hg : s.given = true) : i < l.length ∧ givenAt l i = false ∧ freeOf (l.set i s) = fr := by
  unfold freeOf at h
  cases hN : freeN l with
  | nil => rw [hN] at h; cases h
  | cons a r =>
    rw [hN] at h
    simp only [List.map_cons, List.cons.injEq] at h
    obtain ⟨h1, h2⟩ := h
    obtain rfl : a = i := by omega
    have hm := mem_freeN.1 (show a ∈ freeN l by rw [hN]; exact List.mem_cons_self)
    refine ⟨hm.1, hm.2, ?_⟩
    have hc := freeN_cut hm.1
    have hs := freeN_set s hm.1
    rw [hm.2] at hc
    have hnil : (List.range a).filter (fun j => !givenAt l j) = [] := by
      cases hq : (List.range a).filter (fun j => !givenAt l j) with
      | nil => rfl
      | cons b q =>
        have hb := below_all l a b (by rw [hq]; exact List.mem_cons_self)
        rw [hN, hq] at hc
        simp at hc
        omega
    rw [hnil, hN] at hc
    simp at hc
    unfold freeOf
    rw [hs, hnil, hg]
    simp only [List.nil_append, if_true]
    rw [← hc, h2]
/-- One is taken back. -/
theorem free_back {l : List (Slot α)} {i : Nat} {s s' : Slot α} (h : l[i]? = some s) (hg : s.given = true) (hg' : s'.given = false) : freeOf (l.set i s') = insAt (freeOf l) ((freeOf l).countP (· < (i : Int))) i ∧ (freeOf l).countP (· < (i : Int)) ≤ (freeOf l).length := by
  have hi := (List.getElem?_eq_some_iff.1 h).1
  refine ⟨?_, List.countP_le_length⟩
  have hc := freeN_cut hi
  have hs := freeN_set s' hi
  rw [given_of h, hg] at hc
  rw [hg'] at hs
  have hb := below_all l i
  have ha := above_all l i (l.length - i - 1)
  generalize (List.range i).filter (fun j => !givenAt l j) = A at *
  generalize (List.range' (i + 1) (l.length - i - 1)).filter (fun j => !givenAt l j) = B at *
  simp only [Bool.false_eq_true, if_false, if_true, List.nil_append] at hc hs
  unfold freeOf
  rw [hc, hs]
  have h1 : ((A ++ B).map fun i : Nat => (i : Int)).countP (· < (i : Int)) = A.length := by
    rw [List.map_append, List.countP_append]
    have e1 : (A.map fun i : Nat => (i : Int)).countP (· < (i : Int)) = A.length := by
      rw [List.countP_map]
      rw [List.countP_eq_length.2]
      intro x hx
      have := hb x hx
      simp; omega
    have e2 : (B.map fun i : Nat => (i : Int)).countP (· < (i : Int)) = 0 := by
      rw [List.countP_map]
      rw [List.countP_eq_zero]
      intro x hx
      have := ha x hx
      simp; omega
    rw [e1, e2]; rfl
  rw [h1]
  unfold insAt
  rw [List.map_append, List.map_append, List.map_append, List.take_left' (by simp), List.drop_left' (by simp)]
  simp
/-- Nothing is given. -/
theorem free_new (n : Nat) (s : Slot α) (hg : s.given = false) : freeOf (List.replicate n s) = (List.range n).map fun i : Nat => (i : Int) := by
  unfold freeOf freeN
  rw [List.filter_eq_self.2, List.length_replicate]
  intro i hi
  have := List.mem_range.1 hi
  rw [List.length_replicate] at this
  unfold givenAt
  rw [List.getElem?_replicate, if_pos this]
  simp [hg]
end
theorem One.al4 {w0 w : World} {l : List Asr} (h : One w0 w l) (o1 o2 o3 o4 : Obj) : One w0 ((((w.alloc o1).alloc o2).alloc o3).alloc o4) (Blk (w.heap.size + 1 + 1 + 1) o4 :: Blk (w.heap.size + 1 + 1) o3 :: Blk (w.heap.size + 1) o2 :: Blk w.heap.size o1 :: l) := by
  have := (((h.alloc o1).alloc o2).alloc o3).alloc o4
  simpa using this
theorem One.setCA {w0 w : World} {l : List Asr} (h : One w0 w l) (i : Nat) {g j : Nat} {cs : Array Value} {T : TypeId} {fr : Nat × Nat} (hi : l[i]? = some (Blk g (.cells cs T fr))) (v : Value) : One w0 (w.setCell ⟨g, j, none⟩ v) (l.set i (Blk g (.cells (cs.setIfInBounds j v) T fr))) := by
  rw [setCell_setB v (h.blk i hi).1]
  exact h.setB i hi _
/-- A row of what is owned grows: its run. -/
theorem One.appP {α : Type} {enc : α → List Value} {P : Program} {E sz n t bytes : Nat} {z : Value} (el : Elt P t E z sz bytes) (ty : TypeId) {w0 w : World} {l : List Asr} {v s : Value} {xs : List Value} {m : List α} (h : One w0 w l) (i : Nat) (hi : l[i]? = some (RowA E sz v n xs))
    (hl : ∀ x, (enc x).length = sz) (hs : Rl enc sz w s m) (h1 : ∀ x, ∀ u ∈ enc x, u.oneCell' = true) (h63 : n + m.length ≤ maxLen) (hbytes : (n + m.length) * bytes ≤ 140737488355328) :
    ∃ r w', (Builtin.append_ #[t, t] ty #[v, s]).run P w = .ok r w' ∧ ∃ a1 cap, r = .slice a1 (n + m.length) cap ∧ One w0 w' (l.set i (RowA E sz (.slice a1 (n + m.length) cap) (n + m.length) (xs ++ m.flatMap enc))) := by
  obtain ⟨F, hF, _, h3⟩ := h.get i hi
  obtain ⟨a1, cap, w', hrun, hp⟩ := post_appL el ty hF hl hs h1 h63 hbytes
  exact ⟨_, w', hrun, a1, cap, rfl, h3 hp⟩
theorem perm5 {α : Type} (x y z : α) : [x, y, z].Perm [y, z, x] := (List.Perm.swap _ _ _).trans (.cons _ (.swap _ _ _))
theorem perm6 {α : Type} (x y z : α) : [x, y, z].Perm [z, x, y] := (List.Perm.cons _ (.swap _ _ _)).trans (.swap _ _ _)
theorem perm4 {α : Type} (x y z : α) : [x, y, z].Perm [z, y, x] := (List.reverse_perm [x, y, z]).symm
/-- The first k numbers, zeros behind. -/
def upTo (k n : Nat) : Array Value := (((List.range k).map fun i : Nat => Value.int .i64 (i : Int)) ++ List.replicate (n - k) (Value.int .i64 0)).toArray
theorem upTo_set {k n : Nat} (h : k < n) : (upTo k n).setIfInBounds k (.int .i64 (k : Int)) = upTo (k + 1) n := by
  unfold upTo
  rw [List.setIfInBounds_toArray, List.set_append_right _ _ (by simp), List.length_map, List.length_range, Nat.sub_self]
  obtain ⟨m, hm⟩ : ∃ m, n - k = m + 1 := ⟨n - k - 1, by omega⟩
  rw [hm, List.replicate_succ, List.set_cons_zero, List.range_succ, List.map_append, show n - (k + 1) = m by omega]
  simp
theorem upTo_zero (n : Nat) : (madeCells (Value.int .i64 0).cells (n * 1)) = upTo 0 n := by
  unfold upTo madeCells
  apply Array.ext
  · simp
  · intro i h1 h2
    simp [show (Value.int .i64 0).cells = #[.int .i64 0] from rfl, Nat.mod_one]
theorem upTo_at {k n : Nat} (h : k < n) : ∃ u, (upTo k n)[k]? = some u := ⟨_, Array.getElem?_eq_getElem (by simp [upTo]; omega)⟩
/-- An arena's parts. -/
def ArL {α : Type} (TAR TSL : TypeId) (t sb m cx : Nat) (v : Value) (arr : Array Value) (l : List (Slot α)) (st : Int) : List Asr :=
  [Blk t (.cells #[.slice (some ⟨sb, 0, none⟩) l.length (l.length + cx), v, .pointer (some ⟨m, 0, none⟩)] TAR), Blk sb (.cells arr TSL), WinA 3 v (freeOf l), Blk m (atom st)]
/-- An arena: its slots, and how many calls met a stale handle. -/
def ArA {α : Type} (TAR TSL : TypeId) (enc : Slot α → List Value) (n : Nat) (t : Nat) (l : List (Slot α)) (st : Int) : Asr where
  on := fun w F => ∃ sb m cx v arr, Arr enc n arr l ∧ (All (ArL TAR TSL t sb m cx v arr l st)).on w F
  keep := fun h k hS => by
    obtain ⟨sb, m, cx, v, arr, ha, h⟩ := h
    exact ⟨sb, m, cx, v, arr, ha, (All _).keep h k hS⟩
  lt := fun h => by
    obtain ⟨sb, m, cx, v, arr, ha, h⟩ := h
    exact (All _).lt h
/-- Its bounds. -/
structure ArFit {α : Type} (k : Nat) (l : List (Slot α)) (st : Int) : Prop where
  pos : 0 < l.length
  most : l.length ≤ 65536
  gen : ∀ s ∈ l, 0 ≤ s.gen ∧ s.gen ≤ k
  stale : 0 ≤ st ∧ st ≤ 10 * k
  small : k ≤ 9000000
/-- The slot of a good handle. -/
def goodAt {α : Type} (l : List (Slot α)) (s g : Int) : Option (Slot α) := if 0 ≤ s then (match l[s.toNat]? with | some x => if x.given && x.gen == g then some x else none | none => none) else none
end Go.Proofs.Ythbiohfnnjbbgaa

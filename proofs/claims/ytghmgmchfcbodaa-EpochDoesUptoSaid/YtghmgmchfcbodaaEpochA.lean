/- Epochs in memory: the block, the pins, the rows of what waits. -/
import Derived.Test.YtghmgmchfcbodaaTypesEp
import Derived.Test.YtghmgmchfcbodaaOwnRow
import Derived.Test.YtghmgmchfcbodaaLists
import Derived.Test.YtghmgmchfcbodaaAtomics
namespace Go.Proofs.Ytghmgmchfcbodaa
set_option linter.unusedVariables false
set_option linter.unusedSimpArgs false
open Go Go.RowKit

theorem enc3 (x : Re) : (Re.enc x).length = 3 := rfl
theorem re_one (x : Re) : ∀ u ∈ Re.enc x, u.oneCell' = true := by
  intro u hu
  simp only [Re.enc, Hd.enc, List.mem_append, List.mem_cons, List.not_mem_nil, or_false] at hu
  rcases hu with h | h | h <;> subst h <;> rfl
theorem elt_Re : Elt Try.prog 37 31 (.agg #[.int .i64 0, .int .i64 0, .int .i64 0]) 3 24 := ⟨Try.underlying37, by kernel_rfl, rfl, by decide⟩
/-- A list that waits: where, how much room, what. -/
abbrev Lim := Option Addr × Nat × List Re
def Lim.v (r : Lim) : Value := .slice r.1 r.2.2.length r.2.1
abbrev Lim.row (r : Lim) : Asr := RowA 31 3 (.slice r.1 r.2.2.length r.2.1) r.2.2.length (r.2.2.flatMap Re.enc)
def ptrv (b : Nat) : Value := .pointer (some ⟨b, 0, none⟩)
/-- The epoch's own cells. -/
def EC (now : Int) (vs ss : List Value) : List Value := .int .i64 now :: (vs ++ ss)
abbrev EObj (now : Int) (vs ss : List Value) : Obj := .cells (EC now vs ss).toArray 67
def atomsA (ps : List Nat) (xs : List Int) : List Asr := List.zipWith (fun p x => Blk p (atom x)) ps xs
def rowsA (ls : List Lim) : List Asr := ls.map Lim.row
/-- An epoch whose block holds o. -/
def EpO (b : Nat) (o : Obj) (ps : List Nat) (xs : List Int) (ls : List Lim) : Asr := All (Blk b o :: (atomsA ps xs ++ rowsA ls))
/-- An epoch. -/
abbrev Ep (b : Nat) (now : Int) (ps : List Nat) (xs : List Int) (ls : List Lim) : Asr := EpO b (EObj now (ps.map ptrv) (ls.map Lim.v)) ps xs ls
section
variable {b : Nat} {o : Obj} {ps : List Nat} {xs : List Int} {ls : List Lim} {w w' : World} {F : Nat → Prop}
theorem atoms_get {i p : Nat} {x : Int} (hp : ps[i]? = some p) (hx : xs[i]? = some x) : (atomsA ps xs)[i]? = some (Blk p (atom x)) := by
  unfold atomsA
  rw [List.getElem?_zipWith, hp, hx]
theorem atoms_len (h : ps.length = xs.length) : (atomsA ps xs).length = ps.length := by unfold atomsA; rw [List.length_zipWith, h, Nat.min_self]
theorem atoms_set : ∀ {ps : List Nat} {xs : List Int} {i p : Nat} {y : Int}, ps[i]? = some p → (atomsA ps xs).set i (Blk p (atom y)) = atomsA ps (xs.set i y)
  | [], xs, i, p, y, h => by simp at h
  | q :: ps, [], i, p, y, h => by simp [atomsA]
  | q :: ps, x :: xs, 0, p, y, h => by
    simp only [List.getElem?_cons_zero, Option.some.injEq] at h
    subst h
    rfl
  | q :: ps, x :: xs, i + 1, p, y, h => by
    have := atoms_set (xs := xs) (y := y) (by simpa using h : ps[i]? = some p)
    simp only [atomsA, List.zipWith_cons_cons, List.set_cons_succ] at this ⊢
    rw [this]
theorem EpO.blk (h : (EpO b o ps xs ls).on w F) : w.heap[b]? = some o ∧ F b := by
  obtain ⟨F1, F2, ⟨h1, e⟩, _, _, hF⟩ := h
  exact ⟨h1, (hF b).2 (.inl (by rw [e]))⟩
theorem EpO.put (h : (EpO b o ps xs ls).on w F) (o' : Obj) : Post (EpO b o' ps xs ls) F w (setB w b o') := by
  obtain ⟨F1, h1, _, hup⟩ := Stars.get (i := 0) h rfl
  exact hup _ _ (post_setB o' h1)
theorem EpO.pin (h : (EpO b o ps xs ls).on w F) (hl : ps.length = xs.length) {i p : Nat} {x : Int} (hp : ps[i]? = some p) (hx : xs[i]? = some x) : w.heap[p]? = some (atom x) ∧ F p ∧ ∀ y, Post (EpO b o ps (xs.set i y) ls) F w (setB w p (atom y)) := by
  have hi := (List.getElem?_eq_some_iff.1 hp).1
  have hg : (Blk b o :: (atomsA ps xs ++ rowsA ls))[i + 1]? = some (Blk p (atom x)) := by
    rw [List.getElem?_cons_succ, List.getElem?_append_left (by rw [atoms_len hl]; exact hi)]
    exact atoms_get hp hx
  obtain ⟨F1, h1, hs, hup⟩ := Stars.get h hg
  refine ⟨h1.1, hs p (by rw [h1.2]), fun y => ?_⟩
  have := hup _ _ (post_setB (atom y) h1)
  rw [List.set_cons_succ, List.set_append_left _ _ (by rw [atoms_len hl]; exact hi), atoms_set hp] at this
  exact this
theorem EpO.row (h : (EpO b o ps xs ls).on w F) (hl : ps.length = xs.length) {j : Nat} {r : Lim} (hr : ls[j]? = some r) : ∃ F1, r.row.on w F1 ∧ (∀ x, F1 x → F x) ∧ ∀ w' (r' : Lim), Post r'.row F1 w w' → Post (EpO b o ps xs (ls.set j r')) F w w' := by
  have hg : (Blk b o :: (atomsA ps xs ++ rowsA ls))[ps.length + j + 1]? = some r.row := by
    rw [List.getElem?_cons_succ, List.getElem?_append_right (by rw [atoms_len hl]; omega), atoms_len hl, Nat.add_sub_cancel_left]
    unfold rowsA
    rw [List.getElem?_map, hr]
    rfl
  obtain ⟨F1, h1, hs, hup⟩ := Stars.get h hg
  refine ⟨F1, h1, hs, fun w' r' hp => ?_⟩
  have := hup _ _ hp
  rw [List.set_cons_succ, List.set_append_right _ _ (by rw [atoms_len hl]; omega), atoms_len hl, Nat.add_sub_cancel_left] at this
  have e : (rowsA ls).set j r'.row = rowsA (ls.set j r') := by unfold rowsA; rw [List.map_set]
  rw [e] at this
  exact this
/-- The cells of the block. -/
theorem ec_now {now : Int} {vs ss : List Value} : (EC now vs ss).toArray[0]? = some (.int .i64 now) := rfl
theorem ec_pin {now : Int} {vs ss : List Value} {i : Nat} {v : Value} (h : vs[i]? = some v) : (EC now vs ss).toArray[1 + i]? = some v := by
  have hi := (List.getElem?_eq_some_iff.1 h).1
  simp only [EC, List.getElem?_toArray]
  rw [Nat.add_comm, List.getElem?_cons_succ, List.getElem?_append_left hi]
  exact h
theorem ec_lim {now : Int} {vs ss : List Value} {j : Nat} {v : Value} (h : ss[j]? = some v) : (EC now vs ss).toArray[1 + vs.length + j]? = some v := by
  simp only [EC, List.getElem?_toArray]
  rw [show 1 + vs.length + j = (vs.length + j) + 1 by omega, List.getElem?_cons_succ, List.getElem?_append_right (by omega), Nat.add_sub_cancel_left]
  exact h
theorem ec_set_now {now n : Int} {vs ss : List Value} : (EC now vs ss).toArray.setIfInBounds 0 (.int .i64 n) = (EC n vs ss).toArray := by simp [EC]
theorem ec_set_pin {now : Int} {vs ss : List Value} {i : Nat} (v : Value) (h : i < vs.length) : (EC now vs ss).toArray.setIfInBounds (1 + i) v = (EC now (vs.set i v) ss).toArray := by
  simp only [EC, List.setIfInBounds_toArray]
  rw [Nat.add_comm, List.set_cons_succ, List.set_append_left _ _ h]
theorem ec_set_lim {now : Int} {vs ss : List Value} {j : Nat} (v : Value) : (EC now vs ss).toArray.setIfInBounds (1 + vs.length + j) v = (EC now vs (ss.set j v)).toArray := by
  simp only [EC, List.setIfInBounds_toArray]
  rw [show 1 + vs.length + j = (vs.length + j) + 1 by omega, List.set_cons_succ, List.set_append_right _ _ (by omega), Nat.add_sub_cancel_left]
end
end Go.Proofs.Ytghmgmchfcbodaa

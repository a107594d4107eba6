/- What is owned, picked by numbers: the rest is let go. -/
import Derived.Test.YtkjkaliblkihmaaPostL
namespace Go.Proofs.Ytkjkaliblkihmaa
set_option linter.unusedVariables false
set_option linter.unusedSimpArgs false
open Go Go.RowKit

/-- The items named, each by its place in what is left. -/
def sel : List Nat → List Asr → Option (List Asr)
  | [], _ => some []
  | i :: is, l => match l[i]? with
    | some A => (sel is (l.eraseIdx i)).map (A :: ·)
    | none => none
theorem perm_erase {l : List Asr} {i : Nat} {A : Asr} (h : l[i]? = some A) : l.Perm (A :: l.eraseIdx i) := by
  have hi := (List.getElem?_eq_some_iff.1 h)
  obtain ⟨hi, rfl⟩ := hi
  rw [List.eraseIdx_eq_take_drop_succ]
  have : l = l.take i ++ l[i] :: l.drop (i + 1) := by rw [List.getElem_cons_drop, List.take_append_drop]
  exact (List.Perm.of_eq this).trans List.perm_middle
theorem Stars.sel : ∀ (is : List Nat) {l l' : List Asr} {w : World} {F : Nat → Prop}, Go.Proofs.Ytkjkaliblkihmaa.sel is l = some l' → Stars l w F → ∃ F', Stars l' w F' ∧ ∀ b, F' b → F b
  | [], l, l', w, F, h, hs => by
    cases h
    exact ⟨fun _ => False, fun _ h => h, fun b h => h.elim⟩
  | i :: is, l, l', w, F, h, hs => by
    unfold Go.Proofs.Ytkjkaliblkihmaa.sel at h
    cases hA : l[i]? with
    | none => rw [hA] at h; cases h
    | some A =>
      rw [hA] at h
      obtain ⟨l2, h2, rfl⟩ := Option.map_eq_some_iff.1 h
      obtain ⟨F1, F2, h3, h4, hd, hF⟩ := Stars.perm (perm_erase hA) hs
      obtain ⟨F3, h5, h6⟩ := Stars.sel is h2 h4
      exact ⟨fun b => F1 b ∨ F3 b, ⟨F1, F3, h3, h5, fun b hb h => hd b hb (h6 b h), fun b => Iff.rfl⟩, fun b hb => (hF b).2 (hb.imp id (h6 b))⟩
theorem One.sel {w0 w : World} {l l' : List Asr} (h : One w0 w l) (is : List Nat) (e : Go.Proofs.Ytkjkaliblkihmaa.sel is l = some l') : One w0 w l' := by
  obtain ⟨F, a, b, c⟩ := h
  obtain ⟨F', h1, h2⟩ := a.sel is e
  exact ⟨F', h1, fun x hx => b x (h2 x hx), c⟩
theorem Pw.sel {F : Nat → Prop} {w w' : World} {l l' : List Asr} (h : Pw F w w' l) (is : List Nat) (e : Go.Proofs.Ytkjkaliblkihmaa.sel is l = some l') : Pw F w w' l' := by
  obtain ⟨F', a, k, s⟩ := h
  obtain ⟨F2, h1, h2⟩ := Stars.sel is e a
  exact ⟨F2, h1, k, fun x hx => s x (h2 x hx)⟩
theorem One.pick {w0 w : World} {l : List Asr} (h : One w0 w l) (i : Nat) {A : Asr} (hi : l[i]? = some A) : One w0 w (A :: l.eraseIdx i) := h.perm (perm_erase hi)
/-- All of it, as one item that is new. -/
theorem One.postAll {w0 w : World} {l : List Asr} (h : One w0 w l) : Post (All l) (fun _ => False) w0 w := by
  obtain ⟨F, a, b, c⟩ := h
  exact ⟨F, a, c, fun x hx => .inr (b x hx)⟩
end Go.Proofs.Ytkjkaliblkihmaa

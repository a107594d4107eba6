/- Deltas: what the functions compute, in plain Lean. -/
import Derived.Test.YtkdlodjpambelaaDeltaP
namespace Go.Proofs.Ytkdlodjpambelaa
set_option linter.unusedVariables false
set_option linter.unusedSimpArgs false
open Go Go.RowKit

def bareD (d : Dl) : Dl :=
  if d.kind = 1 then ⟨d.kind, d.entry, empS, 0, zeroPg⟩
  else if d.kind = 2 then ⟨d.kind, zeroEn, d.key, 0, zeroPg⟩
  else if d.kind = 3 then ⟨d.kind, zeroEn, d.key, d.page, zeroPg⟩
  else if d.kind = 4 then ⟨d.kind, zeroEn, empS, 0, d.right⟩
  else if d.kind = 5 then ⟨d.kind, zeroEn, empS, d.page, zeroPg⟩
  else ⟨d.kind, zeroEn, empS, 0, zeroPg⟩
def badD (d : Dl) : Bool :=
  if d.kind = 1 then false else if d.kind = 2 then false
  else if d.kind = 3 then decide (d.page < 1) || d.key.toList.isEmpty
  else if d.kind = 4 then checkP d.right != 0
  else if d.kind = 5 then decide (d.page < 1)
  else true
def checkD (d : Dl) : Int := if badD d || !sameD d (bareD d) then 90 else 0
/-- A page by a delta: the page, or no page and the code. -/
def applyD (p : Pg) (d : Dl) : Pg × Int :=
  if checkD d ≠ 0 then (zeroPg, 90)
  else if d.kind = 1 then putP p d.entry
  else if d.kind = 2 then
    if inR p.low p.high d.key = false then (zeroPg, 73) else if (removeP p d.key).2 = 0 then removeP p d.key else (p, 0)
  else if d.kind = 3 then
    if !ltS p.low d.key || !inR p.low p.high d.key then (zeroPg, 90) else (⟨p.leaf, p.low, d.key, d.page, p.list.filter (fun x => ltS x.key d.key)⟩, 0)
  else if d.kind = 4 then mergeP p d.right
  else (zeroPg, 91)
/-- A page by many deltas, the last one first. -/
def foldD (p : Pg) (l : List Dl) : Pg × Int := l.foldr (fun d q => if q.2 ≠ 0 then (zeroPg, q.2) else applyD q.1 d) (p, 0)
structure Spo where
  entry : En
  found : Bool
  go : Int
def goneD : List Dl → Option Int
  | d :: _ => if d.kind = 5 ∧ checkD d = 0 then some d.page else none
  | [] => none
def lookD (p : Pg) (key : ByteArray) (l : List Dl) : Spo × Int := match goneD l with
  | some n => (⟨zeroEn, false, n⟩, 0)
  | none =>
    let q := foldD p l
    if q.2 ≠ 0 then (⟨zeroEn, false, 0⟩, q.2)
    else if ltS key q.1.low then (⟨zeroEn, false, 0⟩, 73)
    else if inR q.1.low q.1.high key = false then if q.1.right = 0 then (⟨zeroEn, false, 0⟩, 73) else (⟨zeroEn, false, q.1.right⟩, 0)
    else
      let f := findP q.1 key
      if q.1.leaf then (⟨f.1, f.2, 0⟩, 0) else if f.2 = false then (⟨zeroEn, false, 0⟩, 73) else (⟨f.1, true, f.1.child⟩, 0)
def zeroDl : Dl := ⟨0, zeroEn, empS, 0, zeroPg⟩
def undoD (p : Pg) (d : Dl) : Dl × Bool :=
  if (applyD p d).2 ≠ 0 ∨ (d.kind ≠ 1 ∧ d.kind ≠ 2) then (zeroDl, false)
  else
    let key := if d.kind = 1 then d.entry.key else d.key
    match p.list.find? (fun x => eqS x.key key) with
    | some x => (⟨1, x, empS, 0, zeroPg⟩, true)
    | none => (⟨2, zeroEn, key, 0, zeroPg⟩, true)
/-- A code goes with no page. -/
theorem applyD_bad {p : Pg} {d : Dl} (h : (applyD p d).2 ≠ 0) : (applyD p d).1 = zeroPg := by
  revert h
  unfold applyD putP mergeP
  repeat' split
  all_goals simp_all
theorem foldD_cons (p : Pg) (d : Dl) (l : List Dl) : foldD p (d :: l) = if (foldD p l).2 ≠ 0 then (zeroPg, (foldD p l).2) else applyD (foldD p l).1 d := rfl
theorem foldD_bad {p : Pg} {l : List Dl} (h : (foldD p l).2 ≠ 0) : (foldD p l).1 = zeroPg := by
  cases l with
  | nil => exact absurd rfl h
  | cons d l =>
    rw [foldD_cons] at h ⊢
    split at h
    · rename_i h2; rw [if_pos h2]
    · rename_i h2; rw [if_neg h2]; exact applyD_bad h
end Go.Proofs.Ytkdlodjpambelaa

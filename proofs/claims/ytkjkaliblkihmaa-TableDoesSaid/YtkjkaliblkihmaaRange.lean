/- Ranges over functions: what the caller owns, what the iterator reads. -/
import Derived.RangeFuncNested
import Derived.RangeFuncBound
import Derived.RangeFuncCalls
import Derived.RangeFuncLeaves
import Derived.RangeFuncFrom
import Derived.RangeFuncBox
import Derived.Shelf.Abstract
import Derived.Shelf.RegionOpen
import Derived.WalkKit
import Derived.OwnWalkIn
import Derived.TacticsInMore
import Derived.LoopNIn
import Derived.LoopIn
import Derived.Test.YtkjkaliblkihmaaProg
import Derived.Test.YtkjkaliblkihmaaOwn
import Derived.Test.YtkjkaliblkihmaaSlices
namespace Go.Proofs.Ytkjkaliblkihmaa
set_option linter.unusedVariables false
set_option linter.unusedSimpArgs false
open Go Go.RowKit Go.Shelf

/-- The blocks of G lie as they lay. -/
structure KpG (G : Nat → Prop) (A B : World) : Prop where
  size : A.heap.size ≤ B.heap.size
  same : ∀ k, k < A.heap.size → G k → B.heap[k]? = A.heap[k]?
section
variable {G S : Nat → Prop} {A B C : World}
theorem KpG.refl (G : Nat → Prop) (A : World) : KpG G A A := ⟨Nat.le_refl _, fun _ _ _ => rfl⟩
theorem KpG.trans (h : KpG G A B) (k : KpG G B C) : KpG G A C := ⟨Nat.le_trans h.size k.size, fun i hi hg => (k.same i (Nat.lt_of_lt_of_le hi h.size) hg).trans (h.same i hi hg)⟩
theorem Kp.toG (k : Kp S A B) (hS : ∀ i, G i → ¬ S i) : KpG G A B := ⟨k.size, fun i hi hg => k.block i hi (hS i hg)⟩
theorem KpG.of_below (h : Below A.heap.size A B) : KpG G A B := ⟨h.size, fun i hi _ => h.block i hi⟩
theorem KpG.put {w : World} (hG : ∀ i, G i → i < w.heap.size) (W : World) (l : Nat) (o o' : Obj) (hl : w.heap.size ≤ l) (_ : W.heap[l]? = some o) (_ : o.isCells = false) (_ : o.isWalk = false) : KpG G W (W.putObj l o') :=
  ⟨(grownBy_putObj' W l o').size, fun i hi hg => (grownBy_putObj' W l o').block i hi (fun e => by have := hG i hg; cases e; omega)⟩
theorem KpG.cell (k : KpG G A B) {a : Addr} (hg : G a.block) {v : Value} (hc : A.cell? a = some v) : B.cell? a = some v := by
  rw [World.cell?_of_block (w := A) (k.same a.block (World.block_lt_of_cell? A a hc) hg)]; exact hc
end
/-- A list that is read in memory, in the blocks of G. -/
def RdN {α : Type} (G : Nat → Prop) (enc : α → List Value) (sz : Nat) (w : World) (a : Option Addr) (l : List α) : Prop :=
  ∀ (i : Nat) (x : α), l[i]? = some x → ∃ b off, a = some ⟨b, off, none⟩ ∧ G b ∧ ∀ (j : Nat) (u : Value), (enc x)[j]? = some u → w.cell? ⟨b, off + i * sz + j, none⟩ = some u
section
variable {α : Type} {G : Nat → Prop} {enc : α → List Value} {sz : Nat} {w w' : World} {a : Option Addr} {l : List α}
theorem RdN.kept (h : RdN G enc sz w a l) (k : KpG G w w') : RdN G enc sz w' a l := fun i x hx => by
  obtain ⟨b, off, h1, h2, h3⟩ := h i x hx
  exact ⟨b, off, h1, h2, fun j u hu => k.cell h2 (h3 j u hu)⟩
theorem RdN.nil (G : Nat → Prop) (enc : α → List Value) (sz : Nat) (w : World) (a : Option Addr) : RdN G enc sz w a [] := fun i x hx => by simp at hx
theorem RdN.mono (h : RdN G enc sz w a l) {G' : Nat → Prop} (hG : ∀ b, G b → G' b) : RdN G' enc sz w a l := fun i x hx => by
  obtain ⟨b, off, h1, h2, h3⟩ := h i x hx
  exact ⟨b, off, h1, hG b h2, h3⟩
end

/-- What is owned, where all that is young (B and on) is cells. -/
def OneF (B : Nat) (w0 w : World) (l : List Asr) : Prop := ∃ F, Stars l w F ∧ (∀ b, F b → w0.heap.size ≤ b) ∧ KN w0 w ∧ ∀ b, F b → b < B ∨ ∃ o, w.heap[b]? = some o ∧ o.isCells = true
section
variable {B : Nat} {w0 w w' : World} {l : List Asr}
theorem OneF.one (h : OneF B w0 w l) : One w0 w l := let ⟨F, a, b, c, _⟩ := h; ⟨F, a, b, c⟩
theorem One.loopF (h : One w0 w l) : OneF w.heap.size w0 w l := let ⟨F, a, b, c⟩ := h; ⟨F, a, b, c, fun x hx => .inl (a.lt x hx)⟩
theorem OneF.kn (h : OneF B w0 w l) (k : KN w w') : OneF B w0 w' l := by
  obtain ⟨F, a, b, c, d⟩ := h
  refine ⟨F, a.keep k (fun _ _ h => h), b, c.trans k (fun _ h => h.elim), fun x hx => ?_⟩
  rcases d x hx with h | ⟨o, h1, h2⟩
  · exact .inl h
  · exact .inr ⟨o, k.blk h1 id, h2⟩
theorem oneF_own {β : Type} (hB : w0.heap.size ≤ B) (l : β → List Asr) : OwnFrom B (fun s W => OneF B w0 W (l s)) := by
  intro s W W' row ⟨F, a, b, c, d⟩ hg hr
  have hk : Kp (fun k => row = some k) W W' := ⟨hg.os, hg.tape, hg.output, hg.size, fun k hk hn => hg.block k hk (fun e => hn e.symm)⟩
  have hno : ∀ x, F x → ¬ row = some x := by
    intro x hx e
    obtain ⟨h1, o, h2, h3⟩ := hr x e
    rcases d x hx with h | ⟨o', h4, h5⟩
    · omega
    · rw [h2] at h4; cases h4; rw [h3] at h5; cases h5
  refine ⟨F, a.keep hk hno, b, c.then hk (fun x e => Nat.le_trans hB (hr x e).1), fun x hx => ?_⟩
  rcases d x hx with h | ⟨o, h1, h2⟩
  · exact .inl h
  · exact .inr ⟨o, hk.blk h1 (hno x hx), h2⟩
theorem keepsFrom_kp {S : Nat → Prop} (k : Kp S w w') (hS : ∀ b, S b → b < B ∨ ∃ o, w.heap[b]? = some o ∧ o.isCells = true) : KeepsFrom B w w' :=
  ⟨k.size, fun i o hB hi ho => (k.block i (lt_blk hi) (fun hs => by
    rcases hS i hs with h | ⟨o', h1, h2⟩
    · omega
    · rw [hi] at h1; cases h1; rw [ho] at h2; cases h2)).trans hi⟩
theorem keepsFrom_kn (k : KN w w') : KeepsFrom B w w' := keepsFrom_kp k (fun _ h => h.elim)
end
end Go.Proofs.Ytkjkaliblkihmaa

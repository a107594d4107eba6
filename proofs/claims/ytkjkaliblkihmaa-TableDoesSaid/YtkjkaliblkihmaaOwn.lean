/- What is owned: assertions of a world and the blocks that they speak of, side by side. -/
import Derived.Test.YtkjkaliblkihmaaHeap
namespace Go.Proofs.Ytkjkaliblkihmaa
set_option linter.unusedVariables false
open Go Go.RowKit

/-- An assertion: it speaks of its own blocks alone, and they are there. -/
structure Asr where
  on : World → (Nat → Prop) → Prop
  keep : ∀ {w w' : World} {F S : Nat → Prop}, on w F → Kp S w w' → (∀ b, F b → ¬ S b) → on w' F
  lt : ∀ {w : World} {F : Nat → Prop}, on w F → ∀ b, F b → b < w.heap.size
/-- What a call leaves that turns its own blocks alone. -/
def Post (A : Asr) (F : Nat → Prop) (w w' : World) : Prop := ∃ F', A.on w' F' ∧ Kp F w w' ∧ ∀ b, F' b → F b ∨ w.heap.size ≤ b
/-- All of them, side by side. -/
def Stars : List Asr → World → (Nat → Prop) → Prop
  | [], w, F => ∀ b, ¬ F b
  | A :: l, w, F => ∃ F1 F2, A.on w F1 ∧ Stars l w F2 ∧ (∀ b, F1 b → ¬ F2 b) ∧ ∀ b, F b ↔ F1 b ∨ F2 b
/-- They hold, of blocks that are younger than w0; all old ones are as they were. -/
def One (w0 w : World) (l : List Asr) : Prop := ∃ F, Stars l w F ∧ (∀ b, F b → w0.heap.size ≤ b) ∧ KN w0 w
/-- A block. -/
def Blk (g : Nat) (o : Obj) : Asr where
  on := fun w F => w.heap[g]? = some o ∧ F = (· = g)
  keep := fun ⟨h, e⟩ k hS => ⟨k.blk h (hS _ (by rw [e])), e⟩
  lt := fun ⟨h, e⟩ b hb => by rw [e] at hb; subst hb; exact lt_blk h

section
variable {A A' B B' : Asr} {l : List Asr} {F F1 F2 : Nat → Prop} {w0 w w' w'' : World}
theorem Asr.kn (A : Asr) (h : A.on w F) (k : KN w w') : A.on w' F := A.keep h k (fun _ _ h => h)
theorem Post.same (h : A.on w F) (k : KN w w') : Post A F w w' := ⟨F, A.kn h k, k.mono (fun _ h => h.elim), fun b hb => .inl hb⟩
theorem Post.kp (h : Post A F w w') : Kp F w w' := let ⟨_, _, k, _⟩ := h; k
theorem Post.trans (h : Post A F w w') (h' : ∀ F', A.on w' F' → Post B F' w' w'') : Post B F w w'' := by
  obtain ⟨F', a, k, s⟩ := h
  obtain ⟨F'', b, k', s'⟩ := h' F' a
  refine ⟨F'', b, k.trans k' s, fun c hc => ?_⟩
  rcases s' c hc with h | h
  · exact s c h
  · exact .inr (Nat.le_trans k.size h)
theorem Post.imp (h : Post A F w w') (hi : ∀ F', A.on w' F' → B.on w' F') : Post B F w w' := let ⟨F', a, k, s⟩ := h; ⟨F', hi F' a, k, s⟩
theorem Post.pre (k0 : KN w w') (h : Post A F w' w'') : Post A F w w'' := by
  obtain ⟨F', a, k, s⟩ := h
  exact ⟨F', a, ⟨k.os.trans k0.os, k.tape.trans k0.tape, k.output.trans k0.output, Nat.le_trans k0.size k.size, fun i hi hn => (k.block i (Nat.lt_of_lt_of_le hi k0.size) hn).trans (k0.block i hi id)⟩, fun b hb => (s b hb).imp id (Nat.le_trans k0.size)⟩
theorem Post.kn (h : Post A F w w') (k0 : KN w' w'') : Post A F w w'' := h.trans fun F' a => .same a k0
theorem Stars.keep : ∀ {l : List Asr} {w w' : World} {F S : Nat → Prop}, Stars l w F → Kp S w w' → (∀ b, F b → ¬ S b) → Stars l w' F
  | [], _, _, _, _, h, _, _ => h
  | A :: l, _, _, _, _, ⟨F1, F2, h1, h2, hd, hF⟩, k, hS => ⟨F1, F2, A.keep h1 k (fun b hb => hS b ((hF b).2 (.inl hb))), h2.keep k (fun b hb => hS b ((hF b).2 (.inr hb))), hd, hF⟩
theorem Stars.lt : ∀ {l : List Asr} {w : World} {F : Nat → Prop}, Stars l w F → ∀ b, F b → b < w.heap.size
  | [], _, _, h, b, hb => (h b hb).elim
  | A :: l, _, _, ⟨F1, F2, h1, h2, hd, hF⟩, b, hb => ((hF b).1 hb).elim (A.lt h1 b) (h2.lt b)
/-- All of a list, as one. -/
def All (l : List Asr) : Asr := ⟨Stars l, Stars.keep, Stars.lt⟩
theorem Stars.get : ∀ {l : List Asr} {w : World} {F : Nat → Prop} {i : Nat} {A : Asr}, Stars l w F → l[i]? = some A →
    ∃ F1, A.on w F1 ∧ (∀ b, F1 b → F b) ∧ ∀ w' A', Post A' F1 w w' → ∃ F', Stars (l.set i A') w' F' ∧ Kp F w w' ∧ ∀ b, F' b → F b ∨ w.heap.size ≤ b
  | [], _, _, _, _, _, h => by simp at h
  | B :: l, w, F, 0, A, ⟨F1, F2, h1, h2, hd, hF⟩, h => by
    cases h
    refine ⟨F1, h1, fun b hb => (hF b).2 (.inl hb), fun w' A' ⟨F', a, k, s⟩ => ⟨fun b => F' b ∨ F2 b, ⟨F', F2, a, h2.keep k (fun b hb h => hd b h hb), fun b hb h2' => ?_, fun b => Iff.rfl⟩, k.mono (fun b hb => (hF b).2 (.inl hb)), fun b hb => ?_⟩⟩
    · rcases s b hb with h | h
      · exact hd b h h2'
      · have := h2.lt b h2'; omega
    · rcases hb with hb | hb
      · exact (s b hb).imp (fun h => (hF b).2 (.inl h)) id
      · exact .inl ((hF b).2 (.inr hb))
  | B :: l, w, F, i + 1, A, ⟨F1, F2, h1, h2, hd, hF⟩, h => by
    obtain ⟨F3, a, hs, hp⟩ := Stars.get (i := i) h2 (by simpa using h)
    refine ⟨F3, a, fun b hb => (hF b).2 (.inr (hs b hb)), fun w' A' hA' => ?_⟩
    obtain ⟨F', a', k, s⟩ := hp w' A' hA'
    refine ⟨fun b => F1 b ∨ F' b, ⟨F1, F', B.keep h1 k (fun b hb h => hd b hb h), a', fun b hb h' => ?_, fun b => Iff.rfl⟩, k.mono (fun b hb => (hF b).2 (.inr hb)), fun b hb => ?_⟩
    · rcases s b h' with h | h
      · exact hd b hb h
      · have := B.lt h1 b hb; omega
    · rcases hb with hb | hb
      · exact .inl ((hF b).2 (.inl hb))
      · exact (s b hb).imp (fun h => (hF b).2 (.inr h)) id
theorem One.nil (w : World) : One w w [] := ⟨fun _ => False, fun b h => h, fun b h => h.elim, Kp.refl _ _⟩
theorem One.old (h : One w0 w l) : KN w0 w := let ⟨_, _, _, c⟩ := h; c
theorem One.kn (h : One w0 w l) (k : KN w w') : One w0 w' l := let ⟨F, a, b, c⟩ := h; ⟨F, a.keep k (fun _ _ h => h), b, c.trans k (fun _ h => h.elim)⟩
theorem One.get (h : One w0 w l) (i : Nat) {A : Asr} (hi : l[i]? = some A) : ∃ F1, A.on w F1 ∧ (∀ b, F1 b → w0.heap.size ≤ b) ∧ ∀ {w' A'}, Post A' F1 w w' → One w0 w' (l.set i A') := by
  obtain ⟨F, a, b, c⟩ := h
  obtain ⟨F1, h1, h2, h3⟩ := a.get hi
  refine ⟨F1, h1, fun x hx => b x (h2 x hx), fun {w' A'} hp => ?_⟩
  obtain ⟨F', a', k, s⟩ := h3 w' A' hp
  exact ⟨F', a', fun x hx => (s x hx).elim (b x) (Nat.le_trans c.size), c.then k b⟩
theorem One.add (h : One w0 w l) (hn : Post B (fun _ => False) w w') : One w0 w' (B :: l) := by
  obtain ⟨F, a, b, c⟩ := h
  obtain ⟨F', a', k', s'⟩ := hn
  refine ⟨fun b => F' b ∨ F b, ⟨F', F, a', a.keep k' (fun _ _ h => h), fun b h1 h2 => ?_, fun b => Iff.rfl⟩, fun x hx => ?_, c.trans k' (fun _ h => h.elim)⟩
  · rcases s' b h1 with h | h
    · exact h
    · have := a.lt b h2; omega
  · rcases hx with hx | hx
    · rcases s' x hx with h | h
      · exact h.elim
      · exact Nat.le_trans c.size h
    · exact b x hx
theorem One.lift {P : Program} {f : FuncId} {args : Array Value} {r : Ending} (h : One w0 w l) (i : Nat) (hi : l[i]? = some A) (hc : ∀ F, A.on w F → Calls P f args w fun e w' => e = r ∧ Post A' F w w') :
    Calls P f args w fun e w' => e = r ∧ One w0 w' (l.set i A') := by
  obtain ⟨F, h1, _, h3⟩ := h.get i hi
  exact (hc F h1).mono fun e w' ⟨he, hp⟩ => ⟨he, h3 hp⟩
theorem One.rd {P : Program} {f : FuncId} {args : Array Value} {Q : Ending → World → Prop} (h : One w0 w l) (i : Nat) (hi : l[i]? = some A) (hc : ∀ F, A.on w F → Calls P f args w Q) : Calls P f args w Q :=
  let ⟨F, h1, _⟩ := h.get i hi; hc F h1
theorem post_blk (w : World) (o : Obj) : Post (Blk w.heap.size o) (fun _ => False) w (w.alloc o) := ⟨_, ⟨heap_alloc_same _ _, rfl⟩, kn_alloc _ _, fun b hb => .inr (by subst hb; exact Nat.le_refl _)⟩
theorem One.alloc (h : One w0 w l) (o : Obj) : One w0 (w.alloc o) (Blk w.heap.size o :: l) := h.add (post_blk w o)
theorem One.alloc2 (h : One w0 w l) (o o' : Obj) : One w0 ((w.alloc o).alloc o') (Blk (w.heap.size + 1) o' :: Blk w.heap.size o :: l) := by
  have := (h.alloc o).alloc o'
  simpa using this
theorem One.blk (h : One w0 w l) (i : Nat) {g : Nat} {o : Obj} (hi : l[i]? = some (Blk g o)) : w.heap[g]? = some o ∧ w0.heap.size ≤ g := by
  obtain ⟨F, ⟨h1, h2⟩, h3, _⟩ := h.get i hi
  exact ⟨h1, h3 _ (by rw [h2])⟩
theorem post_setB {g : Nat} {o : Obj} (o' : Obj) (h : (Blk g o).on w F) : Post (Blk g o') F w (setB w g o') := by
  obtain ⟨h1, rfl⟩ := h
  exact ⟨_, ⟨setB_same _ (lt_blk h1), rfl⟩, (Kp.refl (fun x => x = g) w).setB (.inl rfl) _, fun b hb => .inl hb⟩
theorem One.setB (h : One w0 w l) (i : Nat) {g : Nat} {o : Obj} (hi : l[i]? = some (Blk g o)) (o' : Obj) : One w0 (setB w g o') (l.set i (Blk g o')) := by
  obtain ⟨F, h1, _, h3⟩ := h.get i hi
  exact h3 (post_setB o' h1)
theorem One.set1 (h : One w0 w l) (i : Nat) {g : Nat} {v : Value} {T : TypeId} (hi : l[i]? = some (Blk g (.cells #[v] T))) (v' : Value) : One w0 (w.setCell ⟨g, 0, none⟩ v') (l.set i (Blk g (.cells #[v'] T))) := by
  rw [_root_.Go.Proofs.Ytkjkaliblkihmaa.set1 (h.blk i hi).1]
  exact h.setB i hi _
theorem Stars.perm {l l' : List Asr} (p : l.Perm l') : ∀ {w : World} {F : Nat → Prop}, Stars l w F → Stars l' w F := by
  induction p with
  | nil => exact fun h => h
  | cons A _ ih => exact fun ⟨F1, F2, h1, h2, hd, hF⟩ => ⟨F1, F2, h1, ih h2, hd, hF⟩
  | swap A B l => exact fun ⟨F1, F2, h1, ⟨F3, F4, h3, h4, hd', hF'⟩, hd, hF⟩ => ⟨F3, fun b => F1 b ∨ F4 b, h3, ⟨F1, F4, h1, h4, fun b hb h => hd b hb ((hF' b).2 (.inr h)), fun b => Iff.rfl⟩,
      fun b hb h => h.elim (fun h => hd b h ((hF' b).2 (.inl hb))) (hd' b hb), fun b => (hF b).trans ⟨fun h => h.elim (fun h => .inr (.inl h)) (fun h => ((hF' b).1 h).elim .inl (fun h => .inr (.inr h))), fun h => h.elim (fun h => .inr ((hF' b).2 (.inl h))) (fun h => h.elim .inl (fun h => .inr ((hF' b).2 (.inr h))))⟩⟩
  | trans _ _ i1 i2 => exact fun h => i2 (i1 h)
theorem One.perm {l' : List Asr} (h : One w0 w l) (p : l.Perm l') : One w0 w l' := let ⟨F, a, b, c⟩ := h; ⟨F, Stars.perm p a, b, c⟩
theorem One.drop (h : One w0 w (A :: l)) : One w0 w l := let ⟨F, ⟨F1, F2, h1, h2, hd, hF⟩, b, c⟩ := h; ⟨F2, h2, fun x hx => b x ((hF x).2 (.inr hx)), c⟩
theorem Stars.cut : ∀ {l1 l2 : List Asr} {w : World} {F : Nat → Prop}, Stars (l1 ++ l2) w F → ∃ F1 F2, Stars l1 w F1 ∧ Stars l2 w F2 ∧ (∀ b, F1 b → ¬ F2 b) ∧ ∀ b, F b ↔ F1 b ∨ F2 b
  | [], l2, w, F, h => ⟨fun _ => False, F, fun b h => h, h, fun b h => h.elim, fun b => ⟨.inr, fun h => h.elim False.elim id⟩⟩
  | A :: l1, l2, w, F, ⟨F1, F2, h1, h2, hd, hF⟩ => by
    obtain ⟨F3, F4, h3, h4, hd', hF'⟩ := Stars.cut h2
    refine ⟨fun b => F1 b ∨ F3 b, F4, ⟨F1, F3, h1, h3, fun b hb h => hd b hb ((hF' b).2 (.inl h)), fun b => Iff.rfl⟩, h4, fun b hb h => hb.elim (fun hb => hd b hb ((hF' b).2 (.inr h))) (fun hb => hd' b hb h), fun b => (hF b).trans ?_⟩
    rw [hF' b]
    exact or_assoc.symm
theorem Stars.join : ∀ {l1 l2 : List Asr} {w : World} {F F1 F2 : Nat → Prop}, Stars l1 w F1 → Stars l2 w F2 → (∀ b, F1 b → ¬ F2 b) → (∀ b, F b ↔ F1 b ∨ F2 b) → Stars (l1 ++ l2) w F
  | [], l2, w, F, F1, F2, h1, h2, hd, hF => by
    have : F = F2 := funext fun b => propext ((hF b).trans ⟨fun h => h.elim (fun h => (h1 b h).elim) id, .inr⟩)
    rw [this]; exact h2
  | A :: l1, l2, w, F, F1, F2, ⟨F3, F4, h3, h4, hd', hF'⟩, h2, hd, hF => by
    refine ⟨F3, fun b => F4 b ∨ F2 b, h3, h4.join h2 (fun b hb h => hd b ((hF' b).2 (.inr hb)) h) (fun b => Iff.rfl), fun b hb h => h.elim (hd' b hb) (fun h => hd b ((hF' b).2 (.inl hb)) h), fun b => (hF b).trans ?_⟩
    rw [hF' b]
    exact or_assoc
theorem One.all {l1 l2 : List Asr} : One w0 w (l1 ++ l2) ↔ One w0 w (All l1 :: l2) :=
  ⟨fun ⟨F, a, b, c⟩ => ⟨F, a.cut, b, c⟩, fun ⟨F, ⟨F1, F2, h1, h2, hd, hF⟩, b, c⟩ => ⟨F, Stars.join h1 h2 hd hF, b, c⟩⟩
theorem One.imp (h : One w0 w (A :: l)) (hi : ∀ F, A.on w F → B.on w F) : One w0 w (B :: l) := let ⟨F, ⟨F1, F2, h1, h2, hd, hF⟩, b, c⟩ := h; ⟨F, ⟨F1, F2, hi _ h1, h2, hd, hF⟩, b, c⟩
end
end Go.Proofs.Ytkjkaliblkihmaa

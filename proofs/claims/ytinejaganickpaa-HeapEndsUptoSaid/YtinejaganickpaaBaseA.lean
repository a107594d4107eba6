/- Worlds written as blocks that were set and laid: small laws. -/
import Derived.WalkKit
import Derived.Below
import Derived.Deep.QuietTactic
import Derived.Lib.Hide
import Derived.Maps.AppendAt
import Derived.Deep.AppendSrc
import Derived.OwnWalk
import Derived.Test.YtinejaganickpaaRows
import Derived.ProofKit
import Derived.Deep.Slices
import Derived.Great.BuildSlice
import Derived.Lib.AppendZerosOnto
import Derived.Lib.SliceRun
import Derived.Lib.QuietBelow
import Derived.BigQuiet
import Derived.StillTail
import Derived.Deep.AppendLies
import Derived.Deep.RegionLaw
import Derived.Test.YtinejaganickpaaProg
import Derived.KernelRfl
import Derived.Laws.LoneSync
import Derived.IntWalk
import Derived.Laws.MakeOwn
import Derived.RangeFuncNested
import Derived.RangeFuncBound
import Derived.RangeFuncCalls
import Derived.RangeFuncLeaves
import Derived.RangeFuncFrom
import Derived.RangeFuncBox
import Derived.Shelf.Abstract
import Derived.Shelf.RegionOpen
import Derived.OwnWalkIn
import Derived.TacticsInMore
import Derived.LoopNIn
import Derived.LoopIn
namespace Go.Proofs.Ytinejaganickpaa
set_option linter.unusedVariables false
set_option linter.unusedSimpArgs false
open Go Go.RowKit

/-- Block b is now o. -/
def setB (w : World) (b : Nat) (o : Obj) : World := { w with heap := w.heap.setIfInBounds b o }

theorem cell_blk {w : World} {b i : Nat} {cs : Array Value} {T : TypeId} {fr : Nat × Nat} {v : Value} (h : w.heap[b]? = some (.cells cs T fr)) (hv : cs[i]? = some v) : w.cell? ⟨b, i, none⟩ = some v := by
  simp [World.cell?, h, hv]
theorem free_blk {w : World} {b i : Nat} {cs : Array Value} {T : TypeId} (h : w.heap[b]? = some (.cells cs T (0, 0))) : w.frozen? ⟨b, i, none⟩ = false := by
  simp [World.frozen?, h]
theorem lt_blk {w : World} {b : Nat} {o : Obj} (h : w.heap[b]? = some o) : b < w.heap.size := (Array.getElem?_eq_some_iff.1 h).1
theorem ne_blk {w : World} {b c : Nat} {o o' : Obj} (h : w.heap[b]? = some o) (h' : w.heap[c]? = some o') (hne : o ≠ o') : b ≠ c := by
  rintro rfl; rw [h] at h'; exact hne (Option.some.inj h')

theorem size_setB (w : World) (b : Nat) (o : Obj) : (setB w b o).heap.size = w.heap.size := by simp [setB]
theorem setB_same {w : World} {b : Nat} (o : Obj) (h : b < w.heap.size) : (setB w b o).heap[b]? = some o := by simp [setB, h]
theorem setB_other (w : World) {b c : Nat} (o : Obj) (h : b ≠ c) : (setB w b o).heap[c]? = w.heap[c]? := by simp [setB, Array.getElem?_setIfInBounds_ne h]
theorem cell_setB {w : World} {b : Nat} (o : Obj) (a : Addr) (h : b ≠ a.block) : (setB w b o).cell? a = w.cell? a := by
  simp only [World.cell?, setB_other w o h]
theorem cell_setB' {w : World} {b g i : Nat} (o : Obj) (h : b ≠ g) : (setB w b o).cell? ⟨g, i, none⟩ = w.cell? ⟨g, i, none⟩ := cell_setB o _ h
theorem free_setB {w : World} {b : Nat} (o : Obj) (a : Addr) (h : b ≠ a.block) : (setB w b o).frozen? a = w.frozen? a := by
  simp only [World.frozen?, setB_other w o h]
theorem setB_setB (w : World) (b : Nat) (o o' : Obj) : setB (setB w b o) b o' = setB w b o' := by
  simp [setB]
theorem setB_self {w : World} {b : Nat} {o : Obj} (h : w.heap[b]? = some o) : setB w b o = w := by
  unfold setB
  rw [show w.heap.setIfInBounds b o = w.heap from Array.ext_getElem? fun i => by
    by_cases e : b = i
    · subst e; rw [Array.getElem?_setIfInBounds_self]; rw [if_pos (lt_blk h), h]
    · rw [Array.getElem?_setIfInBounds_ne e]]
theorem setCell_setB {w : World} {b i : Nat} {cs : Array Value} {T : TypeId} {fr : Nat × Nat} (v : Value) (h : w.heap[b]? = some (.cells cs T fr)) :
    w.setCell ⟨b, i, none⟩ v = setB w b (.cells (cs.setIfInBounds i v) T fr) := by
  unfold setB World.setCell
  congr 1
  refine Array.ext_getElem? fun j => ?_
  simp only [Array.getElem?_modify, Array.getElem?_setIfInBounds]
  by_cases e : b = j
  · subst e
    have he := (Array.getElem?_eq_some_iff.1 h).2
    simp [lt_blk h, he]
  · simp [e]
theorem below_setB {B : Nat} {a w : World} (h : Below B a w) {b : Nat} (hb : B ≤ b) (o : Obj) : Below B a (setB w b o) :=
  h.trans ⟨rfl, rfl, rfl, by simp [setB], fun k hk => setB_other w o (by omega)⟩
theorem heap_alloc_old {w : World} {c : Nat} (o : Obj) (h : c < w.heap.size) : (w.alloc o).heap[c]? = w.heap[c]? := Below.heap_alloc w o c h
theorem heap_alloc_same (w : World) (o : Obj) : (w.alloc o).heap[w.heap.size]? = some o := by
  show (w.heap.push o)[w.heap.size]? = _
  simp
theorem heap_alloc_two (w : World) (o o' : Obj) : ((w.alloc o).alloc o').heap[w.heap.size + 1]? = some o' := by
  have := heap_alloc_same (w.alloc o) o'
  simpa using this
theorem blk_alloc {w : World} {c : Nat} {p : Obj} (o : Obj) (h : w.heap[c]? = some p) : (w.alloc o).heap[c]? = some p := (heap_alloc_old o (lt_blk h)).trans h
theorem setB_alloc_new (w : World) (o o' : Obj) : setB (w.alloc o) w.heap.size o' = w.alloc o' := by
  unfold setB World.alloc
  congr 1
  refine Array.ext_getElem? fun j => ?_
  simp only [Array.getElem?_setIfInBounds, Array.getElem?_push, Array.size_push]
  by_cases e : w.heap.size = j
  · subst e; simp
  · simp [e, Ne.symm e]

section
variable {w : World} {b : Nat} {T : TypeId} {v0 v1 v2 v3 : Value}
theorem cells1 (h : w.heap[b]? = some (.cells #[v0] T (0, 0))) : w.cell? ⟨b, 0, none⟩ = some v0 ∧ w.frozen? ⟨b, 0, none⟩ = false := ⟨cell_blk h rfl, free_blk h⟩
theorem cells2 (h : w.heap[b]? = some (.cells #[v0, v1] T (0, 0))) : w.cell? ⟨b, 0, none⟩ = some v0 ∧ w.cell? ⟨b, 1, none⟩ = some v1 ∧ w.frozen? ⟨b, 0, none⟩ = false ∧ w.frozen? ⟨b, 1, none⟩ = false :=
  ⟨cell_blk h rfl, cell_blk h rfl, free_blk h, free_blk h⟩
theorem cells2_al (h : w.heap[b]? = some (.cells #[v0, v1] T (0, 0))) : (∀ o, (w.alloc o).cell? ⟨b, 0, none⟩ = some v0) ∧ (∀ o, (w.alloc o).cell? ⟨b, 1, none⟩ = some v1) ∧ (∀ o, (w.alloc o).frozen? ⟨b, 0, none⟩ = false) ∧ (∀ o, (w.alloc o).frozen? ⟨b, 1, none⟩ = false) :=
  ⟨fun o => cell_blk (blk_alloc o h) rfl, fun o => cell_blk (blk_alloc o h) rfl, fun o => free_blk (blk_alloc o h), fun o => free_blk (blk_alloc o h)⟩
theorem cells3 (h : w.heap[b]? = some (.cells #[v0, v1, v2] T (0, 0))) : w.cell? ⟨b, 0, none⟩ = some v0 ∧ w.cell? ⟨b, 1, none⟩ = some v1 ∧ w.cell? ⟨b, 2, none⟩ = some v2 ∧
    w.frozen? ⟨b, 0, none⟩ = false ∧ w.frozen? ⟨b, 1, none⟩ = false ∧ w.frozen? ⟨b, 2, none⟩ = false :=
  ⟨cell_blk h rfl, cell_blk h rfl, cell_blk h rfl, free_blk h, free_blk h, free_blk h⟩
/-- Two stores into one block. -/
theorem set2 {cs : Array Value} {fr : Nat × Nat} (h : w.heap[b]? = some (.cells cs T fr)) (i j : Nat) (x y : Value) :
    (w.setCell ⟨b, i, none⟩ x).setCell ⟨b, j, none⟩ y = setB w b (.cells ((cs.setIfInBounds i x).setIfInBounds j y) T fr) := by
  rw [setCell_setB _ h, setCell_setB _ (setB_same _ (lt_blk h)), setB_setB]
theorem set3 {cs : Array Value} {fr : Nat × Nat} (h : w.heap[b]? = some (.cells cs T fr)) (i j k : Nat) (x y z : Value) :
    ((w.setCell ⟨b, i, none⟩ x).setCell ⟨b, j, none⟩ y).setCell ⟨b, k, none⟩ z = setB w b (.cells (((cs.setIfInBounds i x).setIfInBounds j y).setIfInBounds k z) T fr) := by
  rw [set2 h, setCell_setB _ (setB_same _ (lt_blk h)), setB_setB]
theorem set1 {cs : Array Value} {fr : Nat × Nat} (h : w.heap[b]? = some (.cells cs T fr)) (i : Nat) (x : Value) :
    w.setCell ⟨b, i, none⟩ x = setB w b (.cells (cs.setIfInBounds i x) T fr) := setCell_setB _ h
end

theorem str_ext {x y : ByteArray} (h : x.toList = y.toList) : x = y := by
  rw [ByteArray.toList_eq, ByteArray.toList_eq] at h
  exact ByteArray.ext (Array.toList_inj.1 h)
theorem beq_str_false {x y : ByteArray} (h : x ≠ y) : (x.toList == y.toList) = false := by
  simp only [beq_eq_false_iff_ne, ne_eq]
  exact fun e => h (str_ext e)

/-- What came to w' from w: no block is gone, nothing but the blocks of S has turned, streams and tape are as they were. -/
structure Kp (S : Nat → Prop) (w w' : World) : Prop where
  os : w'.os = w.os
  tape : w'.tape = w.tape
  output : w'.output = w.output
  size : w.heap.size ≤ w'.heap.size
  block : ∀ k, k < w.heap.size → ¬ S k → w'.heap[k]? = w.heap[k]?
theorem Kp.refl (S : Nat → Prop) (w : World) : Kp S w w := ⟨rfl, rfl, rfl, Nat.le_refl _, fun _ _ _ => rfl⟩
theorem Kp.trans {S : Nat → Prop} {a b c : World} (h : Kp S a b) {S' : Nat → Prop} (k : Kp S' b c) (hs : ∀ i, S' i → S i ∨ a.heap.size ≤ i) : Kp S a c :=
  ⟨k.os.trans h.os, k.tape.trans h.tape, k.output.trans h.output, Nat.le_trans h.size k.size, fun i hi hn => by
    rw [k.block i (Nat.lt_of_lt_of_le hi h.size) (fun h' => (hs i h').elim hn (fun h'' => by omega)), h.block i hi hn]⟩
theorem Kp.mono {S S' : Nat → Prop} {a b : World} (h : Kp S a b) (hs : ∀ i, S i → S' i) : Kp S' a b := ⟨h.os, h.tape, h.output, h.size, fun i hi hn => h.block i hi (fun h' => hn (hs i h'))⟩
theorem Kp.below {S : Nat → Prop} {a b c : World} {B : Nat} (k : Kp S b c) (h : Below B a b) (hB : B ≤ b.heap.size) (hs : ∀ i, S i → B ≤ i) : Below B a c :=
  h.trans ⟨k.os, k.tape, k.output, k.size, fun i hi => k.block i (by omega) (fun h' => by have := hs i h'; omega)⟩
theorem Kp.blk {S : Nat → Prop} {a b : World} (k : Kp S a b) {c : Nat} {o : Obj} (h : a.heap[c]? = some o) (hn : ¬ S c) : b.heap[c]? = some o := (k.block c (lt_blk h) hn).trans h
theorem Kp.setB {S : Nat → Prop} {a b : World} (k : Kp S a b) {c : Nat} (hc : S c ∨ a.heap.size ≤ c) (o : Obj) : Kp S a (setB b c o) :=
  k.trans (S' := fun i => i = c) ⟨rfl, rfl, rfl, by simp [size_setB], fun i _ hn => setB_other b o (fun e => hn e.symm)⟩ (fun i hi => by subst hi; exact hc)
theorem Kp.setCell {S : Nat → Prop} {a b : World} (k : Kp S a b) {p : Addr} (hp : S p.block ∨ a.heap.size ≤ p.block) (v : Value) : Kp S a (b.setCell p v) :=
  k.trans (S' := fun i => i = p.block) ⟨rfl, rfl, rfl, by simp [World.setCell], fun i _ hn => Below.heap_setCell b p v i hn⟩ (fun i hi => by subst hi; exact hp)
theorem Kp.alloc {S : Nat → Prop} {a b : World} (k : Kp S a b) (o : Obj) : Kp S a (b.alloc o) :=
  k.trans (S' := fun _ => False) ⟨rfl, rfl, rfl, by simp, fun i hi _ => heap_alloc_old o hi⟩ (fun _ h => h.elim)
theorem Kp.drew {S : Nat → Prop} {a b : World} (k : Kp S a b) : Kp S a b.drew := ⟨k.os, k.tape, k.output, k.size, k.block⟩

theorem Kp.drewN {S : Nat → Prop} {a b : World} (k : Kp S a b) (n : Nat) : Kp S a (b.drewN n) := ⟨k.os, k.tape, k.output, k.size, k.block⟩
abbrev KN (w w' : World) : Prop := Kp (fun _ => False) w w'
theorem KN.below {w w' : World} (k : KN w w') : Below w.heap.size w w' := ⟨k.os, k.tape, k.output, k.size, fun i hi => k.block i hi id⟩
theorem Kp.old {S : Nat → Prop} {a b : World} (k : Kp S a b) (hs : ∀ i, S i → a.heap.size ≤ i) : KN a b := ⟨k.os, k.tape, k.output, k.size, fun i hi _ => k.block i hi (fun h => by have := hs i h; omega)⟩
theorem KN.then {a b c : World} (h : KN a b) {S : Nat → Prop} (k : Kp S b c) (hs : ∀ i, S i → a.heap.size ≤ i) : KN a c := h.trans k (fun i hi => .inr (hs i hi))
theorem Kp.then {a b c : World} (h : Kp (fun _ => False) a b) {S : Nat → Prop} (k : Kp S b c) (hs : ∀ i, S i → a.heap.size ≤ i) : KN a c := h.trans k (fun i hi => .inr (hs i hi))
theorem Kp.bel {w w' : World} (k : Kp (fun _ => False) w w') : Below w.heap.size w w' := ⟨k.os, k.tape, k.output, k.size, fun i hi => k.block i hi id⟩
theorem kn_alloc (w : World) (o : Obj) : KN w (w.alloc o) := (Kp.refl _ w).alloc o
theorem two_set {w : World} {c r : Nat} (o o' : Obj) (hne : c ≠ r) (hc : c < w.heap.size) (hr : r < w.heap.size) :
    (setB (setB w c o) r o').heap[c]? = some o ∧ (setB (setB w c o) r o').heap[r]? = some o' :=
  ⟨(setB_other _ _ (Ne.symm hne)).trans (setB_same _ hc), setB_same _ (by rw [size_setB]; exact hr)⟩
theorem cell_kp {S : Nat → Prop} {w w' : World} (k : Kp S w w') {a : Addr} (h : ¬ S a.block) {v : Value} (hc : w.cell? a = some v) : w'.cell? a = some v := by
  rw [World.cell?_of_block (w := w) (k.block a.block (World.block_lt_of_cell? w a hc) h)]; exact hc
theorem free_kp {S : Nat → Prop} {w w' : World} (k : Kp S w w') {a : Addr} (h : ¬ S a.block) (hb : a.block < w.heap.size) (hc : w.frozen? a = false) : w'.frozen? a = false := by
  rw [World.frozen?_of_block (w := w) (k.block a.block hb h)]; exact hc
theorem quiet_l {P : Program} {f : FuncId} {args : Array Value} {w : World} {n : Nat} {v : Value} (h : Calls P f args (w.drewN n) fun e w' => e = .returned v ∧ w.drewN n = w') :
    Calls P f args (w.drewN n) fun e w'' => e = .returned v ∧ ∃ m, w'' = w.drewN m := h.mono fun _ _ ⟨he, hm⟩ => ⟨he, n, hm.symm⟩
theorem run_equalIn_chan {P : Program} (n : Nat) {t e : TypeId} {d : ChanDir} (a b : Option Nat) (w : World) (h : P.underlying t = some (.chan d e)) : (Op.equalIn (n + 1) t (.chan a) (.chan b)).run P w = .ok (a == b) w := by
  simp [Op.equalIn, run_underlying h]
/-- '==' of channels. -/
theorem run_eql_chan {P : Program} {t e : TypeId} {d : ChanDir} (h : P.underlying t = some (.chan d e)) (a b : Option Nat) (w : World) : (binOp .eql t (.chan a) (.chan b)).run P w = .ok (.bool (a == b)) w := by
  simp only [binOp]
  simp [Op.equal, Op.maxDepth, run_equalIn_chan 9999 a b w h]
end Go.Proofs.Ytinejaganickpaa

namespace Go.Proofs.Ytinejaganickpaa
set_option linter.unusedVariables false
open Go Go.RowKit

/-- An assertion: it speaks of its own blocks alone, and they are there. -/
structure Asr where
  on : World → (Nat → Prop) → Prop
  keep : ∀ {w w' : World} {F S : Nat → Prop}, on w F → Kp S w w' → (∀ b, F b → ¬ S b) → on w' F
  lt : ∀ {w : World} {F : Nat → Prop}, on w F → ∀ b, F b → b < w.heap.size
/-- What a call leaves that turns its own blocks alone. -/
def Post (A : Asr) (F : Nat → Prop) (w w' : World) : Prop := ∃ F', A.on w' F' ∧ Kp F w w' ∧ ∀ b, F' b → F b ∨ w.heap.size ≤ b
/-- All of them, side by side. -/
def Stars : List Asr → World → (Nat → Prop) → Prop
  | [], w, F => ∀ b, ¬ F b
  | A :: l, w, F => ∃ F1 F2, A.on w F1 ∧ Stars l w F2 ∧ (∀ b, F1 b → ¬ F2 b) ∧ ∀ b, F b ↔ F1 b ∨ F2 b
/-- They hold, of blocks that are younger than w0; all old ones are as they were. -/
def One (w0 w : World) (l : List Asr) : Prop := ∃ F, Stars l w F ∧ (∀ b, F b → w0.heap.size ≤ b) ∧ KN w0 w
/-- A block. -/
def Blk (g : Nat) (o : Obj) : Asr where
  on := fun w F => w.heap[g]? = some o ∧ F = (· = g)
  keep := fun ⟨h, e⟩ k hS => ⟨k.blk h (hS _ (by rw [e])), e⟩
  lt := fun ⟨h, e⟩ b hb => by rw [e] at hb; subst hb; exact lt_blk h

section
variable {A A' B B' : Asr} {l : List Asr} {F F1 F2 : Nat → Prop} {w0 w w' w'' : World}
theorem Asr.kn (A : Asr) (h : A.on w F) (k : KN w w') : A.on w' F := A.keep h k (fun _ _ h => h)
theorem Post.same (h : A.on w F) (k : KN w w') : Post A F w w' := ⟨F, A.kn h k, k.mono (fun _ h => h.elim), fun b hb => .inl hb⟩
theorem Post.kp (h : Post A F w w') : Kp F w w' := let ⟨_, _, k, _⟩ := h; k
theorem Post.trans (h : Post A F w w') (h' : ∀ F', A.on w' F' → Post B F' w' w'') : Post B F w w'' := by
  obtain ⟨F', a, k, s⟩ := h
  obtain ⟨F'', b, k', s'⟩ := h' F' a
  refine ⟨F'', b, k.trans k' s, fun c hc => ?_⟩
  rcases s' c hc with h | h
  · exact s c h
  · exact .inr (Nat.le_trans k.size h)
theorem Post.imp (h : Post A F w w') (hi : ∀ F', A.on w' F' → B.on w' F') : Post B F w w' := let ⟨F', a, k, s⟩ := h; ⟨F', hi F' a, k, s⟩
theorem Post.pre (k0 : KN w w') (h : Post A F w' w'') : Post A F w w'' := by
  obtain ⟨F', a, k, s⟩ := h
  exact ⟨F', a, ⟨k.os.trans k0.os, k.tape.trans k0.tape, k.output.trans k0.output, Nat.le_trans k0.size k.size, fun i hi hn => (k.block i (Nat.lt_of_lt_of_le hi k0.size) hn).trans (k0.block i hi id)⟩, fun b hb => (s b hb).imp id (Nat.le_trans k0.size)⟩
theorem Post.kn (h : Post A F w w') (k0 : KN w' w'') : Post A F w w'' := h.trans fun F' a => .same a k0
theorem Stars.keep : ∀ {l : List Asr} {w w' : World} {F S : Nat → Prop}, Stars l w F → Kp S w w' → (∀ b, F b → ¬ S b) → Stars l w' F
  | [], _, _, _, _, h, _, _ => h
  | A :: l, _, _, _, _, ⟨F1, F2, h1, h2, hd, hF⟩, k, hS => ⟨F1, F2, A.keep h1 k (fun b hb => hS b ((hF b).2 (.inl hb))), h2.keep k (fun b hb => hS b ((hF b).2 (.inr hb))), hd, hF⟩
theorem Stars.lt : ∀ {l : List Asr} {w : World} {F : Nat → Prop}, Stars l w F → ∀ b, F b → b < w.heap.size
  | [], _, _, h, b, hb => (h b hb).elim
  | A :: l, _, _, ⟨F1, F2, h1, h2, hd, hF⟩, b, hb => ((hF b).1 hb).elim (A.lt h1 b) (h2.lt b)
/-- All of a list, as one. -/
def All (l : List Asr) : Asr := ⟨Stars l, Stars.keep, Stars.lt⟩
theorem Stars.get : ∀ {l : List Asr} {w : World} {F : Nat → Prop} {i : Nat} {A : Asr}, Stars l w F → l[i]? = some A →
    ∃ F1, A.on w F1 ∧ (∀ b, F1 b → F b) ∧ ∀ w' A', Post A' F1 w w' → ∃ F', Stars (l.set i A') w' F' ∧ Kp F w w' ∧ ∀ b, F' b → F b ∨ w.heap.size ≤ b
  | [], _, _, _, _, _, h => by simp at h
  | B :: l, w, F, 0, A, ⟨F1, F2, h1, h2, hd, hF⟩, h => by
    cases h
    refine ⟨F1, h1, fun b hb => (hF b).2 (.inl hb), fun w' A' ⟨F', a, k, s⟩ => ⟨fun b => F' b ∨ F2 b, ⟨F', F2, a, h2.keep k (fun b hb h => hd b h hb), fun b hb h2' => ?_, fun b => Iff.rfl⟩, k.mono (fun b hb => (hF b).2 (.inl hb)), fun b hb => ?_⟩⟩
    · rcases s b hb with h | h
      · exact hd b h h2'
      · have := h2.lt b h2'; omega
    · rcases hb with hb | hb
      · exact (s b hb).imp (fun h => (hF b).2 (.inl h)) id
      · exact .inl ((hF b).2 (.inr hb))
  | B :: l, w, F, i + 1, A, ⟨F1, F2, h1, h2, hd, hF⟩, h => by
    obtain ⟨F3, a, hs, hp⟩ := Stars.get (i := i) h2 (by simpa using h)
    refine ⟨F3, a, fun b hb => (hF b).2 (.inr (hs b hb)), fun w' A' hA' => ?_⟩
    obtain ⟨F', a', k, s⟩ := hp w' A' hA'
    refine ⟨fun b => F1 b ∨ F' b, ⟨F1, F', B.keep h1 k (fun b hb h => hd b hb h), a', fun b hb h' => ?_, fun b => Iff.rfl⟩, k.mono (fun b hb => (hF b).2 (.inr hb)), fun b hb => ?_⟩
    · rcases s b h' with h | h
      · exact hd b hb h
      · have := B.lt h1 b hb; omega
    · rcases hb with hb | hb
      · exact .inl ((hF b).2 (.inl hb))
      · exact (s b hb).imp (fun h => (hF b).2 (.inr h)) id
theorem One.nil (w : World) : One w w [] := ⟨fun _ => False, fun b h => h, fun b h => h.elim, Kp.refl _ _⟩
theorem One.old (h : One w0 w l) : KN w0 w := let ⟨_, _, _, c⟩ := h; c
theorem One.kn (h : One w0 w l) (k : KN w w') : One w0 w' l := let ⟨F, a, b, c⟩ := h; ⟨F, a.keep k (fun _ _ h => h), b, c.trans k (fun _ h => h.elim)⟩
theorem One.get (h : One w0 w l) (i : Nat) {A : Asr} (hi : l[i]? = some A) : ∃ F1, A.on w F1 ∧ (∀ b, F1 b → w0.heap.size ≤ b) ∧ ∀ {w' A'}, Post A' F1 w w' → One w0 w' (l.set i A') := by
  obtain ⟨F, a, b, c⟩ := h
  obtain ⟨F1, h1, h2, h3⟩ := a.get hi
  refine ⟨F1, h1, fun x hx => b x (h2 x hx), fun {w' A'} hp => ?_⟩
  obtain ⟨F', a', k, s⟩ := h3 w' A' hp
  exact ⟨F', a', fun x hx => (s x hx).elim (b x) (Nat.le_trans c.size), c.then k b⟩
theorem One.add (h : One w0 w l) (hn : Post B (fun _ => False) w w') : One w0 w' (B :: l) := by
  obtain ⟨F, a, b, c⟩ := h
  obtain ⟨F', a', k', s'⟩ := hn
  refine ⟨fun b => F' b ∨ F b, ⟨F', F, a', a.keep k' (fun _ _ h => h), fun b h1 h2 => ?_, fun b => Iff.rfl⟩, fun x hx => ?_, c.trans k' (fun _ h => h.elim)⟩
  · rcases s' b h1 with h | h
    · exact h
    · have := a.lt b h2; omega
  · rcases hx with hx | hx
    · rcases s' x hx with h | h
      · exact h.elim
      · exact Nat.le_trans c.size h
    · exact b x hx
theorem One.lift {P : Program} {f : FuncId} {args : Array Value} {r : Ending} (h : One w0 w l) (i : Nat) (hi : l[i]? = some A) (hc : ∀ F, A.on w F → Calls P f args w fun e w' => e = r ∧ Post A' F w w') :
    Calls P f args w fun e w' => e = r ∧ One w0 w' (l.set i A') := by
  obtain ⟨F, h1, _, h3⟩ := h.get i hi
  exact (hc F h1).mono fun e w' ⟨he, hp⟩ => ⟨he, h3 hp⟩
theorem One.rd {P : Program} {f : FuncId} {args : Array Value} {Q : Ending → World → Prop} (h : One w0 w l) (i : Nat) (hi : l[i]? = some A) (hc : ∀ F, A.on w F → Calls P f args w Q) : Calls P f args w Q :=
  let ⟨F, h1, _⟩ := h.get i hi; hc F h1
theorem post_blk (w : World) (o : Obj) : Post (Blk w.heap.size o) (fun _ => False) w (w.alloc o) := ⟨_, ⟨heap_alloc_same _ _, rfl⟩, kn_alloc _ _, fun b hb => .inr (by subst hb; exact Nat.le_refl _)⟩
theorem One.alloc (h : One w0 w l) (o : Obj) : One w0 (w.alloc o) (Blk w.heap.size o :: l) := h.add (post_blk w o)
theorem One.alloc2 (h : One w0 w l) (o o' : Obj) : One w0 ((w.alloc o).alloc o') (Blk (w.heap.size + 1) o' :: Blk w.heap.size o :: l) := by
  have := (h.alloc o).alloc o'
  simpa using this
theorem One.blk (h : One w0 w l) (i : Nat) {g : Nat} {o : Obj} (hi : l[i]? = some (Blk g o)) : w.heap[g]? = some o ∧ w0.heap.size ≤ g := by
  obtain ⟨F, ⟨h1, h2⟩, h3, _⟩ := h.get i hi
  exact ⟨h1, h3 _ (by rw [h2])⟩
theorem post_setB {g : Nat} {o : Obj} (o' : Obj) (h : (Blk g o).on w F) : Post (Blk g o') F w (setB w g o') := by
  obtain ⟨h1, rfl⟩ := h
  exact ⟨_, ⟨setB_same _ (lt_blk h1), rfl⟩, (Kp.refl (fun x => x = g) w).setB (.inl rfl) _, fun b hb => .inl hb⟩
theorem One.setB (h : One w0 w l) (i : Nat) {g : Nat} {o : Obj} (hi : l[i]? = some (Blk g o)) (o' : Obj) : One w0 (setB w g o') (l.set i (Blk g o')) := by
  obtain ⟨F, h1, _, h3⟩ := h.get i hi
  exact h3 (post_setB o' h1)
theorem One.set1 (h : One w0 w l) (i : Nat) {g : Nat} {v : Value} {T : TypeId} (hi : l[i]? = some (Blk g (.cells #[v] T))) (v' : Value) : One w0 (w.setCell ⟨g, 0, none⟩ v') (l.set i (Blk g (.cells #[v'] T))) := by
  rw [_root_.Go.Proofs.Ytinejaganickpaa.set1 (h.blk i hi).1]
  exact h.setB i hi _
theorem Stars.perm {l l' : List Asr} (p : l.Perm l') : ∀ {w : World} {F : Nat → Prop}, Stars l w F → Stars l' w F := by
  induction p with
  | nil => exact fun h => h
  | cons A _ ih => exact fun ⟨F1, F2, h1, h2, hd, hF⟩ => ⟨F1, F2, h1, ih h2, hd, hF⟩
  | swap A B l => exact fun ⟨F1, F2, h1, ⟨F3, F4, h3, h4, hd', hF'⟩, hd, hF⟩ => ⟨F3, fun b => F1 b ∨ F4 b, h3, ⟨F1, F4, h1, h4, fun b hb h => hd b hb ((hF' b).2 (.inr h)), fun b => Iff.rfl⟩,
      fun b hb h => h.elim (fun h => hd b h ((hF' b).2 (.inl hb))) (hd' b hb), fun b => (hF b).trans ⟨fun h => h.elim (fun h => .inr (.inl h)) (fun h => ((hF' b).1 h).elim .inl (fun h => .inr (.inr h))), fun h => h.elim (fun h => .inr ((hF' b).2 (.inl h))) (fun h => h.elim .inl (fun h => .inr ((hF' b).2 (.inr h))))⟩⟩
  | trans _ _ i1 i2 => exact fun h => i2 (i1 h)
theorem One.perm {l' : List Asr} (h : One w0 w l) (p : l.Perm l') : One w0 w l' := let ⟨F, a, b, c⟩ := h; ⟨F, Stars.perm p a, b, c⟩
theorem One.drop (h : One w0 w (A :: l)) : One w0 w l := let ⟨F, ⟨F1, F2, h1, h2, hd, hF⟩, b, c⟩ := h; ⟨F2, h2, fun x hx => b x ((hF x).2 (.inr hx)), c⟩
theorem Stars.cut : ∀ {l1 l2 : List Asr} {w : World} {F : Nat → Prop}, Stars (l1 ++ l2) w F → ∃ F1 F2, Stars l1 w F1 ∧ Stars l2 w F2 ∧ (∀ b, F1 b → ¬ F2 b) ∧ ∀ b, F b ↔ F1 b ∨ F2 b
  | [], l2, w, F, h => ⟨fun _ => False, F, fun b h => h, h, fun b h => h.elim, fun b => ⟨.inr, fun h => h.elim False.elim id⟩⟩
  | A :: l1, l2, w, F, ⟨F1, F2, h1, h2, hd, hF⟩ => by
    obtain ⟨F3, F4, h3, h4, hd', hF'⟩ := Stars.cut h2
    refine ⟨fun b => F1 b ∨ F3 b, F4, ⟨F1, F3, h1, h3, fun b hb h => hd b hb ((hF' b).2 (.inl h)), fun b => Iff.rfl⟩, h4, fun b hb h => hb.elim (fun hb => hd b hb ((hF' b).2 (.inr h))) (fun hb => hd' b hb h), fun b => (hF b).trans ?_⟩
    rw [hF' b]
    exact or_assoc.symm
theorem Stars.join : ∀ {l1 l2 : List Asr} {w : World} {F F1 F2 : Nat → Prop}, Stars l1 w F1 → Stars l2 w F2 → (∀ b, F1 b → ¬ F2 b) → (∀ b, F b ↔ F1 b ∨ F2 b) → Stars (l1 ++ l2) w F
  | [], l2, w, F, F1, F2, h1, h2, hd, hF => by
    have : F = F2 := funext fun b => propext ((hF b).trans ⟨fun h => h.elim (fun h => (h1 b h).elim) id, .inr⟩)
    rw [this]; exact h2
  | A :: l1, l2, w, F, F1, F2, ⟨F3, F4, h3, h4, hd', hF'⟩, h2, hd, hF => by
    refine ⟨F3, fun b => F4 b ∨ F2 b, h3, h4.join h2 (fun b hb h => hd b ((hF' b).2 (.inr hb)) h) (fun b => Iff.rfl), fun b hb h => h.elim (hd' b hb) (fun h => hd b ((hF' b).2 (.inl hb)) h), fun b => (hF b).trans ?_⟩
    rw [hF' b]
    exact or_assoc
theorem One.all {l1 l2 : List Asr} : One w0 w (l1 ++ l2) ↔ One w0 w (All l1 :: l2) :=
  ⟨fun ⟨F, a, b, c⟩ => ⟨F, a.cut, b, c⟩, fun ⟨F, ⟨F1, F2, h1, h2, hd, hF⟩, b, c⟩ => ⟨F, Stars.join h1 h2 hd hF, b, c⟩⟩
theorem One.imp (h : One w0 w (A :: l)) (hi : ∀ F, A.on w F → B.on w F) : One w0 w (B :: l) := let ⟨F, ⟨F1, F2, h1, h2, hd, hF⟩, b, c⟩ := h; ⟨F, ⟨F1, F2, hi _ h1, h2, hd, hF⟩, b, c⟩
end
end Go.Proofs.Ytinejaganickpaa

namespace Go.Proofs.Ytinejaganickpaa
set_option linter.unusedVariables false
set_option linter.unusedSimpArgs false
open Go Go.RowKit

/-- A slice value that reads as n elements of type E, sz cells each: xs. -/
def Sr (E : TypeId) (sz : Nat) (w : World) (v : Value) (n : Nat) (xs : List Value) : Prop :=
  xs.length = n * sz ∧ ∃ a cap, v = .slice a n cap ∧ n ≤ cap ∧
    (n = 0 ∨ ∃ b off cs fr, a = some ⟨b, off, none⟩ ∧ w.heap[b]? = some (Obj.cells cs E fr) ∧ ∀ j u, xs[j]? = some u → cs[off + j]? = some u)

theorem Sr.step {E sz n : Nat} {w w' : World} {v : Value} {xs : List Value} (h : Sr E sz w v n xs) (hk : ∀ (b : Nat) cs fr, w.heap[b]? = some (Obj.cells cs E fr) → w'.heap[b]? = w.heap[b]?) : Sr E sz w' v n xs := by
  obtain ⟨hl, a, cap, hv, hc, h⟩ := h
  refine ⟨hl, a, cap, hv, hc, ?_⟩
  rcases h with h | ⟨b, off, cs, fr, ha, hb, hx⟩
  · exact .inl h
  · exact .inr ⟨b, off, cs, fr, ha, (hk b cs fr hb).trans hb, hx⟩
theorem Sr.kept {E sz n : Nat} {w w' : World} {v : Value} {xs : List Value} (h : Sr E sz w v n xs) {S : Nat → Prop} (k : Kp S w w') (hS : ∀ b : Nat, S b → ∀ cs fr, w.heap[b]? ≠ some (Obj.cells cs E fr)) : Sr E sz w' v n xs :=
  h.step fun b cs fr hb => k.block b (lt_blk hb) (fun hs => hS b hs cs fr hb)
theorem Sr.nil (E sz : Nat) (w : World) : Sr E sz w (.slice none 0 0) 0 [] := ⟨by simp, none, 0, rfl, Nat.le_refl _, .inl rfl⟩
theorem Sr.empty (E sz : Nat) (w : World) (a : Option Addr) (cap : Nat) : Sr E sz w (.slice a 0 cap) 0 [] := ⟨by simp, a, cap, rfl, Nat.zero_le _, .inl rfl⟩
theorem Sr.form {E sz n : Nat} {w : World} {v : Value} {xs : List Value} (h : Sr E sz w v n xs) : ∃ a cap, v = .slice a n cap ∧ n ≤ cap := let ⟨_, a, cap, hv, hc, _⟩ := h; ⟨a, cap, hv, hc⟩
theorem Sr.cells {E sz n : Nat} {w : World} {v : Value} {xs : List Value} (h : Sr E sz w v n xs) (hn : 0 < n) :
    ∃ b off cap, v = .slice (some ⟨b, off, none⟩) n cap ∧ n ≤ cap ∧ b < w.heap.size ∧ ∀ j u, xs[j]? = some u → w.cell? ⟨b, off + j, none⟩ = some u := by
  obtain ⟨_, a, cap, hv, hc, h⟩ := h
  rcases h with h | ⟨b, off, cs, fr, rfl, hb, hx⟩
  · omega
  · exact ⟨b, off, cap, hv, hc, lt_blk hb, fun j u hj => cell_blk hb (hx j u hj)⟩
theorem Sr.of_own {E sz n base : Nat} {w : World} {v : Value} {xs : List Value} (h : w.ownsRow base E sz v n xs) : Sr E sz w v n xs := by
  obtain ⟨hl, h⟩ := h
  refine ⟨hl, ?_⟩
  rcases h with ⟨rfl, rfl⟩ | ⟨g, cap, cur, rfl, _, hb, hc, hm, hs, ht⟩
  · exact ⟨none, 0, rfl, Nat.le_refl _, .inl rfl⟩
  · refine ⟨_, cap, rfl, hc, .inr ⟨g, 0, cur, (0, 0), rfl, hb, fun j u hj => ?_⟩⟩
    rw [← ht, List.getElem?_take] at hj
    split at hj
    · simpa using hj
    · cases hj
theorem own_nil (base E sz : Nat) (w : World) : w.ownsRow base E sz (.slice none 0 0) 0 [] := ⟨by simp, .inl ⟨rfl, rfl⟩⟩
theorem own_step {E sz n base : Nat} {w w' : World} {v : Value} {xs : List Value} (h : w.ownsRow base E sz v n xs) (hk : ∀ b : Nat, v.ownBlock = some b → w'.heap[b]? = w.heap[b]?) : w'.ownsRow base E sz v n xs := by
  obtain ⟨hl, h⟩ := h
  refine ⟨hl, ?_⟩
  rcases h with h | ⟨g, cap, cur, rfl, hg, hb, hc, hm, hs, ht⟩
  · exact .inl h
  · exact .inr ⟨g, cap, cur, rfl, hg, (hk g rfl).trans hb, hc, hm, hs, ht⟩
theorem own_lt {E sz n base : Nat} {w : World} {v : Value} {xs : List Value} (h : w.ownsRow base E sz v n xs) {b : Nat} (hb : v.ownBlock = some b) : b < w.heap.size := by
  obtain ⟨hl, h⟩ := h
  rcases h with ⟨rfl, _⟩ | ⟨g, cap, cur, rfl, hg, hh, _⟩
  · cases hb
  · cases hb; exact lt_blk hh
theorem kp_grown {w w' : World} {row : Option Nat} (h : w.grownBy w' row) : Kp (fun k => row = some k) w w' := ⟨h.os, h.tape, h.output, h.size, fun k hk hn => h.block k hk (fun e => hn e.symm)⟩

theorem Sr.tail {E b off n cap : Nat} {w : World} {x : Value} {xs : List Value} (h : Sr E 1 w (.slice (some ⟨b, off, none⟩) (n + 1) cap) (n + 1) (x :: xs)) : Sr E 1 w (.slice (some ⟨b, off + 1, none⟩) n (cap - 1)) n xs := by
  obtain ⟨hl, a, cap', hv, hc, h⟩ := h
  injection hv with h1 h2 h3
  subst h3
  simp at hl
  refine ⟨by omega, _, _, rfl, by omega, ?_⟩
  rcases h with h | ⟨b', off', cs, fr, ha, hb, hx⟩
  · omega
  · rw [ha] at h1
    injection h1 with h1
    injection h1 with h4 h5
    subst h4; subst h5
    refine .inr ⟨b, off + 1, cs, fr, rfl, hb, fun j u hj => ?_⟩
    have := hx (j + 1) u (by simpa using hj)
    rwa [show off + 1 + j = off + (j + 1) by omega]
/-- A slice type t of elements E: its zero cell, its cells, its bytes. -/
structure Elt (P : Program) (t E : TypeId) (z : Value) (sz bytes : Nat) : Prop where
  ht : P.underlying t = some (.slice E)
  hi : (P.info? E).map (fun i => (i.zero, i.size, i.bytes)) = some (some z, sz, bytes)
  hz : z.cells.size = sz
  pos : 0 < sz

theorem run_append_nil {P : Program} {w : World} {t ty E sz bytes : Nat} {z : Value} (el : Elt P t E z sz bytes) {v : Value} {n : Nat} {xs : List Value} (hown : w.ownsRow 0 E sz v n xs) (c : Nat) :
    (Builtin.append_ #[t, t] ty #[v, .slice none 0 c]).run P w = .ok v w := by
  obtain ⟨i, hi, hi2⟩ := Option.map_eq_some_iff.1 el.hi
  simp only [Prod.mk.injEq] at hi2
  obtain ⟨hz, hs, hb⟩ := hi2
  obtain ⟨_, h⟩ := hown
  rcases h with ⟨rfl, rfl⟩ | ⟨g, cap, cur, rfl, _, hb, hc, hm, hs, ht⟩
  · simp [Builtin.append_, run_underlying el.ht, sizeOf, typeInfo, hi, Builtin.lenOf, Builtin.firstCells]
  · have := run_append_room_src (P := P) (w := w) t t ty E i el.ht hi g 0 n cap (.slice none 0 c) 0 [] (Src.ofNil _ el.ht c) (by omega) (by simp) (by simp)
    rw [this]
    rfl

/-- append(v, s...): v is owned, s reads as a list. -/
theorem run_app {P : Program} {w : World} {t E sz bytes : Nat} {z : Value} (el : Elt P t E z sz bytes) (ty : TypeId) {v s : Value} {n m : Nat} {xs news : List Value} (hown : w.ownsRow 0 E sz v n xs)
    (hs : Sr E sz w s m news) (h1 : ∀ u ∈ news, u.oneCell' = true) (h63 : n + m ≤ maxLen) (hbytes : (n + m) * bytes ≤ 140737488355328) :
    ∃ v' w', (Builtin.append_ #[t, t] ty #[v, s]).run P w = .ok v' w' ∧ w'.ownsRow 0 E sz v' (n + m) (xs ++ news) ∧ Kp (fun k => v.ownBlock = some k) w w' ∧ (v'.ownBlock = v.ownBlock ∨ v'.ownBlock = some w.heap.size) := by
  obtain ⟨i, hi, hi2⟩ := Option.map_eq_some_iff.1 el.hi
  simp only [Prod.mk.injEq] at hi2
  obtain ⟨hz, hsz, hb⟩ := hi2
  obtain ⟨hl, a, cap, rfl, hc, h⟩ := hs
  cases a with
  | none =>
    have hm : m = 0 := by
      rcases h with h | ⟨b, off, cs, fr, ha, _⟩
      · exact h
      · cases ha
    subst hm
    have : news = [] := List.length_eq_zero_iff.1 (by omega)
    subst this
    exact ⟨v, w, run_append_nil el hown cap, by simpa using hown, Kp.refl _ w, .inl rfl⟩
  | some ad =>
    obtain ⟨v', w', hr, ho, hg, _, hbk⟩ := run_append_own_at (P := P) w 0 t ty E i z sz bytes el.ht hi hz hsz hb el.hz el.pos v n xs hown ad m cap news hl (by
      intro j u hj
      rcases h with h | ⟨b, off, cs, fr, ha, hbk, hx⟩
      · subst h
        have : news = [] := List.length_eq_zero_iff.1 (by omega)
        subst this; cases hj
      · cases ha
        have := cell_blk hbk (hx j u hj)
        simpa [Addr.add] using (by
          by_cases h0 : j = 0
          · subst h0; simpa using this
          · simpa [Addr.add, h0] using this)) h1 h63 hbytes (Nat.zero_le _)
    exact ⟨v', w', hr, ho, kp_grown hg, hbk⟩

/-- An append in a region that runs in the text's order, from its run: '(at_builtin; refine wpList_app DST rfl rfl rfl rfl hrun ?_)'. -/
theorem wpList_app {P : Program} {ops : Array Oper} {rest : List Oper} {o : Oper} {a : Act} {w : World} {Q : Exit → Act → World → Prop} (d : Tmp) (hd : o.dst = some d) (hgd : o.guard = none) {s x : Operand} {t ty : TypeId}
    (ho : o.op = .call { callee := .builtin .append, args := #[s, x], argTypes := #[t, t] }) (hty : o.type = ty) {v : Value} {w' : World}
    (hrun : (Builtin.append_ #[t, t] ty #[a.eval s, a.eval x]).run P w = .ok v w') (h : wpList P ops Q rest (a.put (some d) v) w') : wpList P ops Q (o :: rest) a w := by
  subst hty
  refine wpList_plain hgd fun K hK => ?_
  have := hK _ _ h
  rw [← hd] at this
  simp [Oper.wp, execOp, ho, resolve, invoke, builtin, hrun, Oper.upon]
  exact this

/-- One cell in a block of its own, as 'append(v, x)' lays it. -/
theorem sr_new {E : TypeId} {w : World} {b sz n c : Nat} {cs : List Value} {fr : Nat × Nat} (h : w.heap[b]? = some (Obj.cells cs.toArray E fr)) (hl : cs.length = n * sz) (hc : n ≤ c) : Sr E sz w (.slice (some ⟨b, 0, none⟩) n c) n cs :=
  ⟨hl, _, c, rfl, hc, .inr ⟨b, 0, cs.toArray, fr, rfl, h, fun j u hj => by simpa using hj⟩⟩
end Go.Proofs.Ytinejaganickpaa

namespace Go.Proofs.Ytinejaganickpaa
set_option linter.unusedVariables false
set_option linter.unusedSimpArgs false
open Go Go.RowKit

/-- A slice value whose cells are owned. -/
def RowA (E : TypeId) (sz : Nat) (v : Value) (n : Nat) (xs : List Value) : Asr where
  on := fun w F => w.ownsRow 0 E sz v n xs ∧ F = fun b => v.ownBlock = some b
  keep := fun {w w' F S} ⟨h, e⟩ k hS => ⟨own_step h (fun b hb => k.block b (own_lt h hb) (hS b (by rw [e]; exact hb))), e⟩
  lt := fun ⟨h, e⟩ b hb => by rw [e] at hb; exact own_lt h hb
section
variable {P : Program} {E sz n m : Nat} {v : Value} {xs news : List Value} {w0 w w' : World} {F : Nat → Prop} {l : List Asr}
theorem post_nil (E sz : Nat) (w : World) : Post (RowA E sz (.slice none 0 0) 0 []) (fun _ => False) w w :=
  ⟨_, ⟨own_nil 0 E sz w, rfl⟩, Kp.refl _ _, fun b hb => by cases hb⟩
theorem One.nilRow (h : One w0 w l) (E sz : Nat) : One w0 w (RowA E sz (.slice none 0 0) 0 [] :: l) := h.add (post_nil E sz w)
theorem One.row (h : One w0 w l) (i : Nat) (hi : l[i]? = some (RowA E sz v n xs)) : Sr E sz w v n xs := by
  obtain ⟨F, h1, _⟩ := h.get i hi
  exact Sr.of_own h1.1
theorem post_app {t bytes : Nat} {z : Value} (el : Elt P t E z sz bytes) (ty : TypeId) {s : Value} (h : (RowA E sz v n xs).on w F) (hs : Sr E sz w s m news) (h1 : ∀ u ∈ news, u.oneCell' = true) (h63 : n + m ≤ maxLen) (hbytes : (n + m) * bytes ≤ 140737488355328) :
    ∃ a cap w', (Builtin.append_ #[t, t] ty #[v, s]).run P w = .ok (.slice a (n + m) cap) w' ∧ Post (RowA E sz (.slice a (n + m) cap) (n + m) (xs ++ news)) F w w' := by
  obtain ⟨ho, rfl⟩ := h
  obtain ⟨v', w', hr, ho', hk, hb⟩ := run_app el ty ho hs h1 h63 hbytes
  obtain ⟨a, cap, rfl, _⟩ := (Sr.of_own ho').form
  refine ⟨a, cap, w', hr, _, ⟨ho', rfl⟩, hk, fun b hb' => ?_⟩
  rcases hb with e | e
  · rw [e] at hb'; exact .inl hb'
  · rw [e] at hb'; cases hb'; exact .inr (Nat.le_refl _)
/-- append(v, s...), where v's cells are item i of what is owned. -/
theorem wpList_appO {ops : Array Oper} {rest : List Oper} {o : Oper} {a : Act} {Q : Exit → Act → World → Prop} (d : Tmp) (hd : o.dst = some d) (hgd : o.guard = none) {so xo : Operand} {t ty : TypeId}
    (ho : o.op = .call { callee := .builtin .append, args := #[so, xo], argTypes := #[t, t] }) (hty : o.type = ty) {bytes : Nat} {z : Value} (el : Elt P t E z sz bytes) (h : One w0 w l) (i : Nat) (hi : l[i]? = some (RowA E sz v n xs)) {s : Value}
    (hv : a.eval so = v) (hs : a.eval xo = s) (hr : Sr E sz w s m news) (h1 : ∀ u ∈ news, u.oneCell' = true) (h63 : n + m ≤ maxLen) (hbytes : (n + m) * bytes ≤ 140737488355328)
    (hK : ∀ a1 cap w', One w0 w' (l.set i (RowA E sz (.slice a1 (n + m) cap) (n + m) (xs ++ news))) → wpList P ops Q rest (a.put (some d) (.slice a1 (n + m) cap)) w') : wpList P ops Q (o :: rest) a w := by
  obtain ⟨F, hF, _, h3⟩ := h.get i hi
  obtain ⟨a1, cap, w', hrun, hp⟩ := post_app el ty hF hr h1 h63 hbytes
  exact wpList_app d hd hgd ho hty (by rw [hv, hs]; exact hrun) (hK a1 cap w' (h3 hp))
end
end Go.Proofs.Ytinejaganickpaa

namespace Go.Proofs.Ytinejaganickpaa
set_option linter.unusedVariables false
set_option linter.unusedSimpArgs false
open Go Go.RowKit Go.ChangeShapes Go.WideShapes

theorem one_le {H : Type} (d : DataW H) : 1 ≤ Rows.uptoBulk d := by
  cases d with
  | lit l => cases l <;> simp [Rows.uptoBulk]
  | nil => simp [Rows.uptoBulk]
  | ptr d => simp [Rows.uptoBulk]
  | slice elems spare => simp [Rows.uptoBulk]
  | agg parts => simp [Rows.uptoBulk]
  | iface t d => simp [Rows.uptoBulk]
  | map entries => simp [Rows.uptoBulk]
  | held h => simp [Rows.uptoBulk]
theorem part_le {H : Type} {d : DataW H} {l : List (DataW H)} (h : d ∈ l) : Rows.uptoBulk d ≤ Rows.uptoBulkAll l := by
  induction l with
  | nil => cases h
  | cons x r ih =>
    simp only [Rows.uptoBulkAll]
    cases List.mem_cons.1 h with
    | inl e => subst e; omega
    | inr e => have := ih e; omega
theorem length_le {H : Type} (l : List (DataW H)) : l.length ≤ Rows.uptoBulkAll l := by
  induction l with
  | nil => simp [Rows.uptoBulkAll]
  | cons x r ih => have := one_le x; simp only [Rows.uptoBulkAll, List.length_cons]; omega

/-- A bound, where there is one. -/
def Bd (B : Option Nat) (n : Nat) : Prop := ∀ b, B = some b → n ≤ b
theorem Bd.le {B : Option Nat} {m n : Nat} (h : Bd B n) (hm : m ≤ n) : Bd B m := fun b e => Nat.le_trans hm (h b e)

/-- What is read at type T is some x of α, in these cells. -/
def Opens {α : Type} (P : Program) (w : World) (B : Option Nat) (T : TypeId) (n : Nat) (enc : α → List Value) (ok : α → Prop) : Prop :=
  P.cellsOf T = n ∧ ∀ {H : Type} (eh : TypeId × Value → H) (base : Nat) (spare : Nat → Bool) (held : Bool) (fuel : Nat) (cs : List Value) (d : DataW H) (ps : List MemPlace),
    DataW.trod eh P w base spare held fuel T cs = some (d, ps) → Bd B (Rows.uptoBulk d) → ∃ x, cs = enc x ∧ ok x

theorem Opens.map {α β : Type} {P : Program} {w : World} {B : Option Nat} {T : TypeId} {n : Nat} {enc : α → List Value} {ok : α → Prop} {enc' : β → List Value} {ok' : β → Prop}
    (h : Opens P w B T n enc ok) (f : α → β) (he : ∀ x, enc x = enc' (f x)) (hok : ∀ x, ok x → ok' (f x)) : Opens P w B T n enc' ok' :=
  ⟨h.1, fun eh base spare held fuel cs d ps ht hb => let ⟨x, hx, ho⟩ := h.2 eh base spare held fuel cs d ps ht hb; ⟨f x, hx.trans (he x), hok x ho⟩⟩

section
variable {P : Program} {w : World} {B : Option Nat} {T : TypeId}
theorem opens_int {k : IntKind} (hu : P.underlying T = some (.int k)) (hc : P.cellsOf T = 1) : Opens P w B T 1 (fun n : Int => [.int k n]) (fun n => (Lit.int k n).wf = true) :=
  ⟨hc, fun _ _ _ _ _ _ _ _ ht _ => let ⟨n, h1, _, h3⟩ := DataW.trod_int hu ht; ⟨n, h1, h3⟩⟩
theorem opens_string (hu : P.underlying T = some .string) (hc : P.cellsOf T = 1) : Opens P w B T 1 (fun s : ByteArray => [.string s]) (fun s => s.size ≤ maxLen ∧ Bd B s.size) := by
  refine ⟨hc, fun _ _ _ _ _ _ d _ ht hb => ?_⟩
  obtain ⟨s, h1, h2, h3⟩ := DataW.trod_string hu ht
  obtain ⟨rfl, _⟩ := Prod.mk.inj h2
  refine ⟨s, h1, h3, fun b e => ?_⟩
  have := hb b e
  simp [Rows.uptoBulk] at this
  have hs : s.data.toList.length = s.size := by simp
  omega
theorem opens_bool (hu : P.underlying T = some .bool) (hc : P.cellsOf T = 1) : Opens P w B T 1 (fun b : Bool => [.bool b]) (fun _ => True) := by
  refine ⟨hc, fun _ _ _ _ fuel _ d _ ht _ => ?_⟩
  cases fuel with
  | zero => simp [DataW.trod] at ht
  | succ n =>
    unfold DataW.trod at ht
    rw [hu] at ht
    split at ht <;> simp_all

/-- The fields of a struct from a place on. -/
inductive OpensF (P : Program) (w : World) (B : Option Nat) : Nat → List Field → Nat → {α : Type} → (α → List Value) → (α → Prop) → Prop
  | nil (off : Nat) : OpensF P w B off [] 0 (fun _ : Unit => []) (fun _ => True)
  | cons {off n m : Nat} {f : Field} {fs : List Field} {α β : Type} {e : α → List Value} {ok : α → Prop} {e' : β → List Value} {ok' : β → Prop}
      (ho : f.offset = off) (h : Opens P w B f.type n e ok) (hr : OpensF P w B (off + n) fs m e' ok') :
      OpensF P w B off (f :: fs) (m + n) (fun x : α × β => e x.1 ++ e' x.2) (fun x => ok x.1 ∧ ok' x.2)

theorem OpensF.open {off m : Nat} {fs : List Field} {α : Type} {e : α → List Value} {ok : α → Prop} (h : OpensF P w B off fs m e ok) :
    ∀ {H : Type} (eh : TypeId × Value → H) (base : Nat) (spare : Nat → Bool) (held : Bool) (fuel : Nat) (cs : List Value) (xs : List (DataW H × List MemPlace)), cs.length = off + m →
      (∀ (i : Nat) (f : Field), fs[i]? = some f → DataW.trod eh P w base spare held fuel f.type ((cs.drop f.offset).take (P.cellsOf f.type)) = xs[i]?) → xs.length = fs.length →
      (∀ x ∈ xs, Bd B (Rows.uptoBulk x.1)) → ∃ x, cs.drop off = e x ∧ ok x := by
  induction h with
  | nil off =>
    intro H eh base spare held fuel cs xs hl _ _ _
    exact ⟨(), by simp [hl], trivial⟩
  | @cons off n m f fs α β e ok e' ok' ho h hr ih =>
    intro H eh base spare held fuel cs xs hl hf hx hb
    match xs, hx with
    | x :: xs, hx =>
      have h0 := hf 0 f rfl
      rw [ho, h.1] at h0
      obtain ⟨d, ps⟩ := x
      obtain ⟨y, hy, hoy⟩ := h.2 eh base spare held fuel _ d ps h0 (hb (d, ps) (by simp))
      obtain ⟨z, hz, hoz⟩ := ih eh base spare held fuel cs xs (by omega) (fun i g hg => by simpa using hf (i + 1) g (by simpa using hg)) (by simpa using hx) (fun q hq => hb q (by simp [hq]))
      refine ⟨(y, z), ?_, hoy, hoz⟩
      show cs.drop off = e y ++ e' z
      rw [← hy, ← hz, ← List.drop_drop, List.take_append_drop]

theorem opens_struct {fs : Array Field} {n : Nat} {α : Type} {e : α → List Value} {ok : α → Prop} (hu : P.underlying T = some (.struct fs)) (hc : P.cellsOf T = n) (h : OpensF P w B 0 fs.toList n e ok) : Opens P w B T n e ok := by
  refine ⟨hc, fun eh base spare held fuel cs d ps ht hb => ?_⟩
  obtain ⟨xs, m, rfl, hd, hl, hxl, hf⟩ := DataW.trod_struct hu ht
  obtain ⟨rfl, _⟩ := Prod.mk.inj hd
  have := h.open eh base spare held m cs xs (by omega) (fun i f hi => hf i f (by simpa using hi)) (by simpa using hxl) (fun x hx b e => by
    have h1 := hb b e
    have h2 := part_le (List.mem_map_of_mem (f := (·.1)) hx)
    simp only [Rows.uptoBulk] at h1
    omega)
  simpa using this

theorem opens_array2 {E : Nat} {α : Type} {e : α → List Value} {ok : α → Prop} (hu : P.underlying T = some (.array 2 E)) (hc : P.cellsOf T = 2) (h : Opens P w B E 1 e ok) :
    Opens P w B T 2 (fun x : α × α => e x.1 ++ e x.2) (fun x => ok x.1 ∧ ok x.2) := by
  refine ⟨hc, fun eh base spare held fuel cs d ps ht hb => ?_⟩
  cases fuel with
  | zero => simp [DataW.trod] at ht
  | succ m =>
    unfold DataW.trod at ht
    rw [hu] at ht
    simp only [hc, h.1] at ht
    split at ht
    case isFalse => cases ht
    case isTrue hl =>
    obtain ⟨xs, h1, h2⟩ := Option.map_eq_some_iff.1 ht
    obtain ⟨rfl, _⟩ := Prod.mk.inj h2
    have hlen : xs.length = 2 := by simpa using mapM_some_length h1
    match xs, hlen, cs, hl with
    | [x0, x1], _, [c0, c1], _ =>
      have g0 := mapM_some_get h1 0 0 (by simp)
      have g1 := mapM_some_get h1 1 1 (by simp)
      simp at g0 g1
      have hbd : ∀ b, B = some b → Rows.uptoBulk x0.1 ≤ b ∧ Rows.uptoBulk x1.1 ≤ b := by
        intro b e
        have := hb b e
        simp [Rows.uptoBulk, Rows.uptoBulkAll] at this
        omega
      obtain ⟨a0, ha0, o0⟩ := h.2 eh base spare held m _ _ _ g0 (fun b e => (hbd b e).1)
      obtain ⟨a1, ha1, o1⟩ := h.2 eh base spare held m _ _ _ g1 (fun b e => (hbd b e).2)
      exact ⟨(a0, a1), by simp [← ha0, ← ha1], o0, o1⟩

/-- A slice that reads as a list, element by element. -/
def Rd {α : Type} (enc : α → List Value) (n : Nat) (w : World) (a : Option Addr) (l : List α) : Prop :=
  l = [] ∨ ∃ b off, a = some ⟨b, off, none⟩ ∧ b < w.heap.size ∧ ∀ i x, l[i]? = some x → ∀ j, j < n → w.cell? ⟨b, off + (i * n + j), none⟩ = (enc x)[j]?

/-- A slice as a value and what it reads as. -/
structure Sl (α : Type) where
  a : Option Addr
  cap : Nat
  l : List α
def Sl.v {α : Type} (s : Sl α) : Value := .slice s.a s.l.length s.cap

/-- What is known of a slice that came in. -/
def SlOk {α : Type} (enc : α → List Value) (n : Nat) (w : World) (B : Option Nat) (ok : α → Prop) (s : Sl α) : Prop :=
  Rd enc n w s.a s.l ∧ (∀ x ∈ s.l, ok x) ∧ s.l.length ≤ s.cap ∧ s.cap ≤ maxLen ∧ Bd B s.l.length

theorem opens_slice {E n : Nat} {α : Type} {e : α → List Value} {ok : α → Prop} (hu : P.underlying T = some (.slice E)) (hc : P.cellsOf T = 1) (hn : 0 < n) (h : Opens P w B E n e ok) :
    Opens P w B T 1 (fun s : Sl α => [s.v]) (SlOk e n w B ok) := by
  refine ⟨hc, fun eh base spare held fuel cs d ps ht hb => ?_⟩
  rcases DataW.trod_slice hu ht with ⟨rfl, _⟩ | ⟨a, len, cap, elems, rest, m, _, rfl, hx, hba, hlc, hcm, hel, hall, hsp, hns⟩
  · exact ⟨⟨none, 0, []⟩, rfl, .inl rfl, by simp, by simp, by simp [maxLen], fun _ _ => by simp⟩
  obtain ⟨rfl, _⟩ := Prod.mk.inj hx
  have hbd : ∀ i (hi : i < len), ∃ x, (∃ cs', w.cells? base (a.add (i * P.cellsOf E)) (P.cellsOf E) = some cs' ∧ cs' = e x) ∧ ok x := by
    intro i hi
    have h1 := hall i hi
    rw [List.getElem?_eq_getElem (by omega)] at h1
    obtain ⟨cs', h2, h3⟩ := Option.bind_eq_some_iff.1 h1
    obtain ⟨x, hx, ho⟩ := h.2 eh base spare held m cs' (elems[i]'(by omega)).1 (elems[i]'(by omega)).2 h3 (fun b hB => by
      have h4 := hb b hB
      simp only [Rows.uptoBulk] at h4
      have h5 := part_le (List.mem_map_of_mem (f := (·.1)) (List.getElem_mem (l := elems) (n := i) (by omega)))
      omega)
    exact ⟨x, ⟨cs', h2, hx⟩, ho⟩
  obtain ⟨l, hll, hlx⟩ : ∃ l : List α, l.length = len ∧ ∀ i x, l[i]? = some x → (∃ cs', w.cells? base (a.add (i * P.cellsOf E)) (P.cellsOf E) = some cs' ∧ cs' = e x) ∧ ok x := by
    clear hall hb ht hel hlc hsp hns
    induction len with
    | zero => exact ⟨[], rfl, by simp⟩
    | succ k ih =>
      obtain ⟨l, hl, hx⟩ := ih (fun i hi => hbd i (by omega))
      obtain ⟨x, hx0, ho0⟩ := hbd k (by omega)
      refine ⟨l ++ [x], by simp [hl], fun i y hy => ?_⟩
      by_cases hik : i < l.length
      · rw [List.getElem?_append_left hik] at hy; exact hx i y hy
      · rw [List.getElem?_append_right (by omega)] at hy
        by_cases hi0 : i = k
        · subst hi0; simp [hl] at hy; subst hy; exact ⟨hx0, ho0⟩
        · rw [List.getElem?_eq_none (by simp; omega)] at hy; cases hy
  rw [h.1] at hlx
  refine ⟨⟨some a, cap, l⟩, by simp [Sl.v, hll], ?_, fun x hx => ?_, by simp [hll, hlc], hcm, fun b hB => ?_⟩
  · by_cases h0 : l = []
    · exact .inl h0
    · right
      obtain ⟨blk, off, spot⟩ := a
      have hpos : 0 < l.length := List.length_pos_iff.2 h0
      obtain ⟨⟨cs', h1, h2⟩, _⟩ := hlx 0 l[0] (List.getElem?_eq_getElem hpos)
      obtain ⟨_, hlen, hcell⟩ := World.cells?_some h1
      have hc0 := hcell 0 hn
      rw [List.getElem?_eq_getElem (by omega)] at hc0
      have hspot : spot = none := by simpa [Addr.add] using World.cell?_spot hc0
      subst hspot
      refine ⟨blk, off, rfl, ?_, fun i x hx j hj => ?_⟩
      · have := World.block_lt_of_cell? w _ hc0
        simp only [Addr.add] at this
        repeat' split at this
        all_goals simpa using this
      · obtain ⟨⟨cs'', h3, h4⟩, _⟩ := hlx i x hx
        obtain ⟨_, hlen', hcell'⟩ := World.cells?_some h3
        have := hcell' j hj
        rw [h4] at this
        rw [← this]
        congr 1
        simp only [Addr.add]
        repeat' split
        all_goals simp_all <;> omega
  · obtain ⟨i, hi, rfl⟩ := List.mem_iff_getElem.1 hx
    exact (hlx i l[i] (List.getElem?_eq_getElem hi)).2
  · have h4 := hb b hB
    simp only [Rows.uptoBulk] at h4
    have h5 := length_le (elems.map (·.1))
    simp only [List.length_map] at h5
    show l.length ≤ b
    omega
end
end Go.Proofs.Ytinejaganickpaa

namespace Go.Proofs.Ytinejaganickpaa
set_option linter.unusedVariables false
set_option linter.unusedSimpArgs false
open Go Go.RowKit

/-- A slice value that reads as the list l. -/
def Rl {α : Type} (enc : α → List Value) (sz : Nat) (w : World) (v : Value) (l : List α) : Prop :=
  ∃ a cap, v = .slice a l.length cap ∧ l.length ≤ cap ∧ Rd enc sz w a l

theorem flat_len {α : Type} {enc : α → List Value} {sz : Nat} (hl : ∀ x, (enc x).length = sz) (l : List α) : (l.flatMap enc).length = l.length * sz := by
  induction l with
  | nil => simp
  | cons x l ih => rw [List.flatMap_cons, List.length_append, hl, ih, List.length_cons, Nat.succ_mul]; omega
theorem flat_at {α : Type} {enc : α → List Value} {sz : Nat} (hl : ∀ x, (enc x).length = sz) : ∀ (l : List α) (i : Nat) (x : α), l[i]? = some x → ∀ (j : Nat), j < sz → (l.flatMap enc)[i * sz + j]? = (enc x)[j]?
  | [], i, x, h, j, hj => by simp at h
  | y :: l, 0, x, h, j, hj => by
    simp at h; subst h
    rw [List.flatMap_cons, Nat.zero_mul, Nat.zero_add, List.getElem?_append_left (by rw [hl]; exact hj)]
  | y :: l, i + 1, x, h, j, hj => by
    rw [List.flatMap_cons, List.getElem?_append_right (by rw [hl, Nat.succ_mul]; omega), hl, show (i + 1) * sz + j - sz = i * sz + j by rw [Nat.succ_mul]; omega]
    exact flat_at hl l i x (by simpa using h) j hj

section
variable {α : Type} {enc : α → List Value} {sz : Nat} {w w' : World} {v : Value} {l : List α}
theorem Rd.kn {a : Option Addr} (h : Rd enc sz w a l) (k : KN w w') : Rd enc sz w' a l := by
  rcases h with h | ⟨b, off, ha, hb, hc⟩
  · exact .inl h
  · refine .inr ⟨b, off, ha, Nat.lt_of_lt_of_le hb k.size, fun i x hx j hj => ?_⟩
    rw [← hc i x hx j hj, World.cell?_of_block (w := w) (k.block b hb id)]
theorem Rl.kn (h : Rl enc sz w v l) (k : KN w w') : Rl enc sz w' v l :=
  let ⟨a, cap, hv, hc, hr⟩ := h; ⟨a, cap, hv, hc, hr.kn k⟩
theorem Rl.nil (enc : α → List Value) (sz : Nat) (w : World) : Rl enc sz w (.slice none 0 0) [] := ⟨none, 0, rfl, Nat.le_refl _, .inl rfl⟩
theorem Rl.of_rd {a : Option Addr} {cap : Nat} (h : Rd enc sz w a l) (hc : l.length ≤ cap) : Rl enc sz w (.slice a l.length cap) l := ⟨a, cap, rfl, hc, h⟩
theorem Rl.of_own {E n : Nat} {base : Nat} (hl : ∀ x, (enc x).length = sz) (hn : l.length = n) (h : w.ownsRow base E sz v n (l.flatMap enc)) : Rl enc sz w v l := by
  subst hn
  obtain ⟨_, h⟩ := h
  rcases h with ⟨rfl, h0⟩ | ⟨g, cap, cur, rfl, _, hb, hc, hm, hs, ht⟩
  · exact ⟨none, 0, by rw [h0], by omega, .inl (List.length_eq_zero_iff.1 h0)⟩
  · refine ⟨_, cap, rfl, hc, .inr ⟨g, 0, rfl, lt_blk hb, fun i x hx j hj => ?_⟩⟩
    have hi := (List.getElem?_eq_some_iff.1 hx).1
    have h1 := flat_at hl l i x hx j hj
    rw [← h1, ← ht]
    have h3 : i * sz + j < (l.flatMap enc).length := by
      rw [flat_len hl]
      have : (i + 1) * sz ≤ l.length * sz := Nat.mul_le_mul_right _ hi
      rw [Nat.succ_mul] at this; omega
    rw [List.getElem?_take, if_pos (by rw [← flat_len hl]; exact h3)]
    simp [World.cell?, hb]
theorem Rl.of_row {E n : Nat} {F : Nat → Prop} (hl : ∀ x, (enc x).length = sz) (hn : l.length = n) (h : (RowA E sz v n (l.flatMap enc)).on w F) : Rl enc sz w v l := Rl.of_own hl hn h.1
theorem Rl.form (h : Rl enc sz w v l) : ∃ a cap, v = .slice a l.length cap ∧ l.length ≤ cap := let ⟨a, cap, hv, hc, _⟩ := h; ⟨a, cap, hv, hc⟩
/-- An element's cells. -/
theorem Rd.at {a : Option Addr} (h : Rd enc sz w a l) {i : Nat} {x : α} (hx : l[i]? = some x) : ∃ b off, a = some ⟨b, off, none⟩ ∧ b < w.heap.size ∧ ∀ j, j < sz → w.cell? ⟨b, off + (i * sz + j), none⟩ = (enc x)[j]? := by
  rcases h with h0 | ⟨b, off, ha, hb, hc⟩
  · rw [h0] at hx; simp at hx
  · exact ⟨b, off, ha, hb, fun j hj => hc i x hx j hj⟩
theorem Rd.take {a : Option Addr} (h : Rd enc sz w a l) (k : Nat) : Rd enc sz w a (l.take k) := by
  rcases h with h | ⟨b, off, ha, hb, hc⟩
  · exact .inl (by rw [h]; simp)
  · refine .inr ⟨b, off, ha, hb, fun i x hx j hj => hc i x ?_ j hj⟩
    rw [List.getElem?_take] at hx
    split at hx
    · exact hx
    · cases hx
theorem Rd.drop {a : Option Addr} (h : Rd enc sz w a l) (k m : Nat) (hm : l.length ≤ m) : Rd enc sz w (if m = k then a else a.map (·.add (k * sz))) (l.drop k) := by
  by_cases e : m = k
  · rw [if_pos e]; exact .inl (List.drop_eq_nil_of_le (by omega))
  · rw [if_neg e]
    rcases h with h | ⟨b, off, ha, hb, hc⟩
    · exact .inl (by rw [h]; simp)
    · refine .inr ⟨b, off + k * sz, by subst ha; by_cases hz : k * sz = 0 <;> simp [Addr.add, hz], hb, fun i x hx j hj => ?_⟩
      have := hc (k + i) x (by simpa using hx) j hj
      rwa [Nat.add_mul, Nat.add_assoc (k * sz), ← Nat.add_assoc off] at this
end

/-- append(v, s...): v is owned, s reads as a list. -/
theorem run_appL {α : Type} {enc : α → List Value} {P : Program} {w : World} {t E sz bytes : Nat} {z : Value} (el : Elt P t E z sz bytes) (ty : TypeId) {v s : Value} {n : Nat} {xs : List Value} {l : List α} (hown : w.ownsRow 0 E sz v n xs)
    (hl : ∀ x, (enc x).length = sz) (hs : Rl enc sz w s l) (h1 : ∀ x, ∀ u ∈ enc x, u.oneCell' = true) (h63 : n + l.length ≤ maxLen) (hbytes : (n + l.length) * bytes ≤ 140737488355328) :
    ∃ v' w', (Builtin.append_ #[t, t] ty #[v, s]).run P w = .ok v' w' ∧ w'.ownsRow 0 E sz v' (n + l.length) (xs ++ l.flatMap enc) ∧ Kp (fun k => v.ownBlock = some k) w w' ∧ (v'.ownBlock = v.ownBlock ∨ v'.ownBlock = some w.heap.size) := by
  obtain ⟨i, hi, hi2⟩ := Option.map_eq_some_iff.1 el.hi
  simp only [Prod.mk.injEq] at hi2
  obtain ⟨hz, hsz, hb⟩ := hi2
  obtain ⟨a, cap, rfl, hc, h⟩ := hs
  cases a with
  | none =>
    have : l = [] := by
      rcases h with h | ⟨b, off, ha, _⟩
      · exact h
      · cases ha
    subst this
    exact ⟨v, w, run_append_nil el hown cap, by simpa using hown, Kp.refl _ w, .inl rfl⟩
  | some ad =>
    obtain ⟨v', w', hr, ho, hg, _, hbk⟩ := run_append_own_at (P := P) w 0 t ty E i z sz bytes el.ht hi hz hsz hb el.hz el.pos v n xs hown ad l.length cap (l.flatMap enc) (flat_len hl l) (by
      intro j u hj
      rcases h with h | ⟨b, off, ha, hbk, hx⟩
      · subst h; simp at hj
      · cases ha
        have hj2 := (List.getElem?_eq_some_iff.1 hj).1
        rw [flat_len hl] at hj2
        have hq : j / sz < l.length := (Nat.div_lt_iff_lt_mul el.pos).2 hj2
        have hm : j % sz < sz := Nat.mod_lt _ el.pos
        have hjj : j = (j / sz) * sz + j % sz := by rw [Nat.mul_comm]; exact (Nat.div_add_mod j sz).symm
        have h1 := hx (j / sz) _ (List.getElem?_eq_getElem hq) (j % sz) hm
        have h2 := flat_at hl l (j / sz) _ (List.getElem?_eq_getElem hq) (j % sz) hm
        rw [← hjj] at h1 h2
        rw [← h2, hj] at h1
        by_cases h0 : j = 0
        · subst h0; simpa [Addr.add] using h1
        · simpa [Addr.add, h0] using h1) (fun u hu => by
          obtain ⟨x, _, hx⟩ := List.mem_flatMap.1 hu
          exact h1 x u hx) h63 hbytes (Nat.zero_le _)
    exact ⟨v', w', hr, ho, kp_grown hg, hbk⟩

section
variable {α : Type} {enc : α → List Value} {P : Program} {E sz n : Nat} {v : Value} {w0 w w' : World} {F : Nat → Prop} {xs : List Value} {A : List Asr}
theorem post_appL {t bytes : Nat} {z : Value} (el : Elt P t E z sz bytes) (ty : TypeId) {s : Value} {l : List α} (h : (RowA E sz v n xs).on w F) (hl : ∀ x, (enc x).length = sz) (hs : Rl enc sz w s l) (h1 : ∀ x, ∀ u ∈ enc x, u.oneCell' = true)
    (h63 : n + l.length ≤ maxLen) (hbytes : (n + l.length) * bytes ≤ 140737488355328) :
    ∃ a cap w', (Builtin.append_ #[t, t] ty #[v, s]).run P w = .ok (.slice a (n + l.length) cap) w' ∧ Post (RowA E sz (.slice a (n + l.length) cap) (n + l.length) (xs ++ l.flatMap enc)) F w w' := by
  obtain ⟨ho, rfl⟩ := h
  obtain ⟨v', w', hr, ho', hk, hb⟩ := run_appL el ty ho hl hs h1 h63 hbytes
  obtain ⟨a, cap, rfl, _⟩ := (Sr.of_own ho').form
  refine ⟨a, cap, w', hr, _, ⟨ho', rfl⟩, hk, fun b hb' => ?_⟩
  rcases hb with e | e
  · rw [e] at hb'; exact .inl hb'
  · rw [e] at hb'; cases hb'; exact .inr (Nat.le_refl _)
/-- append(v, s...), where v's cells are item i of what is owned, s reads as l. -/
theorem wpList_appL {ops : Array Oper} {rest : List Oper} {o : Oper} {a : Act} {Q : Exit → Act → World → Prop} (d : Tmp) (hd : o.dst = some d) (hgd : o.guard = none) {so xo : Operand} {t ty : TypeId}
    (ho : o.op = .call { callee := .builtin .append, args := #[so, xo], argTypes := #[t, t] }) (hty : o.type = ty) {bytes : Nat} {z : Value} (el : Elt P t E z sz bytes) (h : One w0 w A) (i : Nat) (hi : A[i]? = some (RowA E sz v n xs)) {s : Value} {l : List α}
    (hv : a.eval so = v) (hs : a.eval xo = s) (hl : ∀ x, (enc x).length = sz) (hr : Rl enc sz w s l) (h1 : ∀ x, ∀ u ∈ enc x, u.oneCell' = true) (h63 : n + l.length ≤ maxLen) (hbytes : (n + l.length) * bytes ≤ 140737488355328)
    (hK : ∀ a1 cap w', One w0 w' (A.set i (RowA E sz (.slice a1 (n + l.length) cap) (n + l.length) (xs ++ l.flatMap enc))) → wpList P ops Q rest (a.put (some d) (.slice a1 (n + l.length) cap)) w') : wpList P ops Q (o :: rest) a w := by
  obtain ⟨F, hF, _, h3⟩ := h.get i hi
  obtain ⟨a1, cap, w', hrun, hp⟩ := post_appL el ty hF hl hr h1 h63 hbytes
  exact wpList_app d hd hgd ho hty (by rw [hv, hs]; exact hrun) (hK a1 cap w' (h3 hp))
/-- A row that is cut to nothing. -/
theorem own_none {base : Nat} {a : Option Addr} {cap : Nat} (h : w.ownsRow base E sz (.slice a n cap) n xs) (ha : a ≠ none) : w.ownsRow base E sz (.slice a 0 cap) 0 [] := by
  obtain ⟨_, h⟩ := h
  rcases h with ⟨h1, _⟩ | ⟨g, cap', cur, h1, hg, hb, hc, hm, hs, ht⟩
  · injection h1 with h1; exact absurd h1 ha
  · injection h1 with h1 h2 h3
    subst h1; subst h3
    exact ⟨by simp, .inr ⟨g, cap, cur, rfl, hg, hb, Nat.zero_le _, hm, hs, by simp⟩⟩
end
/-- What is owned is new. -/
theorem One.post {w0 w : World} {l : List Asr} (h : One w0 w l) (i : Nat) {A : Asr} (hi : l[i]? = some A) : Post A (fun _ => False) w0 w := let ⟨F, a, b, _⟩ := h.get i hi; ⟨F, a, h.old, fun x hx => .inr (b x hx)⟩
theorem Post.knf {A : Asr} {w w' : World} (h : Post A (fun _ => False) w w') : KN w w' := h.kp
theorem Post.rl {α : Type} {enc : α → List Value} {E sz : Nat} {v : Value} {l : List α} {w w' : World} {F : Nat → Prop} (hl : ∀ x, (enc x).length = sz) (h : Post (RowA E sz v l.length (l.flatMap enc)) F w w') : Rl enc sz w' v l := let ⟨_, a, _, _⟩ := h; Rl.of_row hl rfl a
/-- A new block of n elements, as a row. -/
theorem post_newrow (E sz : Nat) (w : World) (cs : List Value) (n : Nat) (hl : cs.length = n * sz) (hn : n ≤ maxLen) : Post (RowA E sz (.slice (some ⟨w.heap.size, 0, none⟩) n n) n cs) (fun _ => False) w (w.alloc (.cells cs.toArray E)) := by
  refine ⟨_, ⟨⟨hl, .inr ⟨w.heap.size, n, cs.toArray, rfl, Nat.zero_le _, heap_alloc_same _ _, Nat.le_refl _, hn, by simpa using hl, ?_⟩⟩, rfl⟩, kn_alloc _ _, fun b hb => .inr (by cases hb; exact Nat.le_refl _)⟩
  rw [← hl]; exact List.take_length
/-- slices.Grow of nothing. -/
theorem post_zeros {P : Program} (w : World) {t tn E sz bytes : Nat} {z : Value} (el : Elt P t E z sz bytes) (ty : TypeId) (htn : P.underlying tn = some (.int .i64)) (n : Nat) (h0 : 0 < n) (h63 : n ≤ maxLen) (hbytes : n * bytes ≤ 140737488355328) :
    ∃ g cap w' xs, (Builtin.append_ #[t, tn] ty #[.slice none 0 0, .int .i64 n]).run P w = .ok (.slice (some ⟨g, 0, none⟩) n cap) w' ∧ n ≤ cap ∧ Post (RowA E sz (.slice (some ⟨g, 0, none⟩) n cap) n xs) (fun _ => False) w w' := by
  obtain ⟨i, hi, hi2⟩ := Option.map_eq_some_iff.1 el.hi
  simp only [Prod.mk.injEq] at hi2
  obtain ⟨hz, hsz, hb⟩ := hi2
  have h63' : (n : Int) ≤ 9223372036854775807 := by unfold maxLen at h63; omega
  have hr := Go.Lib.run_append_nil_zeros (P := P) w t tn ty E i z .i64 .i64 el.ht htn hi hz n h0 (by rw [hsz]; exact el.pos) h63' (by rw [hb]; omega)
  have hge := grownCap_ge w n 0 E
  have hcm := grownCap_le_maxLen w n 0 E h63
  have hk : KN w (w.drew.alloc (.cells (Builtin.zeroCells z.cells n ++ Builtin.zeroCells z.cells (grownCap w n 0 E - n)) E)) := ((Kp.refl _ w).drew).alloc _
  refine ⟨w.heap.size, grownCap w n 0 E, _, (Builtin.zeroCells z.cells n).toList, hr, hge, _, ⟨⟨?_, .inr ⟨w.heap.size, _, _, rfl, Nat.zero_le _, heap_alloc_same w.drew _, hge, hcm, ?_, ?_⟩⟩, rfl⟩, hk, fun b hb => .inr (by cases hb; exact Nat.le_refl _)⟩
  · simp [size_zeroCells, el.hz]
  · simp only [Array.size_append, size_zeroCells, el.hz, ← Nat.add_mul]; congr 1; omega
  · rw [Array.toList_append, List.take_left' (by simp [size_zeroCells, el.hz])]
end Go.Proofs.Ytinejaganickpaa

namespace Go.Proofs.Ytinejaganickpaa
set_option linter.unusedVariables false
set_option linter.unusedSimpArgs false
open Go Go.RowKit

/-- What is left of the blocks of F: the list l, side by side. -/
def Pw (F : Nat → Prop) (w w' : World) (l : List Asr) : Prop := Post (All l) F w w'
section
variable {F : Nat → Prop} {w w' w'' : World} {l : List Asr} {A B : Asr}
theorem all_single (h : A.on w F) : (All [A]).on w F := ⟨F, fun _ => False, h, fun _ h => h, fun _ _ h => h, fun b => ⟨.inl, fun h => h.elim id False.elim⟩⟩
theorem single_all (h : (All [A]).on w F) : A.on w F := by
  obtain ⟨F1, F2, h1, h2, _, hF⟩ := h
  have : F = F1 := funext fun b => propext ((hF b).trans ⟨fun h => h.elim id (fun h => (h2 b h).elim), .inl⟩)
  rw [this]; exact h1
theorem Pw.start (h : (All l).on w F) : Pw F w w l := Post.same h (Kp.refl _ _)
theorem Pw.one (h : A.on w F) : Pw F w w [A] := Pw.start (all_single h)
theorem Pw.kp (h : Pw F w w' l) : Kp F w w' := Post.kp h
theorem Pw.kn (h : Pw F w w' l) (k : KN w' w'') : Pw F w w'' l := Post.kn h k
theorem Pw.get (h : Pw F w w' l) (i : Nat) (hi : l[i]? = some A) : ∃ F1, A.on w' F1 ∧ (∀ b, F1 b → F b ∨ w.heap.size ≤ b) ∧ ∀ {w''} {A' : Asr}, Post A' F1 w' w'' → Pw F w w'' (l.set i A') := by
  obtain ⟨F', a, k, s⟩ := h
  obtain ⟨F1, h1, h2, h3⟩ := Stars.get a hi
  refine ⟨F1, h1, fun b hb => s b (h2 b hb), fun {w'' A'} hp => ?_⟩
  obtain ⟨F2, a2, k2, s2⟩ := h3 w'' A' hp
  refine ⟨F2, a2, k.trans k2 s, fun b hb => ?_⟩
  rcases s2 b hb with h | h
  · exact s b h
  · exact .inr (Nat.le_trans k.size h)
theorem Pw.add (h : Pw F w w' l) (hn : Post B (fun _ => False) w' w'') : Pw F w w'' (B :: l) := by
  obtain ⟨F', a, k, s⟩ := h
  obtain ⟨F2, a2, k2, s2⟩ := hn
  refine ⟨fun b => F2 b ∨ F' b, ⟨F2, F', a2, Stars.keep a k2 (fun _ _ h => h), fun b h1 h2 => ?_, fun b => Iff.rfl⟩, k.trans k2 (fun _ h => h.elim), fun b hb => ?_⟩
  · rcases s2 b h1 with h | h
    · exact h
    · have := Stars.lt a b h2; omega
  · rcases hb with hb | hb
    · rcases s2 b hb with h | h
      · exact h.elim
      · exact .inr (Nat.le_trans k.size h)
    · exact s b hb
theorem Pw.perm {l' : List Asr} (h : Pw F w w' l) (p : l.Perm l') : Pw F w w' l' := Post.imp h fun F' h' => Stars.perm p h'
theorem Pw.drop (h : Pw F w w' (A :: l)) : Pw F w w' l := by
  obtain ⟨F', ⟨F1, F2, h1, h2, hd, hF⟩, k, s⟩ := h
  exact ⟨F2, h2, k, fun b hb => s b ((hF b).2 (.inr hb))⟩
theorem Pw.alloc (h : Pw F w w' l) (o : Obj) : Pw F w (w'.alloc o) (Blk w'.heap.size o :: l) := h.add (post_blk w' o)
theorem Pw.blk (h : Pw F w w' l) (i : Nat) {g : Nat} {o : Obj} (hi : l[i]? = some (Blk g o)) : w'.heap[g]? = some o := by
  obtain ⟨F1, ⟨h1, _⟩, _⟩ := h.get i hi
  exact h1
theorem Pw.setC (h : Pw F w w' l) (i : Nat) {g j : Nat} {cs : Array Value} {T : TypeId} {fr : Nat × Nat} (hi : l[i]? = some (Blk g (.cells cs T fr))) (v : Value) : Pw F w (w'.setCell ⟨g, j, none⟩ v) (l.set i (Blk g (.cells (cs.setIfInBounds j v) T fr))) := by
  obtain ⟨F1, h1, _, hup⟩ := h.get i hi
  have e := setCell_setB (i := j) v h1.1
  rw [e]
  exact hup (post_setB _ h1)
theorem Pw.nilRow (h : Pw F w w' l) (E sz : Nat) : Pw F w w' (RowA E sz (.slice none 0 0) 0 [] :: l) := h.add (post_nil E sz w')
theorem Pw.flat {l1 : List Asr} (h : Pw F w w' (All l1 :: l)) : Pw F w w' (l1 ++ l) := Post.imp h fun F' ⟨F1, F2, h1, h2, hd, hF⟩ => Stars.join h1 h2 hd hF
theorem Pw.group {l1 l2 : List Asr} (h : Pw F w w' (l1 ++ l2)) : Pw F w w' (All l1 :: l2) := Post.imp h fun F' h' => Stars.cut h'
theorem Pw.post (h : Pw F w w' [A]) : Post A F w w' := Post.imp h fun F' h' => single_all h'
theorem Pw.postAll (h : Pw F w w' l) : Post (All l) F w w' := h
theorem Pw.imp (h : Pw F w w' (A :: l)) (hi : ∀ F', A.on w' F' → B.on w' F') : Pw F w w' (B :: l) := Post.imp h fun F' ⟨F1, F2, h1, h2, hd, hF⟩ => ⟨F1, F2, hi _ h1, h2, hd, hF⟩
theorem Pw.lift {P : Program} {f : FuncId} {args : Array Value} {r : Ending} {A' : Asr} (h : Pw F w w' l) (i : Nat) (hi : l[i]? = some A) (hc : ∀ F, A.on w' F → Calls P f args w' fun e w'' => e = r ∧ Post A' F w' w'') :
    Calls P f args w' fun e w'' => e = r ∧ Pw F w w'' (l.set i A') := by
  obtain ⟨F1, h1, _, h3⟩ := h.get i hi
  exact (hc F1 h1).mono fun e w' ⟨he, hp⟩ => ⟨he, h3 hp⟩
/-- A row of what is left grows: its run. -/
theorem Pw.app {α : Type} {enc : α → List Value} {P : Program} {E sz n t bytes : Nat} {z : Value} (el : Elt P t E z sz bytes) (ty : TypeId) {v s : Value} {xs : List Value} {m : List α} (h : Pw F w w' l) (i : Nat) (hi : l[i]? = some (RowA E sz v n xs))
    (hl : ∀ x, (enc x).length = sz) (hs : Rl enc sz w' s m) (h1 : ∀ x, ∀ u ∈ enc x, u.oneCell' = true) (h63 : n + m.length ≤ maxLen) (hbytes : (n + m.length) * bytes ≤ 140737488355328) :
    ∃ r w'', (Builtin.append_ #[t, t] ty #[v, s]).run P w' = .ok r w'' ∧ ∃ a1 cap, r = .slice a1 (n + m.length) cap ∧ Pw F w w'' (l.set i (RowA E sz (.slice a1 (n + m.length) cap) (n + m.length) (xs ++ m.flatMap enc))) := by
  obtain ⟨F1, hF, _, h3⟩ := h.get i hi
  obtain ⟨a1, cap, w2, hrun, hp⟩ := post_appL el ty hF hl hs h1 h63 hbytes
  exact ⟨_, w2, hrun, a1, cap, rfl, h3 hp⟩
end
/-- append in a list of operations, from its run. -/
theorem wpList_appX {P : Program} {ops : Array Oper} {rest : List Oper} {o : Oper} {a : Act} {w : World} {Q : Exit → Act → World → Prop} (d : Tmp) (hd : o.dst = some d) (hgd : o.guard = none) {so xo : Operand} {t ty : TypeId}
    (ho : o.op = .call { callee := .builtin .append, args := #[so, xo], argTypes := #[t, t] }) (hty : o.type = ty) {v s : Value} (hv : a.eval so = v) (hs : a.eval xo = s) {H : Value → World → Prop}
    (h : ∃ r w', (Builtin.append_ #[t, t] ty #[v, s]).run P w = .ok r w' ∧ H r w') (hK : ∀ r w', H r w' → wpList P ops Q rest (a.put (some d) r) w') : wpList P ops Q (o :: rest) a w := by
  obtain ⟨r, w', hrun, hH⟩ := h
  exact wpList_app d hd hgd ho hty (by rw [hv, hs]; exact hrun) (hK r w' hH)
end Go.Proofs.Ytinejaganickpaa

namespace Go.Proofs.Ytinejaganickpaa
open Go Go.RowKit Go.Sort
theorem kn_regrown (w : World) (d : Nat) (os : Array Obj) : KN w (grow (redrawn w d) os) :=
  let h := below_regrown w d os; ⟨h.os, h.tape, h.output, h.size, fun k hk _ => h.block k hk⟩
theorem quiet_kn {P : Program} {f : FuncId} {args : Array Value} {w : World} {d : Nat} {os : Array Obj} {v : Value}
    (h : Calls P f args (grow (redrawn w d) os) fun e w' => e = .returned v ∧ KN (grow (redrawn w d) os) w') : Calls P f args (grow (redrawn w d) os) fun e w'' => e = .returned v ∧ ∃ p : Regrown, w'' = grow (redrawn w p.d) p.os :=
  Calls.regrown_of (h.mono fun _ _ ⟨he, hk⟩ => ⟨he, hk.bel⟩)
theorem quiet_same {P : Program} {f : FuncId} {args : Array Value} {w : World} {d : Nat} {os : Array Obj} {v : Value}
    (h : Calls P f args (grow (redrawn w d) os) fun e w' => e = .returned v ∧ grow (redrawn w d) os = w') : Calls P f args (grow (redrawn w d) os) fun e w'' => e = .returned v ∧ ∃ p : Regrown, w'' = grow (redrawn w p.d) p.os :=
  h.mono fun _ _ ⟨he, hk⟩ => ⟨he, ⟨d, os⟩, hk.symm⟩
end Go.Proofs.Ytinejaganickpaa

namespace Go.Proofs.Ytinejaganickpaa
set_option linter.unusedVariables false
set_option linter.unusedSimpArgs false
open Go Go.RowKit

section
variable {P : Program} {ops : Array Oper} {md : Region.Mode} {C : World → Prop} {n : Nat}
/-- n quiet operations come up in whatever order, then L holds. -/
def HeadQ (P : Program) (md : Region.Mode) (ops : Array Oper) (C : World → Prop) (n : Nat) (L : Array Bool → Act → Prop) : Nat → Array Bool → Act → Prop
  | 0, s, a => L s a
  | f + 1, s, a => Region.ready md ops s ≠ [] ∧ ∀ i ∈ Region.ready md ops s, i < n ∧ qOp P ops C i (HeadQ P md ops C n L f (s.setIfInBounds i true)) a
theorem any_of_headQ {g : Nat} {L : Array Bool → Act → Prop} {Q : Exit → Act → World → Prop} (hL : ∀ s a w, C w → L s a → wpAny P md ops Q g s a w) :
    ∀ (f : Nat) (s : Array Bool) (a : Act) (w : World), C w → HeadQ P md ops C n L f s a → wpAny P md ops Q (f + g) s a w := by
  intro f
  induction f with
  | zero => intro s a w hw h; rw [Nat.zero_add]; exact hL _ _ _ hw h
  | succ f ih =>
    intro s a w hw h
    rw [Nat.add_right_comm]
    exact ⟨fun e => (h.1 e).elim, fun i hi => wpOp_of_qOp hw (fun a' w' hw' => ih _ a' w' hw') (h.2 i hi).2⟩
theorem headQ_first {i : Nat} {oi : Oper} {v : Value} {L : Array Bool → Act → Prop} (hi : ops[i]? = some oi) (hsel : ∀ (j : Nat) (o : Oper) cs b, ops[j]? = some o → o.op ≠ .select cs b)
    (hs : Region.sinkB md ops n = true) (hc : Region.chainB md ops n = true) (hn : n < ops.size) (hin : i < n) (hd : ∀ s a, L s a → ∀ j ∈ Region.ready md ops s, n ≤ j) :
    ∀ (f : Nat) (s : Array Bool) (a : Act), HeadInv md ops n s →
      (∀ j oj, ops[j]? = some oj → j ≠ i → s.getD j true = false → (∀ e ∈ oj.after, Region.binds md e = true → e.on ≠ i) → oi.apart ops oj = true) →
      i ∈ Region.ready md ops s → YieldsIn P ops C oi v a → HeadQ P md ops C n L f (s.setIfInBounds i true) (a.put oi.dst v) → HeadQ P md ops C n L (f + 1) s a := by
  intro f
  induction f with
  | zero =>
    intro s a inv _ hr hy H
    refine ⟨fun e => (by rw [e] at hr; cases hr), fun j hj => ?_⟩
    have hjn : j < n := Nat.lt_of_not_le fun h => tail_waits hs hc hn inv _ i rfl hin (mem_ready.1 hr).1 j h hj
    refine ⟨hjn, ?_⟩
    by_cases e : j = i
    · subst e; exact hy.qOp hi H
    · have := hd _ _ H j (ready_mono hj e); omega
  | succ f ih =>
    intro s a inv hf hr hy H
    have hu := (mem_ready.1 hr).1
    refine ⟨fun e => (by rw [e] at hr; cases hr), fun j hj => ?_⟩
    have hjn : j < n := Nat.lt_of_not_le fun h => tail_waits hs hc hn inv _ i rfl hin hu j h hj
    refine ⟨hjn, ?_⟩
    by_cases e : j = i
    · subst e; exact hy.qOp hi H
    · obtain ⟨hju, oj, hoj, hall⟩ := mem_ready.1 hj
      have hno : ∀ e ∈ oj.after, Region.binds md e = true → e.on ≠ i := fun e he hb q => by
        have h := hall e he hb
        rw [q, getD_both hu] at h
        cases h
      refine qOp_mono (fun a' h => ih _ a' (inv.set hj hjn) (fun k ok hk hki hku hkn => hf k ok hk hki ?_ hkn) (ready_mono hr (Ne.symm e)) h.1 ?_)
        (qOp_put hoj (hf j oj hoj e hju hno) (fun cs b => hsel i oi cs b hi) (fun cs b => hsel j oj cs b hoj) hy (H.2 j (ready_mono hj e)).2)
      · by_cases q : j = k
        · subst q; exact hju
        · rwa [getD_set_ne true q] at hku
      · rw [Array.setIfInBounds_comm _ _ e]; exact h.2
theorem headQ_lex {g : Nat} {R : Act → Prop} (hsel : Region.noSelect ops = true) (hs : Region.sinkB md ops n = true) (hc : Region.chainB md ops n = true) (hn : n < ops.size) :
    ∀ (l : List Oper) (k : Nat) (s : Array Bool) (a : Act), (∀ j, j < l.length → l[j]? = ops[k + j]?) → k + l.length = n → HeadInv md ops n s → Region.lexHead md ops g l.length k s = true → wpQuiet P ops C R l a →
      HeadQ P md ops C n (fun s' a' => Region.seqB md ops g n s' = true ∧ R a') l.length s a := by
  intro l
  induction l with
  | nil => intro k s a _ hk _ hB h; simp at hk; subst hk; exact ⟨by simpa [Region.lexHead] using hB, h⟩
  | cons o l ih =>
    intro k s a hl hk inv hB h
    have h0 : ops[k]? = some o := by simpa using (hl 0 (by simp)).symm
    simp only [List.length_cons, Region.lexHead, Bool.and_eq_true] at hB hk
    have hr : k ∈ Region.ready md ops s := by simpa using hB.1.1
    have hq : qOp P ops C k (wpQuiet P ops C R l) a := by unfold qOp; simp only [h0]; exact h
    obtain ⟨v, hy, hK⟩ := yieldsIn_of_qOp h0 hq
    exact headQ_first h0 (Region.noSelect_spec hsel) hs hc hn (by omega) (fun s' a' h' => seqB_ready h'.1) l.length s a inv (Region.free_spec h0 hB.1.2) hr hy
      (ih (k + 1) _ _ (fun j hj => by have := hl (j + 1) (by simp; omega); simpa [Nat.add_assoc, Nat.add_comm 1 j] using this) (by omega) (inv.set hr (by omega)) hB.2 hK)
/-- A region that draws: the first n operations are quiet in the class C, the rest come in one order. -/
theorem wp_region_quiet_tail {id : Nat} {Q : Exit → Act → World → Prop} {a : Act} {w : World} {l : List Oper} (n : Nat) (hm : P.follows .mixedOrders = true) (hB : Region.lexTailB .any l.toArray n = true) (hC : C { w with drawn := w.drawn + 1 })
    (h : wpQuiet P l.toArray C (fun a' => ∀ w', C w' → wpList P l.toArray Q (l.drop n) a' w') (l.take n) a) : (Code.region id l.toArray true).wp P Q a w := by
  simp only [Region.lexTailB, Bool.and_eq_true, decide_eq_true_eq] at hB
  obtain ⟨⟨⟨⟨hsel, hn⟩, hs⟩, hc⟩, hlex⟩ := hB
  have hn' : n < l.length := by simpa using hn
  have htl : (l.take n).length = n := by simp; omega
  have hdl : (l.drop n).length = l.toArray.size - n := by simp
  have inv0 : HeadInv .any l.toArray n (Array.replicate l.toArray.size false) :=
    ⟨by simp, fun j oj _ h1 => (by rw [getD_replicate_false] at h1; cases h1), fun t _ ht => getD_in (by simpa using ht) (getD_replicate_false _ _)⟩
  have H := headQ_lex (P := P) (C := C) (md := .any) (g := l.toArray.size - n) hsel hs hc hn (l.take n) 0 _ a (fun j hj => by rw [htl] at hj; simp [hj]) (by simpa using htl) inv0 (by rw [htl]; exact hlex) h
  refine wp_region_any hm ?_
  have K := any_of_headQ (Q := Q) (g := l.toArray.size - n) (fun s a' w' hw' h' => by
    have := wpAny_of_seq (md := .any) (Q' := Q) (l.drop n) n s a' w' (fun j => by simp [List.getElem?_drop]) (by rw [hdl]; exact h'.1) (h'.2 w' hw')
    rwa [hdl] at this) _ _ _ _ hC H
  rwa [htl, show n + (l.toArray.size - n) = l.toArray.size by omega] at K
end
open Go.Sort
/-- The same at the class of worlds in which blocks have been laid. -/
theorem wp_region_below_tail {P : Program} {id : Nat} {Q : Exit → Act → World → Prop} {a : Act} {w : World} {l : List Oper} (n : Nat) (hm : P.follows .mixedOrders = true) (hB : Region.lexTailB .any l.toArray n = true)
    (h : wpQuiet P l.toArray (fun w' => ∃ p : Regrown, w' = grow (redrawn w p.d) p.os) (fun a' => ∀ w', (∃ p : Regrown, w' = grow (redrawn w p.d) p.os) → wpList P l.toArray Q (l.drop n) a' w') (l.take n) a) : (Code.region id l.toArray true).wp P Q a w :=
  wp_region_quiet_tail (C := fun w' => ∃ p : Regrown, w' = grow (redrawn w p.d) p.os) n hm hB ⟨⟨w.drawn + 1, #[]⟩, by rw [grow_empty]; rfl⟩ h
end Go.Proofs.Ytinejaganickpaa

namespace Go.Proofs.Ytinejaganickpaa
set_option linter.unusedVariables false
set_option linter.unusedSimpArgs false
open Go Go.RowKit
section
variable {α : Type} {enc : α → List Value} {P : Program} {E sz n : Nat} {v : Value} {w0 w w' : World} {xs : List Value} {A : List Asr}
theorem wp_appL {o : Oper} {a : Act} {K : Act → World → Prop} {Q : Exit → Act → World → Prop} {so xo : Operand} {t : TypeId}
    (ho : o.op = .call { callee := .builtin .append, args := #[so, xo], argTypes := #[t, t] }) {bytes : Nat} {z : Value} (el : Elt P t E z sz bytes) (h : One w0 w A) (i : Nat) (hi : A[i]? = some (RowA E sz v n xs)) {s : Value} {l : List α}
    (hv : a.eval so = v) (hs : a.eval xo = s) (hl : ∀ x, (enc x).length = sz) (hr : Rl enc sz w s l) (h1 : ∀ x, ∀ u ∈ enc x, u.oneCell' = true) (h63 : n + l.length ≤ maxLen) (hbytes : (n + l.length) * bytes ≤ 140737488355328)
    (hK : ∀ a1 cap w', One w0 w' (A.set i (RowA E sz (.slice a1 (n + l.length) cap) (n + l.length) (xs ++ l.flatMap enc))) → K (a.put o.dst (.slice a1 (n + l.length) cap)) w') : o.wp P a w K Q := by
  obtain ⟨F, hF, _, h3⟩ := h.get i hi
  obtain ⟨a1, cap, w', hrun, hp⟩ := post_appL el o.type hF hl hr h1 h63 hbytes
  unfold Oper.wp execOp
  simp only [ho, resolve, invoke, builtin, Sem.run_bind, Sem.run_pure, Result.andThen_ok, List.map_toArray, List.map_cons, List.map_nil, hv, hs, hrun]
  exact hK a1 cap w' (h3 hp)
theorem step_appL {ops : Array Oper} {o : Oper} {a : Act} {K : Act → World → Prop} {Q : Exit → Act → World → Prop} {G : Prop} (hgd : o.guard = none) {so xo : Operand} {t : TypeId}
    (ho : o.op = .call { callee := .builtin .append, args := #[so, xo], argTypes := #[t, t] }) {bytes : Nat} {z : Value} (el : Elt P t E z sz bytes) (h : One w0 w A) (i : Nat) (hi : A[i]? = some (RowA E sz v n xs)) {s : Value} {l : List α}
    (hv : a.eval so = v) (hs : a.eval xo = s) (hl : ∀ x, (enc x).length = sz) (hr : Rl enc sz w s l) (h1 : ∀ x, ∀ u ∈ enc x, u.oneCell' = true) (h63 : n + l.length ≤ maxLen) (hbytes : (n + l.length) * bytes ≤ 140737488355328)
    (hK : ∀ a1 cap w', One w0 w' (A.set i (RowA E sz (.slice a1 (n + l.length) cap) (n + l.length) (xs ++ l.flatMap enc))) → K (a.put o.dst (.slice a1 (n + l.length) cap)) w') :
    if Region.wanted o (yielded ops a.tmps) = true then Oper.wp P o a w K Q else G := by
  have hw : Region.wanted o (yielded ops a.tmps) = true := by simp [Region.wanted, hgd]
  rw [if_pos hw]
  exact wp_appL ho el h i hi hv hs hl hr h1 h63 hbytes hK
end
end Go.Proofs.Ytinejaganickpaa

namespace Go.Proofs.Ytinejaganickpaa
set_option linter.unusedVariables false
set_option linter.unusedSimpArgs false
open Go Go.RowKit Go.IntWalk

/-- sync/atomic.SwapT: the number is stored, what was there is handed back. -/
theorem run_call_swap {P : Program} {f : FuncId} {fn : Func} (hf : P.funcs[f]? = some fn) (hname : (fn.name == "runtime.NumGoroutine") = false) (hb : fn.body.isNone = true) (hn : Extern.findNext fn = none) (k : IntKind)
    (he : Extern.find fn = some (Extern.Atomic.swapT (.int k))) {a : Addr} {x y : Int} {w : World} (hc : w.cell? a = some (.int k x)) (hz : w.frozen? a = false) :
    (callFunc f #[.pointer (some a), .int k y]).run P w = .ok (.value (.int k x)) (w.setCell a (.int k y)) := by
  rw [run_callFunc_extern hf hname hb hn he]
  change (Sem.run P (do
    let a' ← asAddr (.pointer (some a))
    let old ← Extern.Atomic.read (.int k) a'
    store a' (.int k y) .atomic
    pure old) w).andThen _ = _
  simp [Extern.Atomic.read, asAddr, hc, hz, run_store P w a (.int k y) .atomic rfl, Result.andThen]
/-- A number that is shared. -/
abbrev atom (x : Int) : Obj := .cells #[.int .i64 x] 90
section
variable {m : Nat} {w : World} {x : Int}
theorem aadd (y : Int) (hm : w.heap[m]? = some (atom x)) : Calls Try.prog 78 #[.pointer (some ⟨m, 0, none⟩), .int .i64 y] w fun e w' => e = .returned (.int .i64 (wrap64 (x + y))) ∧ w' = setB w m (atom (wrap64 (x + y))) := by
  obtain ⟨h0, f0⟩ := cells1 hm
  have hadd := run_call_add (P := Try.prog) Try.func86 (by kernel_rfl) (by kernel_rfl) (by kernel_rfl) .i64 (by kernel_rfl) (y := y) (s := wrap64 (x + y)) h0 f0 (by simp [go_sem]; exact i64_left _)
  have HB := Lib.hid hm
  clear hm h0 f0
  go_enter Try.func78, Try.ntmps78
  go_wp2
  go_ret
  exact ⟨rfl, set1 HB.out _ _⟩
theorem aload (hm : w.heap[m]? = some (atom x)) : Calls Try.prog 56 #[.pointer (some ⟨m, 0, none⟩)] w fun e w' => e = .returned (.int .i64 x) ∧ w = w' := by
  obtain ⟨h0, f0⟩ := cells1 hm
  have hl := run_call_load (P := Try.prog) Try.func72 (by kernel_rfl) (by kernel_rfl) (by kernel_rfl) .i64 (by kernel_rfl) h0
  clear hm
  go_enter Try.func56, Try.ntmps56
  go_wp2
  go_ret
  exact ⟨rfl, rfl⟩
end
end Go.Proofs.Ytinejaganickpaa

namespace Go.Proofs.Ytinejaganickpaa
set_option linter.unusedVariables false
set_option linter.unusedSimpArgs false
open Go Go.RowKit

/-- A block's cells read as the records l, n cells each. -/
def Arr {α : Type} (enc : α → List Value) (n : Nat) (arr : Array Value) (l : List α) : Prop :=
  arr.size = l.length * n ∧ ∀ i x, l[i]? = some x → ∀ j, j < n → arr[i * n + j]? = (enc x)[j]?

section
variable {α : Type} {enc : α → List Value} {n : Nat} {arr : Array Value} {l : List α}
theorem idx_ne {i k j m n : Nat} (hj : j < n) (hm : m < n) (h : i ≠ k ∨ j ≠ m) : i * n + j ≠ k * n + m := by
  intro e
  rcases Nat.lt_trichotomy i k with hlt | rfl | hlt
  · have : (i + 1) * n ≤ k * n := Nat.mul_le_mul_right n hlt
    rw [Nat.add_mul] at this
    omega
  · rcases h with h | h
    · exact h rfl
    · omega
  · have : (k + 1) * n ≤ i * n := Nat.mul_le_mul_right n hlt
    rw [Nat.add_mul] at this
    omega
theorem idx_lt {i j n m : Nat} (hi : i < m) (hj : j < n) : i * n + j < m * n := by
  have : (i + 1) * n ≤ m * n := Nat.mul_le_mul_right n hi
  rw [Nat.add_mul] at this
  omega
theorem Arr.cell {i j : Nat} {x : α} (h : Arr enc n arr l) (hx : l[i]? = some x) (hj : j < n) : arr[i * n + j]? = (enc x)[j]? := h.2 i x hx j hj
/-- One cell of one record is written. -/
theorem Arr.set {i j : Nat} {x x' : α} {v : Value} (h : Arr enc n arr l) (hx : l[i]? = some x) (hj : j < n) (hlen : (enc x).length = n) (he : enc x' = (enc x).set j v) :
    Arr enc n (arr.setIfInBounds (i * n + j) v) (l.set i x') := by
  have hi : i < l.length := (List.getElem?_eq_some_iff.1 hx).1
  refine ⟨by simp [h.1], fun k y hy m hm => ?_⟩
  by_cases hk : i = k
  · subst hk
    rw [List.getElem?_set_self hi] at hy
    obtain rfl := Option.some.inj hy
    rw [he]
    by_cases hjm : j = m
    · subst hjm
      have hb : i * n + j < arr.size := by rw [h.1]; exact idx_lt hi hj
      rw [Array.getElem?_setIfInBounds_self_of_lt hb, List.getElem?_set_self (by omega)]
    · rw [Array.getElem?_setIfInBounds_ne (idx_ne hj hm (.inr hjm)), List.getElem?_set_ne hjm]
      exact h.2 i x hx m hm
  · rw [List.getElem?_set_ne hk] at hy
    rw [Array.getElem?_setIfInBounds_ne (idx_ne hj hm (.inl hk))]
    exact h.2 k y hy m hm
/-- A row of one record again and again. -/
theorem Arr.made {z : Array Value} {x : α} (hz : z.size = n) (hn : 0 < n) (he : enc x = z.toList) (m : Nat) : Arr enc n (madeCells z (m * n)) (List.replicate m x) := by
  refine ⟨by simp [madeCells], fun i y hy j hj => ?_⟩
  have hi : i < m := by have := (List.getElem?_eq_some_iff.1 hy).1; simpa using this
  rw [List.getElem?_replicate, if_pos hi] at hy
  obtain rfl := Option.some.inj hy
  have hlt := idx_lt hi hj
  have hmod : (i * n + j) % z.size = j := by rw [hz, Nat.mul_comm, Nat.mul_add_mod, Nat.mod_eq_of_lt hj]
  simp only [madeCells, Array.getElem?_map, Array.getElem?_range, if_pos hlt, Option.map_some, hmod, he]
  simp [hz, hj]
end

/-- make([]E, n). -/
theorem run_mk {P : Program} {w : World} {t E sz bytes : Nat} {z : Value} (el : Elt P t E z sz bytes) (n : Nat) (hb : (bytes : Int) * (n : Int) ≤ 281474976710656) (h63 : (n : Int) ≤ 9223372036854775807) :
    (Instr.makeSlice t (.int .i64 (n : Int)) (.int .i64 (n : Int))).run P w = .ok (.slice (some ⟨w.heap.size, 0, none⟩) n n) (w.alloc (.cells (madeCells z.cells (n * sz)) E)) := by
  obtain ⟨i, hi, hi2⟩ := Option.map_eq_some_iff.1 el.hi
  simp only [Prod.mk.injEq] at hi2
  obtain ⟨hz, hs, hby⟩ := hi2
  have := run_make w t E i z el.ht hi hz .i64 .i64 n n (by omega) (Int.le_refl _) (by rw [hby]; exact hb) h63
  rw [hs] at this
  simpa using this
end Go.Proofs.Ytinejaganickpaa

namespace Go.Proofs.Ytinejaganickpaa
set_option linter.unusedVariables false
set_option linter.unusedSimpArgs false
open Go Go.RowKit Go.Shelf

/-- The blocks of G lie as they lay. -/
structure KpG (G : Nat → Prop) (A B : World) : Prop where
  size : A.heap.size ≤ B.heap.size
  same : ∀ k, k < A.heap.size → G k → B.heap[k]? = A.heap[k]?
section
variable {G S : Nat → Prop} {A B C : World}
theorem KpG.refl (G : Nat → Prop) (A : World) : KpG G A A := ⟨Nat.le_refl _, fun _ _ _ => rfl⟩
theorem KpG.trans (h : KpG G A B) (k : KpG G B C) : KpG G A C := ⟨Nat.le_trans h.size k.size, fun i hi hg => (k.same i (Nat.lt_of_lt_of_le hi h.size) hg).trans (h.same i hi hg)⟩
theorem Kp.toG (k : Kp S A B) (hS : ∀ i, G i → ¬ S i) : KpG G A B := ⟨k.size, fun i hi hg => k.block i hi (hS i hg)⟩
theorem KpG.of_below (h : Below A.heap.size A B) : KpG G A B := ⟨h.size, fun i hi _ => h.block i hi⟩
theorem KpG.put {w : World} (hG : ∀ i, G i → i < w.heap.size) (W : World) (l : Nat) (o o' : Obj) (hl : w.heap.size ≤ l) (_ : W.heap[l]? = some o) (_ : o.isCells = false) (_ : o.isWalk = false) : KpG G W (W.putObj l o') :=
  ⟨(grownBy_putObj' W l o').size, fun i hi hg => (grownBy_putObj' W l o').block i hi (fun e => by have := hG i hg; cases e; omega)⟩
theorem KpG.cell (k : KpG G A B) {a : Addr} (hg : G a.block) {v : Value} (hc : A.cell? a = some v) : B.cell? a = some v := by
  rw [World.cell?_of_block (w := A) (k.same a.block (World.block_lt_of_cell? A a hc) hg)]; exact hc
end
/-- A list that is read in memory, in the blocks of G. -/
def RdN {α : Type} (G : Nat → Prop) (enc : α → List Value) (sz : Nat) (w : World) (a : Option Addr) (l : List α) : Prop :=
  ∀ (i : Nat) (x : α), l[i]? = some x → ∃ b off, a = some ⟨b, off, none⟩ ∧ G b ∧ ∀ (j : Nat) (u : Value), (enc x)[j]? = some u → w.cell? ⟨b, off + i * sz + j, none⟩ = some u
section
variable {α : Type} {G : Nat → Prop} {enc : α → List Value} {sz : Nat} {w w' : World} {a : Option Addr} {l : List α}
theorem RdN.kept (h : RdN G enc sz w a l) (k : KpG G w w') : RdN G enc sz w' a l := fun i x hx => by
  obtain ⟨b, off, h1, h2, h3⟩ := h i x hx
  exact ⟨b, off, h1, h2, fun j u hu => k.cell h2 (h3 j u hu)⟩
theorem RdN.nil (G : Nat → Prop) (enc : α → List Value) (sz : Nat) (w : World) (a : Option Addr) : RdN G enc sz w a [] := fun i x hx => by simp at hx
theorem RdN.mono (h : RdN G enc sz w a l) {G' : Nat → Prop} (hG : ∀ b, G b → G' b) : RdN G' enc sz w a l := fun i x hx => by
  obtain ⟨b, off, h1, h2, h3⟩ := h i x hx
  exact ⟨b, off, h1, hG b h2, h3⟩
end

/-- What is owned, where all that is young (B and on) is cells. -/
def OneF (B : Nat) (w0 w : World) (l : List Asr) : Prop := ∃ F, Stars l w F ∧ (∀ b, F b → w0.heap.size ≤ b) ∧ KN w0 w ∧ ∀ b, F b → b < B ∨ ∃ o, w.heap[b]? = some o ∧ o.isCells = true
section
variable {B : Nat} {w0 w w' : World} {l : List Asr}
theorem OneF.one (h : OneF B w0 w l) : One w0 w l := let ⟨F, a, b, c, _⟩ := h; ⟨F, a, b, c⟩
theorem One.loopF (h : One w0 w l) : OneF w.heap.size w0 w l := let ⟨F, a, b, c⟩ := h; ⟨F, a, b, c, fun x hx => .inl (a.lt x hx)⟩
theorem OneF.kn (h : OneF B w0 w l) (k : KN w w') : OneF B w0 w' l := by
  obtain ⟨F, a, b, c, d⟩ := h
  refine ⟨F, a.keep k (fun _ _ h => h), b, c.trans k (fun _ h => h.elim), fun x hx => ?_⟩
  rcases d x hx with h | ⟨o, h1, h2⟩
  · exact .inl h
  · exact .inr ⟨o, k.blk h1 id, h2⟩
theorem oneF_own {β : Type} (hB : w0.heap.size ≤ B) (l : β → List Asr) : OwnFrom B (fun s W => OneF B w0 W (l s)) := by
  intro s W W' row ⟨F, a, b, c, d⟩ hg hr
  have hk : Kp (fun k => row = some k) W W' := ⟨hg.os, hg.tape, hg.output, hg.size, fun k hk hn => hg.block k hk (fun e => hn e.symm)⟩
  have hno : ∀ x, F x → ¬ row = some x := by
    intro x hx e
    obtain ⟨h1, o, h2, h3⟩ := hr x e
    rcases d x hx with h | ⟨o', h4, h5⟩
    · omega
    · rw [h2] at h4; cases h4; rw [h3] at h5; cases h5
  refine ⟨F, a.keep hk hno, b, c.then hk (fun x e => Nat.le_trans hB (hr x e).1), fun x hx => ?_⟩
  rcases d x hx with h | ⟨o, h1, h2⟩
  · exact .inl h
  · exact .inr ⟨o, hk.blk h1 (hno x hx), h2⟩
theorem keepsFrom_kp {S : Nat → Prop} (k : Kp S w w') (hS : ∀ b, S b → b < B ∨ ∃ o, w.heap[b]? = some o ∧ o.isCells = true) : KeepsFrom B w w' :=
  ⟨k.size, fun i o hB hi ho => (k.block i (lt_blk hi) (fun hs => by
    rcases hS i hs with h | ⟨o', h1, h2⟩
    · omega
    · rw [hi] at h1; cases h1; rw [ho] at h2; cases h2)).trans hi⟩
theorem keepsFrom_kn (k : KN w w') : KeepsFrom B w w' := keepsFrom_kp k (fun _ h => h.elim)
end
end Go.Proofs.Ytinejaganickpaa

namespace Go.Proofs.Ytinejaganickpaa
set_option linter.unusedVariables false
set_option linter.unusedSimpArgs false
open Go Go.RowKit Go.Shelf

theorem Stars.get2 : ∀ {l : List Asr} {w : World} {F : Nat → Prop} {i : Nat} {A : Asr}, Stars l w F → l[i]? = some A →
    ∃ F1, A.on w F1 ∧ (∀ b, F1 b → F b) ∧ ∀ w' A' F', A'.on w' F' → Kp F1 w w' → (∀ b, F' b → F1 b ∨ w.heap.size ≤ b) → ∃ F'', Stars (l.set i A') w' F'' ∧ Kp F w w' ∧ ∀ b, F'' b → F' b ∨ (F b ∧ ¬ F1 b)
  | [], _, _, _, _, _, h => by simp at h
  | B :: l, w, F, 0, A, ⟨F1, F2, h1, h2, hd, hF⟩, h => by
    cases h
    refine ⟨F1, h1, fun b hb => (hF b).2 (.inl hb), fun w' A' F' a k s => ⟨fun b => F' b ∨ F2 b, ⟨F', F2, a, h2.keep k (fun b hb h => hd b h hb), fun b hb h2' => ?_, fun b => Iff.rfl⟩, k.mono (fun b hb => (hF b).2 (.inl hb)), fun b hb => ?_⟩⟩
    · rcases s b hb with h | h
      · exact hd b h h2'
      · have := h2.lt b h2'; omega
    · rcases hb with hb | hb
      · exact .inl hb
      · exact .inr ⟨(hF b).2 (.inr hb), fun h1' => hd b h1' hb⟩
  | B :: l, w, F, i + 1, A, ⟨F1, F2, h1, h2, hd, hF⟩, h => by
    obtain ⟨F3, a, hs, hp⟩ := Stars.get2 (i := i) h2 (by simpa using h)
    refine ⟨F3, a, fun b hb => (hF b).2 (.inr (hs b hb)), fun w' A' F' hA' k s => ?_⟩
    obtain ⟨F'', a', k', s'⟩ := hp w' A' F' hA' k s
    refine ⟨fun b => F1 b ∨ F'' b, ⟨F1, F'', B.keep h1 k' (fun b hb h => hd b hb h), a', fun b hb h' => ?_, fun b => Iff.rfl⟩, k'.mono (fun b hb => (hF b).2 (.inr hb)), fun b hb => ?_⟩
    · rcases s' b h' with h | ⟨h, _⟩
      · rcases s b h with h | h
        · exact hd b hb (hs b h)
        · have := B.lt h1 b hb; omega
      · exact hd b hb h
    · rcases hb with hb | hb
      · exact .inr ⟨(hF b).2 (.inl hb), fun h => hd b hb (hs b h)⟩
      · exact (s' b hb).imp id (fun h => ⟨(hF b).2 (.inr h.1), h.2⟩)
section
variable {B : Nat} {w0 w w' : World} {l : List Asr} {A A' : Asr}
/-- Item i turns; what it holds then is cells. -/
theorem OneF.get (h : OneF B w0 w l) (i : Nat) (hi : l[i]? = some A) : ∃ F1, A.on w F1 ∧ (∀ b, F1 b → w0.heap.size ≤ b) ∧ (∀ b, F1 b → b < B ∨ ∃ o, w.heap[b]? = some o ∧ o.isCells = true) ∧
    ∀ {w' A'} F', A'.on w' F' → Kp F1 w w' → (∀ b, F' b → F1 b ∨ w.heap.size ≤ b) → (∀ b, F' b → ∃ o, w'.heap[b]? = some o ∧ o.isCells = true) → OneF B w0 w' (l.set i A') := by
  obtain ⟨F, a, b, c, d⟩ := h
  obtain ⟨F1, h1, hs, hp⟩ := a.get2 hi
  refine ⟨F1, h1, fun x hx => b x (hs x hx), fun x hx => d x (hs x hx), fun {w' A'} F' hA k s hc => ?_⟩
  obtain ⟨F'', a', k', s'⟩ := hp w' A' F' hA k s
  refine ⟨F'', a', fun x hx => ?_, c.then k' b, fun x hx => ?_⟩
  · rcases s' x hx with h | ⟨h, _⟩
    · rcases s x h with h | h
      · exact b x (hs x h)
      · exact Nat.le_trans c.size h
    · exact b x h
  · rcases s' x hx with h | ⟨h, hn⟩
    · exact .inr (hc x h)
    · rcases d x h with h2 | ⟨o, h2, h3⟩
      · exact .inl h2
      · exact .inr ⟨o, k.blk h2 hn, h3⟩
theorem OneF.perm {l' : List Asr} (h : OneF B w0 w l) (p : l.Perm l') : OneF B w0 w l' := let ⟨F, a, b, c, d⟩ := h; ⟨F, Stars.perm p a, b, c, d⟩
theorem OneF.drop (h : OneF B w0 w (A :: l)) : OneF B w0 w l := let ⟨F, ⟨F1, F2, h1, h2, hd, hF⟩, b, c, d⟩ := h; ⟨F2, h2, fun x hx => b x ((hF x).2 (.inr hx)), c, fun x hx => d x ((hF x).2 (.inr hx))⟩
theorem OneF.alloc (h : OneF B w0 w l) (o : Obj) (ho : o.isCells = true) : OneF B w0 (w.alloc o) (Blk w.heap.size o :: l) := by
  obtain ⟨F, a, b, c, d⟩ := h
  refine ⟨fun x => x = w.heap.size ∨ F x, ⟨(· = w.heap.size), F, ⟨heap_alloc_same _ _, rfl⟩, a.keep (kn_alloc w o) (fun _ _ h => h), fun x hx hF => ?_, fun x => Iff.rfl⟩, fun x hx => ?_, c.trans (kn_alloc w o) (fun _ h => h.elim), fun x hx => ?_⟩
  · have := a.lt x hF; omega
  · rcases hx with hx | hx
    · subst hx; exact c.size
    · exact b x hx
  · rcases hx with hx | hx
    · subst hx; exact .inr ⟨o, heap_alloc_same _ _, ho⟩
    · rcases d x hx with h | ⟨o', h1, h2⟩
      · exact .inl h
      · exact .inr ⟨o', (kn_alloc w o).blk h1 id, h2⟩
/-- A block that is no cells lies beside. -/
theorem OneF.addD (h : OneF B w0 w l) {D : Nat} {o : Obj} (hD : w.heap[D]? = some o) (ho : o.isCells = false) (hB : B ≤ D) (h0 : w0.heap.size ≤ B) : One w0 w (Blk D o :: l) := by
  obtain ⟨F, a, b, c, d⟩ := h
  refine ⟨fun x => x = D ∨ F x, ⟨(· = D), F, ⟨hD, rfl⟩, a, fun x hx hF => ?_, fun x => Iff.rfl⟩, fun x hx => ?_, c⟩
  · subst hx
    rcases d x hF with h | ⟨o', h1, h2⟩
    · omega
    · rw [hD] at h1; cases h1; rw [ho] at h2; cases h2
  · rcases hx with hx | hx
    · subst hx; omega
    · exact b x hx
end
/-- A row's block is cells. -/
theorem row_cells {E sz n : Nat} {v : Value} {xs : List Value} {w : World} {F : Nat → Prop} (h : (RowA E sz v n xs).on w F) : ∀ b, F b → ∃ o, w.heap[b]? = some o ∧ o.isCells = true := by
  obtain ⟨⟨_, h⟩, rfl⟩ := h
  intro b hb
  rcases h with ⟨rfl, _⟩ | ⟨g, cap, cur, rfl, _, hh, _⟩
  · cases hb
  · cases hb; exact ⟨_, hh, rfl⟩
/-- A row of what is owned grows. -/
theorem OneF.app {α : Type} {enc : α → List Value} {P : Program} {B E sz n t bytes : Nat} {z : Value} (el : Elt P t E z sz bytes) (ty : TypeId) {w0 w : World} {l : List Asr} {v s : Value} {xs : List Value} {m : List α} (h : OneF B w0 w l) (i : Nat) (hi : l[i]? = some (RowA E sz v n xs))
    (hB : B ≤ w.heap.size) (hv : ∀ x, v.ownBlock = some x → B ≤ x) (hl : ∀ x, (enc x).length = sz) (hs : Rl enc sz w s m) (h1 : ∀ x, ∀ u ∈ enc x, u.oneCell' = true) (h63 : n + m.length ≤ maxLen) (hbytes : (n + m.length) * bytes ≤ 140737488355328) :
    ∃ r w', (Builtin.append_ #[t, t] ty #[v, s]).run P w = .ok r w' ∧ ∃ a1 cap, r = .slice a1 (n + m.length) cap ∧ OneF B w0 w' (l.set i (RowA E sz (.slice a1 (n + m.length) cap) (n + m.length) (xs ++ m.flatMap enc))) ∧ Kp (fun x => v.ownBlock = some x) w w' ∧
      (∀ x, (Value.slice a1 (n + m.length) cap).ownBlock = some x → B ≤ x) ∧ ∀ x, v.ownBlock = some x → x < B ∨ ∃ o, w.heap[x]? = some o ∧ o.isCells = true := by
  obtain ⟨F1, hF, _, hcl, hup⟩ := h.get i hi
  obtain ⟨a1, cap, w', hrun, F', a', k, sub⟩ := post_appL el ty hF hl hs h1 h63 hbytes
  have e1 : F1 = fun b => v.ownBlock = some b := hF.2
  have e2 : F' = fun b => (Value.slice a1 (n + m.length) cap).ownBlock = some b := a'.2
  refine ⟨_, w', hrun, a1, cap, rfl, hup F' a' k sub (row_cells a'), by rw [← e1]; exact k, fun x hx => ?_, fun x hx => hcl x (by rw [e1]; exact hx)⟩
  rcases sub x (by rw [e2]; exact hx) with h | h
  · rw [e1] at h; exact hv x h
  · exact Nat.le_trans hB h
/-- A row of what is owned grows: its run. -/
theorem One.app {α : Type} {enc : α → List Value} {P : Program} {E sz n t bytes : Nat} {z : Value} (el : Elt P t E z sz bytes) (ty : TypeId) {w0 w : World} {l : List Asr} {v s : Value} {xs : List Value} {m : List α} (h : One w0 w l) (i : Nat) (hi : l[i]? = some (RowA E sz v n xs))
    (hl : ∀ x, (enc x).length = sz) (hs : Rl enc sz w s m) (h1 : ∀ x, ∀ u ∈ enc x, u.oneCell' = true) (h63 : n + m.length ≤ maxLen) (hbytes : (n + m.length) * bytes ≤ 140737488355328) :
    ∃ r w', (Builtin.append_ #[t, t] ty #[v, s]).run P w = .ok r w' ∧ ∃ a1 cap, r = .slice a1 (n + m.length) cap ∧ One w0 w' (l.set i (RowA E sz (.slice a1 (n + m.length) cap) (n + m.length) (xs ++ m.flatMap enc))) := by
  obtain ⟨F, hF, _, h3⟩ := h.get i hi
  obtain ⟨a1, cap, w', hrun, hp⟩ := post_appL el ty hF hl hs h1 h63 hbytes
  exact ⟨_, w', hrun, a1, cap, rfl, h3 hp⟩
/-- append at a step of a region that draws, where it is wanted. -/
theorem step_appW {P : Program} {ops : Array Oper} {o : Oper} {a : Act} {w : World} {K : Act → World → Prop} {Q : Exit → Act → World → Prop} {G : Prop} (hw : Region.wanted o (yielded ops a.tmps) = true) {so xo : Operand} {t : TypeId}
    (ho : o.op = .call { callee := .builtin .append, args := #[so, xo], argTypes := #[t, t] }) {v s : Value} (hv : a.eval so = v) (hs : a.eval xo = s) {H : Value → World → Prop}
    (h : ∃ r w', (Builtin.append_ #[t, t] o.type #[v, s]).run P w = .ok r w' ∧ H r w') (hK : ∀ r w', H r w' → K (a.put o.dst r) w') :
    if Region.wanted o (yielded ops a.tmps) = true then Oper.wp P o a w K Q else G := by
  rw [if_pos hw]
  obtain ⟨r, w', hrun, hH⟩ := h
  unfold Oper.wp execOp
  simp only [ho, resolve, invoke, builtin, Sem.run_bind, Sem.run_pure, Result.andThen_ok, List.map_toArray, List.map_cons, List.map_nil, hv, hs, hrun]
  exact hK r w' hH
theorem wpListIn_appX {F : Fence} {n : Nat} {P : Program} {w : World} {ops : Array Oper} {rest : List Oper} {o : Oper} {a : Act} {Q : Exit → Act → World → Prop} (hg : o.guard = none) {so xo : Operand} {t : TypeId}
    (ho : o.op = .call { callee := .builtin .append, args := #[so, xo], argTypes := #[t, t] }) {v s : Value} (hv : a.eval so = v) (hs : a.eval xo = s) {H : Value → World → Prop}
    (h : ∃ r w', (Builtin.append_ #[t, t] o.type #[v, s]).run P w = .ok r w' ∧ H r w') (hK : ∀ r w', H r w' → wpListIn F n P ops Q rest (a.put o.dst r) w') : wpListIn F n P ops Q (o :: rest) a w := by
  refine wpListIn_plain hg fun K hK' => ?_
  obtain ⟨r, w', hrun, hH⟩ := h
  unfold Oper.wpIn
  refine ⟨?_, ?_⟩
  · simp [Oper.about, ho, resolve, Target.leads, Sem.run_pure]
  · rw [Oper.semAt_plain F _ _ (by rw [ho]; intro c hc'; cases hc')]
    simp [execOp, ho, resolve, invoke, builtin, hv, hs, hrun, Result.andThen]
    exact hK' _ _ (hK r w' hH)
end Go.Proofs.Ytinejaganickpaa

namespace Go.Proofs.Ytinejaganickpaa
set_option linter.unusedVariables false
set_option linter.unusedSimpArgs false
open Go Go.RowKit Go.Shelf

/-- T, and what was laid since A. -/
def Grw (T : Nat → Prop) (A : World) : Nat → Prop := fun b => T b ∨ A.heap.size ≤ b
/-- An invariant that does not mind what the iterator does to blocks of its own. -/
def AbidesT {β : Type} (B : Nat) (J : (Nat → Prop) → β → World → Prop) : Prop :=
  ∀ T s (A A' : World), J T s A → (∀ b, T b → B ≤ b) → Kp T A A' → J (fun b => T b ∨ (A.heap.size ≤ b ∧ b < A'.heap.size)) s A'
/-- What a body keeps: the blocks that the iterator reads, and those that it has laid. -/
def Kx (G T : Nat → Prop) (A B : World) : Prop := Kp (fun b => ¬ G b ∧ ¬ T b) A B
section
variable {G T S : Nat → Prop} {A B C : World}
theorem Kx.trans (h : Kx G T A B) (k : Kx G T B C) : Kx G T A C := Kp.trans h k (fun _ h => .inl h)
theorem Kx.of (k : Kp S A B) (hG : ∀ b, S b → ¬ G b) (hT : ∀ b, S b → ¬ T b) : Kx G T A B := k.mono fun b hb => ⟨hG b hb, hT b hb⟩
theorem Kx.kn (k : KN A B) : Kx G T A B := k.mono (fun _ h => h.elim)
theorem kp_putObj {S : Nat → Prop} (W : World) {l : Nat} (o : Obj) (hl : S l) : Kp S W (W.putObj l o) :=
  let g := grownBy_putObj' W l o
  ⟨g.os, g.tape, g.output, g.size, fun k hk hn => g.block k hk (fun e => by cases e; exact hn hl)⟩
theorem Kx.put {w : World} (hG : ∀ b, G b → b < w.heap.size) (T : Nat → Prop) (W : World) (l : Nat) (o o' : Obj) (hl : w.heap.size ≤ l) (hT : ¬ T l) (_ : W.heap[l]? = some o) (_ : o.isCells = false) (_ : o.isWalk = false) : Kx G T W (W.putObj l o') :=
  kp_putObj W o' ⟨fun h => by have := hG l h; omega, hT⟩
end
/-- The contract of an iterator that writes cells of its own. -/
def SeqStopsT {α : Type} (F : Fence) (n : Nat) (P : Program) (g : Nat) (lb : Array Value) (encs : α → Array Value) (Kq : (Nat → Prop) → World → World → Prop) (S Sp : List α → Prop) (N : Nat) (w : World) : Prop :=
  ∀ (l : Nat) (J Jx : (Nat → Prop) → List α → World → Prop) (W : World), Below w.heap.size w W → AbidesT W.heap.size J → AbidesT W.heap.size Jx →
    (∀ T pre x W1, J T pre W1 → (∀ b, T b → W.heap.size ≤ b) → pre.length < N → YieldAt F (n - 1) P l (encs x) W1 fun e W' =>
      (e = .returned (.bool true) ∧ J T (pre ++ [x]) W' ∧ Kq T W1 W') ∨ (e = .returned (.bool false) ∧ Jx T (pre ++ [x]) W')) →
    J (fun _ => False) [] W →
    CallsIn F n P g (#[.func (.yield l) #[] #[]] ++ lb) W fun e W' => (∃ v, e = .returned v) ∧ ((∃ xs T, S xs ∧ J T xs W') ∨ (∃ pre T, Sp pre ∧ Jx T pre W'))
variable {F : Fence} {n : Nat} {P : Program}
/-- The range over such an iterator. -/
theorem wpIn_rangeFunc_ownT {α : Type} {g : Operand} {ps : Array Tmp} {assign body : Code} {Q : Exit → Act → World → Prop} {a : Act} {w : World}
    (hro : F.round = none) (h1 : 1 ≤ n) {gf : Nat} {lb : Array Value} (hg : a.eval g = .func (.func gf) #[] lb) (hFg : F.fn gf) (eg : ∀ args w, (callFunc gf args).run P w = .ok (.enter gf args) w)
    {encs : α → Array Value} {Kq : (Nat → Prop) → World → World → Prop} {S Sp : List α → Prop} {N : Nat} {w0 : World} (hseq : SeqStopsT F (n - 1) P gf lb encs Kq S Sp N w0)
    (hKt : ∀ {T : Nat → Prop} {A B C : World}, Kq T A B → Kq T B C → Kq T A C) (hKb : ∀ (T : Nat → Prop) (W : World) (l : Nat) (o o' : Obj), w.heap.size ≤ l → ¬ T l → W.heap[l]? = some o → o.isCells = false → o.isWalk = false → Kq T W (W.putObj l o')) (hb0 : Below w0.heap.size w0 w) (hps : ∀ x, (encs x).size = ps.size)
    (I : (Nat → Prop) → List α → World → Prop) (Ix : Code → (Nat → Prop) → List α → World → Prop) (hI : ∀ T, OwnFrom w.heap.size (I T)) (hIx : ∀ c T, OwnFrom w.heap.size (Ix c T)) (hIT : AbidesT w.heap.size I) (hIxT : ∀ c, AbidesT w.heap.size (Ix c)) (h0 : I (fun _ => False) [] w) (Ax : α → Act → World → Prop) (hAx : ∀ x a', OwnFrom w.heap.size (fun (_ : Unit) W => Ax x a' W))
    (hassign : ∀ (l : Nat) (T : Nat → Prop) (pre : List α) (x : α) (W : World) (K : Act → World → Prop), I T pre W → (∀ a' W', KeepsFrom w.heap.size W W' → Kq T W W' → I T pre W' → Ax x a' W' → K a' W') →
      assign.wpIn (F.inRound l) (n - 1 - 1) P (Exit.then K (fun _ _ _ => False)) { tmps := (ps.zip (encs x)).foldl (fun t (p, v) => t.setIfInBounds p v) a.tmps, defers := [] } W)
    (hbody : ∀ (l : Nat) (T : Nat → Prop) (pre : List α) (x : α) (a' : Act) (W : World), w.heap.size ≤ l → (∃ r, W.heap[l]? = some (.loop r)) → I T pre W → Ax x a' W → pre.length < N → body.wpIn (F.inRound l) (n - 1 - 1) P (ownPostG w.heap.size (Kq T) (I T) (fun c => Ix c T) (pre ++ [x]) W) a' W)
    (hdone : ∀ (D : Nat) (T : Nat → Prop) (xs : List α) (W : World), w.heap.size ≤ D → S xs → I T xs W → W.heap[D]? = some (.deferred (some [])) → Q .normal { a with defers := { target := .collected D, args := #[] } :: a.defers } W)
    (hstop : ∀ (D : Nat) (c : Code) (T : Nat → Prop) (pre : List α) (W : World), w.heap.size ≤ D → Sp pre → Ix c T pre W → W.heap[D]? = some (.deferred (some [])) → c.wpIn F n P Q { a with defers := { target := .collected D, args := #[] } :: a.defers } W) :
    (Code.rangeFunc g ps assign body).wpIn F n P Q a w := by
  refine wpIn_rangeFunc ?_
  intro fn hfn
  rw [hro]
  obtain ⟨rec, hrec⟩ : ∃ rec : LoopState → Option Code → Loop, rec = fun st pe => { state := st, pending := pe, fn, tmps := a.tmps, params := ps, assign, body, defers := w.heap.size } := ⟨_, rfl⟩
  obtain ⟨W1, hW1⟩ : ∃ W1, (w.alloc (.deferred (some []))).alloc (.loop (rec .ready none)) = W1 := ⟨_, rfl⟩
  have hL1 : W1.heap[w.heap.size + 1]? = some (.loop (rec .ready none)) := by
    rw [← hW1]; have := World.alloc_heap_new (w.alloc (.deferred (some []))) (.loop (rec .ready none)); rwa [World.size_alloc] at this
  have hK1 : W1.heap[w.heap.size]? = some (.deferred (some [])) := by
    rw [← hW1]; exact (Below.heap_alloc _ _ _ (by simp)).trans (World.alloc_heap_new w _)
  have hI1 : I (fun _ => False) [] W1 := by rw [← hW1]; exact (hI _).alloc _ ((hI _).alloc _ h0)
  have hb1 : Below w0.heap.size w0 W1 := by
    rw [← hW1]; exact hb0.trans ((((Below.refl _ w).alloc (Nat.le_refl _) _).alloc (by simp) _).mono hb0.size)
  have hsz1 : W1.heap.size = w.heap.size + 2 := by rw [← hW1]; simp
  refine ⟨w.heap.size + 1, [{ target := .collected w.heap.size, args := #[] }], W1, { target := .fn (.func gf) lb, args := #[.func (.yield (w.heap.size + 1)) #[] #[]] }, W1, gf,
    #[.func (.yield (w.heap.size + 1)) #[] #[]] ++ lb, W1, ?_, ?_, ?_, ?_, fun _ => h1, ?_⟩
  · rw [← hW1, hrec]; exact run_enterLoop_outer _ _ _ _ _
  · simp only [resolve, hg]
    simp [go_sem]
  · intro f' hf'; simp [Target.leads] at hf'; subst hf'; exact hFg
  · simp [invoke, go_sem, eg]
  · refine (hseq (w.heap.size + 1)
      (fun T pre W => I T pre W ∧ W.heap[w.heap.size + 1]? = some (.loop (rec .ready none)) ∧ W.heap[w.heap.size]? = some (.deferred (some [])))
      (fun T pre W => ∃ c, Ix c T pre W ∧ W.heap[w.heap.size + 1]? = some (.loop (rec .done (some c))) ∧ W.heap[w.heap.size]? = some (.deferred (some [])))
      W1 hb1
      (fun T s A B ⟨hs1, hs2, hs3⟩ hT k => ⟨hIT T s A B hs1 (fun b hb => by have := hT b hb; omega) k, k.blk hs2 (fun h => by have := hT _ h; omega), k.blk hs3 (fun h => by have := hT _ h; omega)⟩)
      (fun T s A B ⟨c, hc, hl, hk⟩ hT k => ⟨c, hIxT c T s A B hc (fun b hb => by have := hT b hb; omega) k, k.blk hl (fun h => by have := hT _ h; omega), k.blk hk (fun h => by have := hT _ h; omega)⟩)
      ?_ ⟨hI1, hL1, hK1⟩).mono ?_
    · rintro T pre x W ⟨hi, hl, hk⟩ hT hlen
      have hnl : ¬ T (w.heap.size + 1) := fun h => by have := hT _ h; omega
      have hlt : w.heap.size + 1 < W.heap.size := (Array.getElem?_eq_some_iff.1 hl).1
      have hy := run_yield (P := P) (args := encs x) hl (by rw [hrec]; exact hps x)
      rw [hrec] at hy
      refine ⟨fn, _, assign, body, hy, roundIn_of_wpIn hfn (hassign _ T pre x W _ hi ?_)⟩
      clear hy
      intro a' Wa hkfa hkpa hia hax
      replace hl := hkfa.same _ _ (by omega) hl rfl
      replace hk := hkfa.same _ _ (Nat.le_refl _) hk rfl
      replace hlt : w.heap.size + 1 < Wa.heap.size := (Array.getElem?_eq_some_iff.1 hl).1
      replace hi := hia
      clear hia
      revert hkpa hkfa
      generalize W = Wb
      intro hkfa hkpa
      obtain ⟨W, rfl⟩ : ∃ W, W = Wa := ⟨_, rfl⟩
      refine ⟨_, run_beginRound hl (by rw [hrec]), ?_⟩
      have hl2 : (W.putObj (w.heap.size + 1) (.loop { rec .ready none with state := .busy })).heap[w.heap.size + 1]? = some (.loop { rec .ready none with state := .busy }) := World.putObj_heap_same hlt
      have hk2 : (W.putObj (w.heap.size + 1) (.loop { rec .ready none with state := .busy })).heap[w.heap.size]? = some (.deferred (some [])) := (World.putObj_heap_other (by omega)).trans hk
      have hw2 : Kq T W (W.putObj (w.heap.size + 1) (.loop { rec .ready none with state := .busy })) := hKb _ _ _ _ _ (by omega) hnl hl rfl rfl
      refine wpIn_mono (hbody _ T pre x a' _ (by omega) ⟨_, hl2⟩ ((hI T).putObj _ hi (by omega) hl rfl) ((hAx x a').putObj (s := ()) _ hax (by omega) hl rfl) hlen) ?_
      have fin : ∀ (jump : Option Code) (W3 : World), KeepsFrom w.heap.size (W.putObj (w.heap.size + 1) (.loop { rec .ready none with state := .busy })) W3 →
          (Instr.endRound (w.heap.size + 1) jump).run P W3 = .ok (.bool jump.isNone) (W3.putObj (w.heap.size + 1) (.loop (rec (if jump.isNone then .ready else .done) jump))) ∧
          W3.heap[w.heap.size + 1]? = some (.loop { rec .ready none with state := .busy }) ∧
          (W3.putObj (w.heap.size + 1) (.loop (rec (if jump.isNone then .ready else .done) jump))).heap[w.heap.size + 1]? = some (.loop (rec (if jump.isNone then .ready else .done) jump)) ∧
          (W3.putObj (w.heap.size + 1) (.loop (rec (if jump.isNone then .ready else .done) jump))).heap[w.heap.size]? = some (.deferred (some [])) := fun jump W3 hk3 => by
        have hl3 := hk3.same _ _ (by omega) hl2 rfl
        have := run_endRound (P := P) jump hl3
        rw [hrec] at this ⊢
        exact ⟨this, by rw [hrec] at hl3; exact hl3, World.putObj_heap_same (Array.getElem?_eq_some_iff.1 hl3).1, (World.putObj_heap_other (by omega)).trans (hk3.same _ _ (Nat.le_refl _) hk2 rfl)⟩
      rintro e a3 W3 hp
      cases e with
      | normal =>
        obtain ⟨hk3, hkp3, hi3⟩ := hp
        obtain ⟨hr, hl3, hl4, hk4⟩ := fin none W3 hk3
        exact ⟨_, _, hr, .inl ⟨rfl, ⟨(hI T).putObj _ hi3 (by omega) hl3 rfl, hl4, hk4⟩, hKt hkpa (hKt (hKt hw2 hkp3) (hKb _ _ _ _ _ (by omega) hnl hl3 rfl rfl))⟩⟩
      | ret =>
        obtain ⟨hk3, hi3⟩ := hp
        obtain ⟨hr, hl3, hl4, hk4⟩ := fin (some .ret) W3 hk3
        exact ⟨_, _, hr, .inr ⟨rfl, .ret, (hIx _ T).putObj _ hi3 (by omega) hl3 rfl, hl4, hk4⟩⟩
      | exit id =>
        obtain ⟨hk3, hi3⟩ := hp
        obtain ⟨hr, hl3, hl4, hk4⟩ := fin (some (.exit id)) W3 hk3
        exact ⟨_, _, hr, .inr ⟨rfl, .exit id, (hIx _ T).putObj _ hi3 (by omega) hl3 rfl, hl4, hk4⟩⟩
      | goto t =>
        obtain ⟨hk3, hi3⟩ := hp
        obtain ⟨hr, hl3, hl4, hk4⟩ := fin (some (.goto t)) W3 hk3
        exact ⟨_, _, hr, .inr ⟨rfl, .goto t, (hIx _ T).putObj _ hi3 (by omega) hl3 rfl, hl4, hk4⟩⟩
      | panic ch => exact hp.elim
      | outgrown => exact hp.elim
    · rintro e W2 ⟨⟨v, rfl⟩, (⟨xs, T, hS, hi, hl, hk⟩ | ⟨pre, T, hSp, c, hi, hl, hk⟩)⟩
      · exact ⟨none, _, by have := run_endLoop (P := P) hl (by rw [hrec]; simp); rw [hrec] at this; exact this, hdone _ T xs _ (Nat.le_refl _) hS ((hI T).putObj _ hi (by omega) hl rfl) ((World.putObj_heap_other (by omega)).trans hk)⟩
      · exact ⟨some c, _, by have := run_endLoop (P := P) hl (by rw [hrec]; simp); rw [hrec] at this; exact this, hstop _ c T pre _ (Nat.le_refl _) hSp ((hIx c T).putObj _ hi (by omega) hl rfl) ((World.putObj_heap_other (by omega)).trans hk)⟩
/-- What is owned, beside the iterator's blocks T; all that is young (B and on) is cells. -/
def OneT (B : Nat) (w0 : World) (T : Nat → Prop) (w : World) (l : List Asr) : Prop := ∃ F, Stars l w F ∧ (∀ b, F b → w0.heap.size ≤ b) ∧ ((∀ b, F b → ¬ T b) ∧ ∀ b, T b → b < w.heap.size) ∧ KN w0 w ∧ (∀ b, F b → b < B ∨ ∃ o, w.heap[b]? = some o ∧ o.isCells = true)
section
variable {B : Nat} {w0 w w' : World} {T : Nat → Prop} {l : List Asr} {A : Asr}
theorem OneT.one (h : OneT B w0 T w l) : One w0 w l := let ⟨F, a, b, _, c, _⟩ := h; ⟨F, a, b, c⟩
theorem OneT.oneF (h : OneT B w0 T w l) : OneF B w0 w l := let ⟨F, a, b, _, c, d⟩ := h; ⟨F, a, b, c, d⟩
theorem One.loopT (h : One w0 w l) : OneT w.heap.size w0 (fun _ => False) w l := let ⟨F, a, b, c⟩ := h; ⟨F, a, b, ⟨fun _ _ h => h, fun _ h => h.elim⟩, c, fun x hx => .inl (a.lt x hx)⟩
theorem OneT.kn (h : OneT B w0 T w l) (k : KN w w') : OneT B w0 T w' l := by
  obtain ⟨F, a, b, ⟨t, tl⟩, c, d⟩ := h
  refine ⟨F, a.keep k (fun _ _ h => h), b, ⟨t, fun x hx => Nat.lt_of_lt_of_le (tl x hx) k.size⟩, c.trans k (fun _ h => h.elim), fun x hx => ?_⟩
  rcases d x hx with h | ⟨o, h1, h2⟩
  · exact .inl h
  · exact .inr ⟨o, k.blk h1 id, h2⟩
theorem oneT_own {β : Type} (hB : w0.heap.size ≤ B) (l : β → List Asr) (T : Nat → Prop) : OwnFrom B (fun s W => OneT B w0 T W (l s)) := by
  intro s W W' row ⟨F, a, b, ⟨t, tl⟩, c, d⟩ hg hr
  have hk : Kp (fun k => row = some k) W W' := ⟨hg.os, hg.tape, hg.output, hg.size, fun k hk hn => hg.block k hk (fun e => hn e.symm)⟩
  have hno : ∀ x, F x → ¬ row = some x := by
    intro x hx e
    obtain ⟨h1, o, h2, h3⟩ := hr x e
    rcases d x hx with h | ⟨o', h4, h5⟩
    · omega
    · rw [h2] at h4; cases h4; rw [h3] at h5; cases h5
  refine ⟨F, a.keep hk hno, b, ⟨t, fun x hx => Nat.lt_of_lt_of_le (tl x hx) hk.size⟩, c.then hk (fun x e => Nat.le_trans hB (hr x e).1), fun x hx => ?_⟩
  rcases d x hx with h | ⟨o, h1, h2⟩
  · exact .inl h
  · exact .inr ⟨o, hk.blk h1 (hno x hx), h2⟩
theorem oneT_abides {β : Type} (hB : w0.heap.size ≤ B) (l : β → List Asr) : AbidesT B (fun T s W => OneT B w0 T W (l s)) := by
  intro T s A A' ⟨F, a, b, ⟨t, tl⟩, c, d⟩ hT k
  refine ⟨F, a.keep k t, b, ⟨fun x hx h => ?_, fun x hx => ?_⟩, c.then k (fun x hx => Nat.le_trans hB (hT x hx)), fun x hx => ?_⟩
  · rcases h with h | h
    · exact t x hx h
    · have := a.lt x hx; omega
  · rcases hx with h | h
    · exact Nat.lt_of_lt_of_le (tl x h) k.size
    · exact h.2
  · rcases d x hx with h | ⟨o, h1, h2⟩
    · exact .inl h
    · exact .inr ⟨o, k.blk h1 (t x hx), h2⟩
theorem OneT.get (h : OneT B w0 T w l) (i : Nat) (hi : l[i]? = some A) : ∃ F1, A.on w F1 ∧ (∀ b, F1 b → w0.heap.size ≤ b) ∧ (∀ b, F1 b → ¬ T b) ∧ (∀ b, F1 b → b < B ∨ ∃ o, w.heap[b]? = some o ∧ o.isCells = true) ∧
    ∀ {w' A'} F', A'.on w' F' → Kp F1 w w' → (∀ b, F' b → F1 b ∨ w.heap.size ≤ b) → (∀ b, F' b → ∃ o, w'.heap[b]? = some o ∧ o.isCells = true) → OneT B w0 T w' (l.set i A') := by
  obtain ⟨F, a, b, ⟨t, tl⟩, c, d⟩ := h
  obtain ⟨F1, h1, hs, hp⟩ := a.get2 hi
  refine ⟨F1, h1, fun x hx => b x (hs x hx), fun x hx => t x (hs x hx), fun x hx => d x (hs x hx), fun {w' A'} F' hA k s hc => ?_⟩
  obtain ⟨F'', a', k', s'⟩ := hp w' A' F' hA k s
  refine ⟨F'', a', fun x hx => ?_, ⟨fun x hx hT => ?_, fun x hx => Nat.lt_of_lt_of_le (tl x hx) k.size⟩, c.then k' b, fun x hx => ?_⟩
  · rcases s' x hx with h | ⟨h, _⟩
    · rcases s x h with h | h
      · exact b x (hs x h)
      · exact Nat.le_trans c.size h
    · exact b x h
  · rcases s' x hx with h | ⟨h, _⟩
    · rcases s x h with h | h
      · exact t x (hs x h) hT
      · have := tl x hT; omega
    · exact t x h hT
  · rcases s' x hx with h | ⟨h, hn⟩
    · exact .inr (hc x h)
    · rcases d x h with h2 | ⟨o, h2, h3⟩
      · exact .inl h2
      · exact .inr ⟨o, k.blk h2 hn, h3⟩
theorem OneT.setC (h : OneT B w0 T w l) (i : Nat) {g j : Nat} {cs : Array Value} {E : TypeId} {fr : Nat × Nat} (hi : l[i]? = some (Blk g (.cells cs E fr))) (v : Value) : OneT B w0 T (w.setCell ⟨g, j, none⟩ v) (l.set i (Blk g (.cells (cs.setIfInBounds j v) E fr))) := by
  obtain ⟨F1, ⟨e1, rfl⟩, _, _, _, hup⟩ := h.get i hi
  obtain ⟨F', a', k, s⟩ := post_setB (.cells (cs.setIfInBounds j v) E fr) (show (Blk g (.cells cs E fr)).on w (· = g) from ⟨e1, rfl⟩)
  have e : w.setCell ⟨g, j, none⟩ v = setB w g (.cells (cs.setIfInBounds j v) E fr) := setCell_setB v e1
  rw [e]
  refine hup F' a' k s (fun b hb => ?_)
  obtain ⟨a1, a2⟩ := a'
  rw [a2] at hb
  subst hb
  exact ⟨_, a1, rfl⟩
theorem OneT.blk (h : OneT B w0 T w l) (i : Nat) {g : Nat} {o : Obj} (hi : l[i]? = some (Blk g o)) : w.heap[g]? = some o ∧ ¬ T g := by
  obtain ⟨F1, ⟨h1, h2⟩, _, h3, _⟩ := h.get i hi
  exact ⟨h1, h3 _ (by rw [h2])⟩
/-- A row of what is owned grows. -/
theorem OneT.app {α : Type} {enc : α → List Value} {P : Program} {E sz n t bytes : Nat} {z : Value} (el : Elt P t E z sz bytes) (ty : TypeId) {v s : Value} {xs : List Value} {m : List α} (h : OneT B w0 T w l) (i : Nat) (hi : l[i]? = some (RowA E sz v n xs))
    (hB : B ≤ w.heap.size) (hv : ∀ x, v.ownBlock = some x → B ≤ x) (hl : ∀ x, (enc x).length = sz) (hs : Rl enc sz w s m) (h1 : ∀ x, ∀ u ∈ enc x, u.oneCell' = true) (h63 : n + m.length ≤ maxLen) (hbytes : (n + m.length) * bytes ≤ 140737488355328) :
    ∃ r w', (Builtin.append_ #[t, t] ty #[v, s]).run P w = .ok r w' ∧ ∃ a1 cap, r = .slice a1 (n + m.length) cap ∧ OneT B w0 T w' (l.set i (RowA E sz (.slice a1 (n + m.length) cap) (n + m.length) (xs ++ m.flatMap enc))) ∧ Kp (fun x => v.ownBlock = some x) w w' ∧
      (∀ x, (Value.slice a1 (n + m.length) cap).ownBlock = some x → B ≤ x) ∧ (∀ x, v.ownBlock = some x → x < B ∨ ∃ o, w.heap[x]? = some o ∧ o.isCells = true) ∧ ∀ x, v.ownBlock = some x → ¬ T x := by
  obtain ⟨F1, hF, _, ht, hcl, hup⟩ := h.get i hi
  obtain ⟨a1, cap, w', hrun, F', a', k, sub⟩ := post_appL el ty hF hl hs h1 h63 hbytes
  have e1 : F1 = fun b => v.ownBlock = some b := hF.2
  have e2 : F' = fun b => (Value.slice a1 (n + m.length) cap).ownBlock = some b := a'.2
  refine ⟨_, w', hrun, a1, cap, rfl, hup F' a' k sub (row_cells a'), by rw [← e1]; exact k, fun x hx => ?_, fun x hx => hcl x (by rw [e1]; exact hx), fun x hx => ht x (by rw [e1]; exact hx)⟩
  rcases sub x (by rw [e2]; exact hx) with h | h
  · rw [e1] at h; exact hv x h
  · exact Nat.le_trans hB h
end
end Go.Proofs.Ytinejaganickpaa

/- Worlds written as blocks that were set and laid: small laws. -/
import Derived.WalkKit
import Derived.Below
import Derived.Deep.QuietTactic
import Derived.Lib.Hide

namespace Go.Proofs.Ytohiookmpjeddaa
set_option linter.unusedVariables false
set_option linter.unusedSimpArgs false
open Go Go.RowKit

/-- Block b is now o. -/
def setB (w : World) (b : Nat) (o : Obj) : World := { w with heap := w.heap.setIfInBounds b o }

theorem cell_blk {w : World} {b i : Nat} {cs : Array Value} {T : TypeId} {fr : Nat × Nat} {v : Value} (h : w.heap[b]? = some (.cells cs T fr)) (hv : cs[i]? = some v) : w.cell? ⟨b, i, none⟩ = some v := by
  simp [World.cell?, h, hv]
theorem free_blk {w : World} {b i : Nat} {cs : Array Value} {T : TypeId} (h : w.heap[b]? = some (.cells cs T (0, 0))) : w.frozen? ⟨b, i, none⟩ = false := by
  simp [World.frozen?, h]
theorem lt_blk {w : World} {b : Nat} {o : Obj} (h : w.heap[b]? = some o) : b < w.heap.size := (Array.getElem?_eq_some_iff.1 h).1
theorem ne_blk {w : World} {b c : Nat} {o o' : Obj} (h : w.heap[b]? = some o) (h' : w.heap[c]? = some o') (hne : o ≠ o') : b ≠ c := by
  rintro rfl; rw [h] at h'; exact hne (Option.some.inj h')

theorem size_setB (w : World) (b : Nat) (o : Obj) : (setB w b o).heap.size = w.heap.size := by simp [setB]
theorem setB_same {w : World} {b : Nat} (o : Obj) (h : b < w.heap.size) : (setB w b o).heap[b]? = some o := by simp [setB, h]
theorem setB_other (w : World) {b c : Nat} (o : Obj) (h : b ≠ c) : (setB w b o).heap[c]? = w.heap[c]? := by simp [setB, Array.getElem?_setIfInBounds_ne h]
theorem cell_setB {w : World} {b : Nat} (o : Obj) (a : Addr) (h : b ≠ a.block) : (setB w b o).cell? a = w.cell? a := by
  simp only [World.cell?, setB_other w o h]
theorem cell_setB' {w : World} {b g i : Nat} (o : Obj) (h : b ≠ g) : (setB w b o).cell? ⟨g, i, none⟩ = w.cell? ⟨g, i, none⟩ := cell_setB o _ h
theorem free_setB {w : World} {b : Nat} (o : Obj) (a : Addr) (h : b ≠ a.block) : (setB w b o).frozen? a = w.frozen? a := by
  simp only [World.frozen?, setB_other w o h]
theorem setB_setB (w : World) (b : Nat) (o o' : Obj) : setB (setB w b o) b o' = setB w b o' := by
  simp [setB]
theorem setB_self {w : World} {b : Nat} {o : Obj} (h : w.heap[b]? = some o) : setB w b o = w := by
  unfold setB
  rw [show w.heap.setIfInBounds b o = w.heap from Array.ext_getElem? fun i => by
    by_cases e : b = i
    · subst e; rw [Array.getElem?_setIfInBounds_self]; rw [if_pos (lt_blk h), h]
    · rw [Array.getElem?_setIfInBounds_ne e]]
theorem setCell_setB {w : World} {b i : Nat} {cs : Array Value} {T : TypeId} {fr : Nat × Nat} (v : Value) (h : w.heap[b]? = some (.cells cs T fr)) :
    w.setCell ⟨b, i, none⟩ v = setB w b (.cells (cs.setIfInBounds i v) T fr) := by
  unfold setB World.setCell
  congr 1
  refine Array.ext_getElem? fun j => ?_
  simp only [Array.getElem?_modify, Array.getElem?_setIfInBounds]
  by_cases e : b = j
  · subst e
    have he := (Array.getElem?_eq_some_iff.1 h).2
    simp [lt_blk h, he]
  · simp [e]
theorem below_setB {B : Nat} {a w : World} (h : Below B a w) {b : Nat} (hb : B ≤ b) (o : Obj) : Below B a (setB w b o) :=
  h.trans ⟨rfl, rfl, rfl, by simp [setB], fun k hk => setB_other w o (by omega)⟩
theorem heap_alloc_old {w : World} {c : Nat} (o : Obj) (h : c < w.heap.size) : (w.alloc o).heap[c]? = w.heap[c]? := Below.heap_alloc w o c h
theorem heap_alloc_same (w : World) (o : Obj) : (w.alloc o).heap[w.heap.size]? = some o := by
  show (w.heap.push o)[w.heap.size]? = _
  simp
theorem heap_alloc_two (w : World) (o o' : Obj) : ((w.alloc o).alloc o').heap[w.heap.size + 1]? = some o' := by
  have := heap_alloc_same (w.alloc o) o'
  simpa using this
theorem blk_alloc {w : World} {c : Nat} {p : Obj} (o : Obj) (h : w.heap[c]? = some p) : (w.alloc o).heap[c]? = some p := (heap_alloc_old o (lt_blk h)).trans h
theorem setB_alloc_new (w : World) (o o' : Obj) : setB (w.alloc o) w.heap.size o' = w.alloc o' := by
  unfold setB World.alloc
  congr 1
  refine Array.ext_getElem? fun j => ?_
  simp only [Array.getElem?_setIfInBounds, Array.getElem?_push, Array.size_push]
  by_cases e : w.heap.size = j
  · subst e; simp
  · simp [e, Ne.symm e]

section
variable {w : World} {b : Nat} {T : TypeId} {v0 v1 v2 v3 : Value}
theorem cells1 (h : w.heap[b]? = some (.cells #[v0] T (0, 0))) : w.cell? ⟨b, 0, none⟩ = some v0 ∧ w.frozen? ⟨b, 0, none⟩ = false := ⟨cell_blk h rfl, free_blk h⟩
theorem cells2 (h : w.heap[b]? = some (.cells #[v0, v1] T (0, 0))) : w.cell? ⟨b, 0, none⟩ = some v0 ∧ w.cell? ⟨b, 1, none⟩ = some v1 ∧ w.frozen? ⟨b, 0, none⟩ = false ∧ w.frozen? ⟨b, 1, none⟩ = false :=
  ⟨cell_blk h rfl, cell_blk h rfl, free_blk h, free_blk h⟩
theorem cells2_al (h : w.heap[b]? = some (.cells #[v0, v1] T (0, 0))) : (∀ o, (w.alloc o).cell? ⟨b, 0, none⟩ = some v0) ∧ (∀ o, (w.alloc o).cell? ⟨b, 1, none⟩ = some v1) ∧ (∀ o, (w.alloc o).frozen? ⟨b, 0, none⟩ = false) ∧ (∀ o, (w.alloc o).frozen? ⟨b, 1, none⟩ = false) :=
  ⟨fun o => cell_blk (blk_alloc o h) rfl, fun o => cell_blk (blk_alloc o h) rfl, fun o => free_blk (blk_alloc o h), fun o => free_blk (blk_alloc o h)⟩
theorem cells3 (h : w.heap[b]? = some (.cells #[v0, v1, v2] T (0, 0))) : w.cell? ⟨b, 0, none⟩ = some v0 ∧ w.cell? ⟨b, 1, none⟩ = some v1 ∧ w.cell? ⟨b, 2, none⟩ = some v2 ∧
    w.frozen? ⟨b, 0, none⟩ = false ∧ w.frozen? ⟨b, 1, none⟩ = false ∧ w.frozen? ⟨b, 2, none⟩ = false :=
  ⟨cell_blk h rfl, cell_blk h rfl, cell_blk h rfl, free_blk h, free_blk h, free_blk h⟩
/-- Two stores into one block. -/
theorem set2 {cs : Array Value} {fr : Nat × Nat} (h : w.heap[b]? = some (.cells cs T fr)) (i j : Nat) (x y : Value) :
    (w.setCell ⟨b, i, none⟩ x).setCell ⟨b, j, none⟩ y = setB w b (.cells ((cs.setIfInBounds i x).setIfInBounds j y) T fr) := by
  rw [setCell_setB _ h, setCell_setB _ (setB_same _ (lt_blk h)), setB_setB]
theorem set3 {cs : Array Value} {fr : Nat × Nat} (h : w.heap[b]? = some (.cells cs T fr)) (i j k : Nat) (x y z : Value) :
    ((w.setCell ⟨b, i, none⟩ x).setCell ⟨b, j, none⟩ y).setCell ⟨b, k, none⟩ z = setB w b (.cells (((cs.setIfInBounds i x).setIfInBounds j y).setIfInBounds k z) T fr) := by
  rw [set2 h, setCell_setB _ (setB_same _ (lt_blk h)), setB_setB]
theorem set1 {cs : Array Value} {fr : Nat × Nat} (h : w.heap[b]? = some (.cells cs T fr)) (i : Nat) (x : Value) :
    w.setCell ⟨b, i, none⟩ x = setB w b (.cells (cs.setIfInBounds i x) T fr) := setCell_setB _ h
end

theorem str_ext {x y : ByteArray} (h : x.toList = y.toList) : x = y := by
  rw [ByteArray.toList_eq, ByteArray.toList_eq] at h
  exact ByteArray.ext (Array.toList_inj.1 h)
theorem beq_str_false {x y : ByteArray} (h : x ≠ y) : (x.toList == y.toList) = false := by
  simp only [beq_eq_false_iff_ne, ne_eq]
  exact fun e => h (str_ext e)

/-- What came to w' from w: no block is gone, nothing but the blocks of S has turned, streams and tape are as they were. -/
structure Kp (S : Nat → Prop) (w w' : World) : Prop where
  os : w'.os = w.os
  tape : w'.tape = w.tape
  output : w'.output = w.output
  size : w.heap.size ≤ w'.heap.size
  block : ∀ k, k < w.heap.size → ¬ S k → w'.heap[k]? = w.heap[k]?
theorem Kp.refl (S : Nat → Prop) (w : World) : Kp S w w := ⟨rfl, rfl, rfl, Nat.le_refl _, fun _ _ _ => rfl⟩
theorem Kp.trans {S : Nat → Prop} {a b c : World} (h : Kp S a b) {S' : Nat → Prop} (k : Kp S' b c) (hs : ∀ i, S' i → S i ∨ a.heap.size ≤ i) : Kp S a c :=
  ⟨k.os.trans h.os, k.tape.trans h.tape, k.output.trans h.output, Nat.le_trans h.size k.size, fun i hi hn => by
    rw [k.block i (Nat.lt_of_lt_of_le hi h.size) (fun h' => (hs i h').elim hn (fun h'' => by omega)), h.block i hi hn]⟩
theorem Kp.mono {S S' : Nat → Prop} {a b : World} (h : Kp S a b) (hs : ∀ i, S i → S' i) : Kp S' a b := ⟨h.os, h.tape, h.output, h.size, fun i hi hn => h.block i hi (fun h' => hn (hs i h'))⟩
theorem Kp.below {S : Nat → Prop} {a b c : World} {B : Nat} (k : Kp S b c) (h : Below B a b) (hB : B ≤ b.heap.size) (hs : ∀ i, S i → B ≤ i) : Below B a c :=
  h.trans ⟨k.os, k.tape, k.output, k.size, fun i hi => k.block i (by omega) (fun h' => by have := hs i h'; omega)⟩
theorem Kp.blk {S : Nat → Prop} {a b : World} (k : Kp S a b) {c : Nat} {o : Obj} (h : a.heap[c]? = some o) (hn : ¬ S c) : b.heap[c]? = some o := (k.block c (lt_blk h) hn).trans h
theorem Kp.setB {S : Nat → Prop} {a b : World} (k : Kp S a b) {c : Nat} (hc : S c ∨ a.heap.size ≤ c) (o : Obj) : Kp S a (setB b c o) :=
  k.trans (S' := fun i => i = c) ⟨rfl, rfl, rfl, by simp [size_setB], fun i _ hn => setB_other b o (fun e => hn e.symm)⟩ (fun i hi => by subst hi; exact hc)
theorem Kp.setCell {S : Nat → Prop} {a b : World} (k : Kp S a b) {p : Addr} (hp : S p.block ∨ a.heap.size ≤ p.block) (v : Value) : Kp S a (b.setCell p v) :=
  k.trans (S' := fun i => i = p.block) ⟨rfl, rfl, rfl, by simp [World.setCell], fun i _ hn => Below.heap_setCell b p v i hn⟩ (fun i hi => by subst hi; exact hp)
theorem Kp.alloc {S : Nat → Prop} {a b : World} (k : Kp S a b) (o : Obj) : Kp S a (b.alloc o) :=
  k.trans (S' := fun _ => False) ⟨rfl, rfl, rfl, by simp, fun i hi _ => heap_alloc_old o hi⟩ (fun _ h => h.elim)
theorem Kp.drew {S : Nat → Prop} {a b : World} (k : Kp S a b) : Kp S a b.drew := ⟨k.os, k.tape, k.output, k.size, k.block⟩

theorem Kp.drewN {S : Nat → Prop} {a b : World} (k : Kp S a b) (n : Nat) : Kp S a (b.drewN n) := ⟨k.os, k.tape, k.output, k.size, k.block⟩
abbrev KN (w w' : World) : Prop := Kp (fun _ => False) w w'
theorem KN.below {w w' : World} (k : KN w w') : Below w.heap.size w w' := ⟨k.os, k.tape, k.output, k.size, fun i hi => k.block i hi id⟩
theorem Kp.old {S : Nat → Prop} {a b : World} (k : Kp S a b) (hs : ∀ i, S i → a.heap.size ≤ i) : KN a b := ⟨k.os, k.tape, k.output, k.size, fun i hi _ => k.block i hi (fun h => by have := hs i h; omega)⟩
theorem KN.then {a b c : World} (h : KN a b) {S : Nat → Prop} (k : Kp S b c) (hs : ∀ i, S i → a.heap.size ≤ i) : KN a c := h.trans k (fun i hi => .inr (hs i hi))
theorem Kp.then {a b c : World} (h : Kp (fun _ => False) a b) {S : Nat → Prop} (k : Kp S b c) (hs : ∀ i, S i → a.heap.size ≤ i) : KN a c := h.trans k (fun i hi => .inr (hs i hi))
theorem Kp.bel {w w' : World} (k : Kp (fun _ => False) w w') : Below w.heap.size w w' := ⟨k.os, k.tape, k.output, k.size, fun i hi => k.block i hi id⟩
theorem kn_alloc (w : World) (o : Obj) : KN w (w.alloc o) := (Kp.refl _ w).alloc o
theorem two_set {w : World} {c r : Nat} (o o' : Obj) (hne : c ≠ r) (hc : c < w.heap.size) (hr : r < w.heap.size) :
    (setB (setB w c o) r o').heap[c]? = some o ∧ (setB (setB w c o) r o').heap[r]? = some o' :=
  ⟨(setB_other _ _ (Ne.symm hne)).trans (setB_same _ hc), setB_same _ (by rw [size_setB]; exact hr)⟩
theorem cell_kp {S : Nat → Prop} {w w' : World} (k : Kp S w w') {a : Addr} (h : ¬ S a.block) {v : Value} (hc : w.cell? a = some v) : w'.cell? a = some v := by
  rw [World.cell?_of_block (w := w) (k.block a.block (World.block_lt_of_cell? w a hc) h)]; exact hc
theorem free_kp {S : Nat → Prop} {w w' : World} (k : Kp S w w') {a : Addr} (h : ¬ S a.block) (hb : a.block < w.heap.size) (hc : w.frozen? a = false) : w'.frozen? a = false := by
  rw [World.frozen?_of_block (w := w) (k.block a.block hb h)]; exact hc
theorem quiet_l {P : Program} {f : FuncId} {args : Array Value} {w : World} {n : Nat} {v : Value} (h : Calls P f args (w.drewN n) fun e w' => e = .returned v ∧ w.drewN n = w') :
    Calls P f args (w.drewN n) fun e w'' => e = .returned v ∧ ∃ m, w'' = w.drewN m := h.mono fun _ _ ⟨he, hm⟩ => ⟨he, n, hm.symm⟩
theorem run_equalIn_chan {P : Program} (n : Nat) {t e : TypeId} {d : ChanDir} (a b : Option Nat) (w : World) (h : P.underlying t = some (.chan d e)) : (Op.equalIn (n + 1) t (.chan a) (.chan b)).run P w = .ok (a == b) w := by
  simp [Op.equalIn, run_underlying h]
/-- '==' of channels. -/
theorem run_eql_chan {P : Program} {t e : TypeId} {d : ChanDir} (h : P.underlying t = some (.chan d e)) (a b : Option Nat) (w : World) : (binOp .eql t (.chan a) (.chan b)).run P w = .ok (.bool (a == b)) w := by
  simp only [binOp]
  simp [Op.equal, Op.maxDepth, run_equalIn_chan 9999 a b w h]
end Go.Proofs.Ytohiookmpjeddaa

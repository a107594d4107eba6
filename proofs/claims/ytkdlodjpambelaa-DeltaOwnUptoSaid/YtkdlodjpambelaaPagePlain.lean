/- Pages as plain data: what the functions on pages come to. -/
import Derived.Test.YtkdlodjpambelaaTypesPage
import Derived.Test.YtkdlodjpambelaaLists
namespace Go.Proofs.Ytkdlodjpambelaa
set_option linter.unusedVariables false
set_option linter.unusedSimpArgs false
open Go Go.RowKit

/-- Texts: one below another, as bytes. -/
def ltS (a b : ByteArray) : Bool := Op.bytesLess a.toList b.toList
def eqS (a b : ByteArray) : Bool := a.toList == b.toList
theorem eqS_iff {a b : ByteArray} : eqS a b = true ↔ a = b := by
  unfold eqS
  rw [beq_iff_eq]
  exact ⟨str_ext, fun h => by rw [h]⟩
theorem less_irrefl : ∀ l : List UInt8, Op.bytesLess l l = false
  | [] => rfl
  | a :: l => by simp [Op.bytesLess, less_irrefl l, UInt8.lt_irrefl]
theorem less_trans : ∀ {a b c : List UInt8}, Op.bytesLess a b = true → Op.bytesLess b c = true → Op.bytesLess a c = true
  | [], [], _, h, _ => by simp [Op.bytesLess] at h
  | _ :: _, [], _, h, _ => by simp [Op.bytesLess] at h
  | _, _ :: _, [], _, h => by simp [Op.bytesLess] at h
  | [], _ :: _, _ :: _, _, _ => rfl
  | x :: a, y :: b, z :: c, h, k => by
    simp only [Op.bytesLess, Bool.or_eq_true, Bool.and_eq_true, decide_eq_true_eq, beq_iff_eq] at h k ⊢
    rcases h with h | ⟨rfl, h⟩
    · rcases k with k | ⟨rfl, k⟩
      · exact .inl (UInt8.lt_trans h k)
      · exact .inl h
    · rcases k with k | ⟨rfl, k⟩
      · exact .inl k
      · exact .inr ⟨rfl, less_trans h k⟩
theorem less_total : ∀ {a b : List UInt8}, Op.bytesLess a b = false → Op.bytesLess b a = false → a = b
  | [], [], _, _ => rfl
  | [], _ :: _, h, _ => by simp [Op.bytesLess] at h
  | _ :: _, [], _, h => by simp [Op.bytesLess] at h
  | x :: a, y :: b, h, k => by
    simp only [Op.bytesLess, Bool.or_eq_false_iff, Bool.and_eq_false_iff, decide_eq_false_iff_not, beq_eq_false_iff_ne] at h k
    obtain ⟨h1, h2⟩ := h
    obtain ⟨k1, k2⟩ := k
    have hxy : x = y := by
      rcases UInt8.lt_or_lt_of_ne (a := x) (b := y) with h'
      exact Classical.byContradiction fun e => (h' e).elim h1 k1
    subst hxy
    rw [less_total (h2.resolve_left (fun e => e rfl)) (k2.resolve_left (fun e => e rfl))]
theorem ltS_irrefl (a : ByteArray) : ltS a a = false := less_irrefl _
theorem ltS_trans {a b c : ByteArray} (h : ltS a b = true) (k : ltS b c = true) : ltS a c = true := less_trans h k
theorem ltS_total {a b : ByteArray} (h : ltS a b = false) (k : ltS b a = false) : a = b := str_ext (less_total h k)
theorem ltS_asymm {a b : ByteArray} (h : ltS a b = true) : ltS b a = false := by
  cases k : ltS b a with
  | false => rfl
  | true => have := ltS_trans h k; rw [ltS_irrefl] at this; cases this
/-- not below, below: below. -/
theorem ltS_of_le_lt {a b c : ByteArray} (h : ltS b a = false) (k : ltS b c = true) : ltS a c = true := by
  cases q : ltS a b with
  | true => exact ltS_trans q k
  | false => rw [ltS_total q h]; exact k
theorem ltS_of_lt_le {a b c : ByteArray} (h : ltS a b = true) (k : ltS c b = false) : ltS a c = true := by
  cases q : ltS b c with
  | true => exact ltS_trans h q
  | false => rw [← ltS_total q k]; exact h
theorem leS_trans {a b c : ByteArray} (h : ltS b a = false) (k : ltS c b = false) : ltS c a = false := by
  cases q : ltS c a with
  | false => rfl
  | true => have := ltS_of_lt_le q h; rw [k] at this; cases this

/-- A page. -/
structure Pg where
  leaf : Bool
  low : ByteArray
  high : ByteArray
  right : Int
  list : List En
abbrev pgv (p : Pg) (v : Value) : Value := .agg #[.bool p.leaf, .string p.low, .string p.high, .int .i64 p.right, v]
abbrev env (e : En) : Value := .agg #[.string e.key, .int .i64 e.ref.slot, .int .i64 e.ref.gen, .int .i64 e.child]
def empS : ByteArray := ⟨#[]⟩
def zeroPg : Pg := ⟨false, empS, empS, 0, []⟩
def zeroEn : En := ⟨empS, ⟨0, 0⟩, 0⟩
/-- Most entries that one slice has. -/
def MostE (n : Nat) : Prop := n * 40 ≤ 140737488355328

/-- In a range. -/
def inR (low high key : ByteArray) : Bool := !ltS key low && (high.toList.isEmpty || ltS key high)
def emptyR (low high : ByteArray) : Bool := !high.toList.isEmpty && !ltS low high
/-- Where the first stands. -/
def ixOf (p : En → Bool) (l : List En) : Int := match l.findIdx? p with | some i => i | none => -1
def putAt (l : List En) (e : En) : List En := match l.findIdx? (fun x => eqS x.key e.key) with
  | some i => l.take i ++ e :: l.drop (i + 1)
  | none => l.take ((l.findIdx? (fun x => ltS e.key x.key)).getD l.length) ++ e :: l.drop ((l.findIdx? (fun x => ltS e.key x.key)).getD l.length)
def putP (p : Pg) (e : En) : Pg × Int := if inR p.low p.high e.key = true then ({ p with list := putAt p.list e }, 0) else (zeroPg, 73)
def removeP (p : Pg) (key : ByteArray) : Pg × Int := match p.list.findIdx? (fun x => eqS x.key key) with
  | some i => ({ p with list := p.list.take i ++ p.list.drop (i + 1) }, 0)
  | none => (zeroPg, 4)
def findP (p : Pg) (key : ByteArray) : En × Bool := match (if p.leaf then p.list.find? (fun x => eqS x.key key) else p.list.reverse.find? (fun x => !ltS key x.key)) with
  | some e => (e, true)
  | none => (zeroEn, false)
def fromP (p : Pg) (key : ByteArray) : List En := p.list.dropWhile (fun x => ltS x.key key)
def mergeP (p q : Pg) : Pg × Int := if p.leaf = q.leaf ∧ p.high.toList.isEmpty = false ∧ p.high = q.low then (⟨p.leaf, p.low, q.high, q.right, p.list ++ q.list⟩, 0) else (zeroPg, 72)
/-- The shortest beginning of b above a. -/
def sepS (a b : ByteArray) : ByteArray × Bool := match (List.range (b.size + 1)).find? (fun n => ltS a (b.extract 0 n)) with
  | some n => (b.extract 0 n, true)
  | none => (empS, false)
def partOf (p : Pg) : ByteArray × Bool := if p.leaf then sepS ((p.list[p.list.length / 2 - 1]?).getD zeroEn).key ((p.list[p.list.length / 2]?).getD zeroEn).key else (((p.list[p.list.length / 2]?).getD zeroEn).key, true)
def splitP (p : Pg) (id : Int) : Pg × Pg × Int :=
  if id < 1 then (zeroPg, zeroPg, 1) else
  if p.list.length < 2 then (zeroPg, zeroPg, 71) else
  if (partOf p).2 = true then (⟨p.leaf, p.low, (partOf p).1, id, p.list.take (p.list.length / 2)⟩, ⟨p.leaf, (partOf p).1, p.high, p.right, p.list.drop (p.list.length / 2)⟩, 0) else (zeroPg, zeroPg, 70)
deriving instance DecidableEq for Hd
def eqE (a b : En) : Bool := eqS a.key b.key && (a.ref.slot == b.ref.slot && a.ref.gen == b.ref.gen) && a.child == b.child
theorem eqE_iff {a b : En} : eqE a b = true ↔ a = b := by
  obtain ⟨k, ⟨s, g⟩, c⟩ := a
  obtain ⟨k', ⟨s', g'⟩, c'⟩ := b
  simp [eqE, eqS_iff, and_assoc]
def sameL : List En → List En → Bool
  | [], [] => true
  | a :: l, b :: m => eqE a b && sameL l m
  | _, _ => false
theorem sameL_iff : ∀ {l m : List En}, sameL l m = true ↔ l = m
  | [], [] => by simp [sameL]
  | [], _ :: _ => by simp [sameL]
  | _ :: _, [] => by simp [sameL]
  | a :: l, b :: m => by simp [sameL, eqE_iff, sameL_iff]
def sameP (p q : Pg) : Bool := p.leaf == q.leaf && eqS p.low q.low && eqS p.high q.high && p.right == q.right && sameL p.list q.list
theorem sameP_iff {p q : Pg} : sameP p q = true ↔ p = q := by
  obtain ⟨a, b, c, d, e⟩ := p
  obtain ⟨a', b', c', d', e'⟩ := q
  simp [sameP, eqS_iff, sameL_iff, and_assoc]
/-- Whether an entry at a place is wrong. -/
def badE (p : Pg) (i : Nat) (e : En) : Bool := (decide (0 < i) && !ltS ((p.list[i - 1]?).getD zeroEn).key e.key) || !inR p.low p.high e.key ||
  (if p.leaf then e.child != 0 else !(e.ref.slot == 0 && e.ref.gen == 0) || decide (e.child < 1) || (i == 0 && !eqS e.key p.low))
def badTo (p : Pg) (k : Nat) : Bool := (List.range k).any fun i => badE p i ((p.list[i]?).getD zeroEn)
def badP (p : Pg) : Bool := emptyR p.low p.high || decide (p.right < 0) || (!p.leaf && p.list.isEmpty) || badTo p p.list.length
def checkP (p : Pg) : Int := if badP p = true then 70 else 0
theorem badTo_succ (p : Pg) (k : Nat) : badTo p (k + 1) = (badTo p k || badE p k ((p.list[k]?).getD zeroEn)) := by
  unfold badTo
  rw [List.range_succ, List.any_append]
  simp
end Go.Proofs.Ytkdlodjpambelaa

/- What came in, laid open: readings of arguments as Lean data, type by type. -/
import Derived.Test.YtohiookmpjeddaaRows
import Derived.ProofKit
import Derived.Deep.Slices
namespace Go.Proofs.Ytohiookmpjeddaa
set_option linter.unusedVariables false
set_option linter.unusedSimpArgs false
open Go Go.RowKit Go.ChangeShapes Go.WideShapes

theorem one_le {H : Type} (d : DataW H) : 1 ≤ Rows.uptoBulk d := by
  cases d with
  | lit l => cases l <;> simp [Rows.uptoBulk]
  | nil => simp [Rows.uptoBulk]
  | ptr d => simp [Rows.uptoBulk]
  | slice elems spare => simp [Rows.uptoBulk]
  | agg parts => simp [Rows.uptoBulk]
  | iface t d => simp [Rows.uptoBulk]
  | map entries => simp [Rows.uptoBulk]
  | held h => simp [Rows.uptoBulk]
theorem part_le {H : Type} {d : DataW H} {l : List (DataW H)} (h : d ∈ l) : Rows.uptoBulk d ≤ Rows.uptoBulkAll l := by
  induction l with
  | nil => cases h
  | cons x r ih =>
    simp only [Rows.uptoBulkAll]
    cases List.mem_cons.1 h with
    | inl e => subst e; omega
    | inr e => have := ih e; omega
theorem length_le {H : Type} (l : List (DataW H)) : l.length ≤ Rows.uptoBulkAll l := by
  induction l with
  | nil => simp [Rows.uptoBulkAll]
  | cons x r ih => have := one_le x; simp only [Rows.uptoBulkAll, List.length_cons]; omega

/-- A bound, where there is one. -/
def Bd (B : Option Nat) (n : Nat) : Prop := ∀ b, B = some b → n ≤ b
theorem Bd.le {B : Option Nat} {m n : Nat} (h : Bd B n) (hm : m ≤ n) : Bd B m := fun b e => Nat.le_trans hm (h b e)

/-- What is read at type T is some x of α, in these cells. -/
def Opens {α : Type} (P : Program) (w : World) (B : Option Nat) (T : TypeId) (n : Nat) (enc : α → List Value) (ok : α → Prop) : Prop :=
  P.cellsOf T = n ∧ ∀ {H : Type} (eh : TypeId × Value → H) (base : Nat) (spare : Nat → Bool) (held : Bool) (fuel : Nat) (cs : List Value) (d : DataW H) (ps : List MemPlace),
    DataW.trod eh P w base spare held fuel T cs = some (d, ps) → Bd B (Rows.uptoBulk d) → ∃ x, cs = enc x ∧ ok x

theorem Opens.map {α β : Type} {P : Program} {w : World} {B : Option Nat} {T : TypeId} {n : Nat} {enc : α → List Value} {ok : α → Prop} {enc' : β → List Value} {ok' : β → Prop}
    (h : Opens P w B T n enc ok) (f : α → β) (he : ∀ x, enc x = enc' (f x)) (hok : ∀ x, ok x → ok' (f x)) : Opens P w B T n enc' ok' :=
  ⟨h.1, fun eh base spare held fuel cs d ps ht hb => let ⟨x, hx, ho⟩ := h.2 eh base spare held fuel cs d ps ht hb; ⟨f x, hx.trans (he x), hok x ho⟩⟩

section
variable {P : Program} {w : World} {B : Option Nat} {T : TypeId}
theorem opens_int {k : IntKind} (hu : P.underlying T = some (.int k)) (hc : P.cellsOf T = 1) : Opens P w B T 1 (fun n : Int => [.int k n]) (fun n => (Lit.int k n).wf = true) :=
  ⟨hc, fun _ _ _ _ _ _ _ _ ht _ => let ⟨n, h1, _, h3⟩ := DataW.trod_int hu ht; ⟨n, h1, h3⟩⟩
theorem opens_string (hu : P.underlying T = some .string) (hc : P.cellsOf T = 1) : Opens P w B T 1 (fun s : ByteArray => [.string s]) (fun s => s.size ≤ maxLen ∧ Bd B s.size) := by
  refine ⟨hc, fun _ _ _ _ _ _ d _ ht hb => ?_⟩
  obtain ⟨s, h1, h2, h3⟩ := DataW.trod_string hu ht
  obtain ⟨rfl, _⟩ := Prod.mk.inj h2
  refine ⟨s, h1, h3, fun b e => ?_⟩
  have := hb b e
  simp [Rows.uptoBulk] at this
  have hs : s.data.toList.length = s.size := by simp
  omega
theorem opens_bool (hu : P.underlying T = some .bool) (hc : P.cellsOf T = 1) : Opens P w B T 1 (fun b : Bool => [.bool b]) (fun _ => True) := by
  refine ⟨hc, fun _ _ _ _ fuel _ d _ ht _ => ?_⟩
  cases fuel with
  | zero => simp [DataW.trod] at ht
  | succ n =>
    unfold DataW.trod at ht
    rw [hu] at ht
    split at ht <;> simp_all

/-- The fields of a struct from a place on. -/
inductive OpensF (P : Program) (w : World) (B : Option Nat) : Nat → List Field → Nat → {α : Type} → (α → List Value) → (α → Prop) → Prop
  | nil (off : Nat) : OpensF P w B off [] 0 (fun _ : Unit => []) (fun _ => True)
  | cons {off n m : Nat} {f : Field} {fs : List Field} {α β : Type} {e : α → List Value} {ok : α → Prop} {e' : β → List Value} {ok' : β → Prop}
      (ho : f.offset = off) (h : Opens P w B f.type n e ok) (hr : OpensF P w B (off + n) fs m e' ok') :
      OpensF P w B off (f :: fs) (m + n) (fun x : α × β => e x.1 ++ e' x.2) (fun x => ok x.1 ∧ ok' x.2)

theorem OpensF.open {off m : Nat} {fs : List Field} {α : Type} {e : α → List Value} {ok : α → Prop} (h : OpensF P w B off fs m e ok) :
    ∀ {H : Type} (eh : TypeId × Value → H) (base : Nat) (spare : Nat → Bool) (held : Bool) (fuel : Nat) (cs : List Value) (xs : List (DataW H × List MemPlace)), cs.length = off + m →
      (∀ (i : Nat) (f : Field), fs[i]? = some f → DataW.trod eh P w base spare held fuel f.type ((cs.drop f.offset).take (P.cellsOf f.type)) = xs[i]?) → xs.length = fs.length →
      (∀ x ∈ xs, Bd B (Rows.uptoBulk x.1)) → ∃ x, cs.drop off = e x ∧ ok x := by
  induction h with
  | nil off =>
    intro H eh base spare held fuel cs xs hl _ _ _
    exact ⟨(), by simp [hl], trivial⟩
  | @cons off n m f fs α β e ok e' ok' ho h hr ih =>
    intro H eh base spare held fuel cs xs hl hf hx hb
    match xs, hx with
    | x :: xs, hx =>
      have h0 := hf 0 f rfl
      rw [ho, h.1] at h0
      obtain ⟨d, ps⟩ := x
      obtain ⟨y, hy, hoy⟩ := h.2 eh base spare held fuel _ d ps h0 (hb (d, ps) (by simp))
      obtain ⟨z, hz, hoz⟩ := ih eh base spare held fuel cs xs (by omega) (fun i g hg => by simpa using hf (i + 1) g (by simpa using hg)) (by simpa using hx) (fun q hq => hb q (by simp [hq]))
      refine ⟨(y, z), ?_, hoy, hoz⟩
      show cs.drop off = e y ++ e' z
      rw [← hy, ← hz, ← List.drop_drop, List.take_append_drop]

theorem opens_struct {fs : Array Field} {n : Nat} {α : Type} {e : α → List Value} {ok : α → Prop} (hu : P.underlying T = some (.struct fs)) (hc : P.cellsOf T = n) (h : OpensF P w B 0 fs.toList n e ok) : Opens P w B T n e ok := by
  refine ⟨hc, fun eh base spare held fuel cs d ps ht hb => ?_⟩
  obtain ⟨xs, m, rfl, hd, hl, hxl, hf⟩ := DataW.trod_struct hu ht
  obtain ⟨rfl, _⟩ := Prod.mk.inj hd
  have := h.open eh base spare held m cs xs (by omega) (fun i f hi => hf i f (by simpa using hi)) (by simpa using hxl) (fun x hx b e => by
    have h1 := hb b e
    have h2 := part_le (List.mem_map_of_mem (f := (·.1)) hx)
    simp only [Rows.uptoBulk] at h1
    omega)
  simpa using this

theorem opens_array2 {E : Nat} {α : Type} {e : α → List Value} {ok : α → Prop} (hu : P.underlying T = some (.array 2 E)) (hc : P.cellsOf T = 2) (h : Opens P w B E 1 e ok) :
    Opens P w B T 2 (fun x : α × α => e x.1 ++ e x.2) (fun x => ok x.1 ∧ ok x.2) := by
  refine ⟨hc, fun eh base spare held fuel cs d ps ht hb => ?_⟩
  cases fuel with
  | zero => simp [DataW.trod] at ht
  | succ m =>
    unfold DataW.trod at ht
    rw [hu] at ht
    simp only [hc, h.1] at ht
    split at ht
    case isFalse => cases ht
    case isTrue hl =>
    obtain ⟨xs, h1, h2⟩ := Option.map_eq_some_iff.1 ht
    obtain ⟨rfl, _⟩ := Prod.mk.inj h2
    have hlen : xs.length = 2 := by simpa using mapM_some_length h1
    match xs, hlen, cs, hl with
    | [x0, x1], _, [c0, c1], _ =>
      have g0 := mapM_some_get h1 0 0 (by simp)
      have g1 := mapM_some_get h1 1 1 (by simp)
      simp at g0 g1
      have hbd : ∀ b, B = some b → Rows.uptoBulk x0.1 ≤ b ∧ Rows.uptoBulk x1.1 ≤ b := by
        intro b e
        have := hb b e
        simp [Rows.uptoBulk, Rows.uptoBulkAll] at this
        omega
      obtain ⟨a0, ha0, o0⟩ := h.2 eh base spare held m _ _ _ g0 (fun b e => (hbd b e).1)
      obtain ⟨a1, ha1, o1⟩ := h.2 eh base spare held m _ _ _ g1 (fun b e => (hbd b e).2)
      exact ⟨(a0, a1), by simp [← ha0, ← ha1], o0, o1⟩

/-- A slice that reads as a list, element by element. -/
def Rd {α : Type} (enc : α → List Value) (n : Nat) (w : World) (a : Option Addr) (l : List α) : Prop :=
  l = [] ∨ ∃ b off, a = some ⟨b, off, none⟩ ∧ b < w.heap.size ∧ ∀ i x, l[i]? = some x → ∀ j, j < n → w.cell? ⟨b, off + (i * n + j), none⟩ = (enc x)[j]?

/-- A slice as a value and what it reads as. -/
structure Sl (α : Type) where
  a : Option Addr
  cap : Nat
  l : List α
def Sl.v {α : Type} (s : Sl α) : Value := .slice s.a s.l.length s.cap

/-- What is known of a slice that came in. -/
def SlOk {α : Type} (enc : α → List Value) (n : Nat) (w : World) (B : Option Nat) (ok : α → Prop) (s : Sl α) : Prop :=
  Rd enc n w s.a s.l ∧ (∀ x ∈ s.l, ok x) ∧ s.l.length ≤ s.cap ∧ s.cap ≤ maxLen ∧ Bd B s.l.length

theorem opens_slice {E n : Nat} {α : Type} {e : α → List Value} {ok : α → Prop} (hu : P.underlying T = some (.slice E)) (hc : P.cellsOf T = 1) (hn : 0 < n) (h : Opens P w B E n e ok) :
    Opens P w B T 1 (fun s : Sl α => [s.v]) (SlOk e n w B ok) := by
  refine ⟨hc, fun eh base spare held fuel cs d ps ht hb => ?_⟩
  rcases DataW.trod_slice hu ht with ⟨rfl, _⟩ | ⟨a, len, cap, elems, rest, m, _, rfl, hx, hba, hlc, hcm, hel, hall, hsp, hns⟩
  · exact ⟨⟨none, 0, []⟩, rfl, .inl rfl, by simp, by simp, by simp [maxLen], fun _ _ => by simp⟩
  obtain ⟨rfl, _⟩ := Prod.mk.inj hx
  have hbd : ∀ i (hi : i < len), ∃ x, (∃ cs', w.cells? base (a.add (i * P.cellsOf E)) (P.cellsOf E) = some cs' ∧ cs' = e x) ∧ ok x := by
    intro i hi
    have h1 := hall i hi
    rw [List.getElem?_eq_getElem (by omega)] at h1
    obtain ⟨cs', h2, h3⟩ := Option.bind_eq_some_iff.1 h1
    obtain ⟨x, hx, ho⟩ := h.2 eh base spare held m cs' (elems[i]'(by omega)).1 (elems[i]'(by omega)).2 h3 (fun b hB => by
      have h4 := hb b hB
      simp only [Rows.uptoBulk] at h4
      have h5 := part_le (List.mem_map_of_mem (f := (·.1)) (List.getElem_mem (l := elems) (n := i) (by omega)))
      omega)
    exact ⟨x, ⟨cs', h2, hx⟩, ho⟩
  obtain ⟨l, hll, hlx⟩ : ∃ l : List α, l.length = len ∧ ∀ i x, l[i]? = some x → (∃ cs', w.cells? base (a.add (i * P.cellsOf E)) (P.cellsOf E) = some cs' ∧ cs' = e x) ∧ ok x := by
    clear hall hb ht hel hlc hsp hns
    induction len with
    | zero => exact ⟨[], rfl, by simp⟩
    | succ k ih =>
      obtain ⟨l, hl, hx⟩ := ih (fun i hi => hbd i (by omega))
      obtain ⟨x, hx0, ho0⟩ := hbd k (by omega)
      refine ⟨l ++ [x], by simp [hl], fun i y hy => ?_⟩
      by_cases hik : i < l.length
      · rw [List.getElem?_append_left hik] at hy; exact hx i y hy
      · rw [List.getElem?_append_right (by omega)] at hy
        by_cases hi0 : i = k
        · subst hi0; simp [hl] at hy; subst hy; exact ⟨hx0, ho0⟩
        · rw [List.getElem?_eq_none (by simp; omega)] at hy; cases hy
  rw [h.1] at hlx
  refine ⟨⟨some a, cap, l⟩, by simp [Sl.v, hll], ?_, fun x hx => ?_, by simp [hll, hlc], hcm, fun b hB => ?_⟩
  · by_cases h0 : l = []
    · exact .inl h0
    · right
      obtain ⟨blk, off, spot⟩ := a
      have hpos : 0 < l.length := List.length_pos_iff.2 h0
      obtain ⟨⟨cs', h1, h2⟩, _⟩ := hlx 0 l[0] (List.getElem?_eq_getElem hpos)
      obtain ⟨_, hlen, hcell⟩ := World.cells?_some h1
      have hc0 := hcell 0 hn
      rw [List.getElem?_eq_getElem (by omega)] at hc0
      have hspot : spot = none := by simpa [Addr.add] using World.cell?_spot hc0
      subst hspot
      refine ⟨blk, off, rfl, ?_, fun i x hx j hj => ?_⟩
      · have := World.block_lt_of_cell? w _ hc0
        simp only [Addr.add] at this
        repeat' split at this
        all_goals simpa using this
      · obtain ⟨⟨cs'', h3, h4⟩, _⟩ := hlx i x hx
        obtain ⟨_, hlen', hcell'⟩ := World.cells?_some h3
        have := hcell' j hj
        rw [h4] at this
        rw [← this]
        congr 1
        simp only [Addr.add]
        repeat' split
        all_goals simp_all <;> omega
  · obtain ⟨i, hi, rfl⟩ := List.mem_iff_getElem.1 hx
    exact (hlx i l[i] (List.getElem?_eq_getElem hi)).2
  · have h4 := hb b hB
    simp only [Rows.uptoBulk] at h4
    have h5 := length_le (elems.map (·.1))
    simp only [List.length_map] at h5
    show l.length ≤ b
    omega
end
end Go.Proofs.Ytohiookmpjeddaa

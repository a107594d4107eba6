/- Epochs: what a script leaves, in plain. -/
import Derived.Test.YtghmgmchfcbodaaEpochY
import Derived.Test.YtghmgmchfcbodaaTypesEp
namespace Go.Proofs.Ytghmgmchfcbodaa
set_option linter.unusedVariables false
set_option linter.unusedSimpArgs false
open Go Go.RowKit

/-- An operation, but a clone. -/
def step4 (σ : Eps) (o : Op6) : Eps :=
  if o.do_ = 0 then (σ.pin o.s).1 else if o.do_ = 1 then (σ.unpin o.s).1 else if o.do_ = 2 then σ.retire o.what else if o.do_ = 3 then σ.advance.1 else σ
structure Good (k : Nat) (σ : Eps) : Prop where
  fit : σ.Fit
  gap : σ.Gap
  now : σ.now ≤ k + 1
  row : ∀ j, (σ.row j).length ≤ k
theorem row_set {σ : Eps} {n : Nat} {xs : List Int} {i : Nat} {l : List Re} (hl : σ.ls.length = 3) (j : Nat) : (⟨n, xs, σ.ls.set i l⟩ : Eps).row j = if i = j ∧ j < 3 then l else σ.row j := by
  simp only [Eps.row, List.getD, List.getElem?_set]
  by_cases e : i = j
  · subst e
    by_cases h : i < 3
    · rw [if_pos rfl, if_pos (by omega), if_pos ⟨rfl, h⟩]; rfl
    · rw [if_pos rfl, if_neg (by omega), if_neg (by omega), List.getElem?_eq_none (by omega)]
  · rw [if_neg e, if_neg (fun h => e h.1)]
theorem row_put {σ : Eps} {s x : Int} (j : Nat) : (σ.put s x).row j = σ.row j := rfl
theorem limbo_le {σ : Eps} {M : Nat} (h : ∀ j, (σ.row j).length ≤ M) : σ.limbo.length ≤ 3 * M := by
  have hgen : ∀ (l : List Nat), (l.flatMap fun m => (σ.row (m % 3)).map fun x => ((m : Int), x)).length ≤ l.length * M := by
    intro l
    induction l with
    | nil => simp
    | cons a l ih =>
      rw [List.flatMap_cons, List.length_append, List.length_map, List.length_cons, Nat.succ_mul]
      have := h (a % 3)
      omega
  have h1 := hgen (List.range' (σ.now - 2) (σ.now + 1 - (σ.now - 2)))
  rw [List.length_range'] at h1
  have h2 : (σ.now + 1 - (σ.now - 2)) * M ≤ 3 * M := Nat.mul_le_mul_right _ (by omega)
  exact Nat.le_trans h1 h2
theorem fit_put {σ : Eps} (h : σ.Fit) {s x : Int} (hx : 0 ≤ x ∧ x < 4611686018427387904) : (σ.put s x).Fit :=
  ⟨h.pos, h.top, by simpa [Eps.put] using h.xlen, h.llen, fun y hy => (List.mem_or_eq_of_mem_set hy).elim (h.inx y) (fun e => e ▸ hx)⟩
theorem good_put {k : Nat} {σ : Eps} (h : Good k σ) {s x : Int} (hx : 0 ≤ x ∧ x < 4611686018427387904) : Good k (σ.put s x) := ⟨fit_put h.fit hx, h.gap, h.now, h.row⟩
theorem good_mono {k m : Nat} {σ : Eps} (h : Good k σ) (hm : k ≤ m) : Good m σ := ⟨h.fit, h.gap, by have := h.now; omega, fun j => Nat.le_trans (h.row j) hm⟩
theorem good_pin {k : Nat} {σ : Eps} (h : Good k σ) (s : Int) : Good k (σ.pin s).1 := by
  unfold Eps.pin
  split
  · split
    · exact good_put h (by have := h.fit.top; omega)
    · exact h
  · exact h
theorem good_unpin {k : Nat} {σ : Eps} (h : Good k σ) (s : Int) : Good k (σ.unpin s).1 := by
  unfold Eps.unpin
  split
  · exact good_put h (by omega)
  · exact h
theorem good_retire {k : Nat} {σ : Eps} (h : Good k σ) (x : Re) : Good (k + 1) (σ.retire x) := by
  refine ⟨⟨h.fit.pos, h.fit.top, h.fit.xlen, by simpa [Eps.retire] using h.fit.llen, h.fit.inx⟩, ?_, by have := h.now; show σ.now ≤ _; omega, fun j => ?_⟩
  · show (σ.retire x).row ((σ.now + 1) % 3) = []
    unfold Eps.retire
    rw [row_set h.fit.llen, if_neg (by omega)]
    exact h.gap
  · unfold Eps.retire
    rw [row_set h.fit.llen]
    split
    · rw [List.length_append]; have := h.row (σ.now % 3); simp; omega
    · have := h.row j; omega
theorem good_advance {k : Nat} {σ : Eps} (h : Good k σ) (hk : k + 2 < 4611686018427387904) : Good (k + 1) σ.advance.1 := by
  unfold Eps.advance
  split
  · exact good_mono h (by omega)
  · refine ⟨⟨by show 0 < σ.now + 1; omega, by show σ.now + 1 < _; have := h.now; omega, h.fit.xlen, by simpa using h.fit.llen, h.fit.inx⟩, ?_, by show σ.now + 1 ≤ _; have := h.now; omega, fun j => ?_⟩
    · show Eps.row ⟨σ.now + 1, σ.xs, σ.ls.set ((σ.now + 2) % 3) []⟩ ((σ.now + 1 + 1) % 3) = []
      rw [row_set h.fit.llen, if_pos (by omega)]
    · show (Eps.row ⟨σ.now + 1, σ.xs, σ.ls.set ((σ.now + 2) % 3) []⟩ j).length ≤ _
      rw [row_set h.fit.llen]
      split
      · simp
      · have := h.row j; omega
theorem good_step {k : Nat} {σ : Eps} (h : Good k σ) (hk : k + 2 < 4611686018427387904) (o : Op6) : Good (k + 1) (step4 σ o) := by
  unfold step4
  split
  · exact good_mono (good_pin h _) (by omega)
  · split
    · exact good_mono (good_unpin h _) (by omega)
    · split
      · exact good_retire h _
      · split
        · exact good_advance h hk
        · exact good_mono h (by omega)
theorem good0 : Good 0 ep0 := ⟨fit0, rfl, by decide, fun j => by
  match j with
  | 0 => decide
  | 1 => decide
  | 2 => decide
  | j + 3 => simp [Eps.row, ep0, List.getD]⟩
abbrev opB (d s k sl g : Int) : Obj := .cells #[.int .i64 d, .int .i64 s, .int .i64 k, .int .i64 sl, .int .i64 g] 33
theorem cells5o {w : World} {b : Nat} {d s k sl g : Int} (h : w.heap[b]? = some (opB d s k sl g)) : w.cell? ⟨b, 0, none⟩ = some (.int .i64 d) ∧ w.cell? ⟨b, 1, none⟩ = some (.int .i64 s) ∧ w.cell? ⟨b, 2, none⟩ = some (.int .i64 k) ∧ w.cell? ⟨b, 3, none⟩ = some (.int .i64 sl) ∧ w.cell? ⟨b, 4, none⟩ = some (.int .i64 g) :=
  ⟨cell_blk h rfl, cell_blk h rfl, cell_blk h rfl, cell_blk h rfl, cell_blk h rfl⟩
theorem rd5 {w : World} {a : Option Addr} {l : List Op6} (h : Rd Op6.enc 5 w a l) {i : Nat} {x : Op6} (hx : l[i]? = some x) : ∃ b off, a = some ⟨b, off, none⟩ ∧ b < w.heap.size ∧
    w.cell? ⟨b, off + i * 5, none⟩ = some (.int .i64 x.do_) ∧ w.cell? ⟨b, off + i * 5 + 1, none⟩ = some (.int .i64 x.s) ∧ w.cell? ⟨b, off + i * 5 + 2, none⟩ = some (.int .i64 x.what.kind) ∧ w.cell? ⟨b, off + i * 5 + 3, none⟩ = some (.int .i64 x.what.handle.slot) ∧ w.cell? ⟨b, off + i * 5 + 4, none⟩ = some (.int .i64 x.what.handle.gen) := by
  obtain ⟨b, off, ha, hb, hc⟩ := h.at hx
  exact ⟨b, off, ha, hb, hc 0 (by omega), hc 1 (by omega), hc 2 (by omega), hc 3 (by omega), hc 4 (by omega)⟩
theorem One.adv' {w0 w : World} {A : List Asr} {b : Nat} {σ : Eps} (h : One w0 w (EpA b σ :: A)) (hf : σ.Fit) : Calls Try.prog 13 #[.pointer (some ⟨b, 0, none⟩)] w fun e w' => ∃ a cap, e = .returned (.tuple #[.slice a σ.advance.2.1.length cap, .int .i64 σ.advance.2.2]) ∧
    One w0 w' (EpA b σ.advance.1 :: RowA 31 3 (.slice a σ.advance.2.1.length cap) σ.advance.2.1.length (σ.advance.2.1.flatMap Re.enc) :: A) :=
  (h.adv 0 rfl hf).mono fun e w' ⟨a, cap, he, ho⟩ => ⟨a, cap, he, One.flat ho⟩
theorem One.out {w0 w : World} {A : List Asr} {B C : Asr} (h : One w0 w (B :: C :: A)) : One w0 w (B :: A) := (h.perm (List.Perm.swap _ _ _)).drop
theorem ops_le {W : World} {s : Sl Op6} (h : SlOk (fun x : Op6 => Op6.enc x) 5 W (some 1048576) (fun x : Op6 => Op6.Ok W (some 1048576) x) s) : s.l.length ≤ 1048576 := h.2.2.2.2 1048576 rfl
end Go.Proofs.Ytghmgmchfcbodaa
